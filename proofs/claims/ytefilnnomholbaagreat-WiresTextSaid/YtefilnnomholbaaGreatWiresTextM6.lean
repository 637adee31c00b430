/- Texts on the way to WiresText, part 6: one behind another. -/
import Derived.Test.YtefilnnomholbaaGreatWiresTextM5
import Derived.Lib.IndexAny
import Derived.Laws.IdiomStrings
import Derived.Laws.AppendOwn
import Derived.Laws.BytesArg
import Derived.ProofKit
import Derived.HandedShaped
import Derived.OpenShut
import Derived.Carry
import Derived.Deep.Slices
set_option linter.unusedVariables false
set_option linter.unusedSimpArgs false
set_option maxRecDepth 20000
namespace Go.V
open Go.Proofs Go.RowKit
theorem _root_.Go.V.Zgv {A B:Prop} (h:B) (t:Wr B → A:=by intro h; refine z7 (z0g rfl rfl rfl rfl (by omega) (by assumption)) rfl ?_;exact h.h):A:=t ⟨h⟩
theorem _root_.Go.V.Zfu {A B:Prop} (h:B) (t:Wr B → A:=by intro h; refine z7 (zc2 L 0 rfl rfl rfl rfl rfl rfl rfl (by omega)) rfl ?_;exact h.h):A:=t ⟨h⟩
theorem _root_.Go.V.Zgw {A B:Prop} (h:B) (t:Wr B → A:=by intro h; refine Zaq ?_;refine Zai ?_;exact h.h):A:=t ⟨h⟩
theorem _root_.Go.V.Zgx {A B:Prop} (h:B) (t:Wr B → A:=by intro h; refine Zgw ?_;refine Za ?_;exact h.h):A:=t ⟨h⟩
theorem _root_.Go.V.Ze0 {A B:Prop} (h:B) (t:Wr B → A:=by intro h; refine Zgx ?_;refine Zgv ?_;exact h.h):A:=t ⟨h⟩
theorem _root_.Go.V.ZcT {A B:Prop} (h:B) (t:Wr B → A:=by intro h; refine Ze4 ?_;refine Zc ?_;exact h.h):A:=t ⟨h⟩
theorem _root_.Go.V.ZfV {A B:Prop} (h:B) (t:Wr B → A:=by intro h; refine Ze0 ?_;refine z7 (zc2 L 1 rfl rfl rfl rfl rfl rfl rfl (by omega)) rfl ?_;exact h.h):A:=t ⟨h⟩
theorem _root_.Go.V.ZfW {A B:Prop} (h:B) (t:Wr B → A:=by intro h; refine Ze0 ?_;refine z7 (zc2 L 2 rfl rfl rfl rfl rfl rfl rfl (by omega)) rfl ?_;exact h.h):A:=t ⟨h⟩
attribute [local irreducible] V N X VO Par StepOK Has Ret RetL Src
theorem zok (n:Nat) {w:World} {B:Heap} (hB:B.Le (hp w)):Ret Tryz.prog 67 [.int .i64 n] w B (fun v _ => v = .string (zjw n)):=by
 unfold zjw
 have e:Int.tmod (n:Int) 3 = ((n % 3:Nat):Int):=rfl
 refine qw Tryz.func67 rfl Tryz.ntmps67 (Nat.le_of_ble_eq_true rfl) hB ?_
 have hlt:=Nat.mod_lt n (show 0 < 3 by decide)
 rcases (by omega:n % 3 = 0 ∨ n % 3 = 1 ∨ n % 3 = 2) with h | h | h
 ·have e0:Int.tmod (n:Int) 3 = 0:=by rw [e, h]; rfl
  rw [h]
  refine Ze0 ?_;refine Zfu ?_;refine ZcT ?_
  refine qv L (rs:=[.tmp 2]) rfl (fun _ _ h => h) Since.refl fun u H hH hle => ?_
  rfl
 ·have e0:Int.tmod (n:Int) 3 = 1:=by rw [e, h]; rfl
  rw [h]
  refine ZfV ?_;refine ZcT ?_
  refine qv L (rs:=[.tmp 2]) rfl (fun _ _ h => h) Since.refl fun u H hH hle => ?_
  rfl
 ·have e0:Int.tmod (n:Int) 3 = 2:=by rw [e, h]; rfl
  rw [h]
  refine ZfW ?_;refine ZcT ?_
  refine qv L (rs:=[.tmp 2]) rfl (fun _ _ h => h) Since.refl fun u H hH hle => ?_
  rfl
theorem id_ret (n:Nat) {w:World} {B:Heap} (hB:B.Le (hp w)):Ret Tryz.prog 68 [.int .i64 n] w B (fun v _ => v = .string (idS n)):=by
 unfold idS
 have e:Int.tmod (n:Int) 5 = ((n % 5:Nat):Int):=rfl
 refine qw Tryz.func68 rfl Tryz.ntmps68 (Nat.le_of_ble_eq_true rfl) hB ?_
 have hlt:=Nat.mod_lt n (show 0 < 5 by decide)
 rcases (by omega:n % 5 = 0 ∨ n % 5 = 1 ∨ n % 5 = 2 ∨ n % 5 = 3 ∨ n % 5 = 4) with h | h | h | h | h
 ·have e0:Int.tmod (n:Int) 5 = 0:=by rw [e, h]; rfl
  rw [h]
  refine Ze0 ?_;refine Zfu ?_;refine ZcT ?_
  refine qv L (rs:=[.tmp 2]) rfl (fun _ _ h => h) Since.refl fun u H hH hle => ?_
  rfl
 ·have e0:Int.tmod (n:Int) 5 = 1:=by rw [e, h]; rfl
  rw [h]
  refine ZfV ?_;refine ZcT ?_
  refine qv L (rs:=[.tmp 2]) rfl (fun _ _ h => h) Since.refl fun u H hH hle => ?_
  rfl
 ·have e0:Int.tmod (n:Int) 5 = 2:=by rw [e, h]; rfl
  rw [h]
  refine ZfW ?_;refine ZcT ?_
  refine qv L (rs:=[.tmp 2]) rfl (fun _ _ h => h) Since.refl fun u H hH hle => ?_
  rfl
 ·have e0:Int.tmod (n:Int) 5 = 3:=by rw [e, h]; rfl
  rw [h]
  refine Ze0 ?_;refine z7 (zc2 L 3 rfl rfl rfl rfl rfl rfl rfl (by omega)) rfl ?_;refine ZcT ?_
  refine qv L (rs:=[.tmp 2]) rfl (fun _ _ h => h) Since.refl fun u H hH hle => ?_
  rfl
 ·have e0:Int.tmod (n:Int) 5 = 4:=by rw [e, h]; rfl
  rw [h]
  refine Ze0 ?_;refine z7 (zc2 L 4 rfl rfl rfl rfl rfl rfl rfl (by omega)) rfl ?_;refine ZcT ?_
  refine qv L (rs:=[.tmp 2]) rfl (fun _ _ h => h) Since.refl fun u H hH hle => ?_
  rfl
theorem zu7 (n:Nat) {w:World} {B:Heap} (hB:B.Le (hp w)):Ret Tryz.prog 69 [.int .i64 n] w B (fun v _ => v = .string (z07 n)):=by
 unfold z07
 have e:Int.tmod (n:Int) 4 = ((n % 4:Nat):Int):=rfl
 refine qw Tryz.func69 rfl Tryz.ntmps69 (Nat.le_of_ble_eq_true rfl) hB ?_
 have hlt:=Nat.mod_lt n (show 0 < 4 by decide)
 rcases (by omega:n % 4 = 0 ∨ n % 4 = 1 ∨ n % 4 = 2 ∨ n % 4 = 3) with h | h | h | h
 ·have e0:Int.tmod (n:Int) 4 = 0:=by rw [e, h]; rfl
  rw [h]
  refine Ze0 ?_;refine Zfu ?_;refine ZcT ?_
  refine qv L (rs:=[.tmp 2]) rfl (fun _ _ h => h) Since.refl fun u H hH hle => ?_
  rfl
 ·have e0:Int.tmod (n:Int) 4 = 1:=by rw [e, h]; rfl
  rw [h]
  refine ZfV ?_;refine ZcT ?_
  refine qv L (rs:=[.tmp 2]) rfl (fun _ _ h => h) Since.refl fun u H hH hle => ?_
  rfl
 ·have e0:Int.tmod (n:Int) 4 = 2:=by rw [e, h]; rfl
  rw [h]
  refine ZfW ?_;refine ZcT ?_
  refine qv L (rs:=[.tmp 2]) rfl (fun _ _ h => h) Since.refl fun u H hH hle => ?_
  rfl
 ·have e0:Int.tmod (n:Int) 4 = 3:=by rw [e, h]; rfl
  rw [h]
  refine Ze0 ?_;refine z7 (zc2 L 3 rfl rfl rfl rfl rfl rfl rfl (by omega)) rfl ?_;refine ZcT ?_
  refine qv L (rs:=[.tmp 2]) rfl (fun _ _ h => h) Since.refl fun u H hH hle => ?_
  rfl
end Go.V
set_option maxRecDepth 20000
namespace Go.V.L2
open Go.Proofs Go.RowKit Go.V
theorem _root_.Go.V.Zfv {A B:Prop} (h:B) (t:Wr B → A:=by intro h; refine z8 (z0g rfl rfl rfl rfl (by omega) (by assumption)) rfl ?_;exact h.h):A:=t ⟨h⟩
def z0z (s:Nat):z0q:=((zjw s, idS (s / 3)), if 15 ≤ s then z07 (s / 15 - 1) else ⟨#[]⟩)
def zte (a b:Nat):U:=(znl (a % 60), z0z (b % 75))
abbrev ty2:TypeId:=64
def pcs (p:Nat × Nat):List Value:=[.int .u8 p.1, .int .u8 p.2]
theorem z1j (p:Nat × Nat):(pcs p).length = 2:=rfl
abbrev PS2 (ps:List (Nat × Nat)) (fu:Bool):Value → Heap → Prop:=SlV ty2 2 (ps.flatMap pcs) ps.length fu
theorem z5h {ps:List (Nat × Nat)} {j:Nat} {a b:Nat} (h:ps[j]? = some (a, b)):((ps.flatMap pcs).drop (j * 2)).take 2 = [.int .u8 a, .int .u8 b]:=zdr z1j ps j _ h
def tl (ps:List (Nat × Nat)):List U:=(ps.take 20).map fun p => zte p.1 p.2
theorem zn8 (ps:List (Nat × Nat)):(tl ps).length = min 20 ps.length:=by simp [tl]
theorem z28 {ps:List (Nat × Nat)} {i a b:Nat} (h:ps[i]? = some (a, b)) (hi:i < 20):(tl ps)[i]? = some (zte a b):=by
 unfold tl
 rw [List.getElem?_map, List.getElem?_take_of_lt hi, h]; rfl
theorem zur (s:Nat):(z0z s).1.1.size ≤ 16 ∧ (z0z s).1.2.size ≤ 16 ∧ (z0z s).2.size ≤ 16:=by
 refine ⟨(zep _).2, (zl5 _).2, ?_⟩
 unfold z0z
 dsimp only
 split
 ·exact (zmx _).2
 ·decide
theorem zo0 (a b:Nat):TZ (zte a b):=by
 have h1:=ztt (a % 60)
 have h2:=zur (b % 75)
 unfold TZ zte
 dsimp only
 refine ⟨⟨?_, ?_, ?_⟩, ?_, ?_, ?_⟩ <;> omega
theorem zvi (a b:Nat):tE (zte a b) = 0:=by
 unfold tE zte
 dsimp only
 rw [if_pos (zy6 _)]
 unfold z0z zgf
 dsimp only
 by_cases h:15 ≤ b % 75
 ·rw [if_pos h]
  split
  ·simp only [zcf, (zep _).1, (zl5 _).1, if_pos]
  ·simp only [zcf, (zep _).1, (zl5 _).1, (zmx _).1, if_pos]
 ·rw [if_neg h, if_pos rfl]
  simp only [zcf, (zep _).1, (zl5 _).1, if_pos]
theorem zul {ps:List (Nat × Nat)} {t:U} (h:t ∈ tl ps):TZ t ∧ tE t = 0:=by
 obtain ⟨p, _, rfl⟩:=List.mem_map.1 h
 exact ⟨zo0 _ _, zvi _ _⟩
attribute [local irreducible] V N X VO Par StepOK Has Ret RetL Src
set_option maxHeartbeats 1000000 in
theorem zkc (a b:Nat) (ha:a ≤ 255) (hb:b ≤ 255) {w:World} {B:Heap} (hB:B.Le (hp w)):Ret Tryz.prog 24 [.agg #[.int .u8 a, .int .u8 b]] w B (fun v _ => v = uv (zte a b)):=by
 have e60:Int.tmod (a:Int) 60 = ((a % 60:Nat):Int):=rfl
 have e75:Int.tmod (b:Int) 75 = ((b % 75:Nat):Int):=rfl
 have hlt:=Nat.mod_lt a (show 0 < 60 by decide)
 have hlt2:=Nat.mod_lt b (show 0 < 75 by decide)
 unfold zte
 generalize a % 60 = m at e60 hlt
 generalize b % 75 = s at e75 hlt2
 have q1:(m:Int).tdiv 3 = ((m / 3:Nat):Int):=rfl
 have q2:(m:Int).tdiv 15 = ((m / 15:Nat):Int):=rfl
 have q3:(s:Int).tdiv 3 = ((s / 3:Nat):Int):=rfl
 have q4:(s:Int).tdiv 15 = ((s / 15:Nat):Int):=rfl
 have d1:IntKind.i64.wrap ((m:Int).tdiv 3) = ((m / 3:Nat):Int):=zaa (by omega) (by omega)
 have d2:IntKind.i64.wrap ((m:Int).tdiv 15) = ((m / 15:Nat):Int):=zaa (by omega) (by omega)
 have d3:IntKind.i64.wrap ((s:Int).tdiv 3) = ((s / 3:Nat):Int):=zaa (by omega) (by omega)
 have d4:IntKind.i64.wrap ((s:Int).tdiv 15) = ((s / 15:Nat):Int):=zaa (by omega) (by omega)
 unfold znl z0z
 refine qw Tryz.func24 rfl Tryz.ntmps24 (Nat.le_of_ble_eq_true rfl) hB ?_
 refine ZK ?_;refine ZaV ?_;refine Zdv ?_;refine z8 (zgq L _ rfl rfl rfl rfl z6n rfl rfl (by first | omega | decide)) rfl ?_;refine ZdQ ?_;refine Zfv ?_;refine z8 (zaw rfl rfl rfl zzc.1 zzc.2 (zaa (by omega) (by omega))) rfl ?_;refine z8 (zgq L _ rfl rfl rfl rfl z6n rfl rfl (by first | omega | decide)) rfl ?_;refine ZdQ ?_;refine Zfv ?_;refine z8 (zaw rfl rfl rfl zzc.1 zzc.2 (zaa (by omega) (by omega))) rfl ?_;refine Zao ?_;refine ZdX ?_;refine Z1 ?_;refine z7 (zq L rfl rfl (zn rfl) rfl rfl rfl (fun u H hH _ _ => zok _ hH)) rfl ?_;refine Zdo ?_;refine z7 (zq L rfl rfl (zn rfl) rfl rfl rfl (fun u H hH _ _ => id_ret _ hH)) rfl ?_;refine Zek ?_;refine Zdo ?_;refine z7 (zq L rfl rfl (zn rfl) rfl rfl rfl (fun u H hH _ _ => zu7 _ hH)) rfl ?_;refine Ze7 ?_;refine Za ?_;refine z7 (zq L rfl rfl (zn rfl) rfl rfl rfl (fun u H hH _ _ => zok _ hH)) rfl ?_;refine Zdo ?_;refine z7 (zq L rfl rfl (zn rfl) rfl rfl rfl (fun u H hH _ _ => id_ret _ hH)) rfl ?_;refine Zek ?_;refine Zel ?_;refine Zge ?_
 by_cases h:15 ≤ s
 ·rw [if_pos h]
  have hs1:IntKind.i64.wrap (((s / 15:Nat):Int) - 1) = ((s / 15 - 1:Nat):Int):=(zaa (by omega) (by omega)).trans (by omega)
  refine zia 5 rfl fun b5 hb5 => ?_
  refine Zm ?_;refine Zax ?_;refine Zk ?_;refine ZfA ?_;refine Zat ?_;refine z7 (zq L rfl rfl (zn rfl) rfl rfl rfl (fun u H hH _ _ => zu7 _ hH)) rfl ?_;refine ZaR ?_;refine ZaR ?_;refine Zes ?_;refine Zj ?_;refine Z2 ?_;refine z7 (zz L (vs:=[_, _, _, _, _, _]) (zhx rfl (List.Mem.head _)) rfl rfl rfl rfl ⟨_, rfl⟩) rfl ?_;refine ZaG ?_
  refine qv L (rs:=[.cell 2 34]) rfl (fun _ _ h => h) Since.refl fun u H hH hle => ?_
  refine ZcK ?_
  rfl
 ·rw [if_neg h]
  refine Zm ?_;refine ZE ?_;refine Zq ?_;refine Z2 ?_;refine ZaU ?_;refine ZaG ?_
  refine qv L (rs:=[.cell 2 34]) rfl (fun _ _ h => h) Since.refl fun u H hH hle => ?_
  refine ZcK ?_
  rfl
end Go.V.L2
set_option maxRecDepth 20000
namespace Go.V.L3
open Go.Proofs Go.RowKit Go.V Go.V.L2
attribute [local irreducible] V N X VO Par StepOK Has Ret RetL RetO RetT Src
end Go.V.L3
set_option maxRecDepth 20000
namespace Go.V.L3
open Go.Proofs Go.RowKit Go.V Go.V.L2
attribute [local irreducible] V N X VO Par StepOK Has Ret RetL RetO RetT Src
end Go.V.L3
set_option maxRecDepth 20000
namespace Go.V.L3
open Go.Proofs Go.RowKit Go.V Go.V.L2
attribute [local irreducible] V N X VO Par StepOK Has Ret RetL RetO RetT Src
end Go.V.L3
set_option maxRecDepth 20000
namespace Go.V.L3
open Go.Proofs Go.RowKit Go.V Go.V.L2
attribute [local irreducible] V N X VO Par StepOK Has Ret RetL RetO RetT Src
end Go.V.L3
set_option maxRecDepth 20000
namespace Go.V.L6
open Go.Proofs Go.RowKit Go.V Go.V.L2 Go.V.L3
abbrev d0:U:=(((⟨#[100, 111, 99]⟩, ⟨#[97]⟩), ⟨#[118, 105, 101, 119, 101, 114]⟩), ((⟨#[117, 115, 101, 114]⟩, ⟨#[120]⟩), ⟨#[]⟩))
abbrev d1:U:=(((⟨#[100, 111, 99]⟩, ⟨#[97]⟩), ⟨#[118, 105, 101, 119, 101, 114]⟩), ((⟨#[103, 114, 111, 117, 112]⟩, ⟨#[103]⟩), ⟨#[109, 101, 109, 98, 101, 114]⟩))
abbrev d2:U:=(((⟨#[100, 111, 99]⟩, ⟨#[98]⟩), ⟨#[118, 105, 101, 119, 101, 114]⟩), ((⟨#[117, 115, 101, 114]⟩, ⟨#[120]⟩), ⟨#[]⟩))
def tzB (t:U):Bool:=decide (t.1.1.1.size ≤ 1000) && decide (t.1.1.2.size ≤ 1000) && decide (t.1.2.size ≤ 1000) && decide (t.2.1.1.size ≤ 1000) && decide (t.2.1.2.size ≤ 1000) && decide (t.2.2.size ≤ 1000)
theorem zz7 {t:U} (h:tzB t = true):TZ t:=by
 unfold tzB at h
 simp only [Bool.and_eq_true, decide_eq_true_eq] at h
 unfold TZ; omega
attribute [local irreducible] V N X VO Par StepOK Has Ret RetL RetO RetT Src
end Go.V.L6
set_option maxRecDepth 20000
namespace Go.V.L6
open Go.Proofs Go.RowKit Go.V Go.V.L2 Go.V.L3
theorem _root_.Go.V.Zff {A B:Prop} (h:B) (t:Wr B → A:=by intro h; refine z8 (zgq L _ rfl rfl rfl rfl z5z rfl rfl (by first | omega | decide)) rfl ?_;exact h.h):A:=t ⟨h⟩
abbrev ty3:TypeId:=135
abbrev C3:=Nat × Nat × Nat
def qcs (p:C3):List Value:=[.int .u8 p.1, .int .u8 p.2.1, .int .u8 p.2.2]
theorem z08 (p:C3):(qcs p).length = 3:=rfl
abbrev PS3 (cs:List C3) (fu:Bool):Value → Heap → Prop:=SlV ty3 3 (cs.flatMap qcs) cs.length fu
theorem z3l {cs:List C3} {j:Nat} {a b c:Nat} (h:cs[j]? = some (a, b, c)):((cs.flatMap qcs).drop (j * 3)).take 3 = [.int .u8 a, .int .u8 b, .int .u8 c]:=zdr z08 cs j _ h
def drB (c:Nat):Bool:=decide (c % 2 = 1)
attribute [local irreducible] V N X VO Par StepOK Has Ret RetL RetO RetT Src
theorem z3h (c:Nat):Int.tmod (c:Int) 2 = ((c % 2:Nat):Int):=rfl
theorem zzh {a b c:Nat} {x:U} {d:Bool} (hx:zte a b = x) (hd:drB c = d) (ha:a ≤ 255) (hb:b ≤ 255) (hc:c ≤ 255) {w:World} {B:Heap} (hB:B.Le (hp w)):Ret Tryz.prog 51 [.agg #[.int .u8 a, .int .u8 b, .int .u8 c]] w B (fun v _ => v = chv x d):=by
 subst hx hd
 have hr:=z3h c
 refine qw Tryz.func51 rfl Tryz.ntmps51 (Nat.le_of_ble_eq_true rfl) hB ?_
 by_cases h1:c % 2 = 1
 ·have e1:drB c = true:=decide_eq_true h1
  rw [e1]
  refine ZK ?_;refine ZaV ?_;refine Zdv ?_;refine Zff ?_;refine ZdQ ?_;refine Zff ?_;refine ZdQ ?_;refine z8 (y5 (cs:=[_, _]) rfl rfl z6b rfl rfl) rfl ?_;refine z8 (zq L rfl rfl (zn rfl) rfl rfl rfl (fun u H hH _ _ => zkc a b ha hb hH)) rfl ?_;refine Zff ?_;refine ZdQ ?_;refine Zfv ?_;refine z8 (yg rfl rfl rfl rfl (decide_eq_true (by omega))) rfl ?_;refine Zfs ?_;refine ZcW ?_;refine Zcq ?_
  refine qv L (rs:=[.cell 2 42]) rfl (fun _ _ h => h) Since.refl fun u H hH hle => ?_
  refine ZcK ?_
  rfl
 ·have e1:drB c = false:=decide_eq_false h1
  rw [e1]
  refine ZK ?_;refine ZaV ?_;refine Zdv ?_;refine Zff ?_;refine ZdQ ?_;refine Zff ?_;refine ZdQ ?_;refine z8 (y5 (cs:=[_, _]) rfl rfl z6b rfl rfl) rfl ?_;refine z8 (zq L rfl rfl (zn rfl) rfl rfl rfl (fun u H hH _ _ => zkc a b ha hb hH)) rfl ?_;refine Zff ?_;refine ZdQ ?_;refine Zfv ?_;refine Zd3 ?_;refine Zfs ?_;refine ZcW ?_;refine Zcq ?_
  refine qv L (rs:=[.cell 2 42]) rfl (fun _ _ h => h) Since.refl fun u H hH hle => ?_
  refine ZcK ?_
  rfl
end Go.V.L6
set_option maxRecDepth 20000
namespace Go.V.L6
open Go.Proofs Go.RowKit Go.V Go.V.L2 Go.V.L3
end Go.V.L6
set_option maxRecDepth 20000
namespace Go.V.L8
open Go.Proofs Go.RowKit Go.V Go.V.L2 Go.V.L3 Go.V.L6
theorem zwu {s:List U} {l:List CH} (h0:cE 32 l = 0) {i:Nat} {c:CH} (h:∀ (j:Nat) x, j < i → l[j]? = some x → ziu s x = true) (hc:l[i]? = some c) (hh:ziu s c = false):zhd s l = (i, 13):=by
 unfold zhd; rw [if_pos h0]; exact ztv h hc hh
theorem ztu {s:List U} {l:List CH} (h0:cE 32 l = 0) (h:∀ (j:Nat) x, l[j]? = some x → ziu s x = true):zhd s l = (l.length, 0):=by
 unfold zhd; rw [if_pos h0]; exact ztw fun x hx => let ⟨j, hj⟩:=List.getElem?_of_mem hx; h j x hj
attribute [local irreducible] V N X VO Par StepOK Has Ret RetL RetO RetT Src
theorem znt {l:List CH} {fu:Bool} (hz:∀ c ∈ l, TM c.1) (hl:l.length ≤ 9223372036854775807) {e:Int} (he:cE 32 l = e) {v:Value} {w:World} {B:Heap} (hB:B.Le (hp w)) (hv:KS tyC l fu v B) :
  Ret Tryz.prog 192 [v] w B (fun r _ => r = .int .i64 e):=by
 obtain ⟨p, m, c, rfl⟩:=zol hv
 refine qw Tryz.func192 rfl Tryz.ntmps192 (Nat.le_of_ble_eq_true rfl) hB ?_
 refine ZK ?_;refine Zd ?_
 refine zk7 1 rfl fun q H1 hs1 ⟨b, hpb, hb1⟩ => ?_
 subst hpb
 refine Z6 ?_;refine Zeb ?_;refine zdg 3 (KS tyC l fu) rfl SlV.mono (hv.le hs1.le) ?_;refine Zdu ?_;refine Zb1 ?_;refine z7 (zq L rfl rfl (zn rfl) rfl rfl rfl (fun u H hH hle _ => zlx (caps:=[.pointer (some ⟨b, 0, none⟩)]) hz hl rfl he hH (fun i c hc u' H' hH' hle' => z2f hc hH' (hle' _ _ (hle _ _ hb1)) ((hv.le hs1.le).le (Heap.Le.trans hle hle'))))) rfl ?_;refine Zc ?_
 refine qv L (rs:=[.tmp 2]) rfl (fun _ _ h => h) hs1 fun u H hH hle => ?_
 rfl
theorem zpi {s:List U} {c:CH} {b:Bool} (hb:ziu s c = b) {v:Value} {w:World} {B:Heap} (hB:B.Le (hp w)) (hv:SetV s v B):Ret Tryz.prog 254 [v, chv c.1 c.2] w B (fun r _ => r = .bool b):=by
 subst hb
 obtain ⟨x, d⟩:=c
 obtain ⟨f1, p1, f2, q1, rfl, hpl⟩:=hv.shape
 obtain ⟨h, hh⟩:∃ h, decide (x ∈ s) = h:=⟨_, rfl⟩
 unfold ziu
 dsimp only
 rw [hh]
 refine qw Tryz.func254 rfl Tryz.ntmps254 (Nat.le_of_ble_eq_true rfl) hB ?_
 refine Zac ?_;refine ZbS ?_;refine Zeu ?_;refine ZcU ?_;refine Zbp ?_;refine z8 (zq L rfl rfl (zn rfl) rfl rfl rfl (fun u H hH hle _ => zc7 hh hH (hv.le hle))) rfl ?_;refine Zf7 ?_;refine ZB ?_
 refine qv L (rs:=[.tmp 4]) rfl (fun _ _ h => h) Since.refl fun u H hH hle => ?_
 cases h <;> cases d <;> rfl
set_option maxHeartbeats 1000000 in
theorem first_ret {s:List U} {l:List CH} {fu:Bool} (hz:∀ c ∈ l, TM c.1) (hl:l.length ≤ 9223372036854775807) {r:Nat} {e:Int} (hr:zhd s l = (r, e)) {sv v:Value} {w:World} {B:Heap} (hB:B.Le (hp w)) (hs:SetV s sv B) (hv:KS tyM l fu v B) :
  Ret Tryz.prog 193 [sv, v] w B (fun x _ => x = .tuple #[.int .i64 r, .int .i64 e]):=by
 obtain ⟨f1, p1, f2, q1, rfl, hpl⟩:=hs.shape
 refine qw Tryz.func193 rfl Tryz.ntmps193 (Nat.le_of_ble_eq_true rfl) hB ?_
 refine zbf 1 (KS tyM l fu) rfl SlV.mono hv ?_
 by_cases h0:cE 32 l = 0
 ·refine ZK ?_;refine Zu ?_;refine ZaB ?_;refine Zh ?_;refine z7 (zq L rfl rfl (zn rfl) rfl rfl rfl (fun u H hH _ _ v1 h1 => zf8 hz hl h0 hH h1)) rfl ?_;refine Za1 ?_;refine Zcy ?_;refine Zv ?_;refine ZbT ?_
  refine zam (fun i:Nat => [(1, .sat (KS tyM l fu)), (2, .sat (At [f1, .pointer p1, f2, .pointer q1] zn3 0)), (14, .sat (KS tyM l fu)), (15, .is (.int .i64 l.length)), (16, .is (.int .i64 i))]) (fun i => i ≤ l.length ∧ ∀ (j:Nat) x, j < i → l[j]? = some x → ziu s x = true) (fun i => l.length - i) 0 ⟨Nat.zero_le _, fun j c h => absurd h (Nat.not_lt_zero _)⟩ ⟨rfl, rfl, rfl, rfl, rfl, trivial⟩ ?_
  rintro i ⟨hi, hok⟩
  by_cases hlt:i < l.length
  ·obtain ⟨c, hc0⟩:=zap hlt
   have hc:=zit hc0
   cases hh:ziu s c
   ·rw [zwu h0 hok hc0 hh] at hr
    cases hr
    refine Zbo ?_;refine ZV ?_;refine ZJ ?_;refine ZcN ?_;refine Zc3 ?_;refine Zam ?_;refine Zj ?_;refine ZL ?_;refine Zdh ?_;refine ZeH ?_;refine z7 (zq L rfl rfl (zn rfl) rfl rfl rfl (fun u H hH hle _ => zpi hh hH (hs.le hle))) rfl ?_;refine Zr ?_;refine Zs ?_;refine ZZ ?_;refine Zt ?_
    refine qv L (rs:=[.tmp 4, .tmp 5]) rfl (fun _ _ h => h) Since.refl fun u H hH hle => ?_
    rfl
   ·refine Zbo ?_;refine ZV ?_;refine ZJ ?_;refine ZcN ?_;refine Zc3 ?_;refine Zam ?_;refine Zj ?_;refine ZL ?_;refine Zdh ?_;refine ZeH ?_;refine z7 (zq L rfl rfl (zn rfl) rfl rfl rfl (fun u H hH hle _ => zpi hh hH (hs.le hle))) rfl ?_;refine Zr ?_;refine ZaO ?_;refine Zaj ?_;refine ZbP ?_
    exact y9 (x:=i) (i + 1) ⟨hlt, fun j c' hj hc' => by
     rcases Nat.lt_or_ge j i with h | h
     ·exact hok j c' h hc'
     ·have:j = i:=by omega
      subst this; rw [hc0] at hc'; cases hc'; exact hh⟩ (by omega) ⟨rfl, rfl, rfl, rfl, rfl, trivial⟩
  ·rw [ztu h0 (fun j x hj => hok j x (by have:=get_lt hj; omega) hj)] at hr
   cases hr
   refine Zbo ?_;refine ZaC ?_;refine Zay ?_;refine Zn ?_;refine Zt ?_
   refine qv L (rs:=[.tmp 4, .tmp 5]) rfl (fun _ _ h => h) Since.refl fun u H hH hle => ?_
   rfl
 ·have:zhd s l = (0, cE 32 l):=if_neg h0
  rw [this] at hr
  cases hr
  refine ZK ?_;refine Zu ?_;refine ZaB ?_;refine Zh ?_;refine z7 (zq L rfl rfl (zn rfl) rfl rfl rfl (fun u H hH _ _ v1 h1 => zf8 hz hl rfl hH h1)) rfl ?_;refine Za1 ?_;refine ZH ?_;refine Zm ?_;refine Zt ?_
  refine qv L (rs:=[.tmp 4, .tmp 5]) rfl (fun _ _ h => h) Since.refl fun u H hH hle => ?_
  rfl
end Go.V.L8
set_option maxRecDepth 20000
namespace Go.V.L8
open Go.Proofs Go.RowKit Go.V Go.V.L2 Go.V.L3 Go.V.L6
attribute [local irreducible] V N X VO Par StepOK Has Ret RetL RetO RetT Src
end Go.V.L8
set_option maxRecDepth 20000
namespace Go.V.L8
open Go.Proofs Go.RowKit Go.V Go.V.L2 Go.V.L3 Go.V.L6
theorem _root_.Go.V.ZeL {A B:Prop} (h:B) (t:Wr B → A:=by intro h; refine z7 (zz L (vs:=[_, _, _, _, _, _, _]) (zhx rfl (List.Mem.head _)) rfl rfl rfl rfl ⟨_, rfl⟩) rfl ?_;exact h.h):A:=t ⟨h⟩
theorem _root_.Go.V.Zfw {A B:Prop} (h:B) (t:Wr B → A:=by intro h; refine z8 (zz L (vs:=[_, _, _, _, _, _]) (zhx rfl (List.Mem.head _)) rfl rfl rfl rfl ⟨_, rfl⟩) rfl ?_;exact h.h):A:=t ⟨h⟩
theorem _root_.Go.V.Zfx {A B:Prop} (h:B) (t:Wr B → A:=by intro h; refine z8 (z1s rfl rfl rfl rfl bt4 rfl) rfl ?_;exact h.h):A:=t ⟨h⟩
theorem z4p {n:Nat} {l:List CH} (h:cE n l = 0):l.length ≤ n ∧ ∀ c ∈ l, tE c.1 = 0:=by
 unfold cE at h
 split at h
 ·exact absurd h (by decide)
 ·split at h
  ·exact absurd h (by decide)
  ·rename_i h1 h2
   refine ⟨by omega, fun c hc => ?_⟩
   by_cases h0:tE c.1 = 0
   ·exact h0
   ·exact absurd (List.any_eq_true.2 ⟨c, hc, by simp [h0]⟩) h2
theorem zlf {s:ByteArray} (h:chk s = 0):s.size ≤ 1099511627776:=by
 unfold chk at h
 split at h
 ·rename_i h1; omega
 ·exact absurd h (by decide)
theorem zxr {t:U} (h:tE t = 0):TZ t:=by
 unfold tE at h
 split at h
 ·rename_i h1
  obtain ⟨c1, c2, c3⟩:=zq6 h1
  obtain ⟨d1, d2, d3⟩:=zeo h
  refine ⟨⟨zlf c1, zlf c2, zlf c3⟩, zlf d1, zlf d2, ?_⟩
  rcases d3 with d3 | d3
  ·rw [d3]; exact Nat.zero_le _
  ·exact zlf d3
 ·rename_i h1; exact absurd h h1
def z4s (t:List U) (made:List CH) (e:Int) (r:Value) (H:Heap):Prop:=∃ tv mv, r = .tuple #[tv, mv, .int .i64 e] ∧ SetV t tv H ∧ KS tyC made true mv H
attribute [local irreducible] V N X VO Par StepOK Has Ret RetL RetO RetT Src
theorem zw4 {l:List CH} {fu:Bool} {v:Value} {w:World} {B:Heap} (hB:B.Le (hp w)) (hv:KS tyC l fu v B):Ret Tryz.prog 194 [v] w B (KS tyC l true):=by
 refine qw Tryz.func194 rfl Tryz.ntmps194 (Nat.le_of_ble_eq_true rfl) hB ?_
 refine zbf 0 (KS tyC l fu) rfl SlV.mono hv ?_
 refine Zaq ?_;refine Zh ?_;refine Zn ?_;refine Zn ?_;refine Zep ?_;refine Zd8 ?_
 refine qv L (rs:=[.tmp 2]) rfl (fun _ _ h => h) Since.refl fun u H hH hle => ?_
 exact fun v hv => hv
set_option maxHeartbeats 4000000 in
set_option maxRecDepth 10000 in
theorem write_ret {s t:List U} {l cs made:List CH} {fl fc:Bool} {e:Int} (zl:∀ c ∈ l, TM c.1) (zc:∀ c ∈ cs, TM c.1) (ll:l.length ≤ 9223372036854775807) (lc:cs.length ≤ 9223372036854775807) (hsl:s.length ≤ 4096) (hr:zz3 s l cs = (t, made, e)) {sv lv cv:Value} {w:World} {B:Heap} (hB:B.Le (hp w))
  (hs:SetV s sv B) (hl:KS tyM l fl lv B) (hc:KS tyC cs fc cv B):Ret Tryz.prog 121 [sv, lv, cv] w B (z4s t made e):=by
 obtain ⟨f1, p1, f2, q1, rfl, hpl⟩:=hs.shape
 refine qw Tryz.func121 rfl Tryz.ntmps121 (Nat.le_of_ble_eq_true rfl) hB ?_
 refine zbf 1 (KS tyM l fl) rfl SlV.mono hl ?_
 refine zbf 2 (KS tyC cs fc) rfl SlV.mono hc ?_
 unfold zz3 at hr
 by_cases h1:cE 32 l = 0
 ·rw [if_pos h1] at hr
  by_cases h2:cE 32 cs = 0
  ·rw [if_pos h2] at hr
   obtain ⟨r, e1, hf⟩:∃ r e1, zhd s l = (r, e1):=⟨_, _, rfl⟩
   rw [hf] at hr
   dsimp only at hr
   by_cases h3:e1 = 0
   ·subst h3
    rw [if_pos rfl] at hr
    obtain ⟨l32, hval⟩:=z4p h2
    refine ZaF ?_;refine Zc3 ?_;refine ZaB ?_;refine Zh ?_;refine z7 (zq L rfl rfl (zn rfl) rfl rfl rfl (fun u H hH _ _ v1 g1 => zf8 zl ll h1 hH g1)) rfl ?_;refine Za1 ?_;refine Zcy ?_;refine Zv ?_;refine Zh ?_;refine z7 (zq L rfl rfl (zn rfl) rfl rfl rfl (fun u H hH _ _ v1 g1 => znt zc lc h2 hH g1)) rfl ?_;refine Zcm ?_;refine Zcy ?_;refine ZL ?_;refine ZaY ?_;refine Zh ?_;refine z7 (zq L rfl rfl (zn rfl) rfl rfl rfl (fun u H hH hle _ v1 g1 => first_ret zl ll hf hH (hs.le hle) g1)) rfl ?_;refine Zaa ?_;refine ZZ ?_;refine Zcy ?_;refine Zay ?_;refine ZbT ?_
    refine zme (X:=SXp) 3 (r:=fun x => Cell (scs x.1) zn3) (φ:=zuz s) (zct s) ⟨(f1, p1, f2, q1), hpl⟩ hs rfl ?_
    refine zgm 7 tyC 7 rfl ?_
    refine zam (fun y:Nat × List U × List CH => [(3, .own (ExR (fun x:SXp => Cell (scs x.1) zn3) (zuz y.2.1) (zct y.2.1))), (6, .own (Cell [.nilFunc, .pointer none, .nilFunc, .pointer none] zn3)), (7, .own (SlR tyC 7 y.2.2.length (y.2.2.flatMap ccs))), (40, .sat (KS tyC cs fc)), (41, .is (.int .i64 cs.length)), (42, .is (.int .i64 y.1))])
     (fun y => y.1 ≤ cs.length ∧ zny y.2.1 y.2.2 (cs.drop y.1) = (t, made, e) ∧ y.2.1.length ≤ 4096 ∧ y.2.2.length ≤ y.1) (fun y => cs.length - y.1) (0, s, []) ⟨Nat.zero_le _, hr, hsl, Nat.le_refl _⟩ ⟨rfl, rfl, rfl, rfl, rfl, rfl, trivial⟩ ?_
    clear hr hs hsl
    rintro ⟨k, s, md⟩ ⟨hk, he, hsl, hmd⟩
    dsimp only at hk he hsl hmd ⊢
    refine zin 3 rfl fun ⟨⟨f1, p1, f2, q1⟩, hpl⟩ H3 hs3 hT => ?_
    have hT:SetV s (.agg #[f1, .pointer p1, f2, .pointer q1]) H3:=hT
    by_cases hlt:k < cs.length
    ·obtain ⟨c, hc0⟩:=zap hlt
     have hc:=zit hc0
     have hv:=hval c (List.mem_of_getElem? hc0)
     have hzt:=zxr hv
     rw [zii hc0, zny] at he
     obtain ⟨x, d⟩:=c
     dsimp only at hc hv hzt he
     rcases hw:zgd s x d with ⟨s', e'⟩
     rw [hw] at he
     dsimp only at he
     have hsl':=zud hsl x d
     rw [hw] at hsl'
     obtain ⟨i, hin⟩:∃ i, decide (x ∈ s) = i:=⟨_, rfl⟩
     rw [hin] at he
     by_cases h0:e' = 0
     ·rw [if_pos h0] at he
      subst h0
      cases i <;> cases d
      ·rw [if_pos rfl] at he
       refine zj ?_;refine ZF ?_;refine ZV ?_;refine Z4 ?_;refine ZcN ?_;refine Zbi ?_;refine Zj ?_
       refine zia 14 rfl fun b14 hb14 => ?_
       refine ZeG ?_;refine Zez ?_;refine ZbY ?_;refine Zfw ?_;refine z8 (zq L rfl rfl (zn rfl) rfl rfl rfl (fun u H hH hle _ => zc7 hin hH (hT.le hle))) rfl ?_;refine ZbY ?_;refine ZeK ?_;refine Zfx ?_;refine ZdX ?_;refine Zaz ?_;refine ZaY ?_;refine ZeL ?_;refine z7 (zai (φ:=WithP s' 0) L rfl rfl (zn rfl) rfl rfl rfl WithP.mono (fun u H hH hle _ => zn0 hw hsl hzt hH (hT.le hle))) rfl ?_;refine zd9 56 rfl ?_;rintro _ H19 hs19 ⟨tv, rfl, hT19⟩; obtain ⟨g1, r1, g2, r2, rfl, hpl2⟩:=hT19.shape; refine ZbU ?_;refine Zag ?_;refine Zci ?_;refine Zi ?_;refine ZT ?_;refine Za ?_;refine Zad ?_;refine Za9 ?_;refine ZaY ?_;refine Zci ?_;refine Zj ?_;refine Zb5 ?_;refine Z8 ?_;refine Zbr ?_;refine qg (zaf (.inl rfl) rfl rfl rfl rfl) ?_;refine ZeL ?_;refine Zai ?_;refine Zfb ?_;refine qg (zaf (.inr rfl) rfl rfl rfl rfl) ?_;refine ZcC ?_
       refine zss (O':=[]) (List.nil_sublist _) ?_
       refine Zbe ?_;refine ZbP ?_
       refine zpx (X:=SXp) 3 (r:=fun x => Cell (scs x.1) zn3) (φ:=zuz s') (zct _) ⟨(g1, r1, g2, r2), hpl2⟩ hT19 rfl ?_
       exact zhm (x:=(k, s, md)) (k + 1, s', md ++ [(x, false)]) (hs3.trans hs19) ⟨hlt, he, hsl', by dsimp only; rw [List.length_append]; show md.length + 1 ≤ k + 1; omega⟩ (by dsimp only; omega) ⟨rfl, rfl, zks rfl, rfl, rfl, rfl, trivial⟩
      ·rw [if_neg (by decide)] at he
       refine zj ?_;refine ZF ?_;refine ZV ?_;refine Z4 ?_;refine ZcN ?_;refine Zbi ?_;refine Zj ?_
       refine zia 14 rfl fun b14 hb14 => ?_
       refine ZeG ?_;refine Zez ?_;refine ZbY ?_;refine Zfw ?_;refine z8 (zq L rfl rfl (zn rfl) rfl rfl rfl (fun u H hH hle _ => zc7 hin hH (hT.le hle))) rfl ?_;refine ZbY ?_;refine ZeK ?_;refine Zfx ?_;refine ZdX ?_;refine Zaz ?_;refine ZaY ?_;refine ZeL ?_;refine z7 (zai (φ:=WithP s' 0) L rfl rfl (zn rfl) rfl rfl rfl WithP.mono (fun u H hH hle _ => zn0 hw hsl hzt hH (hT.le hle))) rfl ?_;refine zd9 56 rfl ?_;rintro _ H19 hs19 ⟨tv, rfl, hT19⟩; obtain ⟨g1, r1, g2, r2, rfl, hpl2⟩:=hT19.shape; refine ZbU ?_;refine Zag ?_;refine Zci ?_;refine Zi ?_;refine ZT ?_;refine Za ?_;refine Zad ?_;refine Za9 ?_;refine ZaY ?_;refine Zci ?_;refine Zj ?_;refine Zb5 ?_;refine ZaO ?_
       refine zss (O':=[]) (List.nil_sublist _) ?_
       refine Zbe ?_;refine ZbP ?_
       refine zpx (X:=SXp) 3 (r:=fun x => Cell (scs x.1) zn3) (φ:=zuz s') (zct _) ⟨(g1, r1, g2, r2), hpl2⟩ hT19 rfl ?_
       exact zhm (x:=(k, s, md)) (k + 1, s', md) (hs3.trans hs19) ⟨hlt, he, hsl', by dsimp only; omega⟩ (by dsimp only; omega) ⟨rfl, rfl, rfl, rfl, rfl, rfl, trivial⟩
      ·rw [if_neg (by decide)] at he
       refine zj ?_;refine ZF ?_;refine ZV ?_;refine Z4 ?_;refine ZcN ?_;refine Zbi ?_;refine Zj ?_
       refine zia 14 rfl fun b14 hb14 => ?_
       refine ZeG ?_;refine Zez ?_;refine ZbY ?_;refine Zfw ?_;refine z8 (zq L rfl rfl (zn rfl) rfl rfl rfl (fun u H hH hle _ => zc7 hin hH (hT.le hle))) rfl ?_;refine ZbY ?_;refine ZeK ?_;refine Zfx ?_;refine ZdX ?_;refine Zaz ?_;refine ZaY ?_;refine ZeL ?_;refine z7 (zai (φ:=WithP s' 0) L rfl rfl (zn rfl) rfl rfl rfl WithP.mono (fun u H hH hle _ => zn0 hw hsl hzt hH (hT.le hle))) rfl ?_;refine zd9 56 rfl ?_;rintro _ H19 hs19 ⟨tv, rfl, hT19⟩; obtain ⟨g1, r1, g2, r2, rfl, hpl2⟩:=hT19.shape; refine ZbU ?_;refine Zag ?_;refine Zci ?_;refine Zi ?_;refine ZT ?_;refine Za ?_;refine Zad ?_;refine Za9 ?_;refine ZaY ?_;refine Zci ?_;refine Zj ?_;refine Zb5 ?_;refine ZaO ?_
       refine zss (O':=[]) (List.nil_sublist _) ?_
       refine Zbe ?_;refine ZbP ?_
       refine zpx (X:=SXp) 3 (r:=fun x => Cell (scs x.1) zn3) (φ:=zuz s') (zct _) ⟨(g1, r1, g2, r2), hpl2⟩ hT19 rfl ?_
       exact zhm (x:=(k, s, md)) (k + 1, s', md) (hs3.trans hs19) ⟨hlt, he, hsl', by dsimp only; omega⟩ (by dsimp only; omega) ⟨rfl, rfl, rfl, rfl, rfl, rfl, trivial⟩
      ·rw [if_pos rfl] at he
       refine zj ?_;refine ZF ?_;refine ZV ?_;refine Z4 ?_;refine ZcN ?_;refine Zbi ?_;refine Zj ?_
       refine zia 14 rfl fun b14 hb14 => ?_
       refine ZeG ?_;refine Zez ?_;refine ZbY ?_;refine Zfw ?_;refine z8 (zq L rfl rfl (zn rfl) rfl rfl rfl (fun u H hH hle _ => zc7 hin hH (hT.le hle))) rfl ?_;refine ZbY ?_;refine ZeK ?_;refine Zfx ?_;refine ZdX ?_;refine Zaz ?_;refine ZaY ?_;refine ZeL ?_;refine z7 (zai (φ:=WithP s' 0) L rfl rfl (zn rfl) rfl rfl rfl WithP.mono (fun u H hH hle _ => zn0 hw hsl hzt hH (hT.le hle))) rfl ?_;refine zd9 56 rfl ?_;rintro _ H19 hs19 ⟨tv, rfl, hT19⟩; obtain ⟨g1, r1, g2, r2, rfl, hpl2⟩:=hT19.shape; refine ZbU ?_;refine Zag ?_;refine Zci ?_;refine Zi ?_;refine ZT ?_;refine Za ?_;refine Zad ?_;refine Za9 ?_;refine ZaY ?_;refine Zci ?_;refine Zj ?_;refine Zb5 ?_;refine Z8 ?_;refine Zbr ?_;refine qg (zaf (.inl rfl) rfl rfl rfl rfl) ?_;refine ZeL ?_;refine Zai ?_;refine Zfb ?_;refine qg (zaf (.inr rfl) rfl rfl rfl rfl) ?_;refine ZcC ?_
       refine zss (O':=[]) (List.nil_sublist _) ?_
       refine Zbe ?_;refine ZbP ?_
       refine zpx (X:=SXp) 3 (r:=fun x => Cell (scs x.1) zn3) (φ:=zuz s') (zct _) ⟨(g1, r1, g2, r2), hpl2⟩ hT19 rfl ?_
       exact zhm (x:=(k, s, md)) (k + 1, s', md ++ [(x, true)]) (hs3.trans hs19) ⟨hlt, he, hsl', by dsimp only; rw [List.length_append]; show md.length + 1 ≤ k + 1; omega⟩ (by dsimp only; omega) ⟨rfl, rfl, zks rfl, rfl, rfl, rfl, trivial⟩
     ·rw [if_neg h0] at he
      cases he
      refine zj ?_;refine ZF ?_;refine ZV ?_;refine Z4 ?_;refine ZcN ?_;refine Zbi ?_;refine Zj ?_
      refine zia 14 rfl fun b14 hb14 => ?_
      refine ZeG ?_;refine Zez ?_;refine ZbY ?_;refine Zfw ?_;refine z8 (zq L rfl rfl (zn rfl) rfl rfl rfl (fun u H hH hle _ => zc7 hin hH (hT.le hle))) rfl ?_;refine ZbY ?_;refine ZeK ?_;refine Zfx ?_;refine ZdX ?_;refine Zaz ?_;refine ZaY ?_;refine ZeL ?_;refine z7 (zai (φ:=WithP s' e) L rfl rfl (zn rfl) rfl rfl rfl WithP.mono (fun u H hH hle _ => zn0 hw hsl hzt hH (hT.le hle))) rfl ?_;refine zd9 56 rfl ?_;rintro _ H19 hs19 ⟨tv, rfl, hT19⟩; obtain ⟨g1, r1, g2, r2, rfl, hpl2⟩:=hT19.shape; refine ZbU ?_;refine Zag ?_;refine Zci ?_;refine Zi ?_;refine ZT ?_;refine Za ?_;refine ZH ?_;refine ZaS ?_;refine Zc0 ?_;refine Za ?_;refine Zam ?_;refine Zt ?_
      refine qv L (rs:=[.cell 6 91, .tmp 7, .tmp 8]) rfl (fun _ _ h => h) (hs3.trans hs19) fun u H hH hle => ?_
      exact ⟨_, qp rfl, rfl, _, _, rfl, SetV.nil, SlV.nil⟩
    ·obtain rfl:k = cs.length:=by omega
     rw [List.drop_length, zny] at he
     cases he
     refine zj ?_;refine ZF ?_;refine ZaC ?_
     refine zk6 7 rfl ?_
     refine q6 (id:=21) [] mixed (by kernel_rfl) ?_;refine Zez ?_;refine ZcE ?_;refine z8 (zai (φ:=KS tyC made true) L rfl rfl (zn rfl) rfl rfl rfl SlV.mono (fun u H hH _ _ v1 g1 => zw4 hH g1)) rfl ?_;refine z8 (ql L rfl rfl rfl rfl rfl rfl (by assumption) rfl) rfl ?_;refine Zec ?_;refine ZB ?_
     refine qv L (rs:=[.cell 6 91, .tmp 7, .tmp 8]) rfl (fun _ _ h => h) hs3 fun u H hH hle => ?_
     exact ⟨_, qp rfl, rfl, fun mv hmv => ⟨_, mv, rfl, hT.le hle, hmv⟩⟩
   ·rw [if_neg h3] at hr
    cases hr
    refine ZaF ?_;refine Zc3 ?_;refine ZaB ?_;refine Zh ?_;refine z7 (zq L rfl rfl (zn rfl) rfl rfl rfl (fun u H hH _ _ v1 g1 => zf8 zl ll h1 hH g1)) rfl ?_;refine Za1 ?_;refine Zcy ?_;refine Zv ?_;refine Zh ?_;refine z7 (zq L rfl rfl (zn rfl) rfl rfl rfl (fun u H hH _ _ v1 g1 => znt zc lc h2 hH g1)) rfl ?_;refine Zcm ?_;refine Zcy ?_;refine ZL ?_;refine ZaY ?_;refine Zh ?_;refine z7 (zq L rfl rfl (zn rfl) rfl rfl rfl (fun u H hH hle _ v1 g1 => first_ret zl ll hf hH (hs.le hle) g1)) rfl ?_;refine Zaa ?_;refine ZZ ?_;refine ZH ?_;refine Zaj ?_;refine Zc0 ?_;refine Za ?_;refine Zam ?_;refine Zt ?_
    refine qv L (rs:=[.cell 6 91, .tmp 7, .tmp 8]) rfl (fun _ _ h => h) Since.refl fun u H hH hle => ?_
    exact ⟨_, qp rfl, rfl, _, _, rfl, SetV.nil, SlV.nil⟩
  ·rw [if_neg h2] at hr
   cases hr
   refine ZaF ?_;refine Zc3 ?_;refine ZaB ?_;refine Zh ?_;refine z7 (zq L rfl rfl (zn rfl) rfl rfl rfl (fun u H hH _ _ v1 g1 => zf8 zl ll h1 hH g1)) rfl ?_;refine Za1 ?_;refine Zcy ?_;refine Zv ?_;refine Zh ?_;refine z7 (zq L rfl rfl (zn rfl) rfl rfl rfl (fun u H hH _ _ v1 g1 => znt zc lc rfl hH g1)) rfl ?_;refine Zcm ?_;refine ZH ?_;refine ZQ ?_;refine Zc0 ?_;refine Za ?_;refine Zam ?_;refine Zt ?_
   refine qv L (rs:=[.cell 6 91, .tmp 7, .tmp 8]) rfl (fun _ _ h => h) Since.refl fun u H hH hle => ?_
   exact ⟨_, qp rfl, rfl, _, _, rfl, SetV.nil, SlV.nil⟩
 ·rw [if_neg h1] at hr
  cases hr
  refine ZaF ?_;refine Zc3 ?_;refine ZaB ?_;refine Zh ?_;refine z7 (zq L rfl rfl (zn rfl) rfl rfl rfl (fun u H hH _ _ v1 g1 => zf8 zl ll rfl hH g1)) rfl ?_;refine Za1 ?_;refine ZH ?_;refine Zx ?_;refine Zc0 ?_;refine Za ?_;refine Zam ?_;refine Zt ?_
  refine qv L (rs:=[.cell 6 91, .tmp 7, .tmp 8]) rfl (fun _ _ h => h) Since.refl fun u H hH hle => ?_
  exact ⟨_, qp rfl, rfl, _, _, rfl, SetV.nil, SlV.nil⟩
end Go.V.L8
set_option maxRecDepth 20000
namespace Go.V.L8
open Go.Proofs Go.RowKit Go.V Go.V.L2 Go.V.L3 Go.V.L6
attribute [local irreducible] V N X VO Par StepOK Has Ret RetL RetO RetT Src
end Go.V.L8
set_option maxRecDepth 20000
namespace Go.V.L8
open Go.Proofs Go.RowKit Go.V Go.V.L2 Go.V.L3 Go.V.L6
attribute [local irreducible] V N X VO Par StepOK Has Ret RetL RetO RetT Src
end Go.V.L8
set_option maxRecDepth 20000
namespace Go.V.L8
open Go.Proofs Go.RowKit Go.V Go.V.L2 Go.V.L3 Go.V.L6
attribute [local irreducible] V N X VO Par StepOK Has Ret RetL RetO RetT Src
end Go.V.L8
set_option maxRecDepth 20000
namespace Go.V.L8
open Go.Proofs Go.RowKit Go.V Go.V.L2 Go.V.L3 Go.V.L6
theorem _root_.Go.V.ZeM {A B:Prop} (h:B) (t:Wr B → A:=by intro h; refine z8 (yh L (vs:=[_, _, _, _, _, _, _]) rfl rfl rfl rfl rfl ⟨_, rfl⟩) rfl ?_;exact h.h):A:=t ⟨h⟩
theorem z6h {t v:CH} {r:Bool} (e:decide (t = v) = r):zhr [0, 0, 0, 0, 0, 0, 2] [.string t.1.1.1.1, .string t.1.1.1.2, .string t.1.1.2, .string t.1.2.1.1, .string t.1.2.1.2, .string t.1.2.2, .bool t.2] [.string v.1.1.1.1, .string v.1.1.1.2, .string v.1.1.2, .string v.1.2.1.1, .string v.1.2.1.2, .string v.1.2.2, .bool v.2] = some r:=by
 subst e
 simp only [zhr, eqC]
 obtain ⟨⟨⟨⟨t1, t2⟩, t3⟩, ⟨⟨t4, t5⟩, t6⟩⟩, t7⟩:=t
 obtain ⟨⟨⟨⟨v1, v2⟩, v3⟩, ⟨⟨v4, v5⟩, v6⟩⟩, v7⟩:=v
 simp only [Prod.mk.injEq]
 by_cases a1:t1 = v1
 ·by_cases a2:t2 = v2
  ·by_cases a3:t3 = v3
   ·by_cases a4:t4 = v4
    ·by_cases a5:t5 = v5
     ·by_cases a6:t6 = v6
      ·by_cases a7:t7 = v7
       ·simp [a1, a2, a3, a4, a5, a6, a7]
       ·cases t7 <;> cases v7 <;> simp [a1, a2, a3, a4, a5, a6] at a7 ⊢
      ·simp [a6]
     ·simp [a5]
    ·simp [a4]
   ·simp [a3]
  ·simp [a2]
 ·simp [a1]
attribute [local irreducible] V N X VO Par StepOK Has Ret RetL RetO RetT Src
set_option maxHeartbeats 2000000 in
theorem zta {a b:List CH} {fa fb:Bool} (hla:a.length ≤ 1000000) (hlb:b.length ≤ 1000000) {e:Int} (he:(if a = b then 1 else 0:Int) = e) {va vb:Value} {w:World} {B:Heap} (hB:B.Le (hp w)) (ha:KS tyC a fa va B) (hb:KS tyC b fb vb B) :
  Ret Tryz.prog 19 [va, vb] w B (fun v _ => v = .int .i64 e):=by
 subst he
 refine qw Tryz.func19 rfl Tryz.ntmps19 (Nat.le_of_ble_eq_true rfl) hB ?_
 refine zbf 0 (KS tyC a fa) rfl SlV.mono ha ?_
 refine zbf 1 (KS tyC b fb) rfl SlV.mono hb ?_
 by_cases hl:a.length = b.length
 ·refine ZG ?_;refine Zei ?_;refine Zn ?_;refine Zcy ?_;refine Zx ?_;refine ZS ?_
  refine zam (fun i:Nat => [(0, .sat (KS tyC a fa)), (1, .sat (KS tyC b fb)), (5, .is (.int .i64 i))]) (fun i => i ≤ a.length ∧ a.take i = b.take i) (fun i => a.length - i) 0 ⟨Nat.zero_le _, rfl⟩ ⟨rfl, rfl, rfl, trivial⟩ ?_
  rintro i ⟨hi, hti⟩
  by_cases hlt:i < a.length
  ·obtain ⟨x, hx⟩:=zap hlt
   obtain ⟨y, hy⟩:=zap (l:=b) (i:=i) (by omega)
   have hcx:=zit hx
   have hcy:=zit hy
   by_cases hxy:x = y
   ·subst hxy
    have hq:=z6h (t:=x) (v:=x) (decide_eq_true rfl)
    refine Zdd ?_;refine Zn ?_;refine ZaT ?_;refine Zeq ?_;refine ZcF ?_;refine ZeM ?_;refine ZcF ?_;refine ZeM ?_;refine z8 (zm8 rfl rfl rfl rfl z6i (by assumption) rfl) rfl ?_;refine Zbz ?_;refine zx ?_;refine Za5 ?_;refine ZN ?_;refine ZaP ?_
    exact y9 (x:=i) (i + 1) ⟨hlt, by rw [List.take_add_one, List.take_add_one, hx, hy, hti]⟩ (by omega) ⟨rfl, rfl, rfl, trivial⟩
   ·have hq:=z6h (t:=x) (v:=y) (decide_eq_false hxy)
    rw [if_neg (fun h => by subst h; rw [hx] at hy; cases hy; exact hxy rfl)]
    refine Zdd ?_;refine Zn ?_;refine ZaT ?_;refine Zeq ?_;refine ZcF ?_;refine ZeM ?_;refine ZcF ?_;refine ZeM ?_;refine z8 (zm8 rfl rfl rfl rfl z6i (by assumption) rfl) rfl ?_;refine ZbD ?_;refine zj ?_;refine ZL ?_;refine Zc ?_
    refine qv L (rs:=[.tmp 4]) rfl (fun _ _ h => h) Since.refl fun u H hH hle => ?_
    rfl
  ·have hab:a = b:=by rw [List.take_of_length_le (by omega), List.take_of_length_le (by omega)] at hti; exact hti
   rw [if_pos hab]
   refine Zdd ?_;refine Zn ?_;refine Za8 ?_;refine Z7 ?_;refine Zc ?_
   refine qv L (rs:=[.tmp 4]) rfl (fun _ _ h => h) Since.refl fun u H hH hle => ?_
   rfl
 ·rw [if_neg (fun h => hl (by rw [h]))]
  refine ZG ?_;refine Zei ?_;refine Zn ?_;refine ZH ?_;refine ZU ?_;refine Zc ?_
  refine qv L (rs:=[.tmp 4]) rfl (fun _ _ h => h) Since.refl fun u H hH hle => ?_
  rfl
end Go.V.L8
set_option maxRecDepth 20000
namespace Go.V.L8
open Go.Proofs Go.RowKit Go.V Go.V.L2 Go.V.L3 Go.V.L6
def fC (c:C3):CH:=(zte c.1 c.2.1, drB c.2.2)
def dOf (cs:List C3):List CH:=(cs.take 30).map fC
theorem z2a (cs:List C3):(dOf cs).length ≤ 30:=by unfold dOf; rw [List.length_map, List.length_take]; omega
attribute [local irreducible] V N X VO Par StepOK Has Ret RetL RetO RetT Src
end Go.V.L8
set_option maxRecDepth 20000
namespace Go.V.L8
open Go.Proofs Go.RowKit Go.V Go.V.L2 Go.V.L3 Go.V.L6
end Go.V.L8
set_option maxRecDepth 20000
namespace Go.V.L8
open Go.Proofs Go.RowKit Go.V Go.V.L2 Go.V.L3 Go.V.L6
attribute [local irreducible] V N X VO Par StepOK Has Ret RetL RetO RetT Src
end Go.V.L8
set_option maxRecDepth 20000
namespace Go.V.L10
open Go.Proofs Go.RowKit Go.V Go.V.L2 Go.V.L8 Go.V.L6
structure OO where
 wh:Nat
 ms:List C3
 cs:List C3
 rv:Nat
 kp:Int
def OO.rev (o:OO):Int:=if o.rv = 255 then 18446744073709551615 else (o.rv:Int)
theorem zwz (cs:List C3):∀ c ∈ dOf cs, TZ c.1 ∧ tE c.1 = 0:=fun c hc => by
 unfold dOf at hc
 obtain ⟨x, _, rfl⟩:=List.mem_map.1 hc
 exact ⟨zo0 _ _, zvi _ _⟩
end Go.V.L10
set_option maxRecDepth 20000
namespace Go.V.L10
open Go.Proofs Go.RowKit Go.V Go.V.L2 Go.V.L8 Go.V.L6
theorem zyb {R:List (Option (List U))} {es:Ent} (hm:MapOK es R) {out:List Int} (hp:out.Perm (es.map Prod.fst)):(Go.Sort.sort So.lt out.toArray).toList = zgg R:=by
 have h1:(Go.Sort.sort So.lt out.toArray).toList = out.mergeSort (fun x y => decide (x ≤ y)):=Go.Sort.sortInt out
 rw [h1]
 have hperm:=List.mergeSort_perm out (fun x y => decide (x ≤ y))
 have hnd:(out.mergeSort (fun x y => decide (x ≤ y))).Nodup:=(hperm.trans hp).nodup_iff.2 hm.nd
 have hs:(out.mergeSort (fun x y => decide (x ≤ y))).Pairwise fun a b => decide (a ≤ b) = true:=List.pairwise_mergeSort (le:=fun x y:Int => decide (x ≤ y)) (fun a b c h1 h2 => by simp at h1 h2 ⊢; omega) (fun a b => by simp; omega) out
 refine zqf zhi ?_ (zoi R) fun z => ?_
 ·refine (List.Pairwise.and hs hnd).imp ?_
  rintro a b ⟨h2, h3⟩
  have h4:a ≤ b:=by simpa using h2
  have h5:a ≠ b:=h3
  exact z4m.2 (by omega)
 ·rw [(hperm.trans hp).mem_iff, hm.mem]
theorem zl6 {α:Type}:∀ {l:List α} {j:Nat} {x:α}, l[j]? = some x → (x :: l.eraseIdx j).Perm l
 | [], _, _, h => by cases h
 | y :: l, 0, x, h => by cases h; exact List.Perm.refl _
 | y :: l, j + 1, x, h => by
  have:=zl6 (l:=l) (j:=j) (x:=x) (by simpa using h)
  exact (List.Perm.swap y x _).trans (this.cons y)
theorem zwk {left:Ent} {j:Nat} {p:Int × (List U × Value)} (h:left[j]? = some p) (out:List Int):(out ++ [p.1] ++ (left.eraseIdx j).map Prod.fst).Perm (out ++ left.map Prod.fst):=by
 have h1:(p :: left.eraseIdx j).Perm left:=zl6 h
 rw [List.append_assoc]
 refine List.Perm.append_left out ?_
 simpa using h1.map Prod.fst
attribute [local irreducible] V N X VO Par StepOK Has Ret RetL RetO RetT zbd RetX RetY Src
abbrev z41 (R:List (Option (List U))):Res:=SlE z2v 1 (zgg R).length ((zgg R).map (Value.int .u64))
set_option maxHeartbeats 2000000 in
set_option maxRecDepth 10000 in
theorem zy1 {R:List (Option (List U))} {b m t:Nat} {s:Value} {es:Ent} (hm:MapOK es R) (hn:R.length ≠ 0) (hz:es.length ≤ 100000) {w:World} {B:Heap} {C:Nat → Prop} (hB:B.Le (hp w)) (hr:(StO b R.length m s t es).P B w C) (hC:∀ k, C k → k < w.heap.size ∧ B k = none) :
  RetT Tryz.prog 85 [.pointer (some ⟨b, 0, none⟩)] w B C (zho (z41 R) (StO b R.length m s t es).res):=by
 have hlen:=hm.len
 rw [show z41 R = SlE z2v 1 es.length ((zgg R).map (Value.int .u64)) by rw [hlen]]
 unfold RetT
 refine zag 900 (StO b R.length m s t es) Tryz.func85 rfl Tryz.ntmps85 (Nat.le_of_ble_eq_true rfl) hB hr hC ?_
 rw [zqd]
 refine zdk 900 901 rfl (zaq _) ?_
 refine Zbg ?_;refine y7 (zca L 900 (Φ:=fun H => H b = some (.cells (stc R.length m s t).toArray tyS)) (c:=.bool false) rfl rfl (zn rfl) rfl rfl rfl rfl rfl zl0 (fun u H hH hle hb => none_ret hn hb hH)) ?_;refine Zq ?_;refine Zm ?_;refine Z0 ?_;refine y7 (z1q (q:=901) (vc:=vcE) mpS rfl rfl rfl rfl rfl) ?_;refine z7 (zvq L es.length rfl rfl rfl z5t rfl rfl rfl (by omega) (by unfold maxLen; omega)) rfl ?_;refine qg (zaf (.inr rfl) rfl rfl rfl rfl) ?_;refine Zaw ?_
 refine zzs 3 902 rfl fun b3 rest0 _ _ hcm hcl0 => ?_
 refine Zk ?_;refine Z0 ?_;refine qg (zvn (q:=901) (vc:=vcE) mpS rfl rfl rfl rfl) ?_;refine ZbL ?_
 refine zam (fun T:(List Int × List Value) × Ent => [(3, .is (.slice (some ⟨b3, 0, none⟩) T.1.1.length es.length)), (17, .own (zzy m .u64 vcE es T.2)), (900, .own (zaj b (stc R.length m s t) tyS)), (902, .own (zaj b3 (T.1.1.map (Value.int .u64) ++ T.1.2) z2v))])
  (fun T => (T.1.1 ++ T.2.map Prod.fst).Perm (es.map Prod.fst) ∧ (T.1.1.map (Value.int .u64) ++ T.1.2).length = es.length * 1) (fun T => T.2.length) (([], rest0), es) ⟨List.Perm.refl _, hcl0⟩ ⟨rfl, rfl, rfl, rfl, trivial⟩ ?_
 rintro ⟨⟨out, rest⟩, left⟩ ⟨hp, hcl⟩
 dsimp only at hp hcl ⊢
 have hpl:=hp.length_eq
 rw [List.length_append, List.length_map, List.length_map] at hpl
 by_cases hl:left = []
 ·subst hl
  rw [List.map_nil, List.append_nil] at hp
  have hol:out.length = es.length:=by simpa using hpl
  have hr0:rest = []:=List.eq_nil_of_length_eq_zero (by rw [List.length_append, List.length_map] at hcl; omega)
  subst hr0
  rw [hol]
  have hsk:=zyb hm hp
  refine Zbo ?_;refine z7 (zvo rfl rfl rfl rfl rfl) rfl ?_;refine ZeS ?_;refine ZfZ ?_;refine ZfK ?_
  refine z4x 17 901 rfl ?_
  refine ZZ ?_;refine qg (zan L 902 (zab b3 ((zgg R).map (Value.int .u64) ++ []) So.tyU) (r:=zab b3 (out.map (Value.int .u64) ++ []) So.tyU) rfl rfl rfl rfl rfl (fun u H C hH _ hr hC => by have h:=So.sortU_ret (d:=out.toArray) (rest:=[]) (b:=b3) (m:=es.length) (cap:=es.length) (by simpa using hol) hz hH hr hC; unfold uC at h; rw [hsk] at h; exact h)) ?_;refine Zj ?_
  rw [zae, show (zgg R).map (Value.int .u64) ++ [] = (zgg R).map (Value.int .u64) from List.append_nil _]
  refine z4u (s:=1) 3 902 rfl rfl (by rw [List.length_map, hlen, Nat.mul_one]) (by unfold maxLen; omega) ?_
  refine Zaj ?_;refine qg (zaf (.inl rfl) rfl rfl rfl rfl) ?_;refine qg (zaf (.inr rfl) rfl rfl rfl rfl) ?_;refine Zy ?_
  refine Zfe ?_
  refine zcw 2 900 rfl rfl (zaq (StO b R.length m s t es)) ?_
  exact z4t rfl (fun _ _ h => h) Since.refl rfl
 ·have hll:0 < left.length:=List.length_pos_iff.2 hl
  have hroom:out.length + 1 ≤ es.length:=by omega
  have hrl:0 < rest.length:=by rw [List.length_append, List.length_map] at hcl; omega
  have hcl2:out.length * 1 + 1 * 1 ≤ (out.map (Value.int .u64) ++ rest).length:=by rw [hcl]; omega
  have hrr:∀ k:Int, (out.map (Value.int .u64) ++ rest).take (out.length * 1) ++ ([Value.int .u64 k] ++ (out.map (Value.int .u64) ++ rest).drop (out.length * 1 + 1 * 1)) = (out ++ [k]).map (Value.int .u64) ++ rest.drop 1:=fun k => by
   have e1:(out.map (Value.int .u64)).length = out.length * 1:=by simp
   rw [← e1, List.take_append, List.take_of_length_le (Nat.le_refl _), Nat.sub_self, List.take_zero, List.append_nil, List.drop_append, List.drop_eq_nil_of_le (by omega), List.nil_append, show (out.map (Value.int .u64)).length + 1 * 1 - (out.map (Value.int .u64)).length = 1 by omega]
   simp
  refine Zbo ?_;refine zxo rfl rfl hl rfl rfl rfl (fun j p hjp => ?_); refine ZeS ?_;refine ZfY ?_;refine ZfN ?_;refine ZQ ?_;refine z7 (zvs rfl rfl rfl) rfl ?_;refine ZeS ?_;refine Zc ?_;refine ZL ?_;refine Zb ?_;refine Zai ?_;refine qg (zqu L (q:=902) rfl rfl rfl rfl (ziv rfl) rfl z5t (by omega) rfl hroom hcl2 rfl (hrr _)) ?_;refine Z5 ?_
  refine z2r 17 (zzy m .u64 vcE es (left.eraseIdx j)) rfl z3g ?_
  exact y9 (x:=((out, rest), left)) ((out ++ [p.1], rest.drop 1), left.eraseIdx j) ⟨(zwk hjp out).trans hp, by
   dsimp only
   rw [List.length_append, List.length_map, List.length_append, List.length_drop]
   rw [List.length_append, List.length_map] at hcl
   simp only [List.length_cons, List.length_nil]
   omega⟩ (by dsimp only; rw [List.length_eraseIdx_of_lt (get_lt hjp)]; omega) ⟨by rw [List.length_append]; rfl, rfl, rfl, rfl, trivial⟩
end Go.V.L10
set_option maxRecDepth 20000
namespace Go.V
open Go.Proofs Go.RowKit
section
variable {α β:Type} [DecidableEq α] [DecidableEq β] {k:α → β} {c:β → β → Int}
theorem zrj (ho:Ord3 c):∀ {S S':List α}, Srt k c S → Srt k c S' → Eqv k S S' → S' = S
 | [], S', _, _, h => List.eq_nil_of_length_eq_zero (by rw [h.length]; rfl)
 | x :: r, [], _, _, h => by have:=h.length; simp at this
 | x :: r, y :: r', h1, h2, h => by
  have hxy:k x = k y:=by
   have hx:x ∈ y :: r':=h.mem.2 (List.mem_cons_self ..)
   have hy:y ∈ x :: r:=h.mem.1 (List.mem_cons_self ..)
   have e1:¬ c (k x) (k y) < 0:=by
    rcases List.mem_cons.1 hx with e | hx
    ·rw [e]; exact ho.irr _
    ·exact (List.pairwise_cons.1 h2).1 x hx
   have e2:¬ c (k y) (k x) < 0:=by
    rcases List.mem_cons.1 hy with e | hy
    ·rw [e]; exact ho.irr _
    ·exact (List.pairwise_cons.1 h1).1 y hy
   have:=ho.anti (k x) (k y)
   exact ho.eq _ _ (by omega)
  have hf:=h (k x)
  rw [List.filter_cons_of_pos (by simp [hxy]), List.filter_cons_of_pos (by simp)] at hf
  have hxe:y = x:=(List.cons.inj hf).1
  subst hxe
  have ht:Eqv k r r':=fun t => by
   have:=h t
   by_cases e:k y = t
   ·rw [List.filter_cons_of_pos (by simpa using e), List.filter_cons_of_pos (by simpa using e)] at this
    exact (List.cons.inj this).2
   ·rwa [List.filter_cons_of_neg (by simpa using e), List.filter_cons_of_neg (by simpa using e)] at this
  rw [zrj ho (List.pairwise_cons.1 h1).2 (List.pairwise_cons.1 h2).2 ht]
omit [DecidableEq α] in
theorem Eqv.symm {A B:List α} (h:Eqv k A B):Eqv k B A:=fun t => (h t).symm
theorem zx4 (ho:Ord3 c) {l S S':List α} (h:Stb k c l S) (h':Stb k c l S'):S' = S:=zrj ho h.1 h'.1 (h.2.symm.trans h'.2)
def z13 (k:α → β) (c:β → β → Int) (x:α):List α → List α
 | [] => [x]
 | y :: l => if c (k x) (k y) < 0 then x :: y :: l else y :: z13 k c x l
omit [DecidableEq α] [DecidableEq β] in
theorem zl4 (ho:Ord3 c) {x:α}:∀ {S:List α}, Srt k c S → ∃ A B, S = A ++ B ∧ z13 k c x S = A ++ x :: B ∧ (∀ a ∈ A, ¬ c (k x) (k a) < 0) ∧ ∀ b ∈ B, c (k x) (k b) < 0
 | [], _ => ⟨[], [], rfl, rfl, fun a h => (by cases h), fun a h => (by cases h)⟩
 | y :: l, h => by
  obtain ⟨h1, h2⟩:=List.pairwise_cons.1 h
  by_cases hxy:c (k x) (k y) < 0
  ·refine ⟨[], y :: l, rfl, if_pos hxy, fun a h => (by cases h), fun b hb => ?_⟩
   rcases List.mem_cons.1 hb with rfl | hb
   ·exact hxy
   ·have h3:=h1 b hb
    have:=ho.anti (k b) (k y)
    by_cases h4:c (k y) (k b) < 0
    ·exact ho.tr hxy h4
    ·rw [← ho.eq (k y) (k b) (by omega)]; exact hxy
  ·obtain ⟨A, B, e1, e2, e3, e4⟩:=zl4 ho (x:=x) h2
   refine ⟨y :: A, B, by rw [e1]; rfl, ?_, fun a ha => ?_, e4⟩
   ·rw [z13, if_neg hxy, e2]; rfl
   ·rcases List.mem_cons.1 ha with rfl | ha
    ·exact hxy
    ·exact e3 a ha
def zla (k:α → β) (c:β → β → Int) (l:List α):List α:=l.foldl (fun S x => z13 k c x S) []
omit [DecidableEq α] [DecidableEq β] in
theorem z01:Srt k c []:=List.Pairwise.nil
omit [DecidableEq α] in
theorem zx5 (ho:Ord3 c) {l S:List α} {x:α} (h:Stb k c l S):Stb k c (l ++ [x]) (z13 k c x S):=by
 obtain ⟨A, B, e1, e2, e3, e4⟩:=zl4 ho (x:=x) h.1
 have h1:=h.1
 rw [e1] at h1
 have h2:=zqe ho h1 e3 e4
 rw [e2]
 rw [← e1] at h2
 exact ⟨h2.1, (h.2.app (Eqv.refl [x])).trans h2.2⟩
omit [DecidableEq α] in
theorem zci (ho:Ord3 c) (l:List α):Stb k c l (zla k c l):=by
 suffices ∀ (r l S:List α), Stb k c l S → Stb k c (l ++ r) (r.foldl (fun S x => z13 k c x S) S) by
  have:=this l [] [] ⟨z01, Eqv.refl _⟩
  exact this
 intro r
 induction r with
 | nil => intro l S h; rw [List.append_nil]; exact h
 | cons x r ih =>
  intro l S h
  have:=ih (l ++ [x]) (z13 k c x S) (zx5 ho h)
  rw [List.append_assoc] at this
  exact this
theorem zlk (ho:Ord3 c) {l S:List α} (h:Stb k c l S):S = zla k c l:=zx4 ho (zci ho l) h
theorem zri (ho:Ord3 c) (l:List α):(zla k c l).length = l.length:=(zci (k:=k) ho l).2.length
omit [DecidableEq α] [DecidableEq β] in
theorem zx8:zla k c [] = []:=rfl
theorem zx7 (ho:Ord3 c) {l:List α} (h:Srt k c l):zla k c l = l:=(zlk ho ⟨h, Eqv.refl l⟩).symm
theorem zx9 (ho:Ord3 c) (X Y:List α):zla k c (zla k c X ++ zla k c Y) = zla k c (X ++ Y) :=
 zlk ho ⟨(zci ho _).1, (((zci ho X).2.app (zci ho Y).2)).trans (zci ho _).2⟩
theorem z11 (ho:Ord3 c) {X A B:List α} {x:α} (h:A ++ B = zla k c X) (hb:∀ b ∈ B, c (k x) (k b) < 0) (ha:∀ y, A.getLast? = some y → ¬ c (k x) (k y) < 0):A ++ x :: B = zla k c (X ++ [x]):=by
 have hs:=(zci (k:=k) ho X).1
 rw [← h] at hs
 have hA:∀ a ∈ A, ¬ c (k x) (k a) < 0:=fun a ham => by
  rcases List.eq_nil_or_concat A with e | ⟨A', y, rfl⟩
  ·subst e; cases ham
  ·have h1:=ha y (by simp)
   simp only [List.concat_eq_append, List.mem_append, List.mem_singleton] at ham
   rcases ham with ham | rfl
   ·have h2:=(zdt.1 hs).1
    simp only [List.concat_eq_append] at h2
    have h3:=(zdt.1 h2).2.2 a ham y (by simp)
    have e1:=ho.anti (k y) (k a)
    intro h4
    refine h1 ?_
    by_cases h5:c (k a) (k y) < 0
    ·exact ho.tr h4 h5
    ·rw [← ho.eq (k a) (k y) (by omega)]; exact h4
   ·exact h1
 have h1:=zqe ho hs hA hb
 rw [h] at h1
 exact zlk ho ⟨h1.1, ((zci (k:=k) ho X).2.app (Eqv.refl [x])).trans h1.2⟩
def chS (k:α → β) (c:β → β → Int) (n:Nat):Nat → List α → List α
 | 0, _ => []
 | f + 1, l => if l = [] then [] else zla k c (l.take n) ++ chS k c n f (l.drop n)
omit [DecidableEq α] [DecidableEq β] in
theorem zfz (n f:Nat):chS k c n f [] = []:=by cases f <;> simp [chS]
omit [DecidableEq α] [DecidableEq β] in
theorem zsh {n:Nat} (hn:0 < n):∀ {f g:Nat} {l:List α}, l.length ≤ f → l.length ≤ g → chS k c n f l = chS k c n g l
 | 0, g, l, hf, _ => by obtain rfl:l = []:=List.eq_nil_of_length_eq_zero (by omega); rw [zfz, zfz]
 | f + 1, 0, l, _, hg => by obtain rfl:l = []:=List.eq_nil_of_length_eq_zero (by omega); rw [zfz, zfz]
 | f + 1, g + 1, l, hf, hg => by
  by_cases h:l = []
  ·subst h; rw [zfz, zfz]
  ·rw [chS, chS, if_neg h, if_neg h]
   have:0 < l.length:=List.length_pos_iff.2 h
   rw [zsh hn (f:=f) (g:=g) (by rw [List.length_drop]; omega) (by rw [List.length_drop]; omega)]
def chL (k:α → β) (c:β → β → Int) (n:Nat) (l:List α):List α:=chS k c n l.length l
omit [DecidableEq α] [DecidableEq β] in
theorem zns {n:Nat} (hn:0 < n) (l:List α):chL k c n l = zla k c (l.take n) ++ chL k c n (l.drop n):=by
 unfold chL
 by_cases h:l = []
 ·subst h; simp [zfz, zx8]
 ·have:0 < l.length:=List.length_pos_iff.2 h
  obtain ⟨m, hm⟩:∃ m, l.length = m + 1:=⟨l.length - 1, by omega⟩
  rw [hm, chS, if_neg h, zsh hn (f:=m) (g:=(l.drop n).length) (by rw [List.length_drop]; omega) (Nat.le_refl _)]
omit [DecidableEq α] [DecidableEq β] in
theorem zq3 (n:Nat):chL k c n [] = []:=zfz _ _
omit [DecidableEq α] [DecidableEq β] in
theorem z2d {n:Nat} (hn:0 < n) {l:List α} (h:l.length ≤ n):chL k c n l = zla k c l:=by
 rw [zns hn, List.take_of_length_le h, List.drop_eq_nil_of_le h, zq3, List.append_nil]
theorem zw7 (ho:Ord3 c) {n:Nat} (hn:0 < n):∀ (m:Nat) {l:List α}, l.length ≤ m → (chL k c n l).length = l.length
 | 0, l, h => by obtain rfl:l = []:=List.eq_nil_of_length_eq_zero (by omega); rw [zq3]
 | m + 1, l, h => by
  by_cases h0:l = []
  ·subst h0; rw [zq3]
  ·have:0 < l.length:=List.length_pos_iff.2 h0
   rw [zns hn, List.length_append, zri ho, zw7 ho hn m (by rw [List.length_drop]; omega), ← List.length_append, List.take_append_drop]
end
end Go.V
set_option maxRecDepth 20000
namespace Go.V.L8
open Go.Proofs Go.RowKit Go.V Go.V.L2 Go.V.L3 Go.V.L6
theorem zl8 (l:List CH):(l.flatMap ccs).length = l.length * 7:=zkx zw8 l
theorem zzd (l:List CH):(l.flatMap ccs).all zdj = true:=by
 induction l with
 | nil => rfl
 | cons x l ih => rw [List.flatMap_cons, List.all_append, ih]; rfl
abbrev ch7 (c:CH):List Value:=[.string c.1.1.1.1, .string c.1.1.1.2, .string c.1.1.2, .string c.1.2.1.1, .string c.1.2.1.2, .string c.1.2.2, .bool c.2]
theorem zbt {l:List CH} {rest:List Value} {i:Nat} {t:CH} (h:l[i]? = some t) (off:Nat) (ho:off = i * 7):∃ r, (l.flatMap ccs ++ rest).drop off = ch7 t ++ r:=by
 subst ho
 have h1:((l.flatMap ccs).drop (i * 7)).take 7 = ch7 t:=zit h
 have h2:=get_lt h
 refine ⟨((l.flatMap ccs).drop (i * 7)).drop 7 ++ rest, ?_⟩
 rw [List.drop_append_of_le_length (by rw [zl8]; exact Nat.mul_le_mul_right _ (by omega)), ← List.append_assoc]
 congr 1
 rw [← h1, List.take_append_drop]
theorem zde {ls:List CH} {rest:List Value} {k:Nat} {z:CH} (h:k < ls.length) (off:Nat) (ho:off = k * 7):(ls.flatMap ccs ++ rest).take off ++ (ch7 z ++ (ls.flatMap ccs ++ rest).drop (off + 7)) = (ls.set k z).flatMap ccs ++ rest:=by
 subst ho
 have e1:ls = ls.take k ++ (ls[k] :: ls.drop (k + 1)):=by rw [List.getElem_cons_drop, List.take_append_drop]
 have hk:(ls.take k).length = k:=by rw [List.length_take]; omega
 have e2:ls.set k z = ls.take k ++ (z :: ls.drop (k + 1)):=by
  conv => lhs; rw [e1]
  rw [List.set_append_right _ _ (by omega), hk, Nat.sub_self]; rfl
 rw [e2]
 generalize ls.take k = A at e1 hk
 generalize ls.drop (k + 1) = D at e1
 generalize ls[k] = y at e1
 subst e1
 have hA:(A.flatMap ccs).length = k * 7:=by rw [zl8, hk]
 simp only [List.flatMap_append, List.flatMap_cons, List.append_assoc]
 rw [List.take_left' hA, show k * 7 + 7 = (A.flatMap ccs).length + 7 by omega, ← List.drop_drop, List.drop_left, show (ccs y ++ (D.flatMap ccs ++ rest)).drop 7 = D.flatMap ccs ++ rest from List.drop_left' rfl]
 rfl
theorem zdf {ls:List CH} {rest:List Value} {k:Nat} (h:k < ls.length) (off:Nat) (ho:off = k * 7):Nat.ble (off + 7) (ls.flatMap ccs ++ rest).length = true:=Nat.ble_eq_true_of_le (by rw [List.length_append, zl8]; omega)
section
variable {α:Type} {A M D:List α} {x y:α}
theorem ziz {i:Nat} (h:A.length = i):(A ++ x :: (M ++ y :: D))[i]? = some x:=by subst h; simp
theorem ziy {j:Nat} (h:A.length + 1 + M.length = j):(A ++ x :: (M ++ y :: D))[j]? = some y:=by
 subst h
 have e:A ++ x :: (M ++ y :: D) = (A ++ x :: M) ++ y :: D:=by simp
 rw [e, List.getElem?_append_right (by simp; omega)]
 simp; rw [show A.length + 1 + M.length - (A.length + (M.length + 1)) = 0 by omega]; rfl
theorem zp6 {i j:Nat} (hi:A.length = i) (hj:A.length + 1 + M.length = j):((A ++ x :: (M ++ y :: D)).set i y).set j x = A ++ y :: (M ++ x :: D):=by
 subst hi hj
 have e:(A ++ x :: (M ++ y :: D)).set A.length y = (A ++ y :: M) ++ y :: D:=by simp
 rw [e, List.set_append_right _ _ (by simp; omega)]
 simp; rw [show A.length + 1 + M.length - (A.length + (M.length + 1)) = 0 by omega]; rfl
theorem zrg {i j:Nat} (hi:A.length = i) (hj:A.length + 1 + M.length = j):((A ++ x :: (M ++ y :: D)).set j x).set i y = A ++ y :: (M ++ x :: D):=by
 rw [List.set_comm _ _ (by omega)]; exact zp6 hi hj
end
attribute [local irreducible] V N X VO Par StepOK Has Ret RetL RetO RetT Src
theorem zqb {P X Q Y R:List CH} {rest:List Value} {b m cap a e n:Nat} (ha:P.length = a) (he:a + X.length + Q.length = e) (hx:X.length = n) (hy:Y.length = n) (hm:(P ++ (X ++ (Q ++ (Y ++ R)))).length = m) (hm1:m ≤ 100000) (fv:Value) {w:World} {B:Heap} {C:Nat → Prop} (hB:B.Le (hp w))
  (hr:(zab b ((P ++ (X ++ (Q ++ (Y ++ R)))).flatMap ccs ++ rest) tyC).P B w C) (hC:∀ k, C k → k < w.heap.size ∧ B k = none) :
  zbd Tryz.prog 319 [.slice (some ⟨b, 0, none⟩) m cap, .int .i64 a, .int .i64 e, .int .i64 n, fv] w B C (zab b ((P ++ (Y ++ (Q ++ (X ++ R)))).flatMap ccs ++ rest) tyC):=by
 unfold zbd
 refine zag 900 (zab b ((P ++ (X ++ (Q ++ (Y ++ R)))).flatMap ccs ++ rest) tyC) Tryz.func319 rfl Tryz.ntmps319 (Nat.le_of_ble_eq_true rfl) hB hr hC ?_
 rw [zae]
 simp only [List.length_append] at hm
 refine ZG ?_;refine ZS ?_
 refine zam (fun i:Nat => [(0, .is (.slice (some ⟨b, 0, none⟩) m cap)), (1, .is (.int .i64 a)), (2, .is (.int .i64 e)), (3, .is (.int .i64 n)), (10, .is (.int .i64 i)), (900, .own (zaj b ((P ++ (Y.take i ++ (X.drop i ++ (Q ++ (X.take i ++ (Y.drop i ++ R)))))).flatMap ccs ++ rest) tyC))]) (fun i => i ≤ n) (fun i => n - i) 0 (Nat.zero_le _) ⟨rfl, rfl, rfl, rfl, rfl, by simp only [List.take_zero, List.drop_zero, List.nil_append]; rfl, trivial⟩ ?_
 rintro i hi
 by_cases hlt:i < n
 ·obtain ⟨x, hxi⟩:=zap (l:=X) (show i < X.length by omega)
  obtain ⟨y, hyi⟩:=zap (l:=Y) (show i < Y.length by omega)
  have e0:P ++ (Y.take i ++ (X.drop i ++ (Q ++ (X.take i ++ (Y.drop i ++ R))))) = (P ++ Y.take i) ++ x :: ((X.drop (i + 1) ++ (Q ++ X.take i)) ++ y :: (Y.drop (i + 1) ++ R)):=by
   rw [zii hxi, zii hyi]; simp
  have e1:P ++ (Y.take (i + 1) ++ (X.drop (i + 1) ++ (Q ++ (X.take (i + 1) ++ (Y.drop (i + 1) ++ R))))) = (P ++ Y.take i) ++ y :: ((X.drop (i + 1) ++ (Q ++ X.take i)) ++ x :: (Y.drop (i + 1) ++ R)):=by
   rw [List.take_add_one, List.take_add_one, hxi, hyi]; simp
  have l1:(P ++ Y.take i).length = a + i:=by rw [List.length_append, List.length_take]; omega
  have l2:(P ++ Y.take i).length + 1 + (X.drop (i + 1) ++ (Q ++ X.take i)).length = e + i:=by rw [l1, List.length_append, List.length_append, List.length_drop, List.length_take]; omega
  have g1:=ziz (x:=x) (y:=y) (M:=X.drop (i + 1) ++ (Q ++ X.take i)) (D:=Y.drop (i + 1) ++ R) l1
  have g2:=ziy (x:=x) (y:=y) (D:=Y.drop (i + 1) ++ R) l2
  have g3:=zp6 (x:=x) (y:=y) (D:=Y.drop (i + 1) ++ R) l1 l2
  rw [e0]
  have hlen:((P ++ Y.take i) ++ x :: ((X.drop (i + 1) ++ (Q ++ X.take i)) ++ y :: (Y.drop (i + 1) ++ R))).length = m:=by rw [← e0]; simp only [List.length_append, List.length_take, List.length_drop]; omega
  generalize (P ++ Y.take i) ++ x :: ((X.drop (i + 1) ++ (Q ++ X.take i)) ++ y :: (Y.drop (i + 1) ++ R)) = K at *
  have h1:=get_lt g1
  have h2:=get_lt g2
  have q1:=zbt (rest:=rest) g1 (0 + (a + i) * 7) (by omega)
  have q2:=zbt (rest:=rest) g2 (0 + (e + i) * 7) (by omega)
  have s1:=zde (rest:=rest) (z:=y) h1 (0 + (a + i) * 7) (by omega)
  have b1:=zdf (rest:=rest) h1 (0 + (a + i) * 7) (by omega)
  have h3:e + i < (K.set (a + i) y).length:=by rw [List.length_set]; exact h2
  have s2:=zde (rest:=rest) (z:=x) h3 (0 + (e + i) * 7) (by omega)
  have b2:=zdf (rest:=rest) h3 (0 + (e + i) * 7) (by omega)
  rw [g3, ← e1] at s2
  have a1:IntKind.i64.wrap ((a:Int) + (i:Int)) = ((a + i:Nat):Int):=zaa (by omega) (by omega)
  have a2:IntKind.i64.wrap ((e:Int) + (i:Int)) = ((e + i:Nat):Int):=zaa (by omega) (by omega)
  refine Ze ?_;refine Z6 ?_;refine Zb ?_;refine ZbC ?_;refine ZaD ?_;refine q6 (id:=3) [(200029, [900]), (200035, [900]), (100036, [900]), (100037, [900])] mixed (by kernel_rfl) ?_;refine Zb6 ?_;refine Zb6 ?_;refine Za4 ?_;refine qf (zay L (q:=900) (vs:=[_, _, _, _, _, _, _]) rfl rfl rfl rfl rfl rfl q2) rfl rfl ?_;refine Za4 ?_;refine qf (zay L (q:=900) (vs:=[_, _, _, _, _, _, _]) rfl rfl rfl rfl rfl rfl q1) rfl rfl ?_;refine Zl ?_;refine ym (qz L (q:=900) rfl rfl rfl rfl rfl rfl b1 rfl s1) rfl ?_;refine Zl ?_;refine ym (qz L (q:=900) rfl rfl rfl rfl rfl rfl b2 rfl s2) rfl ?_;refine Zcb ?_;refine Z1 ?_;refine ZaP ?_
  exact y9 (x:=i) (i + 1) (by omega) (by omega) ⟨rfl, rfl, rfl, rfl, rfl, rfl, trivial⟩
 ·obtain rfl:i = n:=by omega
  have t1:X.take i = X:=List.take_of_length_le (by omega)
  have t2:Y.take i = Y:=List.take_of_length_le (by omega)
  have t3:X.drop i = []:=List.drop_eq_nil_of_le (by omega)
  have t4:Y.drop i = []:=List.drop_eq_nil_of_le (by omega)
  rw [t1, t2, t3, t4]
  simp only [List.nil_append]
  refine Ze ?_;refine Z6 ?_;refine ZaX ?_;refine Zb0 ?_
  exact zau L 900 (r:=zab b _ tyC) rfl (fun _ _ h => h) Since.refl rfl rfl
end Go.V.L8
set_option maxRecDepth 20000
namespace Go.V.L8
open Go.Proofs Go.RowKit Go.V Go.V.L2 Go.V.L3 Go.V.L6
theorem _root_.Go.V.ZfX {A B:Prop} (h:B) (t:Wr B → A:=by intro h; refine Ze ?_;refine q6 (id:=4) [(200026, [900]), (200031, [900])] mixed (by kernel_rfl) ?_;exact h.h):A:=t ⟨h⟩
def stC (l:List CH):List CH:=zla (fun c => c.1) zbs l
theorem ze3 (l:List CH):(stC l).length = l.length:=zri cmpT_ord l
attribute [local irreducible] V N X VO Par StepOK Has Ret RetL RetO RetT zbd Src
set_option maxHeartbeats 1000000 in
set_option maxRecDepth 20000 in
theorem z06 {P X Y R:List CH} {rest:List Value} {b m cap a mm e:Nat} (ha:P.length = a) (hmm:a + X.length = mm) (he:mm + Y.length = e) (hx:0 < X.length) (hy:0 < Y.length) (hm:(P ++ (X ++ (Y ++ R))).length = m) (hm1:m ≤ 100000) (fv:Value) {w:World} {B:Heap} {C:Nat → Prop} (hB:B.Le (hp w))
  (hr:(zab b ((P ++ (X ++ (Y ++ R))).flatMap ccs ++ rest) tyC).P B w C) (hC:∀ k, C k → k < w.heap.size ∧ B k = none) :
  zbd Tryz.prog 318 [.slice (some ⟨b, 0, none⟩) m cap, .int .i64 a, .int .i64 mm, .int .i64 e, fv] w B C (zab b ((P ++ (Y ++ (X ++ R))).flatMap ccs ++ rest) tyC):=by
 unfold zbd
 refine zag 900 (zab b ((P ++ (X ++ (Y ++ R))).flatMap ccs ++ rest) tyC) Tryz.func318 rfl Tryz.ntmps318 (Nat.le_of_ble_eq_true rfl) hB hr hC ?_
 rw [zae]
 simp only [List.length_append] at hm
 have s1:IntKind.i64.wrap ((mm:Int) - (a:Int)) = (X.length:Int):=zaa (by omega) (by omega) |>.trans (by omega)
 have s2:IntKind.i64.wrap ((e:Int) - (mm:Int)) = (Y.length:Int):=zaa (by omega) (by omega) |>.trans (by omega)
 refine ZG ?_;refine ZC ?_;refine Zap ?_;refine ZC ?_;refine Zd ?_;refine qe ?_
 refine zam (fun s:(List CH × List CH) × (List CH × List CH) => [(0, .is (.slice (some ⟨b, 0, none⟩) m cap)), (2, .is (.int .i64 mm)), (4, .is fv), (10, .is (.int .i64 s.1.2.length)), (11, .is (.int .i64 s.2.1.length)), (900, .own (zaj b ((P ++ (s.1.1 ++ (s.1.2 ++ (s.2.1 ++ (s.2.2 ++ R))))).flatMap ccs ++ rest) tyC))])
  (fun s => a + s.1.1.length + s.1.2.length = mm ∧ mm + s.2.1.length + s.2.2.length = e ∧ 0 < s.1.2.length ∧ 0 < s.2.1.length ∧ s.1.1 ++ (s.2.1 ++ (s.1.2 ++ s.2.2)) = Y ++ X) (fun s => s.1.2.length + s.2.1.length) (([], X), (Y, [])) ⟨hmm, he, hx, hy, by simp⟩ ⟨rfl, rfl, rfl, rfl, rfl, rfl, trivial⟩ ?_
 rintro ⟨⟨D1, X1⟩, ⟨Y1, D2⟩⟩ ⟨h1, h2, h3, h4, h5⟩
 dsimp only at h1 h2 h3 h4 h5 ⊢
 have hs1:IntKind.i64.wrap ((mm:Int) - (X1.length:Int)) = ((mm - X1.length:Nat):Int):=zaa (by omega) (by omega) |>.trans (by omega)
 by_cases heq:X1.length = Y1.length
 ·have e0:P ++ (D1 ++ (X1 ++ (Y1 ++ (D2 ++ R)))) = (P ++ D1) ++ (X1 ++ ([] ++ (Y1 ++ (D2 ++ R)))):=by simp
  have e1:(P ++ D1) ++ (Y1 ++ ([] ++ (X1 ++ (D2 ++ R)))) = P ++ (Y ++ (X ++ R)):=by
   have:Y ++ (X ++ R) = D1 ++ (Y1 ++ (X1 ++ D2)) ++ R:=by rw [h5]; simp
   rw [this]; simp
  have hlen:((P ++ D1) ++ (X1 ++ ([] ++ (Y1 ++ (D2 ++ R))))).length = m:=by simp only [List.length_append, List.length_nil]; omega
  rw [e0]
  refine Ze ?_;refine Zav ?_;refine ZA ?_;refine Zb0 ?_;refine zm ?_;refine Z7 ?_;refine Zw ?_;refine Zat ?_;refine Zw ?_;refine qg (zan L 900 (zab b (((P ++ D1) ++ (Y1 ++ ([] ++ (X1 ++ (D2 ++ R))))).flatMap ccs ++ rest) tyC) (r:=zab b (((P ++ D1) ++ (X1 ++ ([] ++ (Y1 ++ (D2 ++ R))))).flatMap ccs ++ rest) tyC) rfl rfl rfl rfl rfl (fun u H C hH _ hr hC => (by have h:=zqb (cap:=cap) (a:=mm - X1.length) (e:=mm) (n:=X1.length) (by rw [List.length_append]; omega) (by simp only [List.length_nil]; omega) rfl heq.symm hlen hm1 fv hH hr hC; exact h))) ?_;refine zk ?_
  rw [e1]
  exact zau L 900 (r:=zab b _ tyC) rfl (fun _ _ h => h) Since.refl rfl rfl
 ·by_cases hgt:Y1.length < X1.length
  ·have hs2:IntKind.i64.wrap ((X1.length:Int) - (Y1.length:Int)) = ((X1.drop Y1.length).length:Int):=zaa (by omega) (by omega) |>.trans (by rw [List.length_drop]; omega)
   have lt:(X1.take Y1.length).length = Y1.length:=by rw [List.length_take]; omega
   have e0:P ++ (D1 ++ (X1 ++ (Y1 ++ (D2 ++ R)))) = (P ++ D1) ++ (X1.take Y1.length ++ (X1.drop Y1.length ++ (Y1 ++ (D2 ++ R)))):=by
    conv => lhs; rw [← List.take_append_drop Y1.length X1]
    simp only [List.append_assoc]
   have e1:(P ++ D1) ++ (Y1 ++ (X1.drop Y1.length ++ (X1.take Y1.length ++ (D2 ++ R)))) = P ++ ((D1 ++ Y1) ++ (X1.drop Y1.length ++ (X1.take Y1.length ++ (D2 ++ R)))):=by simp
   have hlen:((P ++ D1) ++ (X1.take Y1.length ++ (X1.drop Y1.length ++ (Y1 ++ (D2 ++ R))))).length = m:=by rw [← e0]; simp only [List.length_append]; omega
   have hld:(X1.drop Y1.length).length = X1.length - Y1.length:=List.length_drop
   rw [e0]
   refine Ze ?_;refine Zav ?_;refine Zbv ?_;refine ZcA ?_;refine ZaZ ?_;refine ZP ?_;refine Zs ?_;refine Zv ?_;refine Zw ?_;refine Zat ?_;refine Zw ?_;refine qg (zan L 900 (zab b (((P ++ D1) ++ (Y1 ++ (X1.drop Y1.length ++ (X1.take Y1.length ++ (D2 ++ R))))).flatMap ccs ++ rest) tyC) (r:=zab b (((P ++ D1) ++ (X1.take Y1.length ++ (X1.drop Y1.length ++ (Y1 ++ (D2 ++ R))))).flatMap ccs ++ rest) tyC) rfl rfl rfl rfl rfl (fun u H C hH _ hr hC => (by have h:=zqb (cap:=cap) (a:=mm - X1.length) (e:=mm) (n:=Y1.length) (by rw [List.length_append]; omega) (by omega) lt rfl hlen hm1 fv hH hr hC; exact h))) ?_;refine Zy ?_;refine Z2 ?_;refine ZC ?_;refine Z5 ?_
   rw [e1]
   exact y9 (x:=((D1, X1), (Y1, D2))) ((D1 ++ Y1, X1.drop Y1.length), (X1.take Y1.length, D2)) ⟨by dsimp only; rw [List.length_append]; omega, by dsimp only; omega, by dsimp only; omega, by dsimp only; omega, by
    dsimp only
    rw [← h5]
    conv => rhs; rw [← List.take_append_drop Y1.length X1]
    simp only [List.append_assoc]⟩ (by dsimp only; omega) ⟨rfl, rfl, rfl, rfl, by dsimp only; rw [lt]; rfl, rfl, trivial⟩
  ·have hs2:IntKind.i64.wrap ((Y1.length:Int) - (X1.length:Int)) = ((Y1.take (Y1.length - X1.length)).length:Int):=zaa (by omega) (by omega) |>.trans (by rw [List.length_take]; omega)
   have hs3:IntKind.i64.wrap ((mm:Int) + (Y1.length:Int)) = ((mm + Y1.length:Nat):Int):=zaa (by omega) (by omega)
   have hs4:IntKind.i64.wrap (((mm + Y1.length:Nat):Int) - (X1.length:Int)) = ((mm + Y1.length - X1.length:Nat):Int):=zaa (by omega) (by omega) |>.trans (by omega)
   have lt:(Y1.take (Y1.length - X1.length)).length = Y1.length - X1.length:=by rw [List.length_take]; omega
   have ld:(Y1.drop (Y1.length - X1.length)).length = X1.length:=by rw [List.length_drop]; omega
   have e0:P ++ (D1 ++ (X1 ++ (Y1 ++ (D2 ++ R)))) = (P ++ D1) ++ (X1 ++ (Y1.take (Y1.length - X1.length) ++ (Y1.drop (Y1.length - X1.length) ++ (D2 ++ R)))):=by
    conv => lhs; rw [← List.take_append_drop (Y1.length - X1.length) Y1]
    simp only [List.append_assoc]
   have e1:(P ++ D1) ++ (Y1.drop (Y1.length - X1.length) ++ (Y1.take (Y1.length - X1.length) ++ (X1 ++ (D2 ++ R)))) = P ++ (D1 ++ (Y1.drop (Y1.length - X1.length) ++ (Y1.take (Y1.length - X1.length) ++ ((X1 ++ D2) ++ R)))):=by simp
   have hlen:((P ++ D1) ++ (X1 ++ (Y1.take (Y1.length - X1.length) ++ (Y1.drop (Y1.length - X1.length) ++ (D2 ++ R))))).length = m:=by rw [← e0]; simp only [List.length_append]; omega
   rw [e0]
   refine Ze ?_;refine Zav ?_;refine Zbv ?_;refine ZcA ?_;refine ZaZ ?_;refine Z3 ?_;refine Zdq ?_;refine Zca ?_;refine Zw ?_;refine Zat ?_;refine Zcc ?_;refine ZdP ?_;refine Zb ?_;refine qg (zan L 900 (zab b (((P ++ D1) ++ (Y1.drop (Y1.length - X1.length) ++ (Y1.take (Y1.length - X1.length) ++ (X1 ++ (D2 ++ R))))).flatMap ccs ++ rest) tyC) (r:=zab b (((P ++ D1) ++ (X1 ++ (Y1.take (Y1.length - X1.length) ++ (Y1.drop (Y1.length - X1.length) ++ (D2 ++ R))))).flatMap ccs ++ rest) tyC) rfl rfl rfl rfl rfl (fun u H C hH _ hr hC => (by have h:=zqb (cap:=cap) (a:=mm - X1.length) (e:=mm + Y1.length - X1.length) (n:=X1.length) (by rw [List.length_append]; omega) (by omega) rfl ld hlen hm1 fv hH hr hC; exact h))) ?_;refine Zy ?_;refine ZL ?_;refine ZC ?_;refine Z5 ?_
   rw [e1]
   exact y9 (x:=((D1, X1), (Y1, D2))) ((D1, Y1.drop (Y1.length - X1.length)), (Y1.take (Y1.length - X1.length), X1 ++ D2)) ⟨by dsimp only; omega, by dsimp only; rw [List.length_append]; omega, by dsimp only; omega, by dsimp only; omega, by
    dsimp only
    rw [← h5]
    conv => rhs; rw [← List.take_append_drop (Y1.length - X1.length) Y1]
    simp only [List.append_assoc]⟩ (by dsimp only; omega) ⟨rfl, rfl, rfl, by dsimp only; rw [ld]; rfl, rfl, rfl, trivial⟩
abbrev ORD:Nat:=228
abbrev zka:Value:=.func (.func ORD) #[] #[]
theorem zc9 {x y:CH} {w:World} {B:Heap} (hB:B.Le (hp w)):Ret Tryz.prog ORD ([chv x.1 x.2, chv y.1 y.2] ++ []) w B (fun r _ => r = .int .i64 (zbs x.1 y.1)):=by
 refine qw Tryz.func228 rfl Tryz.ntmps228 (Nat.le_of_ble_eq_true rfl) hB ?_
 refine Zac ?_;refine Zap ?_;refine ZcM ?_;refine ZcM ?_;refine z7 (zq L rfl rfl (zn rfl) rfl rfl rfl (fun u H hH _ _ => zc6 (a:=x.1) (b:=y.1) hH)) rfl ?_;refine Zc ?_
 refine qv L (rs:=[.tmp 4]) rfl (fun _ _ h => h) Since.refl fun u H hH hle => ?_
 rfl
set_option maxHeartbeats 1000000 in
set_option maxRecDepth 20000 in
theorem ins_ret {P X R:List CH} {rest:List Value} {b m cap a e:Nat} (ha:P.length = a) (he:a + X.length = e) (hm:(P ++ (X ++ R)).length = m) (hm1:m ≤ 100000) {w:World} {B:Heap} {C:Nat → Prop} (hB:B.Le (hp w))
  (hr:(zab b ((P ++ (X ++ R)).flatMap ccs ++ rest) tyC).P B w C) (hC:∀ k, C k → k < w.heap.size ∧ B k = none) :
  zbd Tryz.prog 310 [.slice (some ⟨b, 0, none⟩) m cap, .int .i64 a, .int .i64 e, zka] w B C (zab b ((P ++ (stC X ++ R)).flatMap ccs ++ rest) tyC):=by
 unfold zbd
 refine zag 900 (zab b ((P ++ (X ++ R)).flatMap ccs ++ rest) tyC) Tryz.func310 rfl Tryz.ntmps310 (Nat.le_of_ble_eq_true rfl) hB hr hC ?_
 rw [zae]
 simp only [List.length_append] at hm
 have hst1:stC (X.take 1) = X.take 1:=by rcases X with _ | ⟨x, X⟩ <;> rfl
 refine ZbE ?_;refine ZaA ?_;refine ZS ?_
 refine zam (fun s:Nat => [(0, .is (.slice (some ⟨b, 0, none⟩) m cap)), (1, .is (.int .i64 a)), (2, .is (.int .i64 e)), (3, .is zka), (8, .is (.int .i64 (a + s:Nat))), (900, .own (zaj b ((P ++ (stC (X.take s) ++ (X.drop s ++ R))).flatMap ccs ++ rest) tyC))]) (fun s => 1 ≤ s ∧ s ≤ max X.length 1) (fun s => X.length - s) 1 ⟨Nat.le_refl _, by omega⟩ ⟨rfl, rfl, rfl, rfl, rfl, by rw [hst1, ← List.append_assoc (X.take 1), List.take_append_drop]; rfl, trivial⟩ ?_
 rintro s ⟨hs1, hs2⟩
 by_cases hlt:s < X.length
 ·obtain ⟨x, hx⟩:=zap hlt
  have hsl:(stC (X.take s)).length = s:=by rw [ze3, List.length_take]; omega
  refine Ze ?_;refine Z6 ?_;refine Zb ?_;refine ZaT ?_;refine Zm ?_;refine ZS ?_
  refine zam (fun t:List CH × List CH => [(0, .is (.slice (some ⟨b, 0, none⟩) m cap)), (1, .is (.int .i64 a)), (2, .is (.int .i64 e)), (3, .is zka), (8, .is (.int .i64 (a + s:Nat))), (9, .is (.int .i64 (a + t.1.length:Nat))), (900, .own (zaj b ((P ++ (t.1 ++ (x :: (t.2 ++ (X.drop (s + 1) ++ R))))).flatMap ccs ++ rest) tyC))])
   (fun t => t.1 ++ t.2 = stC (X.take s) ∧ ∀ z ∈ t.2, zbs x.1 z.1 < 0) (fun t => t.1.length) (stC (X.take s), []) ⟨List.append_nil _, fun z hz => (by cases hz)⟩ ⟨rfl, rfl, rfl, rfl, rfl, by dsimp only; rw [hsl]; rfl, by dsimp only; rw [zii hx]; rfl, trivial⟩ ?_
  rintro ⟨A, D⟩ ⟨hAD, hD⟩
  dsimp only at hAD hD ⊢
  have hAl:A.length + D.length = s:=by rw [← List.length_append, hAD, hsl]
  have hfin:(∀ y, A.getLast? = some y → ¬ zbs x.1 y.1 < 0) → P ++ (A ++ (x :: (D ++ (X.drop (s + 1) ++ R)))) = P ++ (stC (X.take (s + 1)) ++ (X.drop (s + 1) ++ R)):=fun h => by
   have:=z11 (k:=fun c:CH => c.1) cmpT_ord (x:=x) hAD hD h
   rw [List.take_add_one, hx]
   unfold stC
   show _ = P ++ (zla (fun c:CH => c.1) zbs (X.take s ++ [x]) ++ _)
   rw [← this]; simp
  rcases List.eq_nil_or_concat A with hA | ⟨A', y, hA⟩
  ·subst hA
   rw [hfin (fun y hy => by simp at hy), List.length_nil, Nat.add_zero]
   refine ZfX ?_;refine Zp ?_;refine ZdB ?_;refine Zee ?_;refine Zfr ?_;refine ZaW ?_;refine Za5 ?_;refine Z1 ?_;refine ZaP ?_
   exact y9 (x:=s) (s + 1) ⟨by omega, by omega⟩ (by omega) ⟨rfl, rfl, rfl, rfl, rfl, rfl, trivial⟩
  ·rw [List.concat_eq_append] at hA
   subst hA
   have hl9:(A' ++ [y]).length = A'.length + 1:=by rw [List.length_append, List.length_singleton]
   rw [hl9] at hAl
   have e0:P ++ ((A' ++ [y]) ++ (x :: (D ++ (X.drop (s + 1) ++ R)))) = (P ++ A') ++ y :: ([] ++ x :: (D ++ (X.drop (s + 1) ++ R))):=by simp
   have l1:(P ++ A').length = a + A'.length:=by rw [List.length_append, ha]
   have l2:(P ++ A').length + 1 + ([]:List CH).length = a + (A' ++ [y]).length:=by rw [l1, hl9]; rfl
   have g1:=ziz (x:=y) (y:=x) (M:=[]) (D:=D ++ (X.drop (s + 1) ++ R)) l1
   have g2:=ziy (x:=y) (y:=x) (D:=D ++ (X.drop (s + 1) ++ R)) l2
   have g3:=zrg (x:=y) (y:=x) (D:=D ++ (X.drop (s + 1) ++ R)) l1 l2
   have e1:(P ++ A') ++ x :: ([] ++ y :: (D ++ (X.drop (s + 1) ++ R))) = P ++ (A' ++ (x :: ((y :: D) ++ (X.drop (s + 1) ++ R)))):=by simp
   have hlen:((P ++ A') ++ y :: ([] ++ x :: (D ++ (X.drop (s + 1) ++ R)))).length = m:=by rw [← e0]; simp only [List.length_append, List.length_cons, List.length_nil, List.length_drop]; omega
   have hw1:IntKind.i64.wrap (((a + (A' ++ [y]).length:Nat):Int) - 1) = ((a + A'.length:Nat):Int):=zaa (by omega) (by omega) |>.trans (by omega)
   by_cases hc:zbs x.1 y.1 < 0
   ·rw [e0]
    rw [e1] at g3
    generalize (P ++ A') ++ y :: ([] ++ x :: (D ++ (X.drop (s + 1) ++ R))) = K at *
    have h1:=get_lt g1
    have h2:=get_lt g2
    have q1:=zbt (rest:=rest) g1 (0 + (a + A'.length) * 7) (by omega)
    have q2:=zbt (rest:=rest) g2 (0 + (a + (A' ++ [y]).length) * 7) (by omega)
    have s1:=zde (rest:=rest) (z:=y) h2 (0 + (a + (A' ++ [y]).length) * 7) (by omega)
    have b1:=zdf (rest:=rest) h2 (0 + (a + (A' ++ [y]).length) * 7) (by omega)
    have h3:a + A'.length < (K.set (a + (A' ++ [y]).length) y).length:=by rw [List.length_set]; exact h1
    have s2:=zde (rest:=rest) (z:=x) h3 (0 + (a + A'.length) * 7) (by omega)
    have b2:=zdf (rest:=rest) h3 (0 + (a + A'.length) * 7) (by omega)
    rw [g3] at s2
    refine ZfX ?_;refine Zp ?_;refine Zde ?_;refine Zp ?_;refine Zo ?_;refine qf (zay L (q:=900) (vs:=[_, _, _, _, _, _, _]) rfl rfl rfl rfl rfl rfl q2) rfl rfl ?_;refine Zbf ?_;refine qf (zay L (q:=900) (vs:=[_, _, _, _, _, _, _]) rfl rfl rfl rfl rfl rfl q1) rfl rfl ?_;refine z8 (zq L rfl rfl (zn rfl) rfl rfl rfl (fun u H hH _ _ => zc9 hH)) rfl ?_;refine Zcd ?_;refine Zbd ?_;refine ZaD ?_;refine q6 (id:=6) [(200046, [900]), (200050, [900]), (100051, [900]), (100052, [900])] mixed (by kernel_rfl) ?_;refine Zp ?_;refine ZeJ ?_;refine Zbf ?_;refine qf (zay L (q:=900) (vs:=[_, _, _, _, _, _, _]) rfl rfl rfl rfl rfl rfl q1) rfl rfl ?_;refine Zo ?_;refine qf (zay L (q:=900) (vs:=[_, _, _, _, _, _, _]) rfl rfl rfl rfl rfl rfl q2) rfl rfl ?_;refine Zl ?_;refine ym (qz L (q:=900) rfl rfl rfl rfl rfl rfl b1 rfl s1) rfl ?_;refine Zl ?_;refine ym (qz L (q:=900) rfl rfl rfl rfl rfl rfl b2 rfl s2) rfl ?_;refine Zcb ?_;refine ZN ?_;refine Zat ?_;refine ZX ?_
    exact y9 (x:=(A' ++ [y], D)) (A', y :: D) ⟨by rw [← hAD]; simp, fun z hz => by
     rcases List.mem_cons.1 hz with rfl | hz
     ·exact hc
     ·exact hD z hz⟩ (by dsimp only; omega) ⟨rfl, rfl, rfl, rfl, rfl, rfl, rfl, trivial⟩
   ·have hf:=hfin (fun z hz => by rw [List.getLast?_append] at hz; simp at hz; subst hz; exact hc)
    rw [e0]
    rw [e0] at hf
    have q1:=zbt (rest:=rest) g1 (0 + (a + A'.length) * 7) (by omega)
    have q2:=zbt (rest:=rest) g2 (0 + (a + (A' ++ [y]).length) * 7) (by omega)
    rw [hf] at q1 q2 ⊢
    refine ZfX ?_;refine Zp ?_;refine Zde ?_;refine Zp ?_;refine Zo ?_;refine qf (zay L (q:=900) (vs:=[_, _, _, _, _, _, _]) rfl rfl rfl rfl rfl rfl q2) rfl rfl ?_;refine Zbf ?_;refine qf (zay L (q:=900) (vs:=[_, _, _, _, _, _, _]) rfl rfl rfl rfl rfl rfl q1) rfl rfl ?_;refine z8 (zq L rfl rfl (zn rfl) rfl rfl rfl (fun u H hH _ _ => zc9 hH)) rfl ?_;refine Zed ?_;refine ZaW ?_;refine Za5 ?_;refine Z1 ?_;refine ZaP ?_
    exact y9 (x:=s) (s + 1) ⟨by omega, by omega⟩ (by omega) ⟨rfl, rfl, rfl, rfl, rfl, rfl, trivial⟩
 ·have hX:P ++ (stC (X.take s) ++ (X.drop s ++ R)) = P ++ (stC X ++ R):=by
   rw [List.take_of_length_le (by omega), List.drop_eq_nil_of_le (by omega), List.nil_append]
  rw [hX]
  refine Ze ?_;refine Z6 ?_;refine ZaX ?_;refine Zb0 ?_
  exact zau L 900 (r:=zab b _ tyC) rfl (fun _ _ h => h) Since.refl rfl rfl
end Go.V.L8
set_option maxRecDepth 20000
namespace Go.V
open Go.Proofs Go.RowKit
section
variable {α β:Type} [DecidableEq α] [DecidableEq β] {k:α → β} {c:β → β → Int}
omit [DecidableEq β] in
theorem ztp (ho:Ord3 c) {z y x:β} (h1:¬ c y z < 0) (h2:c y x < 0):c z x < 0:=by
 by_cases h3:c z y < 0
 ·exact ho.tr h3 h2
 ·have:=ho.anti y z
  rw [ho.eq z y (by omega)]; exact h2
omit [DecidableEq β] in
theorem ztm (ho:Ord3 c) {x y z:β} (h1:c y x < 0) (h2:¬ c z x < 0):c y z < 0:=by
 by_cases h3:c x z < 0
 ·exact ho.tr h1 h3
 ·have:=ho.anti x z
  rw [ho.eq z x (by omega)]; exact h1
structure SymI (k:α → β) (c:β → β → Int) (X Y:List α) (a mid lo hi s r:Nat):Prop where
 ls:lo ≤ s
 sr:s ≤ r
 rh:r ≤ hi
 bef:∀ i x y, lo ≤ i → i < s → X[i - a]? = some x → Y[mid - 1 - i]? = some y → ¬ c (k y) (k x) < 0
 aft:∀ i x y, r ≤ i → i < hi → X[i - a]? = some x → Y[mid - 1 - i]? = some y → c (k y) (k x) < 0
structure z48 (X Y:List α) (a mm e mid lo hi:Nat):Prop where
 lx:a + X.length = mm
 ly:mm + Y.length = e
 al:a ≤ lo
 nl:mid + mm ≤ lo + e
 hm:hi ≤ mid
 hx:hi ≤ mm
 lo_:lo = a ∨ mid + mm = lo + e
 hi_:hi = mm ∨ hi = mid
omit [DecidableEq α] [DecidableEq β] in
theorem SymI.start {X Y:List α} {a mid lo hi:Nat} (h:lo ≤ hi):SymI k c X Y a mid lo hi lo hi:=⟨Nat.le_refl _, h, Nat.le_refl _, fun i x y h1 h2 => by omega, fun i x y h1 h2 => by omega⟩
omit [DecidableEq α] [DecidableEq β] in
theorem SymI.up (ho:Ord3 c) {X Y:List α} (hX:Srt k c X) (hY:Srt k c Y) {a mm e mid lo hi s r i:Nat} {x y:α} (hb:z48 X Y a mm e mid lo hi) (h:SymI k c X Y a mid lo hi s r) (h1:s ≤ i) (h2:i < r) (hx:X[i - a]? = some x) (hy:Y[mid - 1 - i]? = some y) (hc:¬ c (k y) (k x) < 0):SymI k c X Y a mid lo hi (i + 1) r:=by
 obtain ⟨b1, b2, b3, b4, b5, b6, _, _⟩:=hb
 obtain ⟨i1, i2, i3, i4, i5⟩:=h
 refine ⟨by omega, by omega, i3, fun j x' y' hj hji hx' hy' hlt => hc ?_, i5⟩
 have e1:=zfg ho hX hx' hx (by omega)
 have e2:=zfg ho hY hy hy' (by omega)
 exact ztp ho e2 (ztm ho hlt e1)
omit [DecidableEq α] [DecidableEq β] in
theorem SymI.down (ho:Ord3 c) {X Y:List α} (hX:Srt k c X) (hY:Srt k c Y) {a mm e mid lo hi s r i:Nat} {x y:α} (hb:z48 X Y a mm e mid lo hi) (h:SymI k c X Y a mid lo hi s r) (h1:s ≤ i) (h2:i < r) (hx:X[i - a]? = some x) (hy:Y[mid - 1 - i]? = some y) (hc:c (k y) (k x) < 0):SymI k c X Y a mid lo hi s i:=by
 obtain ⟨b1, b2, b3, b4, b5, b6, _, _⟩:=hb
 obtain ⟨i1, i2, i3, i4, i5⟩:=h
 refine ⟨by omega, by omega, by omega, i4, fun j x' y' hj hji hx' hy' => ?_⟩
 have e1:=zfg ho hX hx hx' (by omega)
 have e2:=zfg ho hY hy' hy (by omega)
 exact ztp ho e2 (ztm ho hc e1)
theorem zx0 (ho:Ord3 c) {X Y:List α} (hX:Srt k c X) (hY:Srt k c Y) {a mm e mid lo hi s:Nat} (hb:z48 X Y a mm e mid lo hi) (h:SymI k c X Y a mid lo hi s s) :
  zla k c (X.take (s - a) ++ Y.take (mid - s)) ++ zla k c (X.drop (s - a) ++ Y.drop (mid - s)) = zla k c (X ++ Y):=by
 obtain ⟨b1, b2, b3, b4, b5, b6, b7, b8⟩:=hb
 obtain ⟨i1, i2, i3, i4, i5⟩:=h
 have hXt:X.take (s - a) ++ X.drop (s - a) = X:=List.take_append_drop _ _
 have hYt:Y.take (mid - s) ++ Y.drop (mid - s) = Y:=List.take_append_drop _ _
 have h12:∀ x ∈ X.drop (s - a), ∀ y ∈ Y.take (mid - s), c (k y) (k x) < 0:=fun x hx y hy => by
  obtain ⟨i, hi⟩:=List.getElem?_of_mem hx
  obtain ⟨j, hj⟩:=List.getElem?_of_mem hy
  have hjl:=get_lt hj
  rw [List.length_take] at hjl
  rw [List.getElem?_drop] at hi
  rw [List.getElem?_take_of_lt (by omega)] at hj
  have hil:=get_lt hi
  obtain ⟨x0, hx0⟩:=zap (l:=X) (i:=s - a) (by omega)
  obtain ⟨y0, hy0⟩:=zap (l:=Y) (i:=mid - 1 - s) (by omega)
  have h0:=i5 s x0 y0 (Nat.le_refl _) (by omega) hx0 hy0
  exact ztp ho (zfg ho hY hj hy0 (by omega)) (ztm ho h0 (zfg ho hX hx0 hi (by omega)))
 have h21:∀ x ∈ X.take (s - a), ∀ y ∈ Y.drop (mid - s), ¬ c (k y) (k x) < 0:=fun x hx y hy hlt => by
  obtain ⟨i, hi⟩:=List.getElem?_of_mem hx
  obtain ⟨j, hj⟩:=List.getElem?_of_mem hy
  have hil:=get_lt hi
  rw [List.length_take] at hil
  rw [List.getElem?_drop] at hj
  rw [List.getElem?_take_of_lt (by omega)] at hi
  have hjl:=get_lt hj
  obtain ⟨x1, hx1⟩:=zap (l:=X) (i:=s - 1 - a) (by omega)
  obtain ⟨y1, hy1⟩:=zap (l:=Y) (i:=mid - s) (by omega)
  have h0:=i4 (s - 1) x1 y1 (by omega) (by omega) hx1 (by rw [show mid - 1 - (s - 1) = mid - s by omega]; exact hy1)
  exact h0 (ztp ho (zfg ho hY hy1 hj (by omega)) (ztm ho hlt (zfg ho hX hi hx1 (by omega))))
 have:=zx6 ho (by rw [hXt]; exact hX) (by rw [hYt]; exact hY) h12 h21 (zci ho _) (zci ho _)
 rw [hXt, hYt] at this
 exact zlk ho this
theorem z1n (ho:Ord3 c) {x:α} {Y:List α} (hY:Srt k c Y) {i:Nat} (h1:∀ j z, j < i → Y[j]? = some z → c (k z) (k x) < 0) (h2:∀ j z, i ≤ j → Y[j]? = some z → ¬ c (k z) (k x) < 0) :
  Y.take i ++ x :: Y.drop i = zla k c ([x] ++ Y):=by
 have hY':Srt k c (Y.take i ++ Y.drop i):=by rw [List.take_append_drop]; exact hY
 have:=z00 ho (x:=x) hY' (fun z hz => by
  obtain ⟨j, hj⟩:=List.getElem?_of_mem hz
  have hjl:=get_lt hj
  rw [List.length_take] at hjl
  rw [List.getElem?_take_of_lt (by omega)] at hj
  exact h1 j z (by omega) hj) (fun z hz => by
  obtain ⟨j, hj⟩:=List.getElem?_of_mem hz
  rw [List.getElem?_drop] at hj
  exact h2 _ z (by omega) hj)
 rw [List.take_append_drop] at this
 exact zlk ho this
theorem z1m (ho:Ord3 c) {x:α} {X:List α} (hX:Srt k c X) {i:Nat} (h1:∀ j z, j < i → X[j]? = some z → ¬ c (k x) (k z) < 0) (h2:∀ j z, i ≤ j → X[j]? = some z → c (k x) (k z) < 0) :
  X.take i ++ x :: X.drop i = zla k c (X ++ [x]):=by
 have hX':Srt k c (X.take i ++ X.drop i):=by rw [List.take_append_drop]; exact hX
 have:=zqe ho (x:=x) hX' (fun z hz => by
  obtain ⟨j, hj⟩:=List.getElem?_of_mem hz
  have hjl:=get_lt hj
  rw [List.length_take] at hjl
  rw [List.getElem?_take_of_lt (by omega)] at hj
  exact h1 j z (by omega) hj) (fun z hz => by
  obtain ⟨j, hj⟩:=List.getElem?_of_mem hz
  rw [List.getElem?_drop] at hj
  exact h2 _ z (by omega) hj)
 rw [List.take_append_drop] at this
 exact zlk ho this
end
end Go.V
set_option maxRecDepth 20000
namespace Go.V.L8
open Go.Proofs Go.RowKit Go.V Go.V.L2 Go.V.L3 Go.V.L6
theorem zy7 {P X D:List CH} {a:Nat} (ha:P.length = a) {j:Nat} {x:CH} (h:X[j]? = some x) (i:Nat) (hi:i = a + j):(P ++ (X ++ D))[i]? = some x:=by
 subst hi ha
 have:=get_lt h
 rw [List.getElem?_append_right (by omega), show P.length + j - P.length = j by omega, List.getElem?_append_left this]; exact h
theorem z15 {P X Y D:List CH} {a mm:Nat} (ha:P.length = a) (hx:a + X.length = mm) {j:Nat} {y:CH} (h:Y[j]? = some y) (i:Nat) (hi:i = mm + j):(P ++ (X ++ (Y ++ D)))[i]? = some y:=by
 have e:P ++ (X ++ (Y ++ D)) = (P ++ X) ++ (Y ++ D):=by simp
 rw [e]
 exact zy7 (by rw [List.length_append]; omega) h i hi
abbrev z2z (l:List CH):Prop:=Srt (fun c:CH => c.1) zbs l
theorem zjc (i j:Nat):((i:Int) + (j:Int)).fdiv (2 ^ min (1:Int).toNat IntKind.u64.bits) = ((i + j) / 2:Nat):=by
 show ((i:Int) + (j:Int)).fdiv 2 = _
 rw [Int.fdiv_eq_ediv_of_nonneg _ (by decide)]
 omega
attribute [local irreducible] V N X VO Par StepOK Has Ret RetL RetO RetT zbd Src
abbrev SYM:Nat:=311
set_option maxHeartbeats 4000000 in
set_option maxRecDepth 20000 in
theorem z0x {P Y R:List CH} {x:CH} {rest:List Value} {b m cap a mm e:Nat} (ha:P.length = a) (hmm:a + 1 = mm) (he:mm + Y.length = e) (hY:z2z Y) (hm:(P ++ ([x] ++ (Y ++ R))).length = m) (hm1:m ≤ 100000) {w:World} {B:Heap} {C:Nat → Prop} (hB:B.Le (hp w))
  (hr:(zab b ((P ++ ([x] ++ (Y ++ R))).flatMap ccs ++ rest) tyC).P B w C) (hC:∀ k, C k → k < w.heap.size ∧ B k = none) :
  zbd Tryz.prog SYM [.slice (some ⟨b, 0, none⟩) m cap, .int .i64 a, .int .i64 mm, .int .i64 e, zka] w B C (zab b ((P ++ (stC ([x] ++ Y) ++ R)).flatMap ccs ++ rest) tyC):=by
 unfold zbd
 refine zag 900 (zab b ((P ++ ([x] ++ (Y ++ R))).flatMap ccs ++ rest) tyC) Tryz.func311 rfl Tryz.ntmps311 (Nat.le_of_ble_eq_true rfl) hB hr hC ?_
 rw [zae]
 have hm':=hm
 simp only [List.length_append, List.length_singleton] at hm'
 refine zj ?_;refine ZG ?_;refine Zb ?_;refine Zbx ?_;refine Z9 ?_;refine Zs ?_;refine Zbm ?_;refine Za1 ?_;refine Zd ?_;refine qe ?_
 refine zam (fun s:Nat × Nat => [(0, .is (.slice (some ⟨b, 0, none⟩) m cap)), (1, .is (.int .i64 a)), (4, .is zka), (10, .is (.int .i64 s.1)), (11, .is (.int .i64 s.2)), (900, .own (zaj b ((P ++ ([x] ++ (Y ++ R))).flatMap ccs ++ rest) tyC))])
  (fun s => mm ≤ s.1 ∧ s.1 ≤ s.2 ∧ s.2 ≤ e ∧ (∀ (j:Nat) (z:CH), j < s.1 - mm → Y[j]? = some z → zbs z.1 x.1 < 0) ∧ ∀ (j:Nat) (z:CH), s.2 - mm ≤ j → Y[j]? = some z → ¬ zbs z.1 x.1 < 0) (fun s => s.2 - s.1) (mm, e)
  ⟨Nat.le_refl _, by dsimp only; omega, Nat.le_refl _, fun j z h => (by dsimp only at h; omega), fun j z h hz => (by have:=get_lt hz; dsimp only at h; omega)⟩ ⟨rfl, rfl, rfl, rfl, rfl, rfl, trivial⟩ ?_
 rintro ⟨i, j⟩ ⟨h1, h2, h3, h4, h5⟩
 dsimp only at h1 h2 h3 h4 h5 ⊢
 by_cases hlt:i < j
 ·have hsh:=zjc i j
  obtain ⟨h, hh⟩:∃ h, (i + j) / 2 = h:=⟨_, rfl⟩
  rw [hh] at hsh
  obtain ⟨y, hy⟩:=zap (l:=Y) (show h - mm < Y.length by omega)
  have q1:=zbt (rest:=rest) (z15 (X:=[x]) (D:=R) (mm:=mm) ha hmm hy h (by omega)) (0 + h * 7) (by omega)
  have q2:=zbt (rest:=rest) (zy7 (X:=[x]) (D:=Y ++ R) ha (j:=0) rfl a (by omega)) (0 + a * 7) (by omega)
  by_cases hc:zbs y.1 x.1 < 0
  ·refine ZdV ?_;refine ZdO ?_;refine Zcu ?_;refine ZaA ?_;refine z7 (zaw rfl rfl rfl zbk.1 zbk.2 (wrap_u64 (by omega) (by omega))) rfl ?_;refine Zd7 ?_;refine z7 (zaw rfl rfl rfl zbl.1 zbl.2 (zaa (by omega) (by omega))) rfl ?_;refine Zd ?_;refine q6 (id:=5) [(200044, [900]), (200048, [900])] mixed (by kernel_rfl) ?_;refine Zef ?_;refine qf (zay L (q:=900) (vs:=[_, _, _, _, _, _, _]) rfl rfl rfl rfl rfl rfl q1) rfl rfl ?_;refine Zo ?_;refine qf (zay L (q:=900) (vs:=[_, _, _, _, _, _, _]) rfl rfl rfl rfl rfl rfl q2) rfl rfl ?_;refine z8 (zq L rfl rfl (zn rfl) rfl rfl rfl (fun u H hH _ _ => zc9 hH)) rfl ?_;refine Zcd ?_;refine ZbD ?_;refine ZJ ?_;refine ZaA ?_;refine Z5 ?_
   exact y9 (x:=(i, j)) (h + 1, j) ⟨by dsimp only; omega, by dsimp only; omega, h3, fun k z hk hz => by
    dsimp only at hk
    exact ztp cmpT_ord (zfg cmpT_ord hY hz hy (by omega)) hc, h5⟩ (by dsimp only; omega) ⟨rfl, rfl, rfl, rfl, rfl, rfl, trivial⟩
  ·refine ZdV ?_;refine ZdO ?_;refine Zcu ?_;refine ZaA ?_;refine z7 (zaw rfl rfl rfl zbk.1 zbk.2 (wrap_u64 (by omega) (by omega))) rfl ?_;refine Zd7 ?_;refine z7 (zaw rfl rfl rfl zbl.1 zbl.2 (zaa (by omega) (by omega))) rfl ?_;refine Zd ?_;refine q6 (id:=5) [(200044, [900]), (200048, [900])] mixed (by kernel_rfl) ?_;refine Zef ?_;refine qf (zay L (q:=900) (vs:=[_, _, _, _, _, _, _]) rfl rfl rfl rfl rfl rfl q1) rfl rfl ?_;refine Zo ?_;refine qf (zay L (q:=900) (vs:=[_, _, _, _, _, _, _]) rfl rfl rfl rfl rfl rfl q2) rfl rfl ?_;refine z8 (zq L rfl rfl (zn rfl) rfl rfl rfl (fun u H hH _ _ => zc9 hH)) rfl ?_;refine Zed ?_;refine Zbz ?_;refine ZO ?_;refine Z5 ?_
   exact y9 (x:=(i, j)) (i, h) ⟨h1, by dsimp only; omega, by dsimp only; omega, h4, fun k z hk hz hcx => by
    dsimp only at hk
    exact hc (ztp cmpT_ord (zfg cmpT_ord hY hy hz (by omega)) hcx)⟩ (by dsimp only; omega) ⟨rfl, rfl, rfl, rfl, rfl, rfl, trivial⟩
 ·obtain rfl:i = j:=by omega
  have hfin:=z1n (k:=fun c:CH => c.1) cmpT_ord hY h4 h5
  have hal:(Y.take (i - mm)).length = i - mm:=by rw [List.length_take]; omega
  have hYl:(Y.take (i - mm)).length + (Y.drop (i - mm)).length = Y.length:=by rw [← List.length_append, List.take_append_drop]
  have e0:P ++ ([x] ++ (Y ++ R)) = P ++ ([] ++ (x :: (Y.take (i - mm) ++ (Y.drop (i - mm) ++ R)))):=by
   rw [← List.append_assoc (Y.take _), List.take_append_drop]; rfl
  rw [e0]
  have e9:P ++ (Y.take (i - mm) ++ (x :: (Y.drop (i - mm) ++ R))) = P ++ (stC ([x] ++ Y) ++ R):=by
   unfold stC
   rw [← hfin]; simp
  generalize Y.take (i - mm) = A at *
  generalize Y.drop (i - mm) = D at *
  clear hfin h4 h5 e0
  refine ZdV ?_;refine Za8 ?_;refine zj ?_;refine ZZ ?_;refine ZS ?_
  refine zam (fun t:Nat => [(0, .is (.slice (some ⟨b, 0, none⟩) m cap)), (10, .is (.int .i64 i)), (13, .is (.int .i64 (a + t:Nat))), (900, .own (zaj b ((P ++ (A.take t ++ (x :: (A.drop t ++ (D ++ R))))).flatMap ccs ++ rest) tyC))]) (fun t => t ≤ A.length) (fun t => A.length - t) 0 (Nat.zero_le _) ⟨rfl, rfl, rfl, rfl, trivial⟩ ?_
  rintro t ht
  by_cases htl:t < A.length
  ·obtain ⟨z, hz⟩:=zap htl
   have e0:P ++ (A.take t ++ (x :: (A.drop t ++ (D ++ R)))) = (P ++ A.take t) ++ x :: ([] ++ z :: (A.drop (t + 1) ++ (D ++ R))):=by rw [zii hz]; simp
   have e1:(P ++ A.take t) ++ z :: ([] ++ x :: (A.drop (t + 1) ++ (D ++ R))) = P ++ (A.take (t + 1) ++ (x :: (A.drop (t + 1) ++ (D ++ R)))):=by rw [List.take_add_one, hz]; simp
   have l1:(P ++ A.take t).length = a + t:=by rw [List.length_append, List.length_take]; omega
   have l2:(P ++ A.take t).length + 1 + ([]:List CH).length = a + t + 1:=by rw [l1]; rfl
   have g1:=ziz (x:=x) (y:=z) (M:=[]) (D:=A.drop (t + 1) ++ (D ++ R)) l1
   have g2:=ziy (x:=x) (y:=z) (D:=A.drop (t + 1) ++ (D ++ R)) l2
   have g3:=zp6 (x:=x) (y:=z) (D:=A.drop (t + 1) ++ (D ++ R)) l1 l2
   rw [e0]
   rw [e1] at g3
   generalize (P ++ A.take t) ++ x :: ([] ++ z :: (A.drop (t + 1) ++ (D ++ R))) = K at *
   have k1:=get_lt g1
   have k2:=get_lt g2
   have hKl:a + t + 1 < m:=by
    have:a + 1 + A.length + D.length ≤ m:=by omega
    omega
   have q1:=zbt (rest:=rest) g1 (0 + (a + t) * 7) (by omega)
   have q2:=zbt (rest:=rest) g2 (0 + (a + t + 1) * 7) (by omega)
   have s1:=zde (rest:=rest) (z:=z) k1 (0 + (a + t) * 7) (by omega)
   have b1:=zdf (rest:=rest) k1 (0 + (a + t) * 7) (by omega)
   have k3:a + t + 1 < (K.set (a + t) z).length:=by rw [List.length_set]; exact k2
   have s2:=zde (rest:=rest) (z:=x) k3 (0 + (a + t + 1) * 7) (by omega)
   have b2:=zdf (rest:=rest) k3 (0 + (a + t + 1) * 7) (by omega)
   rw [g3] at s2
   have a1:IntKind.i64.wrap (((a + t:Nat):Int) + 1) = ((a + t + 1:Nat):Int):=zaa (by omega) (by omega)
   refine Ze ?_;refine Zdn ?_;refine Zbx ?_;refine ZbC ?_;refine ZaD ?_;refine q6 (id:=11) [(200070, [900]), (200074, [900]), (100075, [900]), (100076, [900])] mixed (by kernel_rfl) ?_;refine Zc1 ?_;refine Zan ?_;refine Zp ?_;refine Zan ?_;refine Zl ?_;refine qf (zay L (q:=900) (vs:=[_, _, _, _, _, _, _]) rfl rfl rfl rfl rfl rfl q2) rfl rfl ?_;refine Zo ?_;refine qf (zay L (q:=900) (vs:=[_, _, _, _, _, _, _]) rfl rfl rfl rfl rfl rfl q1) rfl rfl ?_;refine Zl ?_;refine ym (qz L (q:=900) rfl rfl rfl rfl rfl rfl b1 rfl s1) rfl ?_;refine Zl ?_;refine ym (qz L (q:=900) rfl rfl rfl rfl rfl rfl b2 rfl s2) rfl ?_;refine Zcb ?_;refine ZcJ ?_;refine Zz ?_;refine ZX ?_
   exact y9 (x:=t) (t + 1) (by omega) (by omega) ⟨rfl, rfl, rfl, rfl, trivial⟩
  ·have hA:P ++ (A.take t ++ (x :: (A.drop t ++ (D ++ R)))) = P ++ (stC ([x] ++ Y) ++ R):=by
    rw [List.take_of_length_le (by omega), List.drop_eq_nil_of_le (by omega), List.nil_append, e9]
   rw [hA]
   refine Ze ?_;refine Zdn ?_;refine Zbx ?_;refine ZI ?_;refine Zb0 ?_;refine zm ?_
   exact za4 L 900 (r:=zab b _ tyC) rfl (fun _ _ h => h) Since.refl rfl rfl
set_option maxHeartbeats 4000000 in
set_option maxRecDepth 20000 in
theorem z0y {P X R:List CH} {y:CH} {rest:List Value} {b m cap a mm e:Nat} (ha:P.length = a) (hmm:a + X.length = mm) (hx1:¬ X.length = 1) (he:mm + 1 = e) (hX:z2z X) (hm:(P ++ (X ++ ([y] ++ R))).length = m) (hm1:m ≤ 100000) {w:World} {B:Heap} {C:Nat → Prop} (hB:B.Le (hp w))
  (hr:(zab b ((P ++ (X ++ ([y] ++ R))).flatMap ccs ++ rest) tyC).P B w C) (hC:∀ k, C k → k < w.heap.size ∧ B k = none) :
  zbd Tryz.prog SYM [.slice (some ⟨b, 0, none⟩) m cap, .int .i64 a, .int .i64 mm, .int .i64 e, zka] w B C (zab b ((P ++ (stC (X ++ [y]) ++ R)).flatMap ccs ++ rest) tyC):=by
 unfold zbd
 refine zag 900 (zab b ((P ++ (X ++ ([y] ++ R))).flatMap ccs ++ rest) tyC) Tryz.func311 rfl Tryz.ntmps311 (Nat.le_of_ble_eq_true rfl) hB hr hC ?_
 rw [zae]
 have hm':=hm
 simp only [List.length_append, List.length_singleton] at hm'
 refine zj ?_;refine ZG ?_;refine Zb ?_;refine Zbx ?_;refine ZR ?_;refine ZD ?_;refine Z4 ?_;refine Zb ?_;refine Zbx ?_;refine Z9 ?_;refine Zs ?_;refine ZbI ?_;refine Zd ?_;refine Zct ?_;refine Zd ?_;refine qe ?_
 refine zam (fun s:Nat × Nat => [(0, .is (.slice (some ⟨b, 0, none⟩) m cap)), (2, .is (.int .i64 mm)), (4, .is zka), (14, .is (.int .i64 s.1)), (15, .is (.int .i64 s.2)), (900, .own (zaj b ((P ++ (X ++ ([y] ++ R))).flatMap ccs ++ rest) tyC))])
  (fun s => a ≤ s.1 ∧ s.1 ≤ s.2 ∧ s.2 ≤ mm ∧ (∀ (j:Nat) (z:CH), j < s.1 - a → X[j]? = some z → ¬ zbs y.1 z.1 < 0) ∧ ∀ (j:Nat) (z:CH), s.2 - a ≤ j → X[j]? = some z → zbs y.1 z.1 < 0) (fun s => s.2 - s.1) (a, mm)
  ⟨Nat.le_refl _, by dsimp only; omega, Nat.le_refl _, fun j z h => (by dsimp only at h; omega), fun j z h hz => (by have:=get_lt hz; dsimp only at h; omega)⟩ ⟨rfl, rfl, rfl, rfl, rfl, rfl, trivial⟩ ?_
 rintro ⟨i, j⟩ ⟨h1, h2, h3, h4, h5⟩
 dsimp only at h1 h2 h3 h4 h5 ⊢
 by_cases hlt:i < j
 ·have hsh:=zjc i j
  obtain ⟨h, hh⟩:∃ h, (i + j) / 2 = h:=⟨_, rfl⟩
  rw [hh] at hsh
  obtain ⟨x, hx⟩:=zap (l:=X) (show h - a < X.length by omega)
  have q1:=zbt (rest:=rest) (z15 (Y:=[y]) (D:=R) ha hmm (j:=0) rfl mm (by omega)) (0 + mm * 7) (by omega)
  have q2:=zbt (rest:=rest) (zy7 (D:=[y] ++ R) ha hx h (by omega)) (0 + h * 7) (by omega)
  by_cases hc:zbs y.1 x.1 < 0
  ·refine Ze ?_;refine ZT ?_;refine Zb ?_;refine ZdO ?_;refine ZaS ?_;refine Zb ?_;refine ZaA ?_;refine z7 (zaw rfl rfl rfl zbk.1 zbk.2 (wrap_u64 (by omega) (by omega))) rfl ?_;refine Zd7 ?_;refine z7 (zaw rfl rfl rfl zbl.1 zbl.2 (zaa (by omega) (by omega))) rfl ?_;refine Zd ?_;refine q6 (id:=17) [(200096, [900]), (200100, [900])] mixed (by kernel_rfl) ?_;refine Zef ?_;refine qf (zay L (q:=900) (vs:=[_, _, _, _, _, _, _]) rfl rfl rfl rfl rfl rfl q1) rfl rfl ?_;refine Zo ?_;refine qf (zay L (q:=900) (vs:=[_, _, _, _, _, _, _]) rfl rfl rfl rfl rfl rfl q2) rfl rfl ?_;refine z8 (zq L rfl rfl (zn rfl) rfl rfl rfl (fun u H hH _ _ => zc9 hH)) rfl ?_;refine Zcd ?_;refine Zae ?_;refine Zbz ?_;refine Zbr ?_;refine Za ?_;refine Z5 ?_
   exact y9 (x:=(i, j)) (i, h) ⟨h1, by dsimp only; omega, by dsimp only; omega, h4, fun k z hk hz => by
    dsimp only at hk
    exact ztm cmpT_ord hc (zfg cmpT_ord hX hx hz (by omega))⟩ (by dsimp only; omega) ⟨rfl, rfl, rfl, rfl, rfl, rfl, trivial⟩
  ·refine Ze ?_;refine ZT ?_;refine Zb ?_;refine ZdO ?_;refine ZaS ?_;refine Zb ?_;refine ZaA ?_;refine z7 (zaw rfl rfl rfl zbk.1 zbk.2 (wrap_u64 (by omega) (by omega))) rfl ?_;refine Zd7 ?_;refine z7 (zaw rfl rfl rfl zbl.1 zbl.2 (zaa (by omega) (by omega))) rfl ?_;refine Zd ?_;refine q6 (id:=17) [(200096, [900]), (200100, [900])] mixed (by kernel_rfl) ?_;refine Zef ?_;refine qf (zay L (q:=900) (vs:=[_, _, _, _, _, _, _]) rfl rfl rfl rfl rfl rfl q1) rfl rfl ?_;refine Zo ?_;refine qf (zay L (q:=900) (vs:=[_, _, _, _, _, _, _]) rfl rfl rfl rfl rfl rfl q2) rfl rfl ?_;refine z8 (zq L rfl rfl (zn rfl) rfl rfl rfl (fun u H hH _ _ => zc9 hH)) rfl ?_;refine Zed ?_;refine Zae ?_;refine ZbD ?_;refine Zb5 ?_;refine ZaA ?_;refine Z5 ?_
   exact y9 (x:=(i, j)) (h + 1, j) ⟨by dsimp only; omega, by dsimp only; omega, h3, fun k z hk hz hcx => by
    dsimp only at hk
    exact hc (ztm cmpT_ord hcx (zfg cmpT_ord hX hz hx (by omega))), h5⟩ (by dsimp only; omega) ⟨rfl, rfl, rfl, rfl, rfl, rfl, trivial⟩
 ·obtain rfl:i = j:=by omega
  have hfin:=z1m (k:=fun c:CH => c.1) cmpT_ord hX h4 h5
  have hal:(X.take (i - a)).length = i - a:=by rw [List.length_take]; omega
  have hXl:(X.take (i - a)).length + (X.drop (i - a)).length = X.length:=by rw [← List.length_append, List.take_append_drop]
  have e0:P ++ (X ++ ([y] ++ R)) = P ++ (X.take (i - a) ++ (X.drop (i - a) ++ (y :: ([] ++ R)))):=by
   rw [← List.append_assoc (X.take _), List.take_append_drop]; rfl
  rw [e0]
  have e9:P ++ (X.take (i - a) ++ (y :: (X.drop (i - a) ++ R))) = P ++ (stC (X ++ [y]) ++ R):=by
   unfold stC
   rw [← hfin]; simp
  generalize X.take (i - a) = A at *
  generalize X.drop (i - a) = D at *
  clear hfin h4 h5 e0
  have hk0:mm = i + D.length:=by omega
  refine Ze ?_;refine ZT ?_;refine Zb ?_;refine Za8 ?_;refine zj ?_;refine Zbe ?_;refine Za ?_;refine ZS ?_
  refine zam (fun t:Nat => [(0, .is (.slice (some ⟨b, 0, none⟩) m cap)), (14, .is (.int .i64 i)), (17, .is (.int .i64 (i + t:Nat))), (900, .own (zaj b ((P ++ (A ++ (D.take t ++ (y :: (D.drop t ++ R))))).flatMap ccs ++ rest) tyC))]) (fun t => t ≤ D.length) (fun t => t) D.length (Nat.le_refl _) ⟨rfl, rfl, by rw [← hk0]; rfl, by rw [List.take_length, List.drop_length]; rfl, trivial⟩ ?_
  rintro t ht
  rcases t with _ | t
  ·rw [List.take_zero, List.drop_zero, List.nil_append, e9, Nat.add_zero]
   refine Ze ?_;refine ZaH ?_;refine Zb ?_;refine Z3 ?_;refine Zb0 ?_;refine zm ?_
   exact za4 L 900 (r:=zab b _ tyC) rfl (fun _ _ h => h) Since.refl rfl rfl
  ·obtain ⟨z, hz⟩:=zap (l:=D) (show t < D.length by omega)
   have e0:P ++ (A ++ (D.take (t + 1) ++ (y :: (D.drop (t + 1) ++ R)))) = (P ++ (A ++ D.take t)) ++ z :: ([] ++ y :: (D.drop (t + 1) ++ R)):=by rw [List.take_add_one, hz]; simp
   have e1:(P ++ (A ++ D.take t)) ++ y :: ([] ++ z :: (D.drop (t + 1) ++ R)) = P ++ (A ++ (D.take t ++ (y :: (D.drop t ++ R)))):=by rw [zii hz]; simp
   have l1:(P ++ (A ++ D.take t)).length = i + t:=by rw [List.length_append, List.length_append, List.length_take]; omega
   have l2:(P ++ (A ++ D.take t)).length + 1 + ([]:List CH).length = i + (t + 1):=by rw [l1]; rfl
   have g1:=ziz (x:=z) (y:=y) (M:=[]) (D:=D.drop (t + 1) ++ R) l1
   have g2:=ziy (x:=z) (y:=y) (D:=D.drop (t + 1) ++ R) l2
   have g3:=zrg (x:=z) (y:=y) (D:=D.drop (t + 1) ++ R) l1 l2
   rw [e0]
   rw [e1] at g3
   generalize (P ++ (A ++ D.take t)) ++ z :: ([] ++ y :: (D.drop (t + 1) ++ R)) = K at *
   have k1:=get_lt g1
   have k2:=get_lt g2
   have hKl:i + (t + 1) < m:=by omega
   have q1:=zbt (rest:=rest) g1 (0 + (i + t) * 7) (by omega)
   have q2:=zbt (rest:=rest) g2 (0 + (i + (t + 1)) * 7) (by omega)
   have s1:=zde (rest:=rest) (z:=z) k2 (0 + (i + (t + 1)) * 7) (by omega)
   have b1:=zdf (rest:=rest) k2 (0 + (i + (t + 1)) * 7) (by omega)
   have k3:i + t < (K.set (i + (t + 1)) z).length:=by rw [List.length_set]; exact k1
   have s2:=zde (rest:=rest) (z:=y) k3 (0 + (i + t) * 7) (by omega)
   have b2:=zdf (rest:=rest) k3 (0 + (i + t) * 7) (by omega)
   rw [g3] at s2
   have a1:IntKind.i64.wrap (((i + (t + 1):Nat):Int) - 1) = ((i + t:Nat):Int):=zaa (by omega) (by omega) |>.trans (by omega)
   refine Ze ?_;refine ZaH ?_;refine Zby ?_;refine Z8 ?_;refine ZaD ?_;refine q6 (id:=23) [(200122, [900]), (200126, [900]), (100127, [900]), (100128, [900])] mixed (by kernel_rfl) ?_;refine Zp ?_;refine ZeJ ?_;refine Zbf ?_;refine qf (zay L (q:=900) (vs:=[_, _, _, _, _, _, _]) rfl rfl rfl rfl rfl rfl q1) rfl rfl ?_;refine Zo ?_;refine qf (zay L (q:=900) (vs:=[_, _, _, _, _, _, _]) rfl rfl rfl rfl rfl rfl q2) rfl rfl ?_;refine Zl ?_;refine ym (qz L (q:=900) rfl rfl rfl rfl rfl rfl b1 rfl s1) rfl ?_;refine Zl ?_;refine ym (qz L (q:=900) rfl rfl rfl rfl rfl rfl b2 rfl s2) rfl ?_;refine Zcb ?_;refine Zb4 ?_;refine ZdP ?_;refine ZX ?_
   exact y9 (x:=t + 1) t (by omega) (by omega) ⟨rfl, rfl, rfl, rfl, trivial⟩
end Go.V.L8
set_option maxRecDepth 20000
namespace Go.V.L8
open Go.Proofs Go.RowKit Go.V Go.V.L2 Go.V.L3 Go.V.L6
theorem zwj {l:List CH} (h:l.length = 1):∃ x, l = [x]:=by
 rcases l with _ | ⟨x, _ | ⟨y, l⟩⟩
 ·simp at h
 ·exact ⟨x, rfl⟩
 ·simp at h
theorem zmo {l:List CH} (h:z2z l):stC l = l:=zx7 cmpT_ord h
attribute [local irreducible] V N X VO Par StepOK Has Ret RetL RetO RetT zbd Src
set_option maxHeartbeats 8000000 in
set_option maxRecDepth 20000 in
theorem zuq (N0:Nat):∀ {P X Y R:List CH} {rest:List Value} {b m cap a mm e:Nat}, X.length + Y.length ≤ N0 → P.length = a → a + X.length = mm → mm + Y.length = e → 0 < X.length → 0 < Y.length → z2z X → z2z Y → (P ++ (X ++ (Y ++ R))).length = m → m ≤ 100000 → ∀ {w:World} {B:Heap} {C:Nat → Prop}, B.Le (hp w) →
  (zab b ((P ++ (X ++ (Y ++ R))).flatMap ccs ++ rest) tyC).P B w C → (∀ k, C k → k < w.heap.size ∧ B k = none) →
  zbd Tryz.prog SYM [.slice (some ⟨b, 0, none⟩) m cap, .int .i64 a, .int .i64 mm, .int .i64 e, zka] w B C (zab b ((P ++ (stC (X ++ Y) ++ R)).flatMap ccs ++ rest) tyC):=by
 induction N0 with
 | zero => intro P X Y R rest b m cap a mm e h1 h2 h3 h4 h5; omega
 | succ N0 ih =>
 intro P X Y R rest b m cap a mm e hN ha hmm he hx hy hX hY hm hm1 w B C hB hr hC
 by_cases hx1:X.length = 1
 ·obtain ⟨x, rfl⟩:=zwj hx1
  exact z0x ha (by simpa using hmm) he hY hm hm1 hB hr hC
 by_cases hy1:Y.length = 1
 ·obtain ⟨y, rfl⟩:=zwj hy1
  exact z0y ha hmm hx1 (by simpa using he) hX hm hm1 hB hr hC
 unfold zbd
 refine zag 900 (zab b ((P ++ (X ++ (Y ++ R))).flatMap ccs ++ rest) tyC) Tryz.func311 rfl Tryz.ntmps311 (Nat.le_of_ble_eq_true rfl) hB hr hC ?_
 rw [zae]
 have hm':=hm
 simp only [List.length_append] at hm'
 have hsh:=zjc a e
 obtain ⟨mid, hmid⟩:∃ mid, (a + e) / 2 = mid:=⟨_, rfl⟩
 rw [hmid] at hsh
 have hnn:IntKind.i64.wrap ((mid:Int) + (mm:Int)) = ((mid + mm:Nat):Int):=zaa (by omega) (by omega)
 refine zj ?_;refine ZG ?_;refine Zb ?_;refine Zbx ?_;refine ZR ?_;refine ZD ?_;refine Z4 ?_;refine Zb ?_;refine Zbx ?_;refine ZbW ?_;refine zh (id:=24) ?_;refine Zb ?_;refine ZaA ?_;refine z7 (zaw rfl rfl rfl zbk.1 zbk.2 (wrap_u64 (by omega) (by omega))) rfl ?_;refine Zd7 ?_;refine z7 (zaw rfl rfl rfl zbl.1 zbl.2 (zaa (by omega) (by omega))) rfl ?_;refine Zd ?_;refine zh (id:=25) ?_;refine Zcc ?_;refine Zd ?_;refine zh (id:=26) ?_;refine ZdS ?_
 refine zgw (fun s:Nat × Nat => [(0, .is (.slice (some ⟨b, 0, none⟩) m cap)), (1, .is (.int .i64 a)), (2, .is (.int .i64 mm)), (3, .is (.int .i64 e)), (4, .is zka), (18, .is (.int .i64 mid)), (19, .is (.int .i64 (mid + mm:Nat))), (20, .is (.int .i64 s.1)), (21, .is (.int .i64 s.2)), (900, .own (zaj b ((P ++ (X ++ (Y ++ R))).flatMap ccs ++ rest) tyC))]) (fun s => z48 X Y a mm e mid s.1 s.2 ∧ s.1 ≤ s.2) (fun _ => []) ?rest ?first
 case first =>
  by_cases hgt:mid < mm
  ·have hs:IntKind.i64.wrap (((mid + mm:Nat):Int) - (e:Int)) = ((mid + mm - e:Nat):Int):=zaa (by omega) (by omega) |>.trans (by omega)
   refine zh (id:=27) ?_;refine Zby ?_;refine Zs ?_;refine zh (id:=28) ?_;refine ZC ?_;refine Zc ?_;refine zh (id:=29) ?_;refine Za ?_;refine ZX ?_
   exact zbc (mid + mm - e, mid) Since.refl ⟨⟨hmm, he, by dsimp only; omega, by dsimp only; omega, Nat.le_refl _, by dsimp only; omega, .inr (by dsimp only; omega), .inr rfl⟩, by dsimp only; omega⟩ rfl ⟨rfl, rfl, rfl, rfl, rfl, rfl, rfl, rfl, rfl, rfl, trivial⟩
  ·refine zh (id:=27) ?_;refine Zb ?_;refine Z3 ?_;refine ZcD ?_;refine zh (id:=30) ?_;refine Za ?_;refine Zc ?_;refine zh (id:=31) ?_;refine Za ?_;refine ZX ?_
   exact zbc (a, mm) Since.refl ⟨⟨hmm, he, Nat.le_refl _, by dsimp only; omega, by dsimp only; omega, Nat.le_refl _, .inl rfl, .inl rfl⟩, by dsimp only; omega⟩ rfl ⟨rfl, rfl, rfl, rfl, rfl, rfl, rfl, rfl, rfl, rfl, trivial⟩
 case rest =>
 rintro ⟨lo, hi⟩ ⟨hb, hlh⟩
 dsimp only at hb hlh ⊢
 have hp:IntKind.i64.wrap (((mid + mm:Nat):Int) - 1) = ((mid + mm - 1:Nat):Int):=zaa (by omega) (by omega) |>.trans (by omega)
 refine zj ?_;refine zh (id:=32) ?_;refine ZdP ?_;refine Zd ?_;refine qe ?_
 refine zam (fun s:Nat × Nat => [(0, .is (.slice (some ⟨b, 0, none⟩) m cap)), (1, .is (.int .i64 a)), (2, .is (.int .i64 mm)), (3, .is (.int .i64 e)), (4, .is zka), (18, .is (.int .i64 mid)), (19, .is (.int .i64 (mid + mm:Nat))), (20, .is (.int .i64 s.1)), (21, .is (.int .i64 s.2)), (22, .is (.int .i64 (mid + mm - 1:Nat))), (900, .own (zaj b ((P ++ (X ++ (Y ++ R))).flatMap ccs ++ rest) tyC))])
  (fun s => SymI (fun c:CH => c.1) zbs X Y a mid lo hi s.1 s.2) (fun s => s.2 - s.1) (lo, hi) (SymI.start hlh) ⟨rfl, rfl, rfl, rfl, rfl, rfl, rfl, rfl, rfl, rfl, rfl, trivial⟩ ?_
 rintro ⟨i, j⟩ hI
 dsimp only at hI ⊢
 have hI':=hI
 have hb':=hb
 obtain ⟨b1, b2, b3, b4, b5, b6, _, _⟩:=hb'
 obtain ⟨i1, i2, i3, _, _⟩:=hI'
 by_cases hlt:i < j
 ·have hsc:=zjc i j
  obtain ⟨c, hc⟩:∃ c, (i + j) / 2 = c:=⟨_, rfl⟩
  rw [hc] at hsc
  obtain ⟨x, hxc⟩:=zap (l:=X) (show c - a < X.length by omega)
  obtain ⟨y, hyc⟩:=zap (l:=Y) (show mid - 1 - c < Y.length by omega)
  have q1:=zbt (rest:=rest) (z15 (D:=R) ha hmm hyc (mid + mm - 1 - c) (by omega)) (0 + (mid + mm - 1 - c) * 7) (by omega)
  have q2:=zbt (rest:=rest) (zy7 (D:=Y ++ R) ha hxc c (by omega)) (0 + c * 7) (by omega)
  have hpc:IntKind.i64.wrap (((mid + mm - 1:Nat):Int) - (c:Int)) = ((mid + mm - 1 - c:Nat):Int):=zaa (by omega) (by omega) |>.trans (by omega)
  by_cases hcm:zbs y.1 x.1 < 0
  ·refine Ze ?_;refine zh (id:=33) ?_;refine Zb ?_;refine ZdO ?_;refine zh (id:=34) ?_;refine Zb ?_;refine ZaA ?_;refine z7 (zaw rfl rfl rfl zbk.1 zbk.2 (wrap_u64 (by omega) (by omega))) rfl ?_;refine Zd7 ?_;refine z7 (zaw rfl rfl rfl zbl.1 zbl.2 (zaa (by omega) (by omega))) rfl ?_;refine Zd ?_;refine q6 (id:=35) [(200164, [900]), (200168, [900])] mixed (by kernel_rfl) ?_;refine Zp ?_;refine Zbf ?_;refine qf (zay L (q:=900) (vs:=[_, _, _, _, _, _, _]) rfl rfl rfl rfl rfl rfl q1) rfl rfl ?_;refine Zo ?_;refine qf (zay L (q:=900) (vs:=[_, _, _, _, _, _, _]) rfl rfl rfl rfl rfl rfl q2) rfl rfl ?_;refine z8 (zq L rfl rfl (zn rfl) rfl rfl rfl (fun u H hH _ _ => zc9 hH)) rfl ?_;refine Zcd ?_;refine Zae ?_;refine Zbz ?_;refine zh (id:=37) ?_;refine Za ?_;refine Z5 ?_
   exact y9 (x:=(i, j)) (i, c) (hI.down cmpT_ord hX hY hb (by omega) (by omega) hxc hyc hcm) (by dsimp only; omega) ⟨rfl, rfl, rfl, rfl, rfl, rfl, rfl, rfl, rfl, rfl, rfl, trivial⟩
  ·refine Ze ?_;refine zh (id:=33) ?_;refine Zb ?_;refine ZdO ?_;refine zh (id:=34) ?_;refine Zb ?_;refine ZaA ?_;refine z7 (zaw rfl rfl rfl zbk.1 zbk.2 (wrap_u64 (by omega) (by omega))) rfl ?_;refine Zd7 ?_;refine z7 (zaw rfl rfl rfl zbl.1 zbl.2 (zaa (by omega) (by omega))) rfl ?_;refine Zd ?_;refine q6 (id:=35) [(200164, [900]), (200168, [900])] mixed (by kernel_rfl) ?_;refine Zp ?_;refine Zbf ?_;refine qf (zay L (q:=900) (vs:=[_, _, _, _, _, _, _]) rfl rfl rfl rfl rfl rfl q1) rfl rfl ?_;refine Zo ?_;refine qf (zay L (q:=900) (vs:=[_, _, _, _, _, _, _]) rfl rfl rfl rfl rfl rfl q2) rfl rfl ?_;refine z8 (zq L rfl rfl (zn rfl) rfl rfl rfl (fun u H hH _ _ => zc9 hH)) rfl ?_;refine Zed ?_;refine Zae ?_;refine ZbD ?_;refine zh (id:=36) ?_;refine Za ?_;refine ZaA ?_;refine Z5 ?_
   exact y9 (x:=(i, j)) (c + 1, j) (hI.up cmpT_ord hX hY hb (by omega) (by omega) hxc hyc hcm) (by dsimp only; omega) ⟨rfl, rfl, rfl, rfl, rfl, rfl, rfl, rfl, rfl, rfl, rfl, trivial⟩
 ·obtain rfl:i = j:=by omega
  have hj:=zx0 cmpT_ord hX hY hb hI
  have hen:IntKind.i64.wrap (((mid + mm:Nat):Int) - (i:Int)) = ((mid + mm - i:Nat):Int):=zaa (by omega) (by omega) |>.trans (by omega)
  refine Ze ?_;refine zh (id:=33) ?_;refine Zb ?_;refine Za8 ?_;refine zh (id:=38) ?_;refine ZC ?_;refine Zi ?_
  have eX:X.take (i - a) ++ X.drop (i - a) = X:=List.take_append_drop _ _
  have eY:Y.take (mid - i) ++ Y.drop (mid - i) = Y:=List.take_append_drop _ _
  have lA1:(X.take (i - a)).length = i - a:=by rw [List.length_take]; omega
  have lA2:(X.drop (i - a)).length = mm - i:=by rw [List.length_drop]; omega
  have lB1:(Y.take (mid - i)).length = mid - i:=by rw [List.length_take]; omega
  have lB2:(Y.drop (mid - i)).length = e - (mid + mm - i):=by rw [List.length_drop]; omega
  generalize X.take (i - a) = A1 at *
  generalize X.drop (i - a) = A2 at *
  generalize Y.take (mid - i) = B1 at *
  generalize Y.drop (mid - i) = B2 at *
  change stC (A1 ++ B1) ++ stC (A2 ++ B2) = stC (X ++ Y) at hj
  rw [← hj]
  subst eX eY
  obtain ⟨sA1, sA2, _⟩:=zdt.1 hX
  obtain ⟨sB1, sB2, _⟩:=zdt.1 hY
  clear hI hb hj hX hY
  obtain ⟨en, hend⟩:∃ en, mid + mm - i = en:=⟨_, rfl⟩
  rw [hend] at lB2 ⊢
  have e0:P ++ ((A1 ++ A2) ++ ((B1 ++ B2) ++ R)) = (P ++ A1) ++ (A2 ++ (B1 ++ (B2 ++ R))):=by simp
  have e1:(P ++ A1) ++ (B1 ++ (A2 ++ (B2 ++ R))) = P ++ (A1 ++ (B1 ++ (A2 ++ (B2 ++ R)))):=by simp
  have hlen1:((P ++ A1) ++ (A2 ++ (B1 ++ (B2 ++ R)))).length = m:=by rw [← e0]; exact hm
  have hlen2:(P ++ (A1 ++ (B1 ++ (A2 ++ (B2 ++ R))))).length = m:=by simp only [List.length_append] at hm' ⊢; omega
  have hl3:=ze3 (A1 ++ B1)
  rw [List.length_append] at hl3
  have e3:P ++ (stC (A1 ++ B1) ++ (A2 ++ (B2 ++ R))) = (P ++ stC (A1 ++ B1)) ++ (A2 ++ (B2 ++ R)):=by simp
  have hlen3:((P ++ stC (A1 ++ B1)) ++ (A2 ++ (B2 ++ R))).length = m:=by simp only [List.length_append] at hm' ⊢; omega
  have e4:(P ++ stC (A1 ++ B1)) ++ (stC (A2 ++ B2) ++ R) = P ++ ((stC (A1 ++ B1) ++ stC (A2 ++ B2)) ++ R):=by simp
  simp only [List.length_append] at hm' hmm he hN
  refine zgw (fun _:Unit => [(0, .is (.slice (some ⟨b, 0, none⟩) m cap)), (1, .is (.int .i64 a)), (3, .is (.int .i64 e)), (4, .is zka), (18, .is (.int .i64 mid)), (20, .is (.int .i64 i)), (24, .is (.int .i64 en)), (900, .own (zaj b ((P ++ (A1 ++ (B1 ++ (A2 ++ (B2 ++ R))))).flatMap ccs ++ rest) tyC))]) (fun _ => True) (fun _ => []) ?rest1 ?first1
  case first1 =>
   rw [e0]
   by_cases h1:i < mm
   ·by_cases h2:mm < en
    ·refine zh (id:=39) ?_;refine Zc2 ?_;refine Zw ?_;refine ZY ?_;refine Zcs ?_;refine zh (id:=40) ?_;refine Zb ?_;refine Zw ?_;refine qg (zan L 900 (zab b (((P ++ A1) ++ (B1 ++ (A2 ++ (B2 ++ R)))).flatMap ccs ++ rest) tyC) (r:=zab b (((P ++ A1) ++ (A2 ++ (B1 ++ (B2 ++ R)))).flatMap ccs ++ rest) tyC) rfl rfl rfl rfl rfl (fun u H C hH _ hr hC => (by have h:=z06 (cap:=cap) (a:=i) (mm:=mm) (e:=en) (by rw [List.length_append]; omega) (by omega) (by omega) (by omega) (by omega) hlen1 hm1 zka hH hr hC; exact h))) ?_;refine zk ?_
     rw [e1]
     exact zbc () Since.refl trivial rfl ⟨rfl, rfl, rfl, rfl, rfl, rfl, rfl, rfl, trivial⟩
    ·have hB1:B1 = []:=List.eq_nil_of_length_eq_zero (by omega)
     subst hB1
     have e9:(P ++ A1) ++ (A2 ++ ([] ++ (B2 ++ R))) = P ++ (A1 ++ ([] ++ (A2 ++ (B2 ++ R)))):=by simp
     rw [e9]
     refine zh (id:=39) ?_;refine Zc2 ?_;refine Zw ?_;refine ZI ?_;refine Zf ?_;refine Zab ?_
     exact zbc () Since.refl trivial rfl ⟨rfl, rfl, rfl, rfl, rfl, rfl, rfl, rfl, trivial⟩
   ·have hA2:A2 = []:=List.eq_nil_of_length_eq_zero (by omega)
    subst hA2
    have e9:(P ++ A1) ++ ([] ++ (B1 ++ (B2 ++ R))) = P ++ (A1 ++ (B1 ++ ([] ++ (B2 ++ R)))):=by simp
    rw [e9]
    refine zh (id:=39) ?_;refine ZaX ?_;refine Zak ?_;refine Zab ?_
    exact zbc () Since.refl trivial rfl ⟨rfl, rfl, rfl, rfl, rfl, rfl, rfl, rfl, trivial⟩
  case rest1 =>
  rintro _ _
  refine Ze ?_
  refine zgw (fun _:Unit => [(0, .is (.slice (some ⟨b, 0, none⟩) m cap)), (3, .is (.int .i64 e)), (4, .is zka), (18, .is (.int .i64 mid)), (24, .is (.int .i64 en)), (900, .own (zaj b (((P ++ stC (A1 ++ B1)) ++ (A2 ++ (B2 ++ R))).flatMap ccs ++ rest) tyC))]) (fun _ => True) (fun _ => []) ?rest2 ?first2
  case first2 =>
   rw [← e3]
   by_cases h1:a < i
   ·by_cases h2:i < mid
    ·refine zh (id:=41) ?_;refine Zc2 ?_;refine Zw ?_;refine ZY ?_;refine Zcs ?_;refine zh (id:=42) ?_;refine Zb ?_;refine Zw ?_;refine qg (zan L 900 (zab b ((P ++ (stC (A1 ++ B1) ++ (A2 ++ (B2 ++ R)))).flatMap ccs ++ rest) tyC) (r:=zab b ((P ++ (A1 ++ (B1 ++ (A2 ++ (B2 ++ R))))).flatMap ccs ++ rest) tyC) rfl rfl rfl rfl rfl (fun u H C hH _ hr hC => (by have h:=ih (cap:=cap) (a:=a) (mm:=i) (e:=mid) (by omega) ha (by omega) (by omega) (by omega) (by omega) sA1 sB1 hlen2 hm1 hH hr hC; exact h))) ?_;refine zk ?_
     exact zbc () Since.refl trivial rfl ⟨rfl, rfl, rfl, rfl, rfl, rfl, trivial⟩
    ·have hB1:B1 = []:=List.eq_nil_of_length_eq_zero (by omega)
     subst hB1
     have e9:P ++ (A1 ++ ([] ++ (A2 ++ (B2 ++ R)))) = P ++ (stC (A1 ++ []) ++ (A2 ++ (B2 ++ R))):=by rw [List.append_nil, zmo sA1]; rfl
     rw [e9]
     refine zh (id:=41) ?_;refine Zc2 ?_;refine Zw ?_;refine ZI ?_;refine Zf ?_;refine Zab ?_
     exact zbc () Since.refl trivial rfl ⟨rfl, rfl, rfl, rfl, rfl, rfl, trivial⟩
   ·have hA1:A1 = []:=List.eq_nil_of_length_eq_zero (by omega)
    subst hA1
    have e9:P ++ ([] ++ (B1 ++ (A2 ++ (B2 ++ R)))) = P ++ (stC ([] ++ B1) ++ (A2 ++ (B2 ++ R))):=by rw [List.nil_append, List.nil_append, zmo sB1]
    rw [e9]
    refine zh (id:=41) ?_;refine ZaX ?_;refine Zak ?_;refine Zab ?_
    exact zbc () Since.refl trivial rfl ⟨rfl, rfl, rfl, rfl, rfl, rfl, trivial⟩
  case rest2 =>
  rintro _ _
  by_cases h1:mid < en
  ·by_cases h2:en < e
   ·refine zj ?_;refine zh (id:=43) ?_;refine Zc2 ?_;refine Zw ?_;refine ZY ?_;refine Zcs ?_;refine zh (id:=44) ?_;refine Zb ?_;refine Zw ?_;refine qg (zan L 900 (zab b (((P ++ stC (A1 ++ B1)) ++ (stC (A2 ++ B2) ++ R)).flatMap ccs ++ rest) tyC) (r:=zab b (((P ++ stC (A1 ++ B1)) ++ (A2 ++ (B2 ++ R))).flatMap ccs ++ rest) tyC) rfl rfl rfl rfl rfl (fun u H C hH _ hr hC => (by have h:=ih (cap:=cap) (a:=mid) (mm:=en) (e:=e) (by omega) (by rw [List.length_append]; omega) (by omega) (by omega) (by omega) (by omega) sA2 sB2 hlen3 hm1 hH hr hC; exact h))) ?_;refine zk ?_
    rw [e4]
    exact zau L 900 (r:=zab b _ tyC) rfl (fun _ _ h => h) Since.refl rfl rfl
   ·have hB2:B2 = []:=List.eq_nil_of_length_eq_zero (by omega)
    subst hB2
    have e9:(P ++ stC (A1 ++ B1)) ++ (A2 ++ ([] ++ R)) = P ++ ((stC (A1 ++ B1) ++ stC (A2 ++ [])) ++ R):=by rw [List.append_nil, zmo sA2]; simp
    rw [e9]
    refine zj ?_;refine zh (id:=43) ?_;refine Zc2 ?_;refine Zw ?_;refine ZI ?_;refine Zf ?_;refine Zab ?_
    exact zau L 900 (r:=zab b _ tyC) rfl (fun _ _ h => h) Since.refl rfl rfl
  ·have hA2:A2 = []:=List.eq_nil_of_length_eq_zero (by omega)
   subst hA2
   have e9:(P ++ stC (A1 ++ B1)) ++ ([] ++ (B2 ++ R)) = P ++ ((stC (A1 ++ B1) ++ stC ([] ++ B2)) ++ R):=by rw [List.nil_append, List.nil_append, zmo sB2]; simp
   rw [e9]
   refine zj ?_;refine zh (id:=43) ?_;refine ZaX ?_;refine Zak ?_;refine Zab ?_
   exact zau L 900 (r:=zab b _ tyC) rfl (fun _ _ h => h) Since.refl rfl rfl
end Go.V.L8
set_option maxRecDepth 20000
namespace Go.V.L8
open Go.Proofs Go.RowKit Go.V Go.V.L2 Go.V.L3 Go.V.L6
abbrev chC (n:Nat) (l:List CH):List CH:=chL (fun c:CH => c.1) zbs n l
theorem zjg {n:Nat} (hn:0 < n) (l:List CH):chC n l = stC (l.take n) ++ chC n (l.drop n):=zns hn l
theorem zh6 {n:Nat} (hn:0 < n) {l:List CH} (h:l.length ≤ n):chC n l = stC l:=z2d hn h
theorem z2e {n:Nat} (hn:0 < n) (l:List CH):(chC n l).length = l.length:=zw7 cmpT_ord hn l.length (Nat.le_refl _)
theorem zuw (X Y:List CH):stC (stC X ++ stC Y) = stC (X ++ Y):=zx9 cmpT_ord X Y
theorem zi2 (X:List CH):z2z (stC X):=(zci cmpT_ord X).1
attribute [local irreducible] V N X VO Par StepOK Has Ret RetL RetO RetT zbd Src
set_option maxHeartbeats 8000000 in
set_option maxRecDepth 20000 in
theorem zya {l:List CH} {rest:List Value} {b m cap:Nat} (hm:l.length = m) (hm1:m ≤ 100000) {w:World} {B:Heap} {C:Nat → Prop} (hB:B.Le (hp w))
  (hr:(zab b (l.flatMap ccs ++ rest) tyC).P B w C) (hC:∀ k, C k → k < w.heap.size ∧ B k = none) :
  zbd Tryz.prog 281 [.slice (some ⟨b, 0, none⟩) m cap, .int .i64 m, zka] w B C (zab b ((stC l).flatMap ccs ++ rest) tyC):=by
 unfold zbd
 refine zag 900 (zab b (l.flatMap ccs ++ rest) tyC) Tryz.func281 rfl Tryz.ntmps281 (Nat.le_of_ble_eq_true rfl) hB hr hC ?_
 rw [zae]
 refine Zbl ?_;refine Za2 ?_;refine qe ?_
 refine zam (fun s:Nat × List CH => [(0, .is (.slice (some ⟨b, 0, none⟩) m cap)), (1, .is (.int .i64 m)), (2, .is zka), (6, .is (.int .i64 20)), (7, .is (.int .i64 s.1)), (8, .is (.int .i64 (s.1 + 20:Nat))), (900, .own (zaj b ((s.2 ++ l.drop s.1).flatMap ccs ++ rest) tyC))])
  (fun s => s.2.length = s.1 ∧ s.1 ≤ m ∧ s.2 ++ chC 20 (l.drop s.1) = chC 20 l) (fun s => m - s.1) (0, []) ⟨rfl, Nat.zero_le _, rfl⟩ ⟨rfl, rfl, rfl, rfl, rfl, rfl, rfl, trivial⟩ ?_
 rintro ⟨a, S1⟩ ⟨h1, h2, h3⟩
 dsimp only at h1 h2 h3 ⊢
 have hdl:(l.drop a).length = m - a:=by rw [List.length_drop, hm]
 by_cases hlt:a + 20 ≤ m
 ·have e0:S1 ++ l.drop a = S1 ++ ((l.drop a).take 20 ++ (l.drop a).drop 20):=by rw [List.take_append_drop]
  have e1:S1 ++ (stC ((l.drop a).take 20) ++ (l.drop a).drop 20) = (S1 ++ stC ((l.drop a).take 20)) ++ l.drop (a + 20):=by rw [List.drop_drop, List.append_assoc]
  have hlen:(S1 ++ ((l.drop a).take 20 ++ (l.drop a).drop 20)).length = m:=by rw [← e0, List.length_append]; omega
  have ltk:((l.drop a).take 20).length = 20:=by rw [List.length_take]; omega
  have a1:IntKind.i64.wrap (((a + 20:Nat):Int) + 20) = ((a + 20 + 20:Nat):Int):=zaa (by omega) (by omega)
  rw [e0]
  refine Ze ?_;refine Zav ?_;refine Zbk ?_;refine ZcA ?_;refine ZaZ ?_;refine Zb ?_;refine qg (zan L 900 (zab b ((S1 ++ (stC ((l.drop a).take 20) ++ (l.drop a).drop 20)).flatMap ccs ++ rest) tyC) (r:=zab b ((S1 ++ ((l.drop a).take 20 ++ (l.drop a).drop 20)).flatMap ccs ++ rest) tyC) rfl rfl rfl rfl rfl (fun u H C hH _ hr hC => (by have h:=ins_ret (cap:=cap) (a:=a) (e:=a + 20) h1 (by omega) hlen hm1 hH hr hC; exact h))) ?_;refine Zj ?_;refine Zk ?_;refine Zc ?_;refine Z2 ?_;refine Zcc ?_;refine Z5 ?_
  rw [e1]
  exact y9 (x:=(a, S1)) (a + 20, S1 ++ stC ((l.drop a).take 20)) ⟨by dsimp only; rw [List.length_append, ze3]; omega, hlt, by
   dsimp only
   rw [← h3, zjg (by omega) (l.drop a), List.drop_drop, List.append_assoc]⟩ (by dsimp only; omega) ⟨rfl, rfl, rfl, rfl, rfl, rfl, rfl, trivial⟩
 ·have e0:S1 ++ l.drop a = S1 ++ (l.drop a ++ []):=by rw [List.append_nil]
  have e1:S1 ++ (stC (l.drop a) ++ []) = chC 20 l:=by rw [List.append_nil, ← h3, zh6 (by omega) (by omega)]
  have hlen:(S1 ++ (l.drop a ++ [])).length = m:=by rw [← e0, List.length_append]; omega
  rw [e0]
  refine Ze ?_;refine Zav ?_;refine Zb8 ?_;refine Zba ?_;refine ZQ ?_;refine Zah ?_;refine qg (zan L 900 (zab b ((S1 ++ (stC (l.drop a) ++ [])).flatMap ccs ++ rest) tyC) (r:=zab b ((S1 ++ (l.drop a ++ [])).flatMap ccs ++ rest) tyC) rfl rfl rfl rfl rfl (fun u H C hH _ hr hC => (by have h:=ins_ret (cap:=cap) (a:=a) (e:=m) h1 (by omega) hlen hm1 hH hr hC; exact h))) ?_;refine ZbL ?_
  rw [e1]
  clear e0 e1 hlen hlt hdl h1 h2 h3
  refine zam (fun s:Nat => [(0, .is (.slice (some ⟨b, 0, none⟩) m cap)), (1, .is (.int .i64 m)), (2, .is zka), (6, .is (.int .i64 s)), (900, .own (zaj b ((chC s l).flatMap ccs ++ rest) tyC))]) (fun s => 0 < s ∧ s ≤ 20 + 2 * m) (fun s => m - s) 20 ⟨by omega, by omega⟩ ⟨rfl, rfl, rfl, rfl, rfl, trivial⟩ ?_
  rintro s ⟨hs0, hs1⟩
  by_cases hsm:s < m
  ·refine ZcR ?_;refine Zb ?_;refine ZdO ?_;refine ZZ ?_;refine ZeB ?_;refine Za2 ?_;refine qe ?_
   refine zam (fun t:Nat × List CH => [(0, .is (.slice (some ⟨b, 0, none⟩) m cap)), (1, .is (.int .i64 m)), (2, .is zka), (6, .is (.int .i64 s)), (7, .is (.int .i64 t.1)), (8, .is (.int .i64 (t.1 + 2 * s:Nat))), (900, .own (zaj b ((t.2 ++ chC s (l.drop t.1)).flatMap ccs ++ rest) tyC))])
    (fun t => t.2.length = t.1 ∧ t.1 ≤ m ∧ t.2 ++ chC (2 * s) (l.drop t.1) = chC (2 * s) l) (fun t => m - t.1) (0, []) ⟨rfl, Nat.zero_le _, rfl⟩ ⟨rfl, rfl, rfl, rfl, rfl, by dsimp only; rw [Nat.zero_add]; rfl, rfl, trivial⟩ ?_
   rintro ⟨a, S1⟩ ⟨h1, h2, h3⟩
   dsimp only at h1 h2 h3 ⊢
   have hdl:(l.drop a).length = m - a:=by rw [List.length_drop, hm]
   have hcs:=zjg hs0 (l.drop a)
   by_cases hlt:a + 2 * s ≤ m
   ·have hcs2:=zjg hs0 ((l.drop a).drop s)
    have e0:S1 ++ chC s (l.drop a) = S1 ++ (stC ((l.drop a).take s) ++ (stC (((l.drop a).drop s).take s) ++ chC s (l.drop (a + 2 * s)))):=by
     rw [hcs, hcs2, List.drop_drop, List.drop_drop, show a + s + s = a + 2 * s by omega]
    have ht2:(l.drop a).take (2 * s) = (l.drop a).take s ++ ((l.drop a).drop s).take s:=by rw [show 2 * s = s + s by omega, List.take_add]
    have e1:S1 ++ (stC (stC ((l.drop a).take s) ++ stC (((l.drop a).drop s).take s)) ++ chC s (l.drop (a + 2 * s))) = (S1 ++ stC ((l.drop a).take (2 * s))) ++ chC s (l.drop (a + 2 * s)):=by rw [zuw, ← ht2, List.append_assoc]
    have l1:(stC ((l.drop a).take s)).length = s:=by rw [ze3, List.length_take]; omega
    have l2:(stC (((l.drop a).drop s).take s)).length = s:=by rw [ze3, List.length_take, List.length_drop]; omega
    have l3:(chC s (l.drop (a + 2 * s))).length = m - (a + 2 * s):=by rw [z2e hs0, List.length_drop, hm]
    have hlen:(S1 ++ (stC ((l.drop a).take s) ++ (stC (((l.drop a).drop s).take s) ++ chC s (l.drop (a + 2 * s))))).length = m:=by simp only [List.length_append]; omega
    have a1:IntKind.i64.wrap ((a:Int) + (s:Int)) = ((a + s:Nat):Int):=zaa (by omega) (by omega)
    have a2:IntKind.i64.wrap (((a + 2 * s:Nat):Int) + 2 * (s:Int)) = ((a + 2 * s + 2 * s:Nat):Int):=zaa (by omega) (by omega)
    rw [e0]
    refine Ze ?_;refine Zdn ?_;refine Zbk ?_;refine ZcA ?_;refine Zay ?_;refine Zah ?_;refine Zz ?_;refine Zb ?_;refine qg (zan L 900 (zab b ((S1 ++ (stC (stC ((l.drop a).take s) ++ stC (((l.drop a).drop s).take s)) ++ chC s (l.drop (a + 2 * s)))).flatMap ccs ++ rest) tyC) (r:=zab b ((S1 ++ (stC ((l.drop a).take s) ++ (stC (((l.drop a).drop s).take s) ++ chC s (l.drop (a + 2 * s))))).flatMap ccs ++ rest) tyC) rfl rfl rfl rfl rfl (fun u H C hH _ hr hC => (by have h:=zuq _ (cap:=cap) (a:=a) (mm:=a + s) (e:=a + 2 * s) (Nat.le_refl _) h1 (by omega) (by omega) (by omega) (by omega) (zi2 _) (zi2 _) hlen hm1 hH hr hC; exact h))) ?_;refine Zj ?_;refine ZbH ?_;refine Zc ?_;refine Z4 ?_;refine Zb ?_;refine Zeg ?_;refine Z5 ?_
    rw [e1]
    exact y9 (x:=(a, S1)) (a + 2 * s, S1 ++ stC ((l.drop a).take (2 * s))) ⟨by dsimp only; rw [List.length_append, ze3, List.length_take]; omega, hlt, by
     dsimp only
     rw [← h3, zjg (by omega) (l.drop a), List.drop_drop, List.append_assoc]⟩ (by dsimp only; omega) ⟨rfl, rfl, rfl, rfl, rfl, rfl, rfl, trivial⟩
   ·have a1:IntKind.i64.wrap ((a:Int) + (s:Int)) = ((a + s:Nat):Int):=zaa (by omega) (by omega)
    have a2:IntKind.i64.wrap ((s:Int) * 2) = ((2 * s:Nat):Int):=zaa (by omega) (by omega) |>.trans (by omega)
    by_cases hlm:a + s < m
    ·have e0:S1 ++ chC s (l.drop a) = S1 ++ (stC ((l.drop a).take s) ++ (stC ((l.drop a).drop s) ++ [])):=by
      rw [hcs, zh6 hs0 (l:=(l.drop a).drop s) (by rw [List.length_drop]; omega), List.append_nil]
     have e1:S1 ++ (stC (stC ((l.drop a).take s) ++ stC ((l.drop a).drop s)) ++ []) = chC (2 * s) l:=by
      rw [zuw, List.take_append_drop, List.append_nil, ← h3, zh6 (n:=2 * s) (by omega) (by omega)]
     have l1:(stC ((l.drop a).take s)).length = s:=by rw [ze3, List.length_take]; omega
     have l2:(stC ((l.drop a).drop s)).length = m - a - s:=by rw [ze3, List.length_drop]; omega
     have hlen:(S1 ++ (stC ((l.drop a).take s) ++ (stC ((l.drop a).drop s) ++ []))).length = m:=by simp only [List.length_append, List.length_nil]; omega
     rw [e0]
     refine Ze ?_;refine Zdn ?_;refine Zb8 ?_;refine Zba ?_;refine zj ?_;refine ZbB ?_;refine Zcc ?_;refine Zd ?_;refine Zaz ?_;refine Zb ?_;refine ZbC ?_;refine ZT ?_;refine Zb ?_;refine Zw ?_;refine qg (zan L 900 (zab b ((S1 ++ (stC (stC ((l.drop a).take s) ++ stC ((l.drop a).drop s)) ++ [])).flatMap ccs ++ rest) tyC) (r:=zab b ((S1 ++ (stC ((l.drop a).take s) ++ (stC ((l.drop a).drop s) ++ []))).flatMap ccs ++ rest) tyC) rfl rfl rfl rfl rfl (fun u H C hH _ hr hC => (by have h:=zuq _ (cap:=cap) (a:=a) (mm:=a + s) (e:=m) (Nat.le_refl _) h1 (by omega) (by omega) (by omega) (by omega) (zi2 _) (zi2 _) hlen hm1 hH hr hC; exact h))) ?_;refine Zy ?_;refine ZbF ?_;refine z7 (zvp rfl rfl rfl rfl a2) rfl ?_;refine Z5 ?_
     rw [e1]
     exact y9 (x:=s) (2 * s) ⟨by omega, by omega⟩ (by omega) ⟨rfl, rfl, rfl, rfl, rfl, trivial⟩
    ·have e1:S1 ++ chC s (l.drop a) = chC (2 * s) l:=by
      rw [← h3, zh6 hs0 (by omega), zh6 (n:=2 * s) (by omega) (by omega)]
     rw [e1]
     refine Ze ?_;refine Zdn ?_;refine Zb8 ?_;refine Zba ?_;refine zj ?_;refine ZbB ?_;refine Zcc ?_;refine Zd ?_;refine Zaz ?_;refine ZaX ?_;refine Zdb ?_;refine ZbF ?_;refine z7 (zvp rfl rfl rfl rfl a2) rfl ?_;refine Z5 ?_
     exact y9 (x:=s) (2 * s) ⟨by omega, by omega⟩ (by omega) ⟨rfl, rfl, rfl, rfl, rfl, trivial⟩
  ·rw [zh6 hs0 (by omega)]
   refine ZcR ?_;refine ZaX ?_;refine Zb0 ?_
   exact zau L 900 (r:=zab b _ tyC) rfl (fun _ _ h => h) Since.refl rfl rfl
abbrev SSF:Nat:=229
set_option maxHeartbeats 1000000 in
set_option maxRecDepth 20000 in
theorem zu1 {l:List CH} {rest:List Value} {b m cap:Nat} (hm:l.length = m) (hm1:m ≤ 100000) {w:World} {B:Heap} {C:Nat → Prop} (hB:B.Le (hp w))
  (hr:(zab b (l.flatMap ccs ++ rest) tyC).P B w C) (hC:∀ k, C k → k < w.heap.size ∧ B k = none) :
  zbd Tryz.prog SSF [.slice (some ⟨b, 0, none⟩) m cap, zka] w B C (zab b ((stC l).flatMap ccs ++ rest) tyC):=by
 unfold zbd
 refine zag 900 (zab b (l.flatMap ccs ++ rest) tyC) Tryz.func229 rfl Tryz.ntmps229 (Nat.le_of_ble_eq_true rfl) hB hr hC ?_
 rw [zae]
 refine ZfJ ?_;refine Zb ?_;refine Zd4 ?_;refine Za ?_;refine qg (zan L 900 (zab b ((stC l).flatMap ccs ++ rest) tyC) (r:=zab b (l.flatMap ccs ++ rest) tyC) rfl rfl rfl rfl rfl (fun u H C hH _ hr hC => (by have h:=zya (cap:=cap) hm hm1 hH hr hC; exact h))) ?_;refine zk ?_
 exact zau L 900 (r:=zab b _ tyC) rfl (fun _ _ h => h) Since.refl rfl rfl
set_option maxRecDepth 20000 in
theorem zy4 {w:World} {B:Heap} (hB:B.Le (hp w)):Ret Tryz.prog 310 [.slice none 0 0, .int .i64 0, .int .i64 0, zka] w B (fun _ _ => True):=by
 refine qw Tryz.func310 rfl Tryz.ntmps310 (Nat.le_of_ble_eq_true rfl) hB ?_
 refine ZbE ?_;refine ZaA ?_;refine ZS ?_
 refine zam (fun _:Nat => [(2, .is (.int .i64 0)), (8, .is (.int .i64 1))]) (fun _ => True) (fun s => s) 0 trivial ⟨rfl, rfl, trivial⟩ ?_
 rintro s _
 refine Ze ?_;refine Z6 ?_;refine ZaX ?_;refine Zb0 ?_
 exact zxh L rfl (fun _ _ h => h) Since.refl
set_option maxRecDepth 20000 in
theorem zuv {w:World} {B:Heap} (hB:B.Le (hp w)):Ret Tryz.prog 281 [.slice none 0 0, .int .i64 0, zka] w B (fun _ _ => True):=by
 refine qw Tryz.func281 rfl Tryz.ntmps281 (Nat.le_of_ble_eq_true rfl) hB ?_
 refine Zbl ?_;refine Za2 ?_;refine qe ?_
 refine zam (fun _:Nat => [(0, .is (.slice none 0 0)), (1, .is (.int .i64 0)), (2, .is zka), (6, .is (.int .i64 20)), (7, .is (.int .i64 0)), (8, .is (.int .i64 20))]) (fun _ => True) (fun s => s) 0 trivial ⟨rfl, rfl, rfl, rfl, rfl, rfl, trivial⟩ ?_
 rintro s _
 refine Ze ?_;refine Zav ?_;refine Zb8 ?_;refine Zba ?_;refine ZQ ?_;refine Zah ?_;refine z7 (zai (φ:=fun _ _ => True) L rfl rfl (zn rfl) rfl rfl rfl (fun _ _ _ _ _ => trivial) (fun u H hH _ _ => zy4 hH)) rfl ?_;refine ZbL ?_
 refine zam (fun _:Nat => [(1, .is (.int .i64 0)), (6, .is (.int .i64 20))]) (fun _ => True) (fun s => s) 0 trivial ⟨rfl, rfl, trivial⟩ ?_
 rintro s _
 refine ZcR ?_;refine ZaX ?_;refine Zb0 ?_
 exact zxh L rfl (fun _ _ h => h) Since.refl
set_option maxRecDepth 20000 in
theorem zs7 {w:World} {B:Heap} (hB:B.Le (hp w)):Ret Tryz.prog SSF [.slice none 0 0, zka] w B (fun _ _ => True):=by
 refine qw Tryz.func229 rfl Tryz.ntmps229 (Nat.le_of_ble_eq_true rfl) hB ?_
 refine ZfJ ?_;refine Zb ?_;refine Zd4 ?_;refine Za ?_;refine z7 (zai (φ:=fun _ _ => True) L rfl rfl (zn rfl) rfl rfl rfl (fun _ _ _ _ _ => trivial) (fun u H hH _ _ => zuv hH)) rfl ?_;refine zk ?_
 exact zxh L rfl (fun _ _ h => h) Since.refl
end Go.V.L8
set_option maxRecDepth 20000
namespace Go.V.L8
open Go.Proofs Go.RowKit Go.V Go.V.L2 Go.V.L3 Go.V.L6
theorem zy2 (l:List CH):zfa (stC l) = zki l:=zwp (zci cmpT_ord l)
theorem zpg:∀ (l:List CH), (zfa l).length ≤ l.length
 | [] => Nat.le_refl _
 | [c] => Nat.le_refl _
 | c :: d :: r => by
  show (if zbs c.1 d.1 = 0 then zfa (d :: r) else c :: zfa (d :: r)).length ≤ _
  have:=zpg (d :: r)
  split
  ·simp only [List.length_cons] at this ⊢; omega
  ·simp only [List.length_cons] at this ⊢; omega
attribute [local irreducible] V N X VO Par StepOK Has Ret RetL RetO RetT zbd Src
set_option maxHeartbeats 1000000 in
theorem zty {l:List CH} {fu:Bool} (hz:l.length ≤ 100000) {v:Value} {w:World} {B:Heap} (hB:B.Le (hp w)) (hv:KS tyC l fu v B) :
  RetO Tryz.prog 227 [v] w B (SlR tyC 7 l.length (l.flatMap ccs)):=by
 have hv0:=hv
 have hlen:=zl8 l
 have hpl:=zzd l
 obtain ⟨p, c, rfl⟩:=zce hv
 rcases p with _ | b
 ·obtain ⟨h0, rfl⟩:l.length = 0 ∧ c = 0:=zrk hv
  have hn:l = []:=List.eq_nil_of_length_eq_zero h0
  subst hn
  refine zcx Tryz.func227 rfl Tryz.ntmps227 (Nat.le_of_ble_eq_true rfl) hB ?_
  refine Zbg ?_;refine z7 (zcl rfl rfl rfl rfl z6f rfl) rfl ?_;refine Zck ?_
  refine zgm 2 tyC 7 rfl ?_
  exact zf2 rfl (fun _ _ h => h) Since.refl rfl
 ·refine zcx Tryz.func227 rfl Tryz.ntmps227 (Nat.le_of_ble_eq_true rfl) hB ?_
  refine Zbg ?_;refine z7 (zcl rfl rfl rfl rfl z6f rfl) rfl ?_;refine Zq ?_
  refine zbf 0 (KS tyC l fu) rfl SlV.mono hv0 ?_
  refine Zx ?_;refine z7 (zgj L rfl rfl rfl rfl rfl) rfl ?_;refine Zh ?_;refine qg (zb1 L rfl rfl rfl (z2l rfl) rfl z2y (by assumption) (by assumption) (by omega) (by omega)) ?_;refine qg (zaf (.inr rfl) rfl rfl rfl rfl) ?_;refine Zy ?_
  rw [Nat.zero_add, List.nil_append]
  exact zf2 rfl (fun _ _ h => h) Since.refl rfl
set_option maxHeartbeats 8000000 in
set_option maxRecDepth 20000 in
theorem zq1 {l m:List CH} {fu:Bool} (hm:zki l = m) (hz:l.length ≤ 50000) {v:Value} {w:World} {B:Heap} (hB:B.Le (hp w)) (hv:KS tyC l fu v B) :
  Ret Tryz.prog 156 [v] w B (KS tyC m true):=by
 subst hm
 have hsl:=ze3 l
 refine qw Tryz.func156 rfl Tryz.ntmps156 (Nat.le_of_ble_eq_true rfl) hB ?_
 refine zbf 0 (KS tyC l fu) rfl SlV.mono hv ?_
 refine Zaq ?_;refine Zh ?_;refine z7 (zck L rfl rfl (zn rfl) rfl rfl rfl (fun u H hH _ _ v1 hv1 => zty (by omega) hH hv1)) rfl ?_;refine qg (zaf (.inr rfl) rfl rfl rfl rfl) ?_;refine Zj ?_;refine ZU ?_;refine Zd ?_
 refine z2p 3 900 rfl (fun h0 hn => ?_) fun b cap rest hl hmc hcm hcl => ?_
 ·have hl0:l = []:=List.eq_nil_of_length_eq_zero h0
  subst hl0
  refine ZaZ ?_;refine z7 (zai (φ:=fun _ _ => True) L rfl rfl (zn rfl) rfl rfl rfl (fun _ _ _ _ _ => trivial) (fun u H hH _ _ => zs7 hH)) rfl ?_;refine Zj ?_
  refine zbf 3 (KS tyC [] false) rfl SlV.mono SlV.nil ?_
  refine Zv ?_;refine Zh ?_;refine z7 (zbi L (kl:=.i64) (pl:=0) 0 0 true rfl rfl rfl rfl rfl rfl ⟨rfl, rfl⟩ ⟨rfl, rfl⟩ (by decide) (by decide) rfl) rfl ?_;refine Zdl ?_;refine Z2 ?_;refine ZbT ?_
  refine zam (fun _:Nat => [(5, .sat (KS tyC [] true)), (15, .sat (KS tyC [] false)), (16, .is (.int .i64 0)), (17, .is (.int .i64 0))]) (fun _ => True) (fun s => s) 0 trivial ⟨rfl, rfl, rfl, rfl, trivial⟩ ?_
  rintro s _
  refine Zca ?_;refine ZaC ?_;refine ZF ?_;refine Zh ?_;refine Zn ?_;refine Zn ?_;refine Zep ?_;refine Zd8 ?_
  refine qv L (rs:=[.tmp 2]) rfl (fun _ _ h => h) Since.refl fun u H hH hle => ?_
  exact fun v hv => hv
 ·refine ZaZ ?_;refine qg (zan L 900 (zab b ((stC l).flatMap ccs ++ rest) tyC) (r:=zab b (l.flatMap ccs ++ rest) tyC) rfl rfl rfl rfl rfl (fun u H C hH _ hr hC => (by have h:=zu1 (cap:=cap) rfl (by omega) hH hr hC; exact h))) ?_;refine Zj ?_
  refine zt2 (xs:=(stC l).flatMap ccs) (rest:=rest) (s:=7) 3 900 rfl rfl rfl (by rw [zl8, hsl]) hmc hcm (by
   rw [List.length_append] at hcl ⊢
   rw [zl8] at hcl ⊢
   rw [hsl]; exact hcl) ?_
  rw [← hsl]
  have hkn:=zy2 l
  have hkl:=zpg (stC l)
  rw [← hkn]
  generalize stC l = S at *
  refine zk6 3 rfl ?_
  refine Zv ?_;refine Zh ?_;refine z7 (zbi L (kl:=.i64) (pl:=0) 0 0 true rfl rfl rfl rfl rfl rfl ⟨rfl, rfl⟩ ⟨rfl, rfl⟩ (by omega) (by omega) rfl) rfl ?_;refine Zdl ?_;refine Z2 ?_;refine ZbT ?_
  refine zpw 5 (SlV tyC 7 [] 0 true) rfl SlV.mono (fun v H h => h) ?_
  refine z52 5 rfl ?_
  refine zam (fun i:Nat × List CH => [(3, .sat (KS tyC S false)), (4, .is zka), (5, .own (SlG tyC 7 i.2.length (i.2.flatMap ccs))), (15, .sat (KS tyC S false)), (16, .is (.int .i64 S.length)), (17, .is (.int .i64 i.1))]) (fun i => i.1 ≤ S.length ∧ i.2.length ≤ i.1 ∧ i.2 ++ zfa (S.drop i.1) = zfa S) (fun i => S.length - i.1) (0, []) ⟨Nat.zero_le _, Nat.le_refl _, rfl⟩ ⟨rfl, rfl, rfl, rfl, rfl, rfl, trivial⟩ ?_
  rintro ⟨i, kp⟩ ⟨h1, h2, h3⟩
  dsimp only at h1 h2 h3 ⊢
  by_cases hlt:i < S.length
  ·obtain ⟨c, hc0⟩:=zap hlt
   have hc:=zit hc0
   have hst:=ztq hc0
   have a1:IntKind.i64.wrap ((i:Int) + 1) = ((i + 1:Nat):Int):=zaa (by omega) (by omega)
   by_cases hlast:i + 1 < S.length
   ·obtain ⟨d, hd0⟩:=zap hlast
    have hd:=zit hd0
    rw [hd0] at hst
    dsimp only at hst
    by_cases heq:zbs c.1 d.1 = 0
    ·rw [if_pos heq, List.nil_append] at hst
     refine Zca ?_;refine ZV ?_;refine ZO ?_;refine ZcN ?_;refine Zc3 ?_;refine Zam ?_;refine Zj ?_;refine Zb9 ?_;refine Zg ?_;refine Zan ?_;refine ZcE ?_;refine z8 (y3 L rfl rfl rfl rfl) rfl ?_;refine Zd3 ?_;refine Zp ?_;refine Zf8 ?_;refine Zfq ?_;refine Zan ?_;refine Zc7 ?_;refine ZeM ?_;refine z8 (zq L rfl rfl (zn rfl) rfl rfl rfl (fun u H hH _ _ => zc9 hH)) rfl ?_;refine z8 (y8 rfl rfl rfl rfl (decide_eq_false (by omega))) rfl ?_;refine ZeZ ?_;refine zx ?_;refine Za5 ?_;refine Zay ?_;refine Zz ?_;refine Zdr ?_
     exact y9 (x:=(i, kp)) (i + 1, kp) ⟨hlt, by dsimp only; omega, by dsimp only; rw [← hst]; exact h3⟩ (by dsimp only; omega) ⟨rfl, rfl, rfl, rfl, rfl, rfl, trivial⟩
    ·rw [if_neg heq] at hst
     refine Zca ?_;refine ZV ?_;refine ZO ?_;refine ZcN ?_;refine Zc3 ?_;refine Zam ?_;refine Zj ?_;refine Zb9 ?_;refine Zg ?_;refine Zan ?_;refine ZcE ?_;refine z8 (y3 L rfl rfl rfl rfl) rfl ?_;refine Zd3 ?_;refine Zp ?_;refine Zf8 ?_;refine Zfq ?_;refine Zan ?_;refine Zc7 ?_;refine ZeM ?_;refine z8 (zq L rfl rfl (zn rfl) rfl rfl rfl (fun u H hH _ _ => zc9 hH)) rfl ?_;refine z8 (y8 rfl rfl rfl rfl (decide_eq_true (by omega))) rfl ?_;refine Zbd ?_;refine Zaj ?_;refine qg (zaf (.inl rfl) rfl rfl rfl rfl) ?_;refine ZeH ?_;refine Zai ?_;refine qg (zlu L (by decide) rfl rfl rfl (ziv rfl) rfl z2y rfl rfl (by omega) (by omega)) ?_;refine qg (zaf (.inr rfl) rfl rfl rfl rfl) ?_;refine ZcC ?_;refine Zay ?_;refine Zz ?_;refine Zdr ?_
     exact y9 (x:=(i, kp)) (i + 1, kp ++ [c]) ⟨hlt, by dsimp only; rw [List.length_append, List.length_singleton]; omega, by dsimp only; rw [List.append_assoc, ← hst]; exact h3⟩ (by dsimp only; omega) ⟨rfl, rfl, by dsimp only; rw [List.flatMap_append, List.length_append]; rfl, rfl, rfl, rfl, trivial⟩
   ·have hend:i + 1 = S.length:=by omega
    rw [List.getElem?_eq_none (by omega)] at hst
    dsimp only at hst
    refine Zca ?_;refine ZV ?_;refine ZO ?_;refine ZcN ?_;refine Zc3 ?_;refine Zam ?_;refine Zj ?_;refine Zb9 ?_;refine Zg ?_;refine Zan ?_;refine ZcE ?_;refine z8 (y3 L rfl rfl rfl rfl) rfl ?_;refine z8 (yg rfl rfl rfl rfl (decide_eq_true (by omega))) rfl ?_;refine Zee ?_;refine ZaL ?_;refine Zbd ?_;refine Zaj ?_;refine qg (zaf (.inl rfl) rfl rfl rfl rfl) ?_;refine ZeH ?_;refine Zai ?_;refine qg (zlu L (by decide) rfl rfl rfl (ziv rfl) rfl z2y rfl rfl (by omega) (by omega)) ?_;refine qg (zaf (.inr rfl) rfl rfl rfl rfl) ?_;refine ZcC ?_;refine Zay ?_;refine Zz ?_;refine Zdr ?_
    exact y9 (x:=(i, kp)) (i + 1, kp ++ [c]) ⟨hlt, by dsimp only; rw [List.length_append, List.length_singleton]; omega, by dsimp only; rw [List.append_assoc, ← hst]; exact h3⟩ (by dsimp only; omega) ⟨rfl, rfl, by dsimp only; rw [List.flatMap_append, List.length_append]; rfl, rfl, rfl, rfl, trivial⟩
  ·rw [List.drop_eq_nil_of_le (by omega), show zfa [] = [] from rfl, List.append_nil] at h3
   subst h3
   refine z4v 5 rfl ?_
   refine Zca ?_;refine ZaC ?_;refine ZF ?_;refine Zh ?_;refine Zn ?_;refine Zn ?_;refine Zep ?_;refine Zd8 ?_
   refine qv L (rs:=[.tmp 2]) rfl (fun _ _ h => h) Since.refl fun u H hH hle => ?_
   exact fun v hv => hv
end Go.V.L8
set_option maxRecDepth 20000
namespace Go.V.L2
open Go.Proofs Go.RowKit Go.V
abbrev fWo:Bool → Bool → Bool:=fun _ b => !b
attribute [local irreducible] V N X VO Par StepOK Has Ret RetL RetO Src
theorem z16 (p q:Bool) (w:World) (B:Heap) (hB:B.Le (hp w)):Ret Tryz.prog 226 [.bool p, .bool q] w B (fun v _ => v = .bool (fWo p q)):=by
 refine qw Tryz.func226 rfl Tryz.ntmps226 (Nat.le_of_ble_eq_true rfl) hB ?_
 refine Zbl ?_;refine Zr ?_;refine Zc ?_
 refine qv L (rs:=[.tmp 4]) rfl (fun _ _ h => h) Since.refl fun u H hH hle => ?_
 rfl
theorem zic {l m:List U} {fa fb:Bool} {r:List U × Int} {v v2:Value} {w:World} {B:Heap} (hr:z31 fWo l m = r) (hB:B.Le (hp w)) (hv:US l fa v B) (hv2:US m fb v2 B):Ret Tryz.prog 155 [v, v2] w B (LE r):=by
 refine qw Tryz.func155 rfl Tryz.ntmps155 (Nat.le_of_ble_eq_true rfl) hB ?_
 refine zbf 0 (US l fa) rfl SlV.mono hv ?_
 refine zbf 1 (US m fb) rfl SlV.mono hv2 ?_
 refine Zau ?_;refine Zap ?_;refine Zh ?_;refine Zh ?_;refine z7 (zai (φ:=LE r) L rfl rfl (zn rfl) rfl rfl rfl LE.mono (fun u H hH _ _ v1 h1 v2 h2 => zv6 rfl z16 hr hH h1 h2)) rfl ?_;refine z7 (ze6 rfl rfl rfl rfl SlV.mono) rfl ?_;refine ZdF ?_;refine Zbn ?_;refine Zc ?_
 refine qv L (rs:=[.tmp 4, .tmp 5]) rfl (fun _ _ h => h) Since.refl fun u H hH hle => ?_
 exact fun v hv => zs2 hv
end Go.V.L2
set_option maxRecDepth 20000
namespace Go.V.L8
open Go.Proofs Go.RowKit Go.V Go.V.L2 Go.V.L3 Go.V.L6
def z6m (a b:List U):List CH:=zki ((zed zbs fWo (a.length + b.length) a b).map (fun t => (t, true)) ++ (zed zbs fWo (b.length + a.length) b a).map (fun t => (t, false)))
end Go.V.L8
set_option maxRecDepth 20000
namespace Go.V.L8
open Go.Proofs Go.RowKit Go.V Go.V.L2 Go.V.L3 Go.V.L6
attribute [local irreducible] V N X VO Par StepOK Has Ret RetL RetO RetT zbd Src
end Go.V.L8
set_option maxRecDepth 20000
namespace Go.V.L8
open Go.Proofs Go.RowKit Go.V Go.V.L2 Go.V.L3 Go.V.L6
attribute [local irreducible] V N X VO Par StepOK Has Ret RetL RetO RetT zbd Src
end Go.V.L8
set_option maxRecDepth 20000
namespace Go.V.L8
open Go.Proofs Go.RowKit Go.V Go.V.L2 Go.V.L3 Go.V.L6
attribute [local irreducible] V N X VO Par StepOK Has Ret RetL RetO RetT zbd Src
end Go.V.L8
set_option maxRecDepth 20000
namespace Go.V.L8
open Go.Proofs Go.RowKit Go.V Go.V.L2 Go.V.L3 Go.V.L6
attribute [local irreducible] V N X VO Par StepOK Has Ret RetL RetO RetT zbd Src
end Go.V.L8
set_option maxRecDepth 20000
namespace Go.V.L8
open Go.Proofs Go.RowKit Go.V Go.V.L2 Go.V.L3 Go.V.L6
theorem zz4 (a b:List U):(zed zbs fWo (a.length + b.length) a b).length ≤ a.length + b.length:=zc4 _ _ _ (Nat.le_refl _)
theorem zv3 {a b:List U} (la:a.length ≤ 4096) (lb:b.length ≤ 4096) (sa:Sst zbs a) (sb:Sst zbs b):z31 fWo a b = (zed zbs fWo (a.length + b.length) a b, 0):=by
 unfold z31
 have h1:isB a = true:=decide_eq_true sa
 have h2:isB b = true:=decide_eq_true sb
 rw [if_neg (by omega), h1, h2, if_pos (by decide)]
attribute [local irreducible] V N X VO Par StepOK Has Ret RetL RetO RetT zbd Src
set_option maxHeartbeats 4000000 in
theorem zpm {a b:List U} {m:List CH} (la:a.length ≤ 4096) (lb:b.length ≤ 4096) (sa:Sst zbs a) (sb:Sst zbs b) (hr:z6m a b = m) {av bv:Value} {w:World} {B:Heap} (hB:B.Le (hp w)) (ha:SetV a av B) (hb:SetV b bv B) :
  Ret Tryz.prog 89 [av, bv] w B (KS tyC m true):=by
 subst hr
 obtain ⟨f1, p1, k1, q1, rfl, hp1⟩:=ha.shape
 obtain ⟨f2, p2, k2, q2, rfl, hp2⟩:=hb.shape
 have w1:=zv3 la lb sa sb
 have w2:=zv3 lb la sb sa
 have l1:=zz4 a b
 have l2:=zz4 b a
 have hbp:z6m a b = zki ((zed zbs fWo (a.length + b.length) a b).map (fun t => (t, true)) ++ (zed zbs fWo (b.length + a.length) b a).map (fun t => (t, false))):=rfl
 rw [hbp]
 generalize zed zbs fWo (a.length + b.length) a b = G at *
 generalize zed zbs fWo (b.length + a.length) b a = K at *
 have mG:Kn.mono (.sat (US G true)):=SlV.mono
 have mK:Kn.mono (.sat (US K true)):=SlV.mono
 refine qw Tryz.func89 rfl Tryz.ntmps89 (Nat.le_of_ble_eq_true rfl) hB ?_
 refine Zac ?_;refine ZbS ?_;refine Zeu ?_;refine z8 (zai (φ:=US a true) L rfl rfl (zn rfl) rfl rfl rfl SlV.mono (fun u H hH hle _ => zjy (by omega) hH (ha.le hle))) rfl ?_;refine Zeu ?_;refine z8 (zai (φ:=US b true) L rfl rfl (zn rfl) rfl rfl rfl SlV.mono (fun u H hH hle _ => zjy (by omega) hH (hb.le hle))) rfl ?_;refine Zec ?_;refine Zec ?_;refine ZaK ?_;refine ZU ?_;refine Zh ?_;refine Zh ?_;refine z7 (zai (φ:=LE (G, 0)) L rfl rfl (zn rfl) rfl rfl rfl LE.mono (fun u H hH _ _ v1 h1 v2 h2 => zic w1 hH h1 h2)) rfl ?_;refine ZdI ?_;refine Zbn ?_;refine Zd ?_;refine Zx ?_;refine Zh ?_;refine Zh ?_;refine z7 (zai (φ:=LE (K, 0)) L rfl rfl (zn rfl) rfl rfl rfl LE.mono (fun u H hH _ _ v1 h1 v2 h2 => zic w2 hH h1 h2)) rfl ?_;refine ZdI ?_;refine Zbn ?_;refine Zd ?_;refine Zv ?_;refine Zi ?_
 refine zgm 11 tyC 7 rfl ?_
 refine Z2 ?_;refine ZbT ?_
 refine zam (fun i:Nat => [(9, .sat (US K true)), (11, .own (SlR tyC 7 ((G.take i).map fun t => ((t, true):CH)).length (((G.take i).map fun t => ((t, true):CH)).flatMap ccs))), (32, .sat (US G true)), (33, .is (.int .i64 G.length)), (34, .is (.int .i64 i))]) (fun i => i ≤ G.length) (fun i => G.length - i) 0 (Nat.zero_le _) ⟨rfl, rfl, rfl, rfl, rfl, trivial⟩ ?_
 rintro i hi
 have hli:((G.take i).map fun t => ((t, true):CH)).length ≤ 8192:=by rw [List.length_map, List.length_take]; omega
 by_cases hlt:i < G.length
 ·obtain ⟨t, ht⟩:=zap hlt
  have hct:=ziq ht
  have e1:((G.take (i + 1)).map fun t => ((t, true):CH)) = ((G.take i).map fun t => ((t, true):CH)) ++ [(t, true)]:=by rw [List.take_add_one, ht, List.map_append]; rfl
  refine Zca ?_;refine ZV ?_;refine ZL ?_;refine Zbu ?_;refine Zcw ?_;refine Zbi ?_;refine Zy ?_;refine Z7 ?_;refine qg (zaf (.inl rfl) rfl rfl rfl rfl) ?_;refine ZaU ?_;refine Zev ?_;refine Zai ?_;refine Zfb ?_;refine qg (zaf (.inr rfl) rfl rfl rfl rfl) ?_;refine ZcC ?_;refine Zaj ?_;refine ZbP ?_
  exact y9 (x:=i) (i + 1) hlt (by omega) ⟨rfl, by rw [e1]; exact zks rfl, rfl, rfl, rfl, trivial⟩
 ·obtain rfl:i = G.length:=by omega
  rw [List.take_length]
  have lG:(G.map fun t => ((t, true):CH)).length ≤ 8192:=by rw [List.length_map]; omega
  refine Zca ?_;refine ZaC ?_;refine zj ?_;refine Zay ?_;refine ZbT ?_
  refine zam (fun j:Nat => [(11, .own (SlR tyC 7 ((G.map fun t => ((t, true):CH)) ++ ((K.take j).map fun t => ((t, false):CH))).length (((G.map fun t => ((t, true):CH)) ++ ((K.take j).map fun t => ((t, false):CH))).flatMap ccs))), (44, .sat (US K true)), (45, .is (.int .i64 K.length)), (46, .is (.int .i64 j))]) (fun j => j ≤ K.length) (fun j => K.length - j) 0 (Nat.zero_le _) ⟨by rw [List.take_zero, List.map_nil, List.append_nil]; rfl, rfl, rfl, rfl, trivial⟩ ?_
  rintro j hj
  have hlj:((G.map fun t => ((t, true):CH)) ++ ((K.take j).map fun t => ((t, false):CH))).length ≤ 16384:=by rw [List.length_append, List.length_map, List.length_map, List.length_take]; omega
  by_cases hjl:j < K.length
  ·obtain ⟨t, ht⟩:=zap hjl
   have hct:=ziq ht
   have e1:((G.map fun t => ((t, true):CH)) ++ ((K.take (j + 1)).map fun t => ((t, false):CH))) = ((G.map fun t => ((t, true):CH)) ++ ((K.take j).map fun t => ((t, false):CH))) ++ [(t, false)]:=by rw [List.take_add_one, ht, List.map_append, List.append_assoc]; rfl
   refine zj ?_;refine ZF ?_;refine ZV ?_;refine Z4 ?_;refine Zbu ?_;refine Zcw ?_;refine Zbi ?_;refine Zy ?_;refine ZbB ?_;refine qg (zaf (.inl rfl) rfl rfl rfl rfl) ?_;refine ZaU ?_;refine Zev ?_;refine Zai ?_;refine Zfb ?_;refine qg (zaf (.inr rfl) rfl rfl rfl rfl) ?_;refine ZcC ?_;refine Zaz ?_;refine ZbP ?_
   exact y9 (x:=j) (j + 1) hjl (by omega) ⟨by rw [e1]; exact zks rfl, rfl, rfl, rfl, trivial⟩
  ·obtain rfl:j = K.length:=by omega
   rw [List.take_length]
   rw [List.take_length] at hlj
   refine zk6 11 rfl ?_
   refine zj ?_;refine ZF ?_;refine ZaC ?_;refine ZT ?_;refine Zh ?_;refine z7 (zai (φ:=KS tyC (zki ((G.map fun t => ((t, true):CH)) ++ (K.map fun t => ((t, false):CH)))) true) L rfl rfl (zn rfl) rfl rfl rfl SlV.mono (fun u H hH _ _ v1 h1 => zq1 rfl (by omega) hH h1)) rfl ?_;refine Zd8 ?_
   refine qv L (rs:=[.tmp 4]) rfl (fun _ _ h => h) Since.refl fun u H hH hle => ?_
   exact fun v hv => hv
theorem zmy {l:List CH} {fu:Bool} (hz:∀ c ∈ l, TM c.1) (hl:l.length ≤ 9223372036854775807) {e:Int} (he:cE 4096 l = e) {v:Value} {w:World} {B:Heap} (hB:B.Le (hp w)) (hv:KS tyC l fu v B) :
  Ret Tryz.prog 60 [v] w B (fun r _ => r = .int .i64 e):=by
 subst he
 refine qw Tryz.func60 rfl Tryz.ntmps60 (Nat.le_of_ble_eq_true rfl) hB ?_
 refine zbf 0 (KS tyC l fu) rfl SlV.mono hv ?_
 by_cases h32:4096 < l.length
 ·have:cE 4096 l = 3:=if_pos h32
  rw [this]
  refine ZG ?_;refine Zei ?_;refine ZP ?_;refine Zck ?_
  refine qv L (rs:=[.tmp 2]) rfl (fun _ _ h => h) Since.refl fun u H hH hle => ?_
  rfl
 ·refine ZG ?_;refine Zei ?_;refine Z3 ?_;refine ZD ?_;refine Zx ?_;refine ZS ?_
  refine zam (fun i:Nat => [(0, .sat (KS tyC l fu)), (3, .is (.int .i64 i))]) (fun i => i ≤ l.length ∧ ∀ (j:Nat) c, j < i → l[j]? = some c → tE c.1 = 0) (fun i => l.length - i) 0 ⟨Nat.zero_le _, fun j c h => absurd h (Nat.not_lt_zero _)⟩ ⟨rfl, rfl, trivial⟩ ?_
  rintro i ⟨hi, hok⟩
  by_cases hlt:i < l.length
  ·obtain ⟨c, hc0⟩:=zap hlt
   have hc:=zit hc0
   have hzc:=hz c (List.mem_of_getElem? hc0)
   by_cases h0:tE c.1 = 0
   ·refine Zdd ?_;refine Zn ?_;refine ZaT ?_;refine ZQ ?_;refine ZdK ?_;refine Zfa ?_;refine Zcw ?_;refine z7 (zq L rfl rfl (zn rfl) rfl rfl rfl (fun u H hH _ _ => h0 ▸ zrn hzc hH)) rfl ?_;refine ZA ?_;refine ZaO ?_;refine ZN ?_;refine ZaP ?_
    exact y9 (x:=i) (i + 1) ⟨hlt, fun j c' hj hc' => by
     rcases Nat.lt_or_ge j i with h | h
     ·exact hok j c' h hc'
     ·have:j = i:=by omega
      subst this; rw [hc0] at hc'; cases hc'; exact h0⟩ (by omega) ⟨rfl, rfl, trivial⟩
   ·have h6:=(zrh c.1).resolve_left h0
    rw [z4o h32 hc0 h0]
    refine Zdd ?_;refine Zn ?_;refine ZaT ?_;refine ZQ ?_;refine ZdK ?_;refine Zfa ?_;refine Zcw ?_;refine z7 (zq L rfl rfl (zn rfl) rfl rfl rfl (fun u H hH _ _ => h6 ▸ zrn hzc hH)) rfl ?_;refine ZH ?_;refine ZL ?_;refine Zc ?_
    refine qv L (rs:=[.tmp 2]) rfl (fun _ _ h => h) Since.refl fun u H hH hle => ?_
    rfl
  ·rw [z0o h32 (fun j c hj => hok j c (by have:=get_lt hj; omega) hj)]
   refine Zdd ?_;refine Zn ?_;refine Za8 ?_;refine Z7 ?_;refine Zc ?_
   refine qv L (rs:=[.tmp 2]) rfl (fun _ _ h => h) Since.refl fun u H hH hle => ?_
   rfl
end Go.V.L8
set_option maxRecDepth 20000
namespace Go.V.L10
open Go.Proofs Go.RowKit Go.V Go.V.L2 Go.V.L8 Go.V.L6
theorem zx3 (S:Sto):zhn fun (x:Nat × Value × Ent) (H:Heap) => MapOK x.2.2 S.R ∧ EsV x.2.2 H ∧ PsV (zdc S.P) x.2.1 H:=fun _ _ _ ⟨h1, h2, h3⟩ hle => ⟨h1, h2.le hle, h3.le hle⟩
abbrev StG (b:Nat) (S:Sto):GR:=GEx (fun x:Nat × Value × Ent => StO b S.R.length x.1 x.2.1 S.P.length x.2.2) (fun x H => MapOK x.2.2 S.R ∧ EsV x.2.2 H ∧ PsV (zdc S.P) x.2.1 H) (zx3 S)
theorem z3a {S:Sto} {b m:Nat} {s:Value} {es:Ent} {B:Heap} (hm:MapOK es S.R) (hes:EsV es B) (hps:PsV (zdc S.P) s B):∀ (v:Value) H u C, B.Le H → (StO b S.R.length m s S.P.length es).res.P v H u C → (StG b S).res.P v H u C:=fun _ _ _ _ hle h => ⟨(m, s, es), ⟨hm, hes.le hle, hps.le hle⟩, h⟩
attribute [local irreducible] V N X VO Par StepOK Has Ret RetL RetO RetT zbd RetX RetY Src
end Go.V.L10
set_option maxRecDepth 20000
namespace Go.V.L10
open Go.Proofs Go.RowKit Go.V
theorem z3i {φ:Value → Heap → Prop} {a tv:Value} {H:Heap} (h:φ tv H):TupS [φ, fun v _ => v = a] (.tuple #[tv, a]) H:=by
 refine ⟨[tv, a], rfl, rfl, fun i φ' x hi hx => ?_⟩
 rcases i with _ | _ | i
 ·cases hi; cases hx; exact h
 ·cases hi; cases hx; rfl
 ·cases hi
theorem zu8 {φ:Value → Heap → Prop} {a:Value} (h:Kn.mono (.sat φ)):Kn.mono (.sat (TupS [φ, fun v _ => v = a])):=TupS.mono fun ψ hψ => by
 simp only [List.mem_cons, List.mem_nil_iff, or_false] at hψ
 rcases hψ with rfl | rfl
 ·exact h
 ·exact fun _ _ _ h _ => h
attribute [local irreducible] V N X VO Par StepOK Has Ret RetL RetO RetT zbd RetX Src
end Go.V.L10
set_option maxRecDepth 20000
namespace Go.V.L10
open Go.Proofs Go.RowKit Go.V Go.V.L2 Go.V.L8 Go.V.L6
attribute [local irreducible] V N X VO Par StepOK Has Ret RetL RetO RetT zbd RetX RetY Src
end Go.V.L10
set_option maxRecDepth 20000
namespace Go.V.L10
open Go.Proofs Go.RowKit Go.V Go.V.L2 Go.V.L8 Go.V.L6
abbrev z0b (b:Nat):Value:=.pointer (some ⟨b, 0, none⟩)
abbrev z54 (S:Sto):Res:=zzz z0b fun b => StG b S
theorem zwa {Y:Type}:MapOK ([]:List (Int × (List U × Y))) []:=⟨List.nodup_nil, fun r => by
 cases h:kpt ([]:List (Option (List U))) r with
 | none => rfl
 | some t => have:=zwn (R:=[]) (r:=r) (by rw [h]; rfl); simp at this; omega⟩
theorem zwb:MapOK [((1:Int), (([]:List U), nilSet))] newS.R:=by
 have h:=(zwa (Y:=Value)).add [] nilSet
 have h2:=h.1
 rw [h.2] at h2
 exact h2
attribute [local irreducible] V N X VO Par StepOK Has Ret RetL RetO RetT zbd RetX RetY Src
set_option maxHeartbeats 2000000 in
set_option maxRecDepth 20000 in
theorem zyc {w:World} {B:Heap} (hB:B.Le (hp w)):RetO Tryz.prog 42 [] w B (z54 newS):=by
 refine zcx Tryz.func42 rfl Tryz.ntmps42 (Nat.le_of_ble_eq_true rfl) hB ?_
 refine Zaq ?_;refine z7 (zqr (hint:=none) .u64 vcE rfl rfl) rfl ?_;refine zug 1 901 rfl fun m => ?_;refine Zc0 ?_;refine zal (ztg (q:=901) (vc:=vcE) 1 ([], nilSet) mpS kyS rfl rfl rfl rfl rfl rfl rfl) ?_;refine Za ?_;refine z7 (y5 (cs:=[_, _, _, _]) rfl rfl z5n rfl rfl) rfl ?_;refine Zd6 ?_;refine qg (zaf (.inr rfl) rfl rfl rfl rfl) ?_;refine Zy ?_
 refine za3 0 900 rfl fun b => ?_
 refine zcw 900 901 rfl rfl (zaq (z57 m .u64 vcE [((1:Int), (([]:List U), nilSet))])) ?_
 refine z2n 900 (StG b newS).res rfl (fun v H u C hle h => z3a (S:=newS) (s:=.slice none 0 0) (m:=m) (B:=B) zwb (fun e he => by rw [List.mem_singleton.1 he]; exact SetV.nil) SlV.nil v H u C hle h) ?_
 refine zzr 0 900 z0b (fun b => StG b newS) b rfl rfl ?_
 exact zf2 rfl (fun _ _ h => h) Since.refl rfl
end Go.V.L10
set_option maxRecDepth 20000
namespace Go.V.L10
open Go.Proofs Go.RowKit Go.V Go.V.L2 Go.V.L8 Go.V.L6
def z7a (rs:List Int):Prop:=(0 :: rs).Pairwise (· < ·)
instance (rs:List Int):Decidable (z7a rs):=inferInstanceAs (Decidable ((0 :: rs).Pairwise (· < ·)))
attribute [local irreducible] V N X VO Par StepOK Has Ret RetL RetO RetT zbd RetX RetY Src
end Go.V.L10
set_option maxRecDepth 20000
namespace Go.V.L10
open Go.Proofs Go.RowKit Go.V Go.V.L2 Go.V.L8 Go.V.L6
attribute [local irreducible] V N X VO Par StepOK Has Ret RetL RetO RetT zbd RetX RetY Src
abbrev tyPS:TypeId:=71
end Go.V.L10
set_option maxRecDepth 20000
namespace Go.V.L10
open Go.Proofs Go.RowKit Go.V Go.V.L2 Go.V.L8 Go.V.L6
attribute [local irreducible] V N X VO Par StepOK Has Ret RetL RetO RetT zbd RetX RetY Src
end Go.V.L10
set_option maxRecDepth 20000
namespace Go.V.L10
open Go.Proofs Go.RowKit Go.V Go.V.L2 Go.V.L8 Go.V.L6
theorem tup3 {φ:Value → Heap → Prop} {a b v:Value} {H:Heap} (h:φ v H):TupS [φ, fun v _ => v = a, fun v _ => v = b] (.tuple #[v, a, b]) H:=by
 refine ⟨[v, a, b], rfl, rfl, fun i ψ x hi hx => ?_⟩
 rcases i with _ | _ | _ | i
 ·cases hi; cases hx; exact h
 ·cases hi; cases hx; rfl
 ·cases hi; cases hx; rfl
 ·cases hi
attribute [local irreducible] V N X VO Par StepOK Has Ret RetL RetO RetT zbd RetX RetY Src
end Go.V.L10
set_option maxRecDepth 20000
namespace Go.V.L10
open Go.Proofs Go.RowKit Go.V Go.V.L2 Go.V.L8 Go.V.L6
attribute [local irreducible] V N X VO Par StepOK Has Ret RetL RetO RetT zbd RetX RetY Src
end Go.V.L10
set_option maxRecDepth 20000
namespace Go.V.L10
open Go.Proofs Go.RowKit Go.V Go.V.L2 Go.V.L8 Go.V.L6
structure OOK (o:OO):Prop where
 wh:o.wh ≤ 255
 rv:o.rv ≤ 255
 ms:∀ c ∈ o.ms, c.1 ≤ 255 ∧ c.2.1 ≤ 255 ∧ c.2.2 ≤ 255
 cs:∀ c ∈ o.cs, c.1 ≤ 255 ∧ c.2.1 ≤ 255 ∧ c.2.2 ≤ 255
 lm:o.ms.length ≤ 9223372036854775807
 lc:o.cs.length ≤ 9223372036854775807
attribute [local irreducible] V N X VO Par StepOK Has Ret RetL RetO RetT zbd RetX RetY Src
theorem rev_ret {o:OO} (ho:OOK o) {mv cv:Value} (hp1:zdj mv = true) (hp2:zdj cv = true) {w:World} {B:Heap} (hB:B.Le (hp w)) :
  Ret Tryz.prog 185 [.agg #[.int .u8 o.wh, mv, cv, .int .u8 o.rv, .int .i64 o.kp]] w B (fun v _ => v = .int .u64 o.rev):=by
 have hrv:=ho.rv
 unfold OO.rev
 refine qw Tryz.func185 rfl Tryz.ntmps185 (Nat.le_of_ble_eq_true rfl) hB ?_
 by_cases h:o.rv = 255
 ·rw [if_pos h]
  refine Zc4 ?_;refine Z9 ?_;refine Zck ?_
  refine qv L (rs:=[.tmp 2]) rfl (fun _ _ h => h) Since.refl fun u H hH hle => ?_
  rfl
 ·rw [if_neg h]
  have hwu:IntKind.u64.wrap (o.rv:Int) = (o.rv:Int):=wrap_u64 (by omega) (by omega)
  refine Zc4 ?_;refine ZbW ?_;refine Zx ?_;refine ZW ?_;refine z7 (zaw rfl rfl rfl zfh.1 zfh.2 (wrap_u64 (by omega) (by omega))) rfl ?_;refine Zc ?_
  refine qv L (rs:=[.tmp 2]) rfl (fun _ _ h => h) Since.refl fun u H hH hle => ?_
  rfl
end Go.V.L10
set_option maxRecDepth 20000
namespace Go.V.L10
open Go.Proofs Go.RowKit Go.V Go.V.L2 Go.V.L8 Go.V.L6
attribute [local irreducible] V N X VO Par StepOK Has Ret RetL RetO RetT zbd RetX RetY Src
end Go.V.L10
set_option maxRecDepth 20000
namespace Go.V.L10
open Go.Proofs Go.RowKit Go.V Go.V.L2 Go.V.L8 Go.V.L6
attribute [local irreducible] V N X VO Par StepOK Has Ret RetL RetO RetT zbd RetX RetY Src
end Go.V.L10
set_option maxRecDepth 20000
namespace Go.V.L10
open Go.Proofs Go.RowKit Go.V Go.V.L2 Go.V.L8 Go.V.L6
theorem z05 {S:Sto} {b:Nat} {r:Int} (hn:S.R.length ≠ 0) {w:World} {B:Heap} {C:Nat → Prop} (hB:B.Le (hp w)) (hr:(StG b S).P B w C) (hC:∀ k, C k → k < w.heap.size ∧ B k = none) :
  RetY Tryz.prog 87 [z0b b, .int .u64 r] w B C (StG b S) (WithP (atS S r).1 (atS S r).2) :=
 RetY.ex hr fun _ ⟨hm, hes, _⟩ hr => zuu hm hn hes hB hr hC
theorem zu3 {S:Sto} {b:Nat} (hn:S.R.length ≠ 0) (hz:(zgg S.R).length ≤ 100000) {w:World} {B:Heap} {C:Nat → Prop} (hB:B.Le (hp w)) (hr:(StG b S).P B w C) (hC:∀ k, C k → k < w.heap.size ∧ B k = none) :
  RetY Tryz.prog 85 [z0b b] w B C (StG b S) (RsV (zgg S.R) true) :=
 RetY.ex hr fun _ ⟨hm, _, _⟩ hr => (zy1 hm hn (by rw [hm.len]; exact hz) hB hr hC).pubY zr5
abbrev PinsP (P0:List Int):Value → Heap → Prop:=fun v H => ∃ s, v = pnv s P0.length ∧ PsV (zdc P0) s H
theorem PinsP.mono {P0:List Int}:Kn.mono (.sat (PinsP P0)):=fun _ _ _ ⟨s, h1, h2⟩ hle => ⟨s, h1, h2.le hle⟩
attribute [local irreducible] V N X VO Par StepOK Has Ret RetL RetO RetT zbd RetX RetY Src
theorem zuy {S:Sto} {b:Nat} (hn:S.R.length ≠ 0) {w:World} {B:Heap} {C:Nat → Prop} (hB:B.Le (hp w)) (hr:(StG b S).P B w C) (hC:∀ k, C k → k < w.heap.size ∧ B k = none) :
  RetY Tryz.prog 43 [z0b b] w B C (StG b S) (PinsP S.P):=by
 refine RetY.ex hr fun x hφ hr => ?_
 obtain ⟨m, s, es⟩:=x
 obtain ⟨hm, hes, hps⟩:=hφ
 dsimp only at hm hes hps hr ⊢
 obtain ⟨p, c, rfl⟩:=zce hps
 unfold RetY
 refine zag 900 (StO b S.R.length m _ S.P.length es) Tryz.func43 rfl Tryz.ntmps43 (Nat.le_of_ble_eq_true rfl) hB hr hC ?_
 rw [zqd]
 refine zdk 900 901 rfl (zaq _) ?_
 refine ZaI ?_;refine Zaw ?_;refine Zbm ?_;refine y7 (zca L 900 (Φ:=fun H => H b = some (.cells (stc S.R.length m (.slice p (zdc S.P).length c) S.P.length).toArray tyS)) (c:=.bool false) rfl rfl (zn rfl) rfl rfl rfl rfl rfl zl0 (fun u H hH hle hb => none_ret hn hb hH)) ?_;refine Zq ?_;refine Zm ?_;refine Zar ?_;refine y7 (zay L (q:=900) (vs:=[_, _]) rfl rfl rfl rfl rfl rfl ⟨_, rfl⟩) ?_;refine ZaG ?_
 refine Zfe ?_
 exact zmd L 900 (r:=StO b S.R.length m (.slice p (zdc S.P).length c) S.P.length es) (rs:=[.cell 2 112]) rfl (fun _ _ h => h) Since.refl rfl rfl (fun H hle => ⟨_, qp rfl, rfl, _, rfl, hps.le hle⟩)
abbrev s1:Sto:=⟨[some [], some [d0]], []⟩
abbrev s2:Sto:=⟨[some [], some [d0], some [d2]], []⟩
abbrev s3:Sto:=⟨[some [], some [d0], some [d2]], [2]⟩
end Go.V.L10
set_option maxRecDepth 20000
namespace Go.V.L11
open Go.Proofs Go.RowKit Go.V Go.V.L2 Go.V.L4 Go.V.L6 Go.V.L8 Go.V.L10
abbrev WithE (l:List U) (e:Int):Value → Heap → Prop:=TupS [SetV l, fun v _ => v = .int .i64 e]
theorem WithE.mono {l:List U} {e:Int}:Kn.mono (.sat (WithE l e)):=zu8 SetV.mono
theorem zue {l:List U} {e:Int} {v:Value} {H:Heap} (h:WithP l e v H):WithE l e v H:=by
 obtain ⟨tv, rfl, h2⟩:=h
 exact z3i h2
theorem z2k {S:Sto} {b:Nat} {r:Int} {t:List U} {e:Int} (he:atS S r = (t, e)) (hn:S.R.length ≠ 0) {w:World} {B:Heap} {C:Nat → Prop} (hB:B.Le (hp w)) (hr:(StG b S).P B w C) (hC:∀ k, C k → k < w.heap.size ∧ B k = none) :
  RetY Tryz.prog 87 [z0b b, .int .u64 r] w B C (StG b S) (WithE t e):=by
 have h:=z05 (r:=r) hn hB hr hC
 rw [he] at h
 exact RetY.mono h fun _ _ _ => zue
theorem zwo:zgg newS.R = [1]:=by kernel_rfl
theorem z5y:atS newS 1 = ([], 0):=by kernel_rfl
attribute [local irreducible] V N X VO Par XP LV StepOK Has Ret RetL RetO RetT zbd RetX RetY Pan zt9 Src
set_option maxRecDepth 20000 in
theorem zwy {b:Nat} {w:World} {B:Heap} {C:Nat → Prop} (hB:B.Le (hp w)) (hr:(StG b newS).P B w C) (hC:∀ k, C k → k < w.heap.size ∧ B k = none) :
  RetY Tryz.prog 28 [z0b b] w B C (StG b newS) (TupS [BsV [1, 1, 0, 0] true, fun v _ => v = .int .i64 0]):=by
 unfold RetY
 refine zag 910 (StG b newS) Tryz.func28 rfl Tryz.ntmps28 (Nat.le_of_ble_eq_true rfl) hB hr hC ?_
 refine Zau ?_;refine Zbj ?_;refine y7 (zg5 L 910 (RsV [1] true) (r:=StG b newS) rfl rfl rfl rfl rfl SlV.mono (fun u H2 C2 hH hle hr2 hC2 => by have h:=zu3 (S:=newS) (by decide) (by rw [zwo]; decide) hH hr2 hC2; rw [zwo] at h; exact h)) ?_;refine Zdl ?_;refine ZU ?_;refine Zn ?_;refine z7 (yg rfl rfl rfl rfl rfl) rfl ?_;refine Zq ?_;refine Zv ?_;refine ZaV ?_
 refine za3 5 900 rfl fun wb => ?_
 refine zh8 901 zt7 1 ?_
 refine Zfo ?_
 refine zme (X:=Value) 900 (r:=fun sv => (GWv wb [] sv).res) (φ:=fun sv _ => zt6 sv) zev (.slice none 0 0) ⟨_, _, _, rfl⟩ rfl ?_
 refine Z2 ?_;refine Zn ?_;refine z7 (zaw rfl rfl rfl zgk.1 zgk.2 rfl) rfl ?_;refine qg (zan L 900 (GWr wb [1]) (r:=GWr wb []) rfl rfl rfl rfl rfl (fun u H C hH _ hr hC => by have h:=zds (n:=1) (by decide) (by decide) hH hr hC; rw [zfs (by decide)] at h; exact h)) ?_;refine Zj ?_;refine ZQ ?_;refine Zc0 ?_;refine Zc3 ?_;refine Zam ?_;refine Zaw ?_;refine ZL ?_;refine ZbT ?_
 have hcr:=z5f (l:=[1]) (i:=0) (x:=1) rfl
 refine zam (fun i:Nat => match i with
  | 0 => [(0, .is (z0b b)), (5, .is (za0 wb)), (6, .is (.int .u64 0)), (7, .own (Cell [.nilFunc, .pointer none, .nilFunc, .pointer none] tySt)), (25, .sat (RsV [1] true)), (26, .is (.int .i64 1)), (27, .is (.int .i64 0)), (900, .own (GWr wb [1]).res), (910, .own (StG b newS).res)]
  | _ + 1 => [(5, .is (za0 wb)), (26, .is (.int .i64 1)), (27, .is (.int .i64 1)), (900, .own (GWr wb [1, 1, 0, 0]).res), (910, .own (StG b newS).res)]) (fun i => i ≤ 1) (fun i => 1 - i) 0 (by decide) ⟨rfl, rfl, rfl, rfl, rfl, rfl, rfl, rfl, rfl, trivial⟩ ?_
 rintro i hi
 cases i with
 | succ i =>
  dsimp only
  refine zj ?_;refine Z7 ?_;refine ZaC ?_;refine Zb4 ?_;refine qg (zo6 L 900 GNo (BsV [1, 1, 0, 0] true) (r:=GWr wb [1, 1, 0, 0]) rfl rfl rfl rfl rfl SlV.mono (fun u H C hH _ hr hC => zl7 (zle (by decide) hH hr hC))) ?_;refine Zbn ?_;refine Zc ?_
  exact zmd L 910 (r:=StG b newS) (rs:=[.tmp 2, .tmp 3]) rfl (fun _ _ h => h) Since.refl rfl rfl (fun H _ v hv => z3i hv)
 | zero =>
  dsimp only
  have hms:Kn.mono (.sat (SetV ([]:List U))):=SetV.mono
  have hmi:Kn.mono (.sat (fun v _ => v = Value.int .i64 0)):=fun _ _ _ h _ => h
  refine zj ?_;refine Z7 ?_;refine ZV ?_;refine Zaj ?_;refine Zbu ?_;refine ZeR ?_;refine Zd ?_;refine Zc8 ?_;refine y7 (zg5 L 910 (WithE [] 0) (r:=StG b newS) rfl rfl rfl rfl rfl WithE.mono (fun u H2 C2 hH hle hr2 hC2 => z2k z5y (by decide) hH hr2 hC2)) ?_;refine ZdI ?_;refine Zag ?_;refine z7 (zkd L (X:=SXp) (fun x => scs x.1) (zuz []) (zct _) zu4 (fun x => ⟨rfl, x.2⟩) rfl rfl rfl rfl rfl) rfl ?_;refine Zd ?_
  refine zin 10 rfl fun x H1 hs1 hset => ?_
  obtain ⟨⟨f1, p1, f2, p2⟩, hpl⟩:=x
  dsimp only [scs] at hset hpl ⊢
  have hws:IntKind.u64.wrap (1 - 0) = 1:=by decide
  refine ZF ?_;refine ZC ?_;refine qg (zan L 900 (GWr wb [1, 1]) (r:=GWr wb [1]) rfl rfl rfl rfl rfl (fun u H C hH _ hr hC => by have h:=zds (n:=1) (by decide) (by decide) hH hr hC; rw [zfs (by decide)] at h; exact h)) ?_;refine Zj ?_;refine Z4 ?_;refine Za ?_;refine y7 (zg5 L 910 (PinsP newS.P) (r:=StG b newS) rfl rfl rfl rfl rfl PinsP.mono (fun u H2 C2 hH hle hr2 hC2 => zuy (S:=newS) (by decide) hH hr2 hC2)) ?_;refine Za ?_;refine z7 (zq (r:=.int .i64 0) L rfl rfl (zn rfl) rfl rfl rfl (fun u H hH hle _ v1 h1 => by obtain ⟨sv, rfl, hsv⟩:=h1; exact L10.count_ret (L0:=[]) (r:=1) (by decide) hH hsv)) rfl ?_;refine z7 (zaw rfl rfl rfl zgk.1 zgk.2 (wrap_u64 (by omega) (by omega))) rfl ?_;refine qg (zan L 900 (GWr wb [1, 1, 0]) (r:=GWr wb [1, 1]) rfl rfl rfl rfl rfl (fun u H C hH _ hr hC => by have h:=zds (n:=0) (by decide) (by decide) hH hr hC; rw [zfs (by decide)] at h; exact h)) ?_;refine Zj ?_
  refine ZbB ?_;refine ZaY ?_;refine ZaY ?_;refine z7 (zai (φ:=KS tyC [] true) L rfl rfl (zn rfl) rfl rfl rfl SlV.mono (fun u H hH hle _ => zpm (a:=[]) (b:=[]) (m:=[]) (by decide) (by decide) List.Pairwise.nil List.Pairwise.nil (by kernel_rfl) hH SetV.nil (hset.le hle))) rfl ?_;refine Zdg ?_;refine Zaz ?_;refine Zn ?_;refine z7 (zaw rfl rfl rfl zgk.1 zgk.2 rfl) rfl ?_;refine qg (zan L 900 (GWr wb [1, 1, 0, 0]) (r:=GWr wb [1, 1, 0]) rfl rfl rfl rfl rfl (fun u H C hH _ hr hC => by have h:=zds (n:=0) (by decide) (by decide) hH hr hC; rw [zfs (by decide)] at h; exact h)) ?_;refine Zaw ?_;refine ZT ?_;refine ZbT ?_
  refine zam (fun _:Nat => [(5, .is (za0 wb)), (7, .own (Cell [.nilFunc, .pointer none, .nilFunc, .pointer none] tySt)), (9, .is (.int .u64 1)), (10, .own (Cell [f1, .pointer p1, f2, .pointer p2] tySt)), (26, .is (.int .i64 1)), (27, .is (.int .i64 0)), (55, .is (.int .i64 0)), (56, .is (.int .i64 0)), (900, .own (GWr wb [1, 1, 0, 0]).res), (910, .own (StG b newS).res)]) (fun _ => True) (fun i => i) 0 trivial ⟨rfl, rfl, rfl, rfl, rfl, rfl, rfl, rfl, rfl, rfl, trivial⟩ ?_
  rintro _ _
  refine zj ?_;refine ZaS ?_;refine Zga ?_;refine Zfy ?_;refine zm ?_;refine q6 (id:=20) [] mixed (by kernel_rfl) ?_;refine Zg ?_;refine Zez ?_;refine Zao ?_;refine z8 (ql L rfl rfl rfl rfl rfl rfl (by assumption) rfl) rfl ?_;refine Zcb ?_;refine ZaH ?_;refine Zz ?_;refine Zdr ?_
  exact zhm (x:=0) 1 hs1 (by decide) (by decide) ⟨rfl, rfl, rfl, rfl, rfl, trivial⟩
end Go.V.L11
set_option maxRecDepth 20000
namespace Go.V.L11
open Go.Proofs Go.RowKit Go.V Go.V.L2 Go.V.L4 Go.V.L6
attribute [local irreducible] V N X VO Par XP LV StepOK Has Ret RetL RetO RetT zbd RetX RetY Pan zt9 Src
theorem zmq {w:World} {B:Heap} (hB:B.Le (hp w)):Ret Tryz.prog 32 [nilSet] w B (BsV [0] true):=by
 refine qw Tryz.func32 rfl Tryz.ntmps32 (Nat.le_of_ble_eq_true rfl) hB ?_
 refine Zcr ?_;refine ZaV ?_
 refine za3 3 900 rfl fun wb => ?_
 refine zh8 901 zt7 1 ?_
 refine Zfo ?_
 refine zme (X:=Value) 900 (r:=fun sv => (GWv wb [] sv).res) (φ:=fun sv _ => zt6 sv) zev (.slice none 0 0) ⟨_, _, _, rfl⟩ rfl ?_
 refine ZU ?_;refine Zdh ?_;refine z7 (zq L rfl rfl (zn rfl) rfl rfl rfl (fun u H hH _ _ => zdl (l:=[]) (n:=0) rfl hH SetV.nil)) rfl ?_;refine z7 (zaw rfl rfl rfl zgk.1 zgk.2 (wrap_u64 (by omega) (by omega))) rfl ?_;refine qg (zan L 900 (GWr wb [0]) (r:=GWr wb []) rfl rfl rfl rfl rfl (fun u H C hH _ hr hC => by have h:=zds (n:=0) (by decide) (by decide) hH hr hC; rw [zfs (by decide)] at h; exact h)) ?_;refine Zaw ?_;refine Zx ?_;refine Zdh ?_;refine z7 (zai (φ:=US [] true) L rfl rfl (zn rfl) rfl rfl rfl SlV.mono (fun u H hH _ _ => zjy (l:=[]) (by decide) hH SetV.nil)) rfl ?_;refine Zdu ?_;refine Zfi ?_
 refine zam (fun _:Nat => [(12, .is (.int .i64 0)), (13, .is (.int .i64 0)), (3, .is (za0 wb)), (900, .own (GWr wb [0]).res)]) (fun _ => True) (fun i => i) 0 trivial ⟨rfl, rfl, rfl, rfl, trivial⟩ ?_
 rintro _ _
 refine Zcl ?_;refine ZaC ?_;refine Z7 ?_;refine qg (zo6 L 900 GNo (BsV [0] true) (r:=GWr wb [0]) rfl rfl rfl rfl rfl SlV.mono (fun u H C hH _ hr hC => zl7 (zle (by decide) hH hr hC))) ?_;refine Zd8 ?_
 exact qv L (rs:=[.tmp 2]) rfl (fun _ _ h => h) Since.refl (fun _ H _ _ v hv => hv)
end Go.V.L11
set_option maxRecDepth 20000
namespace Go.V
open Go.RowKit
abbrev z0n (s:ByteArray):List Value:=s.data.toList.map fun c:UInt8 => Value.int .u8 (c.toNat:Int)
section
variable {P:Program} {F:Fr} {B:Heap} {O:Boxes} {n:Nat} {ops:Array Oper} {κ:Kap} {d:Nat} {ty:TypeId} {pos:String} {aft:Array Edge} {g:Option (Nat × Bool)} {x:Operand} {s:ByteArray}
theorem zvt {src dst e:TypeId} (hn:Nat.blt d n = true) (hg:gK ops κ ⟨some d, .convert src dst x, ty, pos, aft, g⟩ = some true) (hx:evK κ x = some (.string s)) (hs:P.underlying src = some .string) (hd:P.underlying dst = some (.slice e)) (he:P.underlying e = some (.int .u8)) :
  StepOK P F B n ops O κ ⟨some d, .convert src dst x, ty, pos, aft, g⟩ d (.sat (SlV e 1 (z0n s) s.size false)):=by
 rintro κ' a u hl ⟨H, fp, hh⟩
 unfold After
 rw [if_pos (zah hh hl hg)]
 have en:=hh.env hl
 have h1:=en.is_ x _ (by simp [Op.operands]) hx
 have hr:=run_bytes_of_string (P:=P) u src dst e s hs hd he
 generalize hcap:grownCap u s.size 0 e = cap at hr
 generalize hfr:((bytesRow s cap).size, (bytesRow s cap).size + 1) = fr at hr
 have hrun:(execOp a.eval ⟨some d, .convert src dst x, ty, pos, aft, g⟩).run P u = .ok (.value (.slice (some ⟨u.heap.size, 0, none⟩) s.size cap)) (u.drew.alloc (.cells (bytesRow s cap) e fr)):=by
  simp only [execOp, h1, Sem.run_bind, hr, Result.andThen_ok]; rfl
 rw [hrun]
 simp only [Upon]
 have hcl:s.size ≤ cap:=by subst hcap; exact grownCap_ge u s.size 0 e
 have hg2:=(hh.drew).grow (Grow.hid (hh.drew).sub (.cells (bytesRow s cap) e fr))
 have hval:(a.put (some d) (.slice (some ⟨u.heap.size, 0, none⟩) s.size cap)).eval (.tmp d) = .slice (some ⟨u.heap.size, 0, none⟩) s.size cap:=zax (by rw [hh.size]; exact zn hn)
 have h2:=hg2.putR (d:=d) (r:=⟨fun v H u' C => v = .slice (some ⟨u.heap.size, 0, none⟩) s.size cap ∧ C u.heap.size, fun h _ _ _ _ => h⟩) (C:=fun k => k = u.heap.size) (a':=a.put (some d) (.slice (some ⟨u.heap.size, 0, none⟩) s.size cap)) (by simp [Act.put]) rfl (fun t ht => zat ht) ⟨hval, rfl⟩ (fun k hk => by
  subst hk
  exact ⟨zac (zao u.drew _), za8 hh.sub (Nat.le_refl _), .inl hh.keep.size, fun y hy e => by have:=zac (hh.boxes y hy).1; omega⟩) fun t r' _ ht k hf hk => by
  have:=((hh.slot t _ ht).2 k hf).1
  omega
 obtain ⟨H', h3⟩:=h2.pub (t:=d) (b:=u.heap.size) (φ:=SlV e 1 (z0n s) s.size false) (zak ..) (zao u.drew _) (by simp [fpu]) SlV.mono fun H' _ hb => by
  rw [hval]
  refine ⟨by rw [List.length_map, Array.length_toList, Nat.mul_one]; rfl, .inr ⟨u.heap.size, 0, cap, _, _, _, rfl, hb, ?_, hcl, fun h => by cases h⟩⟩
  rw [List.drop_zero, List.length_map]
  unfold bytesRow
  rw [Array.toList_append, Array.toList_map, List.take_append_of_le_length (by simp)]
  rw [List.take_of_length_le (by simp)]
 rw [zbv] at h3
 exact ⟨H', _, h3⟩
end
end Go.V
set_option maxRecDepth 20000
namespace Go.V
open Go.RowKit Go.V.L4
section
variable {P:Program} {F:Fr} {B:Heap} {O:Boxes} {n:Nat} {ops:Array Oper} {κ:Kap} {d q:Nat} {ty:TypeId} {pos:String} {aft:Array Edge} {g:Option (Nat × Bool)} {src dst e:TypeId}
theorem zo5 {bs:List Nat} {fu:Bool} (hb:∀ b ∈ bs, b ≤ 255) (hn:Nat.blt d n = true) (hg:gK ops κ ⟨some d, .convert src dst (.tmp q), ty, pos, aft, g⟩ = some true) (hx:κ q = some (.sat (BsV bs fu))) (hs:P.underlying src = some (.slice e)) (he:P.underlying e = some (.int .u8)) (hd:P.underlying dst = some .string) :
  StepOK P F B n ops O κ ⟨some d, .convert src dst (.tmp q), ty, pos, aft, g⟩ d (.is (.string (zcr bs))) :=
 zar rfl (by simpa using hn) hg trivial fun a u H fp en => ⟨_, by
  have key:(convert src dst (a.eval (.tmp q))).run P u = .ok (.string (zcr bs)) u:=by
   obtain ⟨hl, ⟨h0, p, hv⟩ | ⟨b, off, cap, cs, ty0, fr, hv, h2, h3, h4, _⟩⟩:=en.sat_ q _ (by simp [Op.operands]) hx
   ·have hb0:bs = []:=List.eq_nil_of_length_eq_zero h0
    subst hb0
    rw [hv]
    cases p with
    | none => exact run_convert_bytes_nil u src e hs he _ _ dst hd
    | some a0 => exact run_convert_bytes_back (P:=P) u src dst e a0 0 [] hs he hd (fun j hj => by cases hj)
   ·rw [hv]
    have hlen:(bs.map UInt8.ofNat).length = bs.length:=List.length_map _
    have hr:=run_convert_bytes_back (P:=P) u src dst e ⟨b, off, none⟩ cap (bs.map UInt8.ofNat) hs he hd (fun j hj => by
     rw [hlen] at hj
     obtain ⟨z, hz⟩:=zap hj
     have hj2:(bs.map fun b:Nat => Value.int .u8 (b:Int))[j]? = some (.int .u8 (z:Int)):=by rw [List.getElem?_map, hz]; rfl
     have h5:=AtP.get h3 hj2
     rw [zb5, zav (en.sub _ _ h2)]
     have h6:((bs.map UInt8.ofNat)[j]'(by rw [hlen]; exact hj)).toNat = z:=by
      have hzb:=hb z (List.mem_of_getElem? hz)
      rw [List.getElem_map, zil hz]
      simp
      omega
     rw [h6]
     simpa using h5)
    rw [hlen] at hr
    exact hr
  simp only [execOp, Sem.run_bind, Sem.run_pure, key, Result.andThen_ok], rfl⟩
end
end Go.V
set_option maxRecDepth 20000
namespace Go.V.L11
open Go.Proofs Go.RowKit Go.V Go.V.L2 Go.V.L4 Go.V.L6 Go.V.L8 Go.V.L10
theorem _root_.Go.V.Ze1 {A B:Prop} (h:B) (t:Wr B → A:=by intro h; refine z7 (zc2 L _ rfl rfl rfl rfl rfl rfl rfl (by omega)) rfl ?_;exact h.h):A:=t ⟨h⟩
theorem _root_.Go.V.ZfF {A B:Prop} (h:B) (t:Wr B → A:=by intro h; refine Za ?_;refine z7 (zqq rfl rfl rfl rfl z6d rfl rfl) rfl ?_;exact h.h):A:=t ⟨h⟩
theorem _root_.Go.V.ZfG {A B:Prop} (h:B) (t:Wr B → A:=by intro h; refine Ze4 ?_;refine z7 (zvt rfl rfl rfl rfl rfl rfl) rfl ?_;exact h.h):A:=t ⟨h⟩
abbrev z6a:ByteArray:=⟨#[100, 111, 99, 58, 97, 35, 118, 105, 101, 119, 101, 114, 64, 117, 115, 101, 114, 58, 120]⟩
abbrev z6x:ByteArray:=⟨#[100, 111, 99, 58, 98, 35, 118, 105, 101, 119, 101, 114, 64, 117, 115, 101, 114, 58, 120]⟩
abbrev z58:ByteArray:=⟨#[100, 111, 99, 58, 97, 35, 118, 105, 101, 119, 101, 114, 64, 117, 115, 101, 114, 58, 120, 10]⟩
abbrev z6w:ByteArray:=⟨#[43, 100, 111, 99, 58, 97, 35, 118, 105, 101, 119, 101, 114, 64, 117, 115, 101, 114, 58, 120, 10, 45, 100, 111, 99, 58, 98, 35, 118, 105, 101, 119, 101, 114, 64, 117, 115, 101, 114, 58, 120, 10]⟩
def wrS:List ByteArray:=[⟨#[0]⟩, ⟨#[1, 0]⟩, ⟨#[1, 1, 0, 0, 7]⟩, ⟨#[1, 1]⟩]
def wrA:List Int:=[0, 1, 4, 2]
theorem z64:zge [d0] = (z58, 0):=by decide +kernel
theorem z67:zfm [(d0, false), (d2, true)] = (z6w, 0):=by decide +kernel
theorem z66:zi5 ptA z6a = ([], 1, 5):=by decide +kernel
theorem z65:zi5 prC z58 = ([], 1, 5):=by kernel_rfl
theorem zht {l:List U} {fu:Bool} {s:ByteArray} {e:Int} (h:zge l = (s, e)) (hz:∀ t ∈ l, TZ t) (hs:∀ t ∈ l, (ze9 t).size ≤ 1000) {v:Value} {w:World} {B:Heap} (hB:B.Le (hp w)) (hv:US l fu v B) :
  Ret Tryz.prog 12 [v] w B (fun r _ => r = .tuple #[.string s, .int .i64 e]):=by
 have:=zub hz hs hB hv
 rw [h] at this
 exact this
theorem zgn {l:List CH} {fu:Bool} {s:ByteArray} {e:Int} (h:zfm l = (s, e)) (hz:∀ t ∈ l, TZ t.1) (hs:∀ t ∈ l, (zfi t).size ≤ 1000) {v:Value} {w:World} {B:Heap} (hB:B.Le (hp w)) (hv:KS tyC l fu v B) :
  Ret Tryz.prog 13 [v] w B (fun r _ => r = .tuple #[.string s, .int .i64 e]):=by
 have:=zsx hz hs hB hv
 rw [h] at this
 exact this
theorem zjj {s:ByteArray} {l:List U} {n:Nat} {e:Int} (h:zi5 ptA s = (l, n, e)) (hs:s.size ≤ 1000000) {w:World} {B:Heap} (hB:B.Le (hp w)) (hM:GlobM B) :
  Ret Tryz.prog 16 [.string s] w B (TupS [US l true, fun v _ => v = .int .i64 n, fun v _ => v = .int .i64 e]):=by
 have:=zsu hs hB hM
 rw [h] at this
 exact this
theorem zgh {s:ByteArray} {l:List CH} {n:Nat} {e:Int} (h:zi5 prC s = (l, n, e)) (hs:s.size ≤ 1000000) {w:World} {B:Heap} (hB:B.Le (hp w)) (hM:GlobM B) :
  Ret Tryz.prog 17 [.string s] w B (TupS [KS tyC l true, fun v _ => v = .int .i64 n, fun v _ => v = .int .i64 e]):=by
 have:=zmh hs hB hM
 rw [h] at this
 exact this
abbrev LdE (a e:Int):Value → Heap → Prop:=fun r _ => r = .tuple #[.pointer none, .int .i64 a, .int .i64 e]
theorem wl0 {v:Value} {w:World} {B:Heap} (hB:B.Le (hp w)) (hv:BsV [0] false v B):Ret Tryz.prog 26 [v] w B (LdE 0 5) :=
 zwf (bs:=[0]) (R1:=⟨1, 0, 0⟩) (by decide) (by decide) (by kernel_rfl) rfl hB hv
theorem wl1 {v:Value} {w:World} {B:Heap} (hB:B.Le (hp w)) (hv:BsV [1, 0] false v B):Ret Tryz.prog 26 [v] w B (LdE 1 5) :=
 zwe (bs:=[1, 0]) (n1:=1) (R1:=⟨1, 0, 0⟩) (R2:=⟨2, 0, 0⟩) (by decide) (by decide) (by kernel_rfl) rfl (by decide) (by decide) (by kernel_rfl) rfl hB hv
theorem wl2 {v:Value} {w:World} {B:Heap} (hB:B.Le (hp w)) (hv:BsV [1, 1, 0, 0, 7] false v B):Ret Tryz.prog 26 [v] w B (LdE 4 5) :=
 zwg (bs:=[1, 1, 0, 0, 7]) (st:=1) (R1:=⟨1, 0, 0⟩) (R2:=⟨2, 0, 0⟩) (R3:=⟨3, 0, 0⟩) (R4:=⟨4, 0, 0⟩) (by decide) (by decide) (by kernel_rfl) rfl (by decide) (by kernel_rfl) rfl (by decide) (by decide) (by decide) (by kernel_rfl) rfl (by decide) (by kernel_rfl) rfl (by decide) (by decide) hB hv
theorem wl3 {v:Value} {w:World} {B:Heap} (hB:B.Le (hp w)) (hv:BsV [1, 1] false v B):Ret Tryz.prog 26 [v] w B (LdE 2 17) :=
 ztn (bs:=[1, 1]) (n1:=1) (x:=0) (st:=1) (R1:=⟨1, 0, 0⟩) (R2:=⟨2, 0, 0⟩) (R3:=⟨2, 2, 17⟩) (by decide) (by decide) (by kernel_rfl) rfl (by decide) (by decide) (by kernel_rfl) rfl (by decide) (by decide) (by decide) (by kernel_rfl) (by decide) hB hv
attribute [local irreducible] V N X VO Par XP LV StepOK Has Ret RetL RetO RetT zbd RetX RetY Pan zt9 Src
set_option maxHeartbeats 8000000 in
set_option maxRecDepth 20000 in
theorem zgt {w:World} {B:Heap} (hB:B.Le (hp w)) (hM:GlobM B):Ret Tryz.prog 9 [] w B (fun v _ => v = .bool true):=by
 have p0:ptA z6a = (d0, 0):=by decide +kernel
 have p2:ptA z6x = (d2, 0):=by decide +kernel
 have z0:TZ d0:=zz7 (by decide)
 have z2:TZ d2:=zz7 (by decide)
 have hz1:∀ t ∈ [d0], TZ t:=fun t ht => by rw [List.mem_singleton] at ht; subst ht; exact z0
 have hz2:∀ t ∈ [((d0, false):CH), (d2, true)], TZ t.1:=fun t ht => by
  simp only [List.mem_cons, List.not_mem_nil, or_false] at ht
  rcases ht with rfl | rfl
  ·exact z0
  ·exact z2
 have hs1:∀ t ∈ [d0], (ze9 t).size ≤ 1000:=by decide +kernel
 have hs2:∀ t ∈ [((d0, false):CH), (d2, true)], (zfi t).size ≤ 1000:=by decide +kernel
 have k1:Kn.mono (.sat (US ([]:List U) true)):=SlV.mono
 have k2:Kn.mono (.sat (KS tyC ([]:List CH) true)):=SlV.mono
 have k3:Kn.mono (.sat (BsV [1, 1, 0, 0] true)):=SlV.mono
 refine qw Tryz.func9 rfl Tryz.ntmps9 (Nat.le_of_ble_eq_true rfl) hB ?_
 refine Zaq ?_;refine z7 (zq L rfl rfl (zn rfl) rfl rfl rfl (fun u H hH _ _ => zj2 p0 (Nat.le_of_ble_eq_true rfl) hH)) rfl ?_;refine ZeW ?_;refine Zd ?_;refine ZU ?_;refine z7 (zq L rfl rfl (zn rfl) rfl rfl rfl (fun u H hH _ _ => zj2 p2 (Nat.le_of_ble_eq_true rfl) hH)) rfl ?_;refine ZeW ?_;refine Zd ?_;refine Zx ?_;refine ZaU ?_;refine Zai ?_;refine z7 (zq L rfl rfl (zn rfl) rfl rfl rfl (fun u H hH hle _ v1 h1 => zht z64 hz1 hs1 hH (h1.toV (n:=1) rfl))) rfl ?_;refine Zaa ?_;refine Zv ?_;refine ZaU ?_;refine Zev ?_;refine ZaU ?_;refine Zev ?_;refine Zai ?_;refine z7 (zq L rfl rfl (zn rfl) rfl rfl rfl (fun u H hH hle _ v1 h1 => zgn z67 hz2 hs2 hH (h1.toV (n:=2) rfl))) rfl ?_;refine ZbA ?_;refine Zc5 ?_;refine ZaA ?_;refine ZA ?_;refine Zb ?_;refine z7 (zke rfl rfl rfl rfl rfl) rfl ?_;refine Zf ?_;refine Zb ?_;refine z7 (zke rfl rfl rfl rfl rfl) rfl ?_;refine Za7 ?_
 refine ZL ?_;refine z7 (zai (φ:=TupS [US ([]:List U) true, fun v _ => v = .int .i64 1, fun v _ => v = .int .i64 5]) L rfl rfl (zn rfl) rfl rfl rfl (zes SlV.mono) (fun u H hH hle _ => zjj z66 (Nat.le_of_ble_eq_true rfl) hH (hM.mono hle))) rfl ?_;refine ZdI ?_;refine ZdF ?_;refine Zbn ?_;refine Za2 ?_;refine ZZ ?_;refine z7 (zai (φ:=TupS [KS tyC ([]:List CH) true, fun v _ => v = .int .i64 1, fun v _ => v = .int .i64 5]) L rfl rfl (zn rfl) rfl rfl rfl (zes SlV.mono) (fun u H hH hle _ => zgh z65 (Nat.le_of_ble_eq_true rfl) hH (hM.mono hle))) rfl ?_;refine ZdI ?_;refine ZdF ?_;refine Zbn ?_;refine Za2 ?_;refine Zaj ?_;refine ZaV ?_
 refine Zay ?_;refine z7 (zck L rfl rfl (zn rfl) rfl rfl rfl (fun u H hH hle _ => zyc hH)) rfl ?_;refine zfl 72 900 rfl fun b => ?_;refine y7 (zg5 L 900 (TupS [BsV [1, 1, 0, 0] true, fun v _ => v = .int .i64 0]) (r:=StG b newS) rfl rfl rfl rfl rfl (zu8 SlV.mono) (fun u H2 C2 hH hle hr2 hC2 => zwy hH hr2 hC2)) ?_;refine ZdI ?_;refine Zbn ?_;refine Zi ?_
 refine ZbH ?_;refine ZA ?_;refine Zb ?_;refine ZA ?_;refine Zf ?_;refine Zb ?_;refine ZA ?_;refine Zf ?_;refine Zb ?_;refine ZA ?_;refine Zf ?_;refine Za ?_;refine ZaY ?_;refine z7 (zai (φ:=BsV [0] true) L rfl rfl (zn rfl) rfl rfl rfl SlV.mono (fun u H hH hle _ => zmq hH)) rfl ?_;refine z7 (zo5 (bs:=[0]) (fu:=true) (by decide) rfl rfl rfl rfl rfl rfl) rfl ?_;refine z7 (zke rfl rfl rfl rfl rfl) rfl ?_;refine Zf ?_;refine Zb ?_;refine ZA ?_;refine Zf ?_;refine Za ?_;refine Zh ?_;refine z7 (zo5 (bs:=[1, 1, 0, 0]) (fu:=true) (by decide) rfl rfl rfl rfl rfl rfl) rfl ?_;refine z7 (zke rfl rfl rfl rfl rfl) rfl ?_;refine Za7 ?_
 refine ZbB ?_;refine Zai ?_;refine Zdg ?_;refine Zaz ?_;refine Zai ?_;refine Zdl ?_;refine ZT ?_;refine ZS ?_
 refine zpw 18 (SlB (wrS.map Value.string) 9 4) rfl SlB.mono (fun _ _ h => by unfold wrS; exact h) ?_
 refine zpw 19 (SlB (wrA.map (Value.int .i64)) tyI 4) rfl SlB.mono (fun _ _ h => by unfold wrA; exact h) ?_
 refine zam (fun i:Nat => [(18, .sat (SlB (wrS.map Value.string) 9 4)), (19, .sat (SlB (wrA.map (Value.int .i64)) tyI 4)), (20, .is (.int .i64 i))]) (fun i => i ≤ 4) (fun i => 4 - i) 0 (Nat.zero_le _) ⟨rfl, rfl, rfl, trivial⟩ ?_
 rintro i hi
 have hcases:i = 0 ∨ i = 1 ∨ i = 2 ∨ i = 3 ∨ i = 4:=by omega
 rcases hcases with rfl | rfl | rfl | rfl | rfl
 ·have hcs:(wrS.map Value.string)[0 * 1]? = some (.string ⟨#[0]⟩):=rfl
  have hca:(wrA.map (Value.int .i64))[0 * 1]? = some (.int .i64 0):=rfl
  refine Ze ?_;refine ZbF ?_;refine ZaT ?_;refine ZdA ?_;refine Zi ?_;refine Zbr ?_;refine Za ?_;refine ZbW ?_;refine ZaH ?_;refine Zdi ?_;refine Zfu ?_;refine ZfG ?_;refine z7 (zq L rfl rfl (zn rfl) rfl rfl rfl (fun u H hH hle _ v1 h1 => wl0 hH h1)) rfl ?_;refine Zbh ?_;refine Zu ?_;refine Za2 ?_;refine Zb4 ?_;refine ZfF ?_;refine Zb ?_;refine Zdi ?_;refine Zfu ?_;refine Ze4 ?_;refine ZA ?_;refine ZaN ?_;refine ZA ?_;refine Zf ?_;refine ZaO ?_;refine Za9 ?_;refine Za ?_;refine ZaP ?_
  exact y9 (x:=0) 1 (by decide) (by decide) ⟨rfl, rfl, rfl, trivial⟩
 ·have hcs:(wrS.map Value.string)[1 * 1]? = some (.string ⟨#[1, 0]⟩):=rfl
  have hca:(wrA.map (Value.int .i64))[1 * 1]? = some (.int .i64 1):=rfl
  refine Ze ?_;refine ZbF ?_;refine ZaT ?_;refine ZdA ?_;refine Zi ?_;refine Zbr ?_;refine Za ?_;refine ZbW ?_;refine ZaH ?_;refine Zdi ?_;refine Ze1 ?_;refine ZfG ?_;refine z7 (zq L rfl rfl (zn rfl) rfl rfl rfl (fun u H hH hle _ v1 h1 => wl1 hH h1)) rfl ?_;refine Zbh ?_;refine Zu ?_;refine Za2 ?_;refine Zb4 ?_;refine ZfF ?_;refine Zb ?_;refine Zdi ?_;refine Ze1 ?_;refine Ze4 ?_;refine ZA ?_;refine ZaN ?_;refine ZA ?_;refine Zf ?_;refine ZaO ?_;refine Za9 ?_;refine Za ?_;refine ZaP ?_
  exact y9 (x:=1) 2 (by decide) (by decide) ⟨rfl, rfl, rfl, trivial⟩
 ·have hcs:(wrS.map Value.string)[2 * 1]? = some (.string ⟨#[1, 1, 0, 0, 7]⟩):=rfl
  have hca:(wrA.map (Value.int .i64))[2 * 1]? = some (.int .i64 4):=rfl
  refine Ze ?_;refine ZbF ?_;refine ZaT ?_;refine ZdA ?_;refine Zi ?_;refine Zbr ?_;refine Za ?_;refine ZbW ?_;refine ZaH ?_;refine Zdi ?_;refine Ze1 ?_;refine ZfG ?_;refine z7 (zq L rfl rfl (zn rfl) rfl rfl rfl (fun u H hH hle _ v1 h1 => wl2 hH h1)) rfl ?_;refine Zbh ?_;refine Zu ?_;refine Za2 ?_;refine Zb4 ?_;refine ZfF ?_;refine Zb ?_;refine Zdi ?_;refine Ze1 ?_;refine Ze4 ?_;refine ZA ?_;refine ZaN ?_;refine ZA ?_;refine Zf ?_;refine ZaO ?_;refine Za9 ?_;refine Za ?_;refine ZaP ?_
  exact y9 (x:=2) 3 (by decide) (by decide) ⟨rfl, rfl, rfl, trivial⟩
 ·have hcs:(wrS.map Value.string)[3 * 1]? = some (.string ⟨#[1, 1]⟩):=rfl
  have hca:(wrA.map (Value.int .i64))[3 * 1]? = some (.int .i64 2):=rfl
  refine Ze ?_;refine ZbF ?_;refine ZaT ?_;refine ZdA ?_;refine Zi ?_;refine Zbr ?_;refine Za ?_;refine Z9 ?_;refine Z8 ?_;refine Zbe ?_;refine Zd ?_;refine ZaH ?_;refine Zdi ?_;refine Ze1 ?_;refine ZfG ?_;refine z7 (zq L rfl rfl (zn rfl) rfl rfl rfl (fun u H hH hle _ v1 h1 => wl3 hH h1)) rfl ?_;refine Zbh ?_;refine Zu ?_;refine Za2 ?_;refine Zb4 ?_;refine ZfF ?_;refine Zb ?_;refine Zdi ?_;refine Ze1 ?_;refine Ze4 ?_;refine ZA ?_;refine ZaN ?_;refine ZA ?_;refine Zf ?_;refine ZaO ?_;refine Za9 ?_;refine Za ?_;refine ZaP ?_
  exact y9 (x:=3) 4 (by decide) (by decide) ⟨rfl, rfl, rfl, trivial⟩
 ·refine Ze ?_;refine ZbF ?_;refine Za8 ?_;refine zh (id:=24) ?_;refine Zc ?_
  refine qv L (rs:=[.tmp 0]) rfl (fun _ _ h => h) Since.refl fun u H hH hle => ?_
  rfl
end Go.V.L11
set_option maxRecDepth 20000
namespace Go.V.L11
open Go.Proofs Go.RowKit Go.V Go.V.L2 Go.V.L3 Go.V.L6 Go.V.L8
attribute [local irreducible] V N X VO Par StepOK Has Ret RetL RetO RetT Src
set_option maxHeartbeats 1000000 in
theorem zxt {ps:List (Nat × Nat)} {fu:Bool} (hps:∀ p ∈ ps, p.1 ≤ 255 ∧ p.2 ≤ 255) (hlen:ps.length ≤ 9223372036854775807) {sv:Value} {w:World} {B:Heap} (hB:B.Le (hp w)) (hv:PS2 ps fu sv B) :
  RetO Tryz.prog 10 [.agg #[sv]] w B (SlR tyU 6 (tl ps).length ((tl ps).flatMap ucs)):=by
 refine zcx Tryz.func10 rfl Tryz.ntmps10 (Nat.le_of_ble_eq_true rfl) hB ?_
 refine Zcr ?_;refine Zi ?_
 refine zgm 3 tyU 6 rfl ?_
 refine ZU ?_;refine ZS ?_
 have hll:=zn8 ps
 refine zam (fun i:Nat => [(1, .sat (At [sv] 24 0)), (3, .own (SlR tyU 6 ((tl ps).take i).length (((tl ps).take i).flatMap ucs))), (4, .is (.int .i64 i))])
  (fun i => i ≤ (tl ps).length) (fun i => (tl ps).length - i) 0 (Nat.zero_le _) ⟨rfl, rfl, rfl, trivial⟩ ?_
 rintro i hi
 have hli:=List.length_take (i:=i) (l:=tl ps)
 by_cases h1:i < ps.length
 ·by_cases h2:i < 20
  ·obtain ⟨⟨a, b⟩, hn⟩:=zap h1
   have hc:=z5h hn
   have hab:=hps _ (List.mem_of_getElem? hn)
   have hg:=z28 hn h2
   generalize hgg:zte a b = t at hg
   refine ZbX ?_;refine ZW ?_;refine zdg 7 (PS2 ps fu) rfl SlV.mono hv ?_;refine Zdu ?_;refine ZY ?_;refine Zc2 ?_;refine Zcs ?_;refine ZaD ?_;refine Z2 ?_;refine qg (zaf (.inl rfl) rfl rfl rfl rfl) ?_;refine ZW ?_;refine zdg 18 (PS2 ps fu) rfl SlV.mono hv ?_;refine Za ?_;refine Zbu ?_;refine Zft ?_;refine z7 (zq (r:=uv t) L rfl rfl (zn rfl) rfl rfl rfl (fun u H hH _ _ => hgg ▸ zkc a b hab.1 hab.2 hH)) rfl ?_;refine Zai ?_;refine ZeI ?_;refine qg (zaf (.inr rfl) rfl rfl rfl rfl) ?_;refine ZcC ?_;refine Zd2 ?_
   exact y9 (x:=i) (i + 1) (by omega) (by omega) ⟨rfl, by rw [zuo hg]; exact zxp rfl, rfl, trivial⟩
  ·obtain rfl:i = (tl ps).length:=by omega
   rw [List.take_length]
   refine ZbX ?_;refine ZW ?_;refine zdg 7 (PS2 ps fu) rfl SlV.mono hv ?_;refine Zdu ?_;refine ZY ?_;refine ZaX ?_;refine Zf ?_;refine Zba ?_;refine ZQ ?_;refine qg (zaf (.inl rfl) rfl rfl rfl rfl) ?_;refine qg (zaf (.inr rfl) rfl rfl rfl rfl) ?_;refine Zy ?_
   exact zf2 rfl (fun _ _ h => h) Since.refl rfl
 ·obtain rfl:i = (tl ps).length:=by omega
  rw [List.take_length]
  refine ZbX ?_;refine ZW ?_;refine zdg 7 (PS2 ps fu) rfl SlV.mono hv ?_;refine Zdu ?_;refine ZI ?_;refine Zc6 ?_;refine Zba ?_;refine ZQ ?_;refine qg (zaf (.inl rfl) rfl rfl rfl rfl) ?_;refine qg (zaf (.inr rfl) rfl rfl rfl rfl) ?_;refine Zy ?_
  exact zf2 rfl (fun _ _ h => h) Since.refl rfl
set_option maxHeartbeats 1000000 in
theorem zzb {cs:List C3} {fc:Bool} {M:List CH} (hM:dOf cs = M) (hcs:∀ c ∈ cs, c.1 ≤ 255 ∧ c.2.1 ≤ 255 ∧ c.2.2 ≤ 255) (lcs:cs.length ≤ 9223372036854775807)
  {cx:Value} {w:World} {B:Heap} (hB:B.Le (hp w)) (hc:PS3 cs fc cx B):RetO Tryz.prog 11 [.agg #[cx]] w B (SlR tyC 7 M.length (M.flatMap ccs)):=by
 refine zcx Tryz.func11 rfl Tryz.ntmps11 (Nat.le_of_ble_eq_true rfl) hB ?_
 refine Zcr ?_;refine Zdy ?_;refine ZS ?_
 refine zgm 3 tyC 7 rfl ?_
 refine zam (fun y:Nat × List CH => [(1, .sat (At [cx] 27 0)), (3, .own (SlR tyC 7 y.2.length (y.2.flatMap ccs))), (4, .is (.int .i64 y.1))])
  (fun y => y.1 ≤ (cs.take 30).length ∧ y.2 = (cs.take y.1).map fC) (fun y => (cs.take 30).length - y.1) (0, []) ⟨Nat.zero_le _, rfl⟩ ⟨rfl, rfl, rfl, trivial⟩ ?_
 rintro ⟨i, out⟩ ⟨hi, ho⟩
 dsimp only at hi ho ⊢
 have h30:(cs.take 30).length = min 30 cs.length:=List.length_take
 have hol:out.length = i:=by rw [ho, List.length_map, List.length_take]; omega
 have hfin:i = (cs.take 30).length → out = M:=fun e => by
  rw [← hM, ho, e, h30]
  unfold dOf
  congr 1
  exact (List.take_eq_take_min (l:=cs) (i:=30)).symm
 by_cases h1:i < cs.length
 ·by_cases h2:i < 30
  ·obtain ⟨⟨a, b, c⟩, hn⟩:=zap h1
   have hcc:=z3l hn
   obtain ⟨ka, kb, kc⟩:=hcs _ (List.mem_of_getElem? hn)
   dsimp only at ka kb kc
   have hnx:out ++ [(zte a b, drB c)] = (cs.take (i + 1)).map fC:=by rw [List.take_add_one, hn, List.map_append, ho]; rfl
   generalize hxx:zte a b = x at hnx
   generalize hdd:drB c = d at hnx
   refine ZbX ?_;refine ZW ?_;refine zdg 7 (PS3 cs fc) rfl SlV.mono hc ?_;refine Zdu ?_;refine ZY ?_;refine Zc2 ?_;refine Zcs ?_;refine ZaD ?_;refine Z2 ?_;refine qg (zaf (.inl rfl) rfl rfl rfl rfl) ?_;refine ZW ?_;refine zdg 18 (PS3 cs fc) rfl SlV.mono hc ?_;refine Za ?_;refine Zbu ?_;refine z7 (yh L (vs:=[_, _, _]) rfl rfl rfl rfl rfl ⟨_, rfl⟩) rfl ?_;refine z7 (zq L rfl rfl (zn rfl) rfl rfl rfl (fun u H hH _ _ => zzh hxx hdd ka kb kc hH)) rfl ?_;refine Zai ?_;refine Zfb ?_;refine qg (zaf (.inr rfl) rfl rfl rfl rfl) ?_;refine ZcC ?_;refine Zd2 ?_
   exact y9 (x:=(i, out)) (i + 1, out ++ [(x, d)]) ⟨by dsimp only; omega, hnx⟩ (by dsimp only; omega) ⟨rfl, zks rfl, rfl, trivial⟩
  ·obtain he:=hfin (by omega)
   subst he
   refine ZbX ?_;refine ZW ?_;refine zdg 7 (PS3 cs fc) rfl SlV.mono hc ?_;refine Zdu ?_;refine ZY ?_;refine ZaX ?_;refine Zf ?_;refine Zba ?_
   refine ZQ ?_;refine qg (zaf (.inl rfl) rfl rfl rfl rfl) ?_;refine qg (zaf (.inr rfl) rfl rfl rfl rfl) ?_;refine Zy ?_
   exact zf2 rfl (fun _ _ h => h) Since.refl rfl
 ·obtain he:=hfin (by omega)
  subst he
  refine ZbX ?_;refine ZW ?_;refine zdg 7 (PS3 cs fc) rfl SlV.mono hc ?_;refine Zdu ?_;refine ZI ?_;refine Zc6 ?_;refine Zba ?_
  refine ZQ ?_;refine qg (zaf (.inl rfl) rfl rfl rfl rfl) ?_;refine qg (zaf (.inr rfl) rfl rfl rfl rfl) ?_;refine Zy ?_
  exact zf2 rfl (fun _ _ h => h) Since.refl rfl
end Go.V.L11
set_option maxRecDepth 20000
namespace Go.V.L11
open Go.Proofs Go.RowKit Go.V Go.V.L2 Go.V.L4 Go.V.L8 Go.V.Bd
theorem zft {s:ByteArray} {c:UInt8} (h:chk s = 0) (hc:okB c = false):noB s c:=by
 unfold chk at h
 split at h
 ·rename_i hk
  have:=List.all_eq_true.1 hk.2.2
  exact fun hm => by have:=this _ hm; rw [hc] at this; cases this
 ·exact absurd h (by decide)
theorem zrw {t:U} (h:tE t = 0):noB (tT t) 10:=by
 obtain ⟨⟨⟨x, y⟩, z⟩, ⟨⟨x2, y2⟩, z2⟩⟩:=t
 unfold tE at h
 dsimp only at h
 split at h
 ·rename_i h1
  obtain ⟨c1, c2, c3⟩:=zq6 h1
  obtain ⟨d1, d2, d3⟩:=zeo h
  have k:okB 10 = false:=by decide
  have n1:noB (zdh x y z) 10:=by
   unfold zdh zi6
   exact zbe (zbe (zbe (zbe (zft c1 k) (zc3 (by decide))) (zft c2 k)) (zc3 (by decide))) (zft c3 k)
  have n2:noB (zen x2 y2 z2) 10:=by
   unfold zen
   split
   ·unfold zi6; exact zbe (zbe (zft d1 k) (zc3 (by decide))) (zft d2 k)
   ·rename_i hz
    unfold zdh zi6
    exact zbe (zbe (zbe (zbe (zft d1 k) (zc3 (by decide))) (zft d2 k)) (zc3 (by decide))) (zft (d3.resolve_left hz) k)
  unfold tT
  exact zbe (zbe n1 (zc3 (by decide))) n2
 ·rename_i h1; exact absurd h h1
theorem zqc (s:ByteArray) (l:List Nat):zcr (ze0 s ++ l) = s ++ zcr l:=by
 apply zbr
 rw [zas]
 unfold zcr ze0
 simp only [List.map_append, List.map_map]
 show List.map (UInt8.ofNat ∘ fun c => c.toNat) s.data.toList ++ _ = s.data.toList ++ _
 rw [List.map_congr_left (g:=id) fun c _ => by simp, List.map_id]
theorem zqx {X:Type} {f:X → ByteArray}:∀ {l:List X}, (∀ x ∈ l, noB (f x) 10) → zd5 (zcr (l.flatMap fun x => ze0 (f x ++ sNl))) = l.map fun x => f x ++ sNl
 | [], _ => rfl
 | x :: l, h => by
  rw [List.flatMap_cons, zqc, zr4 (h x (List.mem_cons_self ..)), zqx fun y hy => h y (List.mem_cons_of_mem _ hy)]
  rfl
theorem zm1 {X:Type} {f:X → ByteArray} {rd:ByteArray → X × Int}:∀ {l:List X} {out:List X} {n:Nat}, (∀ x ∈ l, rd (f x) = (x, 0)) → n + l.length ≤ 4097 → ze5 rd out n (l.map fun x => f x ++ sNl) = (out ++ l, 0, 0)
 | [], out, n, _, _ => by rw [List.append_nil]; rfl
 | x :: l, out, n, h, hn => by
  rw [List.length_cons] at hn
  show ze5 rd out n ((f x ++ sNl) :: l.map fun x => f x ++ sNl) = _
  unfold ze5
  rw [if_neg (by omega), z19]
  dsimp only
  rw [h x (List.mem_cons_self ..), if_neg (by simp), zm1 (fun y hy => h y (List.mem_cons_of_mem _ hy)) (by omega), List.append_assoc]
  rfl
theorem zyw (t:U):ze9 t = tT t ++ sNl:=by
 unfold ze9
 exact zbr (by simp [zas])
theorem zxz (l:List U):zd7 l = l.flatMap fun t => ze0 (tT t ++ sNl):=by
 unfold zd7
 congr 1
theorem zn4:∀ {l:List U}, zpy l = 0 → ∀ t ∈ l, tE t = 0
 | t :: l, h, x, hx => by
  unfold zpy at h
  by_cases h0:tE t = 0
  ·rw [if_neg (fun h => h h0)] at h
   rcases List.mem_cons.1 hx with rfl | hx
   ·exact h0
   ·exact zn4 h x hx
  ·rw [if_pos h0] at h; exact absurd h h0
theorem zyl {l:List U} {s:ByteArray} (h:zge l = (s, 0)) (hz:s.size ≤ 1000000):zi5 ptA s = (l, 0, 0):=by
 unfold zge at h
 split at h
 ·cases congrArg Prod.snd h
 ·rename_i hl
  have h2:=congrArg Prod.snd h
  dsimp only at h2
  rw [if_neg (fun h => h h2)] at h
  have h1:=congrArg Prod.fst h
  dsimp only at h1
  have hv:=zn4 h2
  unfold zi5
  rw [if_neg (by omega), ← h1, zxz, zqx (fun t ht => zrw (hv t ht)), zm1 (fun t ht => zqm (hv t ht)) (by omega)]
  rfl
theorem znc (c:CH):zfi c = (zoo c ++ tT c.1) ++ sNl:=rfl
theorem zxw (l:List CH):zd6 l = l.flatMap fun c => ze0 ((zoo c ++ tT c.1) ++ sNl):=rfl
theorem zgy:∀ {l:List CH}, znx l = 0 → ∀ c ∈ l, tE c.1 = 0
 | t :: l, h, x, hx => by
  unfold znx at h
  by_cases h0:tE t.1 = 0
  ·rw [if_neg (fun h => h h0)] at h
   rcases List.mem_cons.1 hx with rfl | hx
   ·exact h0
   ·exact zgy h x hx
  ·rw [if_pos h0] at h; exact absurd h h0
theorem zyi {c:CH} (h:tE c.1 = 0):prC (zoo c ++ tT c.1) = (c, 0):=by
 obtain ⟨t, d⟩:=c
 unfold zoo
 dsimp only at h ⊢
 cases d
 ·rw [if_neg (by decide), zmz]
  unfold prB
  rw [if_pos (.inl rfl), zqm h]
  rfl
 ·rw [if_pos rfl, zmz]
  unfold prB
  rw [if_pos (.inr rfl), zqm h]
  rfl
theorem z1u (c:CH):noB (zoo c) 10:=by
 unfold zoo
 split <;> exact zc3 (by decide)
theorem zvf {l:List CH} {s:ByteArray} (h:zfm l = (s, 0)) (hz:s.size ≤ 1000000):zi5 prC s = (l, 0, 0):=by
 unfold zfm at h
 split at h
 ·cases congrArg Prod.snd h
 ·rename_i hl
  have h2:=congrArg Prod.snd h
  dsimp only at h2
  rw [if_neg (fun h => h h2)] at h
  have h1:=congrArg Prod.fst h
  dsimp only at h1
  have hv:=zgy h2
  unfold zi5
  rw [if_neg (by omega), ← h1, zxw, zqx (fun c hc => zbe (z1u c) (zrw (hv c hc))), zm1 (fun c hc => zyi (hv c hc)) (by omega)]
  rfl
end Go.V.L11
set_option maxRecDepth 20000
namespace Go.V.L11
open Go.Proofs Go.RowKit Go.V Go.V.L2 Go.V.L4 Go.V.L6 Go.V.L8 Go.V.Bd
theorem zof (a:List Nat) (s:ByteArray):zcr (a ++ ze0 s) = zcr a ++ s:=by
 apply zbr
 rw [zas]
 unfold zcr ze0
 simp only [List.map_append, List.map_map]
 show _ ++ List.map (UInt8.ofNat ∘ fun c => c.toNat) s.data.toList = _ ++ s.data.toList
 rw [List.map_congr_left (g:=id) fun c _ => by simp, List.map_id]
theorem zut {l:List U} {i:Nat} {t:U} (h:l[i]? = some t):zcr (zd7 (l.take (i + 1))) = zcr (zd7 (l.take i)) ++ (tT t ++ sNl):=by
 rw [zhw h, zyw, zof]
theorem zoh {l:List U} (hs:∀ t ∈ l, (ze9 t).size ≤ 1000) (i:Nat):(zcr (zd7 (l.take i))).size ≤ i * 1000:=by
 have:=zfo hs i
 show (List.map UInt8.ofNat (zd7 (l.take i))).toArray.size ≤ _
 simpa using this
theorem zus {l:List CH} {i:Nat} {t:CH} (h:l[i]? = some t):zcr (zd6 (l.take (i + 1))) = zcr (zd6 (l.take i)) ++ (zoo t ++ tT t.1 ++ sNl):=by
 rw [zhv h, znc, zof]
theorem zog {l:List CH} (hs:∀ t ∈ l, (zfi t).size ≤ 1000) (i:Nat):(zcr (zd6 (l.take i))).size ≤ i * 1000:=by
 have:=zfn hs i
 show (List.map UInt8.ofNat (zd6 (l.take i))).toArray.size ≤ _
 simpa using this
attribute [local irreducible] V N X VO Par StepOK Has Ret RetL RetO RetT zbd RetX RetY Src
set_option maxRecDepth 20000 in
set_option maxHeartbeats 1000000 in
theorem zro {l:List U} {fu:Bool} {s:ByteArray} {e:Int} (hF:zge l = (s, e)) (hz:∀ t ∈ l, TZ t) (hs:∀ t ∈ l, (ze9 t).size ≤ 1000) (hl:l.length ≤ 1000000) {v:Value} {w:World} {B:Heap} (hB:B.Le (hp w)) (hv:US l fu v B) :
  Ret Tryz.prog 14 [v] w B (fun r _ => r = .tuple #[.string s, .int .i64 e]):=by
 have e1:s = (zge l).1:=by rw [hF]
 have e2:e = (zge l).2:=by rw [hF]
 subst e1 e2
 clear hF
 unfold zge
 refine qw Tryz.func14 rfl Tryz.ntmps14 (Nat.le_of_ble_eq_true rfl) hB ?_
 refine zbf 0 (US l fu) rfl SlV.mono hv ?_
 by_cases hln:4096 < l.length
 ·rw [if_pos hln]
  refine Zdc ?_;refine ZP ?_;refine ZbM ?_;refine Zt ?_
  refine qv L (rs:=[.tmp 2, .tmp 3]) rfl (fun _ _ h => h) Since.refl fun u H hH hle => ?_
  rfl
 ·rw [if_neg hln]
  refine Zdc ?_;refine Zb2 ?_;refine Zx ?_;refine Zi ?_;refine Zv ?_;refine ZS ?_
  refine zam (fun i:Nat => [(0, .sat (US l fu)), (4, .is (.string (zcr (zd7 (l.take i))))), (5, .is (.int .i64 i))]) (fun i => i ≤ l.length ∧ zpy (l.drop i) = zpy l) (fun i => l.length - i) 0 ⟨Nat.zero_le _, rfl⟩ ⟨rfl, rfl, rfl, trivial⟩ ?_
  rintro i ⟨hi, hte⟩
  dsimp only at hi hte ⊢
  have hss:=zoh hs i
  by_cases hlt:i < l.length
  ·obtain ⟨t, ht⟩:=zap hlt
   have hcr:=ziq ht
   have hzt:=hz t (List.mem_of_getElem? ht)
   have hst:=hs t (List.mem_of_getElem? ht)
   rw [zg8] at hst
   rw [zn5 ht] at hte
   have hsn:=zut ht
   by_cases he:tE t = 0
   ·rw [if_neg (fun h => h he)] at hte
    have hs1:(tT t).size + (⟨#[10]⟩:ByteArray).size ≤ 9223372036854775807:=by have h2:(⟨#[10]⟩:ByteArray).size = 1:=rfl; omega
    have hs2:(zcr (zd7 (l.take i))).size + (tT t ++ (⟨#[10]⟩:ByteArray)).size ≤ 9223372036854775807:=by rw [ByteArray.size_append]; have h2:(⟨#[10]⟩:ByteArray).size = 1:=rfl; omega
    refine Ze ?_;refine ZN ?_;refine Zn ?_;refine ZbC ?_;refine ZaD ?_;refine ZcR ?_;refine ZdK ?_;refine Zcw ?_;refine z7 (zq L rfl rfl (zn rfl) rfl rfl rfl (fun u H hH _ _ => zj3 hzt hH)) rfl ?_;refine ZA ?_;refine Zdb ?_;refine Za0 ?_;refine ZdK ?_;refine Zcw ?_;refine z7 (zq L rfl rfl (zn rfl) rfl rfl rfl (fun u H hH _ _ => zlp hzt hH)) rfl ?_;refine ZbQ ?_;refine ZbQ ?_;refine ZX ?_;refine Za5 ?_;refine ZJ ?_;refine ZaP ?_
    exact y9 (x:=i) (i + 1) ⟨hlt, hte⟩ (by omega) ⟨rfl, by rw [hsn]; rfl, rfl, trivial⟩
   ·rw [if_pos he] at hte
    have h6:tE t = 6:=(zrh t).resolve_left he
    refine Ze ?_;refine ZN ?_;refine Zn ?_;refine ZbC ?_;refine ZaD ?_;refine ZcR ?_;refine ZdK ?_;refine Zcw ?_;refine z7 (zq L rfl rfl (zn rfl) rfl rfl rfl (fun u H hH _ _ => zj3 hzt hH)) rfl ?_;refine ZH ?_;refine Z7 ?_;refine Zt ?_
    refine qv L (rs:=[.tmp 2, .tmp 3]) rfl (fun _ _ h => h) Since.refl fun u H hH hle => ?_
    rw [← hte, if_pos he, h6]
    rfl
  ·obtain rfl:i = l.length:=by omega
   rw [List.drop_length] at hte
   rw [List.take_length]
   refine Ze ?_;refine ZN ?_;refine Zn ?_;refine Za8 ?_;refine ZcJ ?_;refine Zt ?_
   refine qv L (rs:=[.tmp 2, .tmp 3]) rfl (fun _ _ h => h) Since.refl fun u H hH hle => ?_
   rw [← hte]
   rfl
theorem zp4 {t:U} (h:TZ t):TM t:=by
 unfold TZ at h
 unfold TM
 omega
theorem zu6 {c:CH} {w:World} {B:Heap} (hB:B.Le (hp w)):Ret Tryz.prog 61 [cvC c] w B (fun v _ => v = .string (zoo c)):=by
 obtain ⟨t, d⟩:=c
 cases d
 ·refine qw Tryz.func61 rfl Tryz.ntmps61 (Nat.le_of_ble_eq_true rfl) hB ?_
  refine Zc4 ?_;refine Zq ?_;refine Zx ?_;refine Zc ?_
  refine qv L (rs:=[.tmp 2]) rfl (fun _ _ h => h) Since.refl fun u H hH hle => ?_
  rfl
 ·refine qw Tryz.func61 rfl Tryz.ntmps61 (Nat.le_of_ble_eq_true rfl) hB ?_
  refine Zc4 ?_;refine Zck ?_
  refine qv L (rs:=[.tmp 2]) rfl (fun _ _ h => h) Since.refl fun u H hH hle => ?_
  rfl
theorem zrd:∀ {l:List CH}, znx l ≠ 0 → (l.any fun c => !decide (tE c.1 = 0)) = true ∧ znx l = 6
 | [], h => absurd rfl h
 | c :: l, h => by
  unfold znx at h ⊢
  by_cases h0:tE c.1 = 0
  ·rw [if_neg (fun h => h h0)] at h ⊢
   obtain ⟨h1, h2⟩:=zrd h
   exact ⟨by rw [List.any_cons, h1, Bool.or_true], h2⟩
  ·rw [if_pos h0]
   exact ⟨by rw [List.any_cons]; simp [h0], (zrh c.1).resolve_left h0⟩
theorem z4n (l:List CH):cE 4096 l = (zfm l).2:=by
 unfold cE zfm
 split
 ·rfl
 ·by_cases h:znx l = 0
  ·have hv:=zgy h
   rw [if_neg (by simp only [List.any_eq_true, Bool.not_eq_true']; rintro ⟨c, hc, h2⟩; rw [hv c hc] at h2; exact absurd h2 (by decide))]
   exact h.symm
  ·obtain ⟨h1, h2⟩:=zrd h
   rw [if_pos h1]
   exact h2.symm
set_option maxRecDepth 20000 in
set_option maxHeartbeats 1000000 in
theorem zox {l:List CH} {fu:Bool} {s:ByteArray} {e:Int} (hF:zfm l = (s, e)) (hz:∀ t ∈ l, TZ t.1) (hs:∀ t ∈ l, (zfi t).size ≤ 1000) (hl:l.length ≤ 1000000) {v:Value} {w:World} {B:Heap} (hB:B.Le (hp w)) (hv:KS tyC l fu v B) :
  Ret Tryz.prog 15 [v] w B (fun r _ => r = .tuple #[.string s, .int .i64 e]):=by
 have hck:=z4n l
 rw [hF] at hck
 dsimp only at hck
 refine qw Tryz.func15 rfl Tryz.ntmps15 (Nat.le_of_ble_eq_true rfl) hB ?_
 refine zbf 0 (KS tyC l fu) rfl SlV.mono hv ?_
 by_cases h0:e = 0
 ·subst h0
  have hF0:=hF
  unfold zfm at hF
  split at hF
  ·cases congrArg Prod.snd hF
  ·rename_i hln
   have h2:=congrArg Prod.snd hF
   dsimp only at h2
   rw [if_neg (fun h => h h2)] at hF
   have h1:zcr (zd6 l) = s:=congrArg Prod.fst hF
   have hok:=zgy h2
   refine Zau ?_;refine ZaB ?_;refine Zh ?_;refine z7 (zq L rfl rfl (zn rfl) rfl rfl rfl (fun u H hH hle _ v1 h1 => zmy (fun t ht => zp4 (hz t ht)) (by omega) hck hH h1)) rfl ?_;refine Zad ?_;refine Zx ?_;refine Zi ?_;refine Zv ?_;refine ZS ?_
   refine zam (fun i:Nat => [(0, .sat (KS tyC l fu)), (4, .is (.string (zcr (zd6 (l.take i))))), (5, .is (.int .i64 i))]) (fun i => i ≤ l.length) (fun i => l.length - i) 0 (Nat.zero_le _) ⟨rfl, rfl, rfl, trivial⟩ ?_
   rintro i hi
   have hss:=zog hs i
   by_cases hlt:i < l.length
   ·obtain ⟨t, ht⟩:=zap hlt
    have hcr:=zit ht
    have hzt:=hz t (List.mem_of_getElem? ht)
    have hst:=hs t (List.mem_of_getElem? ht)
    rw [znc, ByteArray.size_append, ByteArray.size_append] at hst
    have hsg:=zg1 t
    have hn1:sNl.size = 1:=rfl
    have hsn:=zus ht
    have hs0:(zoo t).size + (tT t.1).size ≤ 9223372036854775807:=by omega
    have hs1:(zoo t ++ tT t.1).size + (⟨#[10]⟩:ByteArray).size ≤ 9223372036854775807:=by rw [ByteArray.size_append]; have h2:(⟨#[10]⟩:ByteArray).size = 1:=rfl; omega
    have hs2:(zcr (zd6 (l.take i))).size + (zoo t ++ tT t.1 ++ (⟨#[10]⟩:ByteArray)).size ≤ 9223372036854775807:=by rw [ByteArray.size_append, ByteArray.size_append]; have h2:(⟨#[10]⟩:ByteArray).size = 1:=rfl; omega
    refine Ze ?_;refine ZN ?_;refine Zn ?_;refine ZbC ?_;refine ZaD ?_;refine ZeA ?_;refine Zg ?_;refine ZcF ?_;refine ZeM ?_;refine z8 (zq L rfl rfl (zn rfl) rfl rfl rfl (fun u H hH _ _ => zu6 (c:=t) hH)) rfl ?_;refine ZcF ?_;refine z8 (zlt L rfl rfl rfl rfl) rfl ?_;refine Zd9 ?_;refine z8 (zq L rfl rfl (zn rfl) rfl rfl rfl (fun u H hH _ _ => zlp (t:=t.1) hzt hH)) rfl ?_;refine Zcp ?_;refine Zcp ?_;refine Zcp ?_;refine Zao ?_;refine Zcb ?_;refine ZJ ?_;refine ZaP ?_
    exact y9 (x:=i) (i + 1) hlt (by omega) ⟨rfl, by rw [hsn]; rfl, rfl, trivial⟩
   ·obtain rfl:i = l.length:=by omega
    rw [List.take_length]
    refine Ze ?_;refine ZN ?_;refine Zn ?_;refine Za8 ?_;refine ZZ ?_;refine Zt ?_
    refine qv L (rs:=[.tmp 2, .tmp 3]) rfl (fun _ _ h => h) Since.refl fun u H hH hle => ?_
    rw [h1]
    rfl
 ·have hs0:s = ⟨#[]⟩:=by
   unfold zfm at hF
   split at hF
   ·exact (congrArg Prod.fst hF).symm
   ·have h2:=congrArg Prod.snd hF
    dsimp only at h2
    rw [h2, if_pos h0] at hF
    exact (congrArg Prod.fst hF).symm
  refine Zau ?_;refine ZaB ?_;refine Zh ?_;refine z7 (zq L rfl rfl (zn rfl) rfl rfl rfl (fun u H hH hle _ v1 h1 => zmy (fun t ht => zp4 (hz t ht)) (by omega) hck hH h1)) rfl ?_;refine ZH ?_;refine ZU ?_;refine Zh ?_;refine z7 (zq L rfl rfl (zn rfl) rfl rfl rfl (fun u H hH hle _ v1 h1 => zmy (fun t ht => zp4 (hz t ht)) (by omega) hck hH h1)) rfl ?_;refine Zt ?_
  refine qv L (rs:=[.tmp 2, .tmp 3]) rfl (fun _ _ h => h) Since.refl fun u H hH hle => ?_
  rw [hs0]
  rfl
end Go.V.L11
set_option maxRecDepth 20000
namespace Go.V.L11
open Go.Proofs Go.RowKit Go.V Go.V.L2 Go.V.L3 Go.V.L4 Go.V.L6 Go.V.L8 Go.V.L10
theorem _root_.Go.V.ZfH {A B:Prop} (h:B) (t:Wr B → A:=by intro h; refine z7 (zke rfl rfl rfl rfl (decide_eq_false (by assumption))) rfl ?_;exact h.h):A:=t ⟨h⟩
def u6 (t:U):List ByteArray:=[t.1.1.1, t.1.1.2, t.1.2, t.2.1.1, t.2.1.2, t.2.2]
theorem z5d {t:U} (h:∀ s ∈ u6 t, s.size ≤ 40):TZ t:=by
 have h1:=h t.1.1.1 (by simp [u6])
 have h2:=h t.1.1.2 (by simp [u6])
 have h3:=h t.1.2 (by simp [u6])
 have h4:=h t.2.1.1 (by simp [u6])
 have h5:=h t.2.1.2 (by simp [u6])
 have h6:=h t.2.2 (by simp [u6])
 unfold TZ
 omega
theorem objT_size (a b:ByteArray):(zi6 a b).size = a.size + 1 + b.size:=by
 unfold zi6
 rw [ByteArray.size_append, ByteArray.size_append]; rfl
theorem goalT_size (a b c:ByteArray):(zdh a b c).size = a.size + 1 + b.size + 1 + c.size:=by
 unfold zdh
 rw [ByteArray.size_append, ByteArray.size_append, objT_size]; rfl
theorem zup {t:U} {k:Nat} (h:∀ s ∈ u6 t, s.size ≤ k):(tT t).size ≤ 6 * k + 5:=by
 have h1:=h t.1.1.1 (by simp [u6])
 have h2:=h t.1.1.2 (by simp [u6])
 have h3:=h t.1.2 (by simp [u6])
 have h4:=h t.2.1.1 (by simp [u6])
 have h5:=h t.2.1.2 (by simp [u6])
 have h6:=h t.2.2 (by simp [u6])
 unfold tT zen
 rw [ByteArray.size_append, ByteArray.size_append, goalT_size]
 have hA:sAt.size = 1:=rfl
 split
 ·rw [objT_size]; omega
 ·rw [goalT_size]; omega
theorem z26 {t:U} (h:tE t = 0):∀ s ∈ u6 t, s.size ≤ 40:=by
 unfold tE at h
 split at h
 ·rename_i h1
  obtain ⟨c1, c2, c3⟩:=zq6 h1
  obtain ⟨d1, d2, d3⟩:=zeo h
  have a1:=zgb c1
  have a2:=zgb c2
  have a3:=zgb c3
  have b1:=zgb d1
  have b2:=zgb d2
  have b3:t.2.2.size ≤ 16:=by
   rcases d3 with d3 | d3
   ·rw [d3]; decide
   ·exact zgb d3
  intro s hs
  simp only [u6, List.mem_cons, List.not_mem_nil, or_false] at hs
  rcases hs with rfl | rfl | rfl | rfl | rfl | rfl <;> omega
 ·rename_i h1; exact absurd h h1
theorem zkp {t:U} (h:∀ s ∈ u6 t, s.size ≤ 40):(ze9 t).size ≤ 1000:=by
 have:=zup h
 rw [zg8]; omega
theorem zkq {c:CH} (h:∀ s ∈ u6 c.1, s.size ≤ 40):(zfi c).size ≤ 1000:=by
 have:=zup h
 rw [znc, ByteArray.size_append, ByteArray.size_append]
 have h1:=zg1 c
 have h2:sNl.size = 1:=rfl
 omega
theorem zrf:∀ {l:List U} {t:U}, (∀ x ∈ l, tE x = 0) → zpy (l ++ [t]) = tE t
 | [], t, _ => by
  show (if tE t ≠ 0 then tE t else 0) = tE t
  split <;> omega
 | x :: l, t, h => by
  show (if tE x ≠ 0 then tE x else zpy (l ++ [t])) = _
  rw [if_neg (fun h2 => h2 (h x (List.mem_cons_self ..))), zrf fun y hy => h y (List.mem_cons_of_mem _ hy)]
theorem zre:∀ {l:List CH} {c:CH}, (∀ x ∈ l, tE x.1 = 0) → znx (l ++ [c]) = tE c.1
 | [], c, _ => by
  show (if tE c.1 ≠ 0 then tE c.1 else 0) = tE c.1
  split <;> omega
 | x :: l, c, h => by
  show (if tE x.1 ≠ 0 then tE x.1 else znx (l ++ [c])) = _
  rw [if_neg (fun h2 => h2 (h x (List.mem_cons_self ..))), zre fun y hy => h y (List.mem_cons_of_mem _ hy)]
theorem zs4 {l:List U} (hs:∀ t ∈ l, (ze9 t).size ≤ 1000):(zge l).1.size ≤ l.length * 1000:=by
 unfold zge
 split
 ·exact Nat.zero_le _
 ·dsimp only
  split
  ·exact Nat.zero_le _
  ·have:=zoh hs l.length
   rwa [List.take_length] at this
theorem zs3 {l:List CH} (hs:∀ t ∈ l, (zfi t).size ≤ 1000):(zfm l).1.size ≤ l.length * 1000:=by
 unfold zfm
 split
 ·exact Nat.zero_le _
 ·dsimp only
  split
  ·exact Nat.zero_le _
  ·have:=zog hs l.length
   rwa [List.take_length] at this
attribute [local irreducible] V N X VO Par XP LV StepOK Has Ret RetL RetO RetT zbd RetX RetY Pan zt9 Src
set_option maxHeartbeats 4000000 in
set_option maxRecDepth 20000 in
theorem zmj {ps:List (Nat × Nat)} {fp:Bool} (hps:∀ p ∈ ps, p.1 ≤ 255 ∧ p.2 ≤ 255) (hlp:ps.length ≤ 9223372036854775807) {cs:List C3} {fc:Bool} (hcs:∀ c ∈ cs, c.1 ≤ 255 ∧ c.2.1 ≤ 255 ∧ c.2.2 ≤ 255) (hlc:cs.length ≤ 9223372036854775807)
  {t:U} (ht:TM t) {sv cx:Value} {w:World} {B:Heap} (hB:B.Le (hp w)) (hM:GlobM B) (hv:PS2 ps fp sv B) (hc:PS3 cs fc cx B) :
  Ret Tryz.prog 3 [.agg #[sv], .agg #[cx], uv t] w B (fun v _ => v = .bool true):=by
 have hm6:∀ (i:Nat) (s:ByteArray), (u6 t)[i]? = some s → s.size ≤ 9223372036854775807:=fun i s h => by
  have hm:=List.mem_of_getElem? h
  unfold TM at ht
  simp only [u6, List.mem_cons, List.not_mem_nil, or_false] at hm
  rcases hm with rfl | rfl | rfl | rfl | rfl | rfl <;> omega
 obtain ⟨p0, c0, rfl⟩:=zce hv
 refine qw Tryz.func3 rfl Tryz.ntmps3 (Nat.le_of_ble_eq_true rfl) hB ?_
 refine Zac ?_;refine Zcn ?_;refine Zap ?_;refine Zal ?_;refine ZbR ?_;refine Zal ?_;refine ZbR ?_;refine ZbR ?_;refine Zal ?_;refine ZbR ?_;refine Zal ?_;refine ZbR ?_;refine ZbR ?_;refine Zai ?_;refine Zdl ?_;refine ZU ?_;refine ZS ?_
 refine zpw 7 (SlB ((u6 t).map Value.string) 9 6) rfl SlB.mono (fun _ _ h => by unfold u6; exact h) ?_
 have hl6:(u6 t).length = 6:=rfl
 generalize h6:u6 t = l6 at hl6 hm6
 refine zam (fun i:Nat => [(3, .sat (At [.slice p0 ps.length c0] 24 0)), (4, .sat (At [cx] 27 0)), (5, .sat (At (ucs t) tyU 0)), (7, .sat (SlB (l6.map Value.string) 9 6)), (8, .is (.int .i64 i))])
  (fun i => i ≤ 6 ∧ ∀ j s, j < i → l6[j]? = some s → s.size ≤ 40) (fun i => 6 - i) 0 ⟨Nat.zero_le _, fun j s hj => absurd hj (Nat.not_lt_zero _)⟩ ⟨rfl, rfl, rfl, rfl, rfl, trivial⟩ ?_
 rintro i ⟨hi, hall⟩
 dsimp only at hi hall ⊢
 by_cases hlt:i < 6
 ·obtain ⟨s, hs⟩:=zap (l:=l6) (i:=i) (by omega)
  have hcs2:(l6.map Value.string)[i * 1]? = some (.string s):=by simp [hs]
  have hsm:=hm6 i s hs
  by_cases h40:40 < s.size
  ·refine ZbX ?_;refine ZaT ?_;refine Z2 ?_;refine Zdi ?_;refine Ze1 ?_;refine z7 (zkf L (qn rfl) rfl rfl rfl (by assumption)) rfl ?_;refine Zaf ?_;refine ZP ?_;refine Zs ?_;refine ZQ ?_;refine z7 (zq L rfl rfl (zn rfl) rfl rfl rfl (fun u H hH hle _ => zgt hH (hM.mono hle))) rfl ?_;refine Zc ?_
   refine qv L (rs:=[.tmp 6]) rfl (fun _ _ h => h) Since.refl fun u H hH hle => ?_
   rfl
  ·refine ZbX ?_;refine ZaT ?_;refine Z2 ?_;refine Zdi ?_;refine Ze1 ?_;refine z7 (zkf L (qn rfl) rfl rfl rfl (by assumption)) rfl ?_;refine Zaf ?_;refine Z3 ?_;refine ZaO ?_;refine Zd2 ?_
   exact y9 (x:=i) (i + 1) ⟨hlt, fun j s' hj hs' => by
    by_cases e:j = i
    ·subst e; rw [hs] at hs'; cases hs'; omega
    ·exact hall j s' (by omega) hs'⟩ (by omega) ⟨rfl, rfl, rfl, rfl, rfl, trivial⟩
 ·obtain rfl:i = 6:=by omega
  have hsh:∀ s ∈ u6 t, s.size ≤ 40:=fun s hs => by
   rw [h6] at hs
   obtain ⟨j, hj, hjs⟩:=List.mem_iff_getElem.1 hs
   exact hall j s (by omega) (by rw [List.getElem?_eq_getElem hj, hjs])
  clear hall hm6
  have htz:=z5d hsh
  refine ZbX ?_;refine Za8 ?_
  have hll:=zn8 ps
  have hdl:=z2a cs
  have hr:(ps.length:Int).tmod 2 = ((ps.length % 2:Nat):Int):=rfl
  obtain ⟨a, ha⟩:∃ a, tl ps ++ [t] = a:=⟨_, rfl⟩
  obtain ⟨dr, hdr⟩:∃ dr, decide (((ps.length % 2:Nat):Int) = 1) = dr:=⟨_, rfl⟩
  obtain ⟨b, hb⟩:∃ b, dOf cs ++ [(t, dr)] = b:=⟨_, rfl⟩
  refine q6 (id:=7) [(63, [60]), (74, [65]), (9, [63]), (10, [74])] mixed (by kernel_rfl) ?_;refine z8 (zz L (vs:=[_]) (qn rfl) rfl rfl rfl rfl ⟨_, rfl⟩) rfl ?_;refine z8 (zck L rfl rfl (zn rfl) rfl rfl rfl (fun u H hH hle _ => zxt hps hlp hH (hv.le hle))) rfl ?_;refine Zbp ?_;refine Zej ?_;refine za6 (zb1 L rfl rfl rfl (ziv rfl) rfl z45 rfl rfl (by omega) (by omega)) rfl rfl ?_;refine z8 (zz L (vs:=[_]) (qn rfl) rfl rfl rfl rfl ⟨_, rfl⟩) rfl ?_;refine z8 (zck L rfl rfl (zn rfl) rfl rfl rfl (fun u H hH hle _ => zzb rfl hcs hlc hH (hc.le hle))) rfl ?_;refine Zbp ?_;refine Zbw ?_;refine Zgb ?_;refine Zfv ?_;refine z8 (yg rfl rfl rfl rfl rfl) rfl ?_;refine Zfs ?_;refine Zej ?_;refine za6 (zb1 L rfl rfl rfl (ziv rfl) rfl z2y rfl rfl (by omega) (by omega)) rfl rfl ?_;refine za6 (zaf (.inr rfl) rfl rfl rfl rfl) rfl rfl ?_;refine za6 (zaf (.inr rfl) rfl rfl rfl rfl) rfl rfl ?_;refine ZaK ?_
  refine zk6 9 rfl ?_
  refine zpw 9 (US a false) rfl SlV.mono (fun _ _ h => by rw [← ha]; show SlV tyU 6 ((tl ps ++ [t]).flatMap ucs) (tl ps ++ [t]).length false _ _; rw [List.flatMap_append, List.length_append]; exact h) ?_
  refine zk6 10 rfl ?_
  refine zpw 10 (KS tyC b false) rfl SlV.mono (fun _ _ h => by rw [← hb, ← hdr]; show SlV tyC 7 ((dOf cs ++ [(t, _)]).flatMap ccs) (dOf cs ++ [(t, _)]).length false _ _; rw [List.flatMap_append, List.length_append]; exact h) ?_
  have hza:∀ x ∈ a, TZ x:=fun x hx => by
   rw [← ha] at hx
   rcases List.mem_append.1 hx with hx | hx
   ·exact (zul hx).1
   ·rw [List.mem_singleton] at hx; subst hx; exact htz
  have hsa:∀ x ∈ a, (ze9 x).size ≤ 1000:=fun x hx => by
   rw [← ha] at hx
   rcases List.mem_append.1 hx with hx | hx
   ·exact zkp (z26 (zul hx).2)
   ·rw [List.mem_singleton] at hx; subst hx; exact zkp hsh
  have hzb:∀ x ∈ b, TZ x.1:=fun x hx => by
   rw [← hb] at hx
   rcases List.mem_append.1 hx with hx | hx
   ·exact (zwz cs x hx).1
   ·rw [List.mem_singleton] at hx; subst hx; exact htz
  have hsb:∀ x ∈ b, (zfi x).size ≤ 1000:=fun x hx => by
   rw [← hb] at hx
   rcases List.mem_append.1 hx with hx | hx
   ·exact zkq (z26 (zwz cs x hx).2)
   ·rw [List.mem_singleton] at hx; subst hx; exact zkq hsh
  have hla:a.length ≤ 21:=by rw [← ha, List.length_append, List.length_singleton]; omega
  have hlb:b.length ≤ 31:=by rw [← hb, List.length_append, List.length_singleton]; omega
  have hea:zpy a = tE t:=by rw [← ha]; exact zrf fun x hx => (zul hx).2
  have heb:znx b = tE t:=by rw [← hb]; exact zre fun x hx => (zwz cs x hx).2
  obtain ⟨s, e, hF⟩:∃ s e, zge a = (s, e):=⟨_, _, rfl⟩
  obtain ⟨u, f, hG⟩:∃ u f, zfm b = (u, f):=⟨_, _, rfl⟩
  have he:e = tE t:=by
   have h1:(zge a).2 = e:=by rw [hF]
   unfold zge at h1
   rw [if_neg (by omega)] at h1
   exact h1.symm.trans hea
  have hf:f = tE t:=by
   have h1:(zfm b).2 = f:=by rw [hG]
   unfold zfm at h1
   rw [if_neg (by omega)] at h1
   exact h1.symm.trans heb
  have hss:s.size ≤ 1000000:=by
   have h1:=zs4 hsa
   rw [hF] at h1
   dsimp only at h1
   omega
  have hus:u.size ≤ 1000000:=by
   have h1:=zs3 hsb
   rw [hG] at h1
   dsimp only at h1
   omega
  clear ha hb hea heb hsh hdr hr hll hdl
  have hns:¬ (s ≠ s):=fun h => h rfl
  have hnu:¬ (u ≠ u):=fun h => h rfl
  by_cases h0:e = 0
  ·have hf0:f = 0:=by omega
   clear he hf
   subst h0 hf0
   have hp:=zyl hF hss
   have hq:=zvf hG hus
   refine Z7 ?_;refine Zh ?_;refine z7 (zq L rfl rfl (zn rfl) rfl rfl rfl (fun u H hH hle _ v1 h1 => zht hF hza hsa hH h1)) rfl ?_;refine Zaa ?_;refine Zaj ?_;refine Zh ?_;refine z7 (zq L rfl rfl (zn rfl) rfl rfl rfl (fun u H hH hle _ v1 h1 => zgn hG hzb hsb hH h1)) rfl ?_;refine Zaa ?_;refine Zay ?_;refine Zh ?_;refine z7 (zq L rfl rfl (zn rfl) rfl rfl rfl (fun u H hH hle _ v1 h1 => zro hF hza hsa (by omega) hH h1)) rfl ?_;refine Zaa ?_;refine ZF ?_;refine Zh ?_;refine z7 (zq L rfl rfl (zn rfl) rfl rfl rfl (fun u H hH hle _ v1 h1 => zox hG hzb hsb (by omega) hH h1)) rfl ?_;refine ZbA ?_;refine Z4 ?_;refine Zb ?_;refine ZfH ?_;refine Zw ?_;refine ZA ?_;refine ZaN ?_;refine ZfH ?_;refine ZaN ?_;refine ZA ?_;refine ZbN ?_
   have k1:Kn.mono (.sat (US a true)):=SlV.mono
   have k2:Kn.mono (.sat (KS tyC b true)):=SlV.mono
   refine Zct ?_;refine Zad ?_;refine ZbF ?_;refine z7 (zai (φ:=TupS [US a true, fun v _ => v = .int .i64 0, fun v _ => v = .int .i64 0]) L rfl rfl (zn rfl) rfl rfl rfl (zes SlV.mono) (fun u H hH hle _ => zjj hp hss hH (hM.mono hle))) rfl ?_;refine ZdI ?_;refine ZdF ?_;refine Zbn ?_;refine Za2 ?_;refine Za9 ?_;refine Za ?_;refine z7 (zai (φ:=TupS [KS tyC b true, fun v _ => v = .int .i64 0, fun v _ => v = .int .i64 0]) L rfl rfl (zn rfl) rfl rfl rfl (zes SlV.mono) (fun u H hH hle _ => zgh hq hus hH (hM.mono hle))) rfl ?_;refine ZdI ?_;refine ZdF ?_;refine Zbn ?_;refine Za2 ?_
   refine ZdA ?_;refine Zb ?_;refine ZaA ?_;refine Z9 ?_;refine Zw ?_;refine ZaA ?_;refine Z9 ?_;refine Zf ?_;refine Za ?_;refine Zh ?_;refine Zh ?_;refine z7 (zq L rfl rfl (zn rfl) rfl rfl rfl (fun u H hH hle _ v1 h1 v2 h2 => zs9 (by omega) (by omega) (if_pos rfl) hH h1 h2)) rfl ?_;refine Z9 ?_;refine Zf ?_;refine Za ?_;refine Zh ?_;refine Zh ?_;refine z7 (zq L rfl rfl (zn rfl) rfl rfl rfl (fun u H hH hle _ v1 h1 v2 h2 => zta (by omega) (by omega) (if_pos rfl) hH h1 h2)) rfl ?_;refine Z9 ?_;refine Zf ?_;refine Za ?_;refine Zh ?_;refine z7 (zvu L rfl rfl rfl rfl) rfl ?_;refine Zn ?_;refine Z9 ?_;refine Zf ?_;refine Za ?_;refine Zh ?_;refine z7 (zvu L rfl rfl rfl rfl) rfl ?_;refine Zn ?_;refine Z9 ?_;refine Zf ?_;refine Za ?_;refine z7 (zq L rfl rfl (zn rfl) rfl rfl rfl (fun u H hH hle _ => zgt hH (hM.mono hle))) rfl ?_;refine Zf ?_;refine Zc ?_
   refine qv L (rs:=[.tmp 6]) rfl (fun _ _ h => h) Since.refl fun u H hH hle => ?_
   rfl
  ·refine Z7 ?_;refine Zh ?_;refine z7 (zq L rfl rfl (zn rfl) rfl rfl rfl (fun u H hH hle _ v1 h1 => zht hF hza hsa hH h1)) rfl ?_;refine Zaa ?_;refine Zaj ?_;refine Zh ?_;refine z7 (zq L rfl rfl (zn rfl) rfl rfl rfl (fun u H hH hle _ v1 h1 => zgn hG hzb hsb hH h1)) rfl ?_;refine Zaa ?_;refine Zay ?_;refine Zh ?_;refine z7 (zq L rfl rfl (zn rfl) rfl rfl rfl (fun u H hH hle _ v1 h1 => zro hF hza hsa (by omega) hH h1)) rfl ?_;refine Zaa ?_;refine ZF ?_;refine Zh ?_;refine z7 (zq L rfl rfl (zn rfl) rfl rfl rfl (fun u H hH hle _ v1 h1 => zox hG hzb hsb (by omega) hH h1)) rfl ?_;refine ZbA ?_;refine Z4 ?_;refine Zb ?_;refine ZfH ?_;refine Zw ?_;refine ZA ?_;refine ZaN ?_;refine ZfH ?_;refine ZaN ?_;refine ZA ?_;refine ZbN ?_
   refine Zct ?_;refine ZH ?_;refine ZT ?_;refine z7 (zq L rfl rfl (zn rfl) rfl rfl rfl (fun u H hH hle _ => zgt hH (hM.mono hle))) rfl ?_;refine Zc ?_
   refine qv L (rs:=[.tmp 6]) rfl (fun _ _ h => h) Since.refl fun u H hH hle => ?_
   rfl
end Go.V.L11
set_option maxRecDepth 20000
namespace Go.V
open Go.RowKit
inductive zek where
 | s
 | b
 | i (k:IntKind)
def z40:zek → Value → Prop
 | .s, v => ∃ a:ByteArray, v = .string a ∧ a.size ≤ maxLen
 | .b, v => ∃ c, v = .bool c
 | .i k, v => ∃ n, v = .int k n ∧ (Lit.int k n).wf = true
def LeafsOK:List zek → List Value → Prop
 | [], [] => True
 | l :: ls, v :: vs => z40 l v ∧ LeafsOK ls vs
 | _, _ => False
theorem LeafsOK.append:∀ {a b:List zek} {x y:List Value}, LeafsOK a x → LeafsOK b y → LeafsOK (a ++ b) (x ++ y)
 | [], _, [], _, _, h => h
 | [], _, _ :: _, _, h, _ => h.elim
 | _ :: _, _, [], _, h, _ => h.elim
 | _ :: _, _, _ :: _, _, h, k => ⟨h.1, LeafsOK.append h.2 k⟩
theorem LeafsOK.length:∀ {a:List zek} {x:List Value}, LeafsOK a x → x.length = a.length
 | [], [], _ => rfl
 | [], _ :: _, h => h.elim
 | _ :: _, [], h => h.elim
 | _ :: _, _ :: _, h => by simp [LeafsOK.length h.2]
theorem leaf_s {ls:List zek} {vs:List Value} (h:LeafsOK (.s :: ls) vs):∃ a r, vs = .string a :: r ∧ a.size ≤ maxLen ∧ LeafsOK ls r:=by
 cases vs with
 | nil => exact h.elim
 | cons v vs => obtain ⟨⟨a, rfl, ha⟩, h⟩:=h; exact ⟨a, vs, rfl, ha, h⟩
theorem zl1 {k:IntKind} {ls:List zek} {vs:List Value} (h:LeafsOK (.i k :: ls) vs):∃ n r, vs = .int k n :: r ∧ (Lit.int k n).wf = true ∧ LeafsOK ls r:=by
 cases vs with
 | nil => exact h.elim
 | cons v vs => obtain ⟨⟨a, rfl, ha⟩, h⟩:=h; exact ⟨a, vs, rfl, ha, h⟩
theorem z38 {ls:List zek} {vs:List Value} (h:LeafsOK (.b :: ls) vs):∃ c r, vs = .bool c :: r ∧ LeafsOK ls r:=by
 cases vs with
 | nil => exact h.elim
 | cons v vs => obtain ⟨⟨a, rfl⟩, h⟩:=h; exact ⟨a, vs, rfl, h⟩
theorem leaf_nil {vs:List Value} (h:LeafsOK [] vs):vs = []:=by
 cases vs with
 | nil => rfl
 | cons _ _ => exact h.elim
def zyz (P:Program) (rec:TypeId → Option (List zek)):List Field → Nat → Option (List zek)
 | [], _ => some []
 | f :: fs, off => match rec f.type with
  | some ls => if f.offset = off ∧ P.cellsOf f.type = ls.length then
    match zyz P rec fs (off + ls.length) with
    | some r => some (ls ++ r)
    | none => none
   else none
  | none => none
def z0a (ls:List zek):Nat → List zek
 | 0 => []
 | n + 1 => ls ++ z0a ls n
def leafI (P:Program):Nat → TypeId → Option (List zek)
 | 0, _ => none
 | d + 1, t => match P.underlying t with
  | some .string => some [.s]
  | some (.int k) => some [.i k]
  | some .bool => some [.b]
  | some (.struct fs) => match zyz P (leafI P d) fs.toList 0 with
   | some ls => if P.cellsOf t = ls.length then some ls else none
   | none => none
  | some (.array n e) => match leafI P d e with
   | some ls => if P.cellsOf e = ls.length ∧ P.cellsOf t = (z0a ls n).length then some (z0a ls n) else none
   | none => none
  | _ => none
theorem zi9 {α β:Type} {f:α → Option β}:∀ {l:List α} {ys:List β}, l.mapM f = some ys → ∃ g:List β, g = ys ∧ (∀ x ∈ l, ∃ y, f x = some y ∧ y ∈ ys) ∧ (∀ y ∈ ys, ∃ x ∈ l, f x = some y)
 | [], ys, h => by
  simp at h; subst h
  exact ⟨_, rfl, by simp, by simp⟩
 | x :: l, ys, h => by
  rw [List.mapM_cons] at h
  cases hx:f x with
  | none => rw [hx] at h; cases h
  | some y =>
   rw [hx] at h
   cases hl:l.mapM f with
   | none => rw [hl] at h; cases h
   | some zs =>
    rw [hl] at h
    cases h
    obtain ⟨_, _, h1, h2⟩:=zi9 hl
    refine ⟨_, rfl, fun z hz => ?_, fun z hz => ?_⟩
    ·rcases List.mem_cons.1 hz with rfl | hz
     ·exact ⟨y, hx, List.mem_cons_self ..⟩
     ·obtain ⟨w, hw, hm⟩:=h1 z hz; exact ⟨w, hw, List.mem_cons_of_mem _ hm⟩
    ·rcases List.mem_cons.1 hz with rfl | hz
     ·exact ⟨x, List.mem_cons_self .., hx⟩
     ·obtain ⟨w, hw, hm⟩:=h2 z hz; exact ⟨w, List.mem_cons_of_mem _ hw, hm⟩
theorem zf5 (cs:List Value) (off m r:Nat):(cs.drop off).take (m + r) = (cs.drop off).take m ++ (cs.drop (off + m)).take r:=by
 rw [List.take_add, List.drop_drop]
section
variable {P:Program} {H:Type} {enc:TypeId × Value → H} {W:World} {sp:Nat → Bool} {held:Bool} {base:Nat}
theorem zee:∀ (d:Nat) {t:TypeId} {ls:List zek}, leafI P d t = some ls → ∀ {fuel:Nat} {cs:List Value} {x:DataW H × List MemPlace},
  DataW.trod enc P W base sp held fuel t cs = some x → LeafsOK ls cs ∧ x.2 = []
 | 0, _, _, h, _, _, _, _ => by cases h
 | d + 1, t, ls, h, fuel, cs, x, hx => by
  have ih:=@zee d
  cases fuel with
  | zero => simp [DataW.trod] at hx
  | succ fuel =>
   rw [leafI] at h
   unfold DataW.trod at hx
   cases hu:P.underlying t with
   | none => rw [hu] at h; cases h
   | some ds =>
    rw [hu] at h hx
    cases ds <;> first | (cases h; done) | skip
    ·cases h
     match cs, hx with
     | [.bool b], hx => cases hx; exact ⟨⟨⟨b, rfl⟩, trivial⟩, rfl⟩
    ·rename_i k
     cases h
     match cs, hx with
     | [.int k' m], hx =>
      simp only at hx
      split at hx
      ·rename_i hk
       obtain ⟨rfl, hw⟩:=hk
       cases hx; exact ⟨⟨⟨m, rfl, hw⟩, trivial⟩, rfl⟩
      ·cases hx
    ·cases h
     match cs, hx with
     | [.string s], hx =>
      simp only at hx
      split at hx
      ·rename_i hs; cases hx; exact ⟨⟨⟨s, rfl, hs⟩, trivial⟩, rfl⟩
      ·cases hx
    ·rename_i n e
     simp only at h hx
     split at h
     ·rename_i l1 hl1
      split at h
      ·rename_i hc
       cases h
       split at hx
       ·rename_i hlen
        obtain ⟨xs, hxs, rfl⟩:=Option.map_eq_some_iff.1 hx
        obtain ⟨_, _, hall, hback⟩:=zi9 hxs
        have each:∀ i, i < n → LeafsOK l1 ((cs.drop (i * P.cellsOf e)).take (P.cellsOf e)):=fun i hi => by
         obtain ⟨y, hy, _⟩:=hall i (List.mem_range.2 hi)
         exact (ih hl1 hy).1
        have gen:∀ m k, k + m = n → LeafsOK (z0a l1 m) ((cs.drop (k * P.cellsOf e)).take (m * P.cellsOf e)):=by
         intro m
         induction m with
         | zero => intro k _; simp [z0a, LeafsOK]
         | succ m ihm =>
          intro k hk
          rw [show (m + 1) * P.cellsOf e = P.cellsOf e + m * P.cellsOf e by rw [Nat.succ_mul]; omega, zf5]
          refine LeafsOK.append (each k (by omega)) ?_
          rw [show k * P.cellsOf e + P.cellsOf e = (k + 1) * P.cellsOf e by rw [Nat.succ_mul]]
          exact ihm (k + 1) (by omega)
        refine ⟨?_, ?_⟩
        ·have:=gen n 0 (by omega)
         have hrl:∀ m, (z0a l1 m).length = m * P.cellsOf e:=by
          intro m
          induction m with
          | zero => simp [z0a]
          | succ m ihm => simp only [z0a, List.length_append, ihm, hc.1]; rw [Nat.succ_mul]; omega
         rw [← hrl n, ← hc.2, ← hlen] at this
         simpa using this
        ·refine List.flatMap_eq_nil_iff.2 fun y hy => ?_
         obtain ⟨i, _, hi⟩:=hback y hy
         exact (ih hl1 hi).2
       ·cases hx
      ·cases h
     ·cases h
    ·rename_i fs
     simp only at h hx
     split at h
     ·rename_i l1 hl1
      split at h
      ·rename_i hc
       cases h
       split at hx
       ·rename_i hlen
        obtain ⟨xs, hxs, rfl⟩:=Option.map_eq_some_iff.1 hx
        obtain ⟨_, _, hall, hback⟩:=zi9 hxs
        have gen:∀ (fl:List Field) (off:Nat) (ls:List zek), (∀ f ∈ fl, f ∈ fs.toList) → zyz P (leafI P d) fl off = some ls →
          LeafsOK ls ((cs.drop off).take ls.length) ∧ ∀ f ∈ fl, ∃ l, leafI P d f.type = some l:=by
         intro fl
         induction fl with
         | nil => intro off ls _ h; cases h; simp [LeafsOK]
         | cons f fl ihf =>
          intro off ls hm h
          simp only [zyz] at h
          split at h
          ·rename_i l2 hl2
           split at h
           ·rename_i hc2
            obtain ⟨rfl, hc3⟩:=hc2
            split at h
            ·rename_i r hr
             cases h
             obtain ⟨g1, g2⟩:=ihf _ _ (fun g hg => hm g (List.mem_cons_of_mem _ hg)) hr
             refine ⟨?_, fun g hg => ?_⟩
             ·rw [List.length_append, zf5]
              refine LeafsOK.append ?_ g1
              obtain ⟨y, hy, _⟩:=hall f (hm f (List.mem_cons_self ..))
              rw [← hc3]
              exact (ih hl2 hy).1
             ·rcases List.mem_cons.1 hg with rfl | hg
              ·exact ⟨l2, hl2⟩
              ·exact g2 g hg
            ·cases h
           ·cases h
          ·cases h
        obtain ⟨g1, g2⟩:=gen fs.toList 0 _ (fun _ h => h) hl1
        refine ⟨?_, ?_⟩
        ·rw [← hc, ← hlen] at g1; simpa using g1
        ·refine List.flatMap_eq_nil_iff.2 fun y hy => ?_
         obtain ⟨f, hf, hi⟩:=hback y hy
         obtain ⟨l, hl⟩:=g2 f hf
         exact (ih hl hi).2
       ·cases hx
      ·cases h
     ·cases h
theorem open_agg {t:TypeId} {ls:List zek} {b0:Nat} {v:Value} {dd:DataW H} {ps:List MemPlace} (h:leafI P 20 t = some ls) (ha:(match P.underlying t with | some (.struct _) | some (.array _ _) => true | _ => false) = true)
  (hval:Value.okWide P W .any b0 t v) (hd:DataW.Trod enc P W base sp held t v dd ps):∃ cs:List Value, v = .agg cs.toArray ∧ LeafsOK ls cs ∧ ps = []:=by
 obtain ⟨fuel, hf⟩:=hd
 have key:∃ cs, v = .agg cs:=by
  unfold Value.okWide at hval
  split at hval
  ·obtain ⟨cs, hv, _⟩:=hval; exact ⟨cs, hv⟩
  ·obtain ⟨cs, hv, _⟩:=hval; exact ⟨cs, hv⟩
  ·rename_i h1 h2
   split at ha
   ·rename_i fs hu; exact absurd hu (h1 fs)
   ·rename_i m e hu; exact absurd hu (h2 m e)
   ·cases ha
 obtain ⟨cs, rfl⟩:=key
 obtain ⟨h1, h2⟩:=zee 20 h hf
 exact ⟨cs.toList, by simp, h1, h2⟩
theorem z1l {t e:TypeId} {ls:List zek} {b0:Nat} {v:Value} {dd:DataW H} {ps:List MemPlace} (ht:P.underlying t = some (.slice e)) (hlf:leafI P 20 e = some ls) (hce:P.cellsOf e = ls.length)
  (hval:Value.okWide P W .any b0 t v) (hd:DataW.Trod enc P W 0 (fun _ => true) held t v dd ps) :
  ∃ cs:List (List Value), (∀ c ∈ cs, LeafsOK ls c) ∧ cs.length ≤ maxLen ∧ SlV e ls.length cs.flatten cs.length false v (hp W):=by
 obtain ⟨fuel, hf⟩:=hd
 have hv:v = .slice none 0 0 ∨ ∃ a len cap, v = .slice (some a) len cap ∧ len ≤ cap ∧ cap ≤ maxLen ∧ a.spot = none ∧ ∃ cs fr ty, W.heap[a.block]? = some (.cells cs ty fr):=by
  have h0:Cell.ok P W .any b0 t v:=by
   unfold Value.okWide at hval
   rw [ht] at hval
   unfold Cell.okWide at hval
   rw [ht] at hval
   exact hval
  unfold Cell.ok at h0
  rw [ht] at h0
  match v, h0 with
  | .slice none 0 0, _ => exact .inl rfl
  | .slice (some a) len cap, h0 =>
   obtain ⟨h1, h2, _, h3, row, cells, h4, _⟩:=h0
   have hm:IntKind.i64.max = 9223372036854775807:=by decide
   refine .inr ⟨a, len, cap, rfl, h1, by rw [hm] at h2; unfold maxLen; omega, h3, ?_⟩
   unfold World.shape? at h4
   split at h4
   ·rename_i cs ty fr hh; exact ⟨_, _, _, hh⟩
   ·cases h4
 rcases hv with rfl | ⟨a, len, cap, rfl, h1, h2, h3, cs, fr, ty, h4⟩
 ·exact ⟨[], fun c h => (nomatch h), Nat.zero_le _, SlV.nil⟩
 ·rcases Deep.open_slice ht (by simpa [Value.cells] using hf) with ⟨h, _⟩ | ⟨a', len', cap', m, nn, D, Pl, h5, _, _, _, hm, _, hx⟩
  ·cases h
  ·cases h5
   simp only [if_true] at hm
   rw [hm] at hx
   clear hm
   obtain ⟨C, hC⟩:=Deep.choose_lt (α:=List Value) (n:=cap) (p:=fun i c => W.cells? 0 (a.add (i * P.cellsOf e)) (P.cellsOf e) = some c ∧ LeafsOK ls c) (fun i hi => by
    obtain ⟨c, g1, g2⟩:=hx i hi
    exact ⟨c, g1, (zee 20 hlf g2).1⟩)
   have hln:∀ i, i < cap → (C i).length = ls.length:=fun i hi => (hC i hi).2.length
   refine ⟨(List.range len).map C, fun c hc => ?_, by simp; omega, ?_⟩
   ·obtain ⟨i, hi, rfl⟩:=List.mem_map.1 hc
    exact (hC i (by have:=List.mem_range.1 hi; omega)).2
   ·have hfl:∀ k, k ≤ cap → ((List.range k).map C).flatten.length = k * ls.length:=by
     intro k
     induction k with
     | zero => simp
     | succ k ih =>
      intro hk
      rw [List.range_succ, List.map_append, List.flatten_append, List.length_append, ih (by omega), Nat.succ_mul]
      simp [hln k (by omega)]
    refine ⟨by rw [hfl len h1, List.length_map, List.length_range], .inr ⟨a.block, a.off, cap, cs, ty, fr, ?_, h4, ?_, by simpa using h1, fun h => by cases h⟩⟩
    ·obtain ⟨ab, ao, asp⟩:=a
     simp only at h3
     subst h3
     simp
    ·rw [hfl len h1]
     have key:∀ k, k ≤ cap → (cs.toList.drop a.off).take (k * ls.length) = ((List.range k).map C).flatten:=by
      intro k
      induction k with
      | zero => simp
      | succ k ih =>
       intro hk
       rw [Nat.succ_mul, zf5, ih (by omega), List.range_succ, List.map_append, List.flatten_append]
       congr 1
       obtain ⟨_, g2, g3⟩:=World.cells?_some (hC k (by omega)).1
       simp only [List.map_cons, List.map_nil, List.flatten_cons, List.flatten_nil, List.append_nil]
       apply List.ext_getElem?
       intro j
       rcases Nat.lt_or_ge j ls.length with hj | hj
       ·have:=g3 j (by omega)
        rw [← this, List.getElem?_take_of_lt hj, List.getElem?_drop]
        obtain ⟨ab, ao, asp⟩:=a
        simp only at h3
        subst h3
        rw [zb5, zb5, zav h4]
        simp only [hce]
        rw [Array.getElem?_toList]
       ·rw [List.getElem?_eq_none (by rw [List.length_take]; omega), List.getElem?_eq_none (by rw [hln k (by omega)]; exact hj)]
     exact key len h1
end
end Go.V
set_option maxRecDepth 20000
namespace Go.V.L3
open Go.Proofs Go.RowKit Go.V Go.V.L2
theorem zuj {n:Int} (h:Lit.wf (.int .u8 n) = true):∃ k:Nat, n = k ∧ k ≤ 255:=by
 have hb:IntKind.u8.min ≤ n ∧ n ≤ IntKind.u8.max:=by simpa [Lit.wf] using h
 have hmin:IntKind.u8.min = 0:=by decide
 have hmax:IntKind.u8.max = 255:=by decide
 rw [hmin, hmax] at hb
 exact ⟨n.toNat, by omega, by omega⟩
theorem zrp:∀ (cs:List (List Value)), (∀ c ∈ cs, LeafsOK [.i .u8, .i .u8] c) → ∃ ps:List (Nat × Nat), cs.flatten = ps.flatMap pcs ∧ cs.length = ps.length ∧ ∀ p ∈ ps, p.1 ≤ 255 ∧ p.2 ≤ 255
 | [], _ => ⟨[], rfl, rfl, fun n h => by cases h⟩
 | c :: cs, h => by
  obtain ⟨ps, h1, h2, h3⟩:=zrp cs fun x hx => h x (List.mem_cons_of_mem _ hx)
  have hc:=h c (List.mem_cons_self ..)
  obtain ⟨n, r1, rfl, hw, hc⟩:=zl1 hc
  obtain ⟨m, r2, rfl, hw2, hc⟩:=zl1 hc
  obtain rfl:=leaf_nil hc
  obtain ⟨n, rfl, hn⟩:=zuj hw
  obtain ⟨m, rfl, hm⟩:=zuj hw2
  refine ⟨(n, m) :: ps, by rw [List.flatten_cons, List.flatMap_cons, h1]; rfl, by rw [List.length_cons, List.length_cons, h2], fun p hp => ?_⟩
  rcases List.mem_cons.1 hp with rfl | hp
  ·exact ⟨hn, hm⟩
  ·exact h3 p hp
theorem z5g {cs:List (List Value)} (lcs:∀ c ∈ cs, LeafsOK [.i .u8, .i .u8] c) (zcs:cs.length ≤ maxLen) {H:Heap} {v:Value} (hcs:SlV ty2 2 cs.flatten cs.length false v H) :
  ∃ ps:List (Nat × Nat), (∀ p ∈ ps, p.1 ≤ 255 ∧ p.2 ≤ 255) ∧ ps.length ≤ 9223372036854775807 ∧ PS2 ps false v H:=by
 obtain ⟨ps, h1, h2, h3⟩:=zrp cs lcs
 rw [h1, h2] at hcs
 exact ⟨ps, h3, by unfold maxLen at zcs; omega, hcs⟩
end Go.V.L3
set_option maxRecDepth 20000
namespace Go.V.L8
open Go.Proofs Go.RowKit Go.V Go.V.L2 Go.V.L3 Go.V.L6
theorem zjo:∀ (cs:List (List Value)), (∀ c ∈ cs, LeafsOK [.i .u8, .i .u8, .i .u8] c) → ∃ qs:List C3, cs.flatten = qs.flatMap qcs ∧ cs.length = qs.length ∧ ∀ c ∈ qs, c.1 ≤ 255 ∧ c.2.1 ≤ 255 ∧ c.2.2 ≤ 255
 | [], _ => ⟨[], rfl, rfl, fun n h => by cases h⟩
 | c :: cs, h => by
  obtain ⟨qs, h1, h2, h3⟩:=zjo cs fun x hx => h x (List.mem_cons_of_mem _ hx)
  have hc:=h c (List.mem_cons_self ..)
  obtain ⟨n, r1, rfl, hw, hc⟩:=zl1 hc
  obtain ⟨m, r2, rfl, hw2, hc⟩:=zl1 hc
  obtain ⟨k, r3, rfl, hw3, hc⟩:=zl1 hc
  obtain rfl:=leaf_nil hc
  obtain ⟨n, rfl, hn⟩:=zuj hw
  obtain ⟨m, rfl, hm⟩:=zuj hw2
  obtain ⟨k, rfl, hk⟩:=zuj hw3
  refine ⟨(n, m, k) :: qs, by rw [List.flatten_cons, List.flatMap_cons, h1]; rfl, by rw [List.length_cons, List.length_cons, h2], fun p hp => ?_⟩
  rcases List.mem_cons.1 hp with rfl | hp
  ·exact ⟨hn, hm, hk⟩
  ·exact h3 p hp
theorem z4k {cs:List (List Value)} (lcs:∀ c ∈ cs, LeafsOK [.i .u8, .i .u8, .i .u8] c) (zcs:cs.length ≤ maxLen) {H:Heap} {v:Value} (hcs:SlV ty3 3 cs.flatten cs.length false v H) :
  ∃ qs:List C3, (∀ c ∈ qs, c.1 ≤ 255 ∧ c.2.1 ≤ 255 ∧ c.2.2 ≤ 255) ∧ qs.length ≤ 9223372036854775807 ∧ PS3 qs false v H:=by
 obtain ⟨qs, h1, h2, h3⟩:=zjo cs lcs
 rw [h1, h2] at hcs
 exact ⟨qs, h3, by unfold maxLen at zcs; omega, hcs⟩
end Go.V.L8
set_option maxRecDepth 20000
namespace Go.V.L11
open Go.Proofs Go.RowKit Go.V Go.V.L2 Go.V.L3 Go.V.L6 Go.V.L8
theorem wiresText_in {ps cs:List (List Value)} (lps:∀ c ∈ ps, LeafsOK [.i .u8, .i .u8] c) (zps:ps.length ≤ maxLen) {W:World} {v1 v2:Value} (hps:SlV ty2 2 ps.flatten ps.length false v1 (hp W)) (lcs:∀ c ∈ cs, LeafsOK [.i .u8, .i .u8, .i .u8] c) (zcs:cs.length ≤ maxLen) (hcs:SlV ty3 3 cs.flatten cs.length false v2 (hp W))
  {a b c d e f:ByteArray} (za:a.size ≤ maxLen) (zb:b.size ≤ maxLen) (zc:c.size ≤ maxLen) (zd:d.size ≤ maxLen) (ze:e.size ≤ maxLen) (zf:f.size ≤ maxLen) (hM:GlobM (hp W)) :
  Ret Tryz.prog 3 [.agg #[v1], .agg #[v2], .agg #[.string a, .string b, .string c, .string d, .string e, .string f]] W (hp W) (fun v _ => v = .bool true):=by
 obtain ⟨p, a1, a2, a3⟩:=z5g lps zps hps
 obtain ⟨q, b1, b2, b3⟩:=z4k lcs zcs hcs
 exact zmj (t:=(((a, b), c), ((d, e), f))) a1 a2 b1 b2 (by unfold maxLen at za zb zc zd ze zf; unfold TM; dsimp only; omega) (Heap.Le.refl _) hM a3 b3
end Go.V.L11
