/- Texts on the way to StoresNil, part 4: one behind another. -/
import Derived.Test.YtcppaheijljnfaaGreatStoresNilM3
import Derived.Lib.IndexAny
import Derived.Sort.LotD5
import Derived.Sort.Walk7
import Derived.Sort.WalkA14
set_option linter.unusedVariables false
set_option linter.unusedSimpArgs false
set_option maxRecDepth 20000
namespace Go.V
open Go.Proofs Go.RowKit
theorem _root_.Go.V.Z80 {A B:Prop} (h:B) (t:Wr B → A:=by intro h; refine z7 (zzc rfl rfl rfl rfl (by omega) (by assumption)) rfl ?_; exact h.h):A:=t ⟨h⟩
theorem _root_.Go.V.Z133 {A B:Prop} (h:B) (t:Wr B → A:=by intro h; refine z7 (zc9 L 0 rfl rfl rfl rfl rfl rfl rfl (by omega)) rfl ?_; exact h.h):A:=t ⟨h⟩
theorem _root_.Go.V.Z353 {A B:Prop} (h:B) (t:Wr B → A:=by intro h; refine Z182 ?_; refine Z35 ?_; exact h.h):A:=t ⟨h⟩
theorem _root_.Go.V.Z354 {A B:Prop} (h:B) (t:Wr B → A:=by intro h; refine Z353 ?_; refine Z1 ?_; exact h.h):A:=t ⟨h⟩
theorem _root_.Go.V.Z355 {A B:Prop} (h:B) (t:Wr B → A:=by intro h; refine Z354 ?_; refine Z80 ?_; exact h.h):A:=t ⟨h⟩
theorem _root_.Go.V.Z356 {A B:Prop} (h:B) (t:Wr B → A:=by intro h; refine Z31 ?_; refine Z139 ?_; exact h.h):A:=t ⟨h⟩
theorem _root_.Go.V.Z389 {A B:Prop} (h:B) (t:Wr B → A:=by intro h; refine Z355 ?_; refine z7 (zc9 L 1 rfl rfl rfl rfl rfl rfl rfl (by omega)) rfl ?_; exact h.h):A:=t ⟨h⟩
theorem _root_.Go.V.Z390 {A B:Prop} (h:B) (t:Wr B → A:=by intro h; refine Z355 ?_; refine z7 (zc9 L 2 rfl rfl rfl rfl rfl rfl rfl (by omega)) rfl ?_; exact h.h):A:=t ⟨h⟩
attribute [local irreducible] V N X VO Par StepOK Has Ret RetL Src
theorem znj (n:Nat) {w:World} {B:Heap} (hB:B.Le (hp w)):Ret Tryz.prog 145 [.int .i64 n] w B (fun v _ => v = .string (zjg n)):=by
 unfold zjg
 have e:Int.tmod (n:Int) 3 = ((n % 3:Nat):Int):=rfl
 refine yc Tryz.func145 rfl Tryz.ntmps145 (Nat.le_of_ble_eq_true rfl) hB ?_
 have hlt:=Nat.mod_lt n (show 0 < 3 by decide)
 rcases (by omega:n % 3 = 0 ∨ n % 3 = 1 ∨ n % 3 = 2) with h | h | h
 ·have e0:Int.tmod (n:Int) 3 = 0:=by rw [e, h]; rfl
  rw [h]
  refine Z355 ?_; refine Z133 ?_; refine Z356 ?_
  refine yb L (rs:=[.tmp 2]) rfl (fun _ _ h => h) Since.refl fun u H hH hle => ?_
  rfl
 ·have e0:Int.tmod (n:Int) 3 = 1:=by rw [e, h]; rfl
  rw [h]
  refine Z389 ?_; refine Z356 ?_
  refine yb L (rs:=[.tmp 2]) rfl (fun _ _ h => h) Since.refl fun u H hH hle => ?_
  rfl
 ·have e0:Int.tmod (n:Int) 3 = 2:=by rw [e, h]; rfl
  rw [h]
  refine Z390 ?_; refine Z356 ?_
  refine yb L (rs:=[.tmp 2]) rfl (fun _ _ h => h) Since.refl fun u H hH hle => ?_
  rfl
theorem zze (n:Nat) {w:World} {B:Heap} (hB:B.Le (hp w)):Ret Tryz.prog 146 [.int .i64 n] w B (fun v _ => v = .string (idS n)):=by
 unfold idS
 have e:Int.tmod (n:Int) 5 = ((n % 5:Nat):Int):=rfl
 refine yc Tryz.func146 rfl Tryz.ntmps146 (Nat.le_of_ble_eq_true rfl) hB ?_
 have hlt:=Nat.mod_lt n (show 0 < 5 by decide)
 rcases (by omega:n % 5 = 0 ∨ n % 5 = 1 ∨ n % 5 = 2 ∨ n % 5 = 3 ∨ n % 5 = 4) with h | h | h | h | h
 ·have e0:Int.tmod (n:Int) 5 = 0:=by rw [e, h]; rfl
  rw [h]
  refine Z355 ?_; refine Z133 ?_; refine Z356 ?_
  refine yb L (rs:=[.tmp 2]) rfl (fun _ _ h => h) Since.refl fun u H hH hle => ?_
  rfl
 ·have e0:Int.tmod (n:Int) 5 = 1:=by rw [e, h]; rfl
  rw [h]
  refine Z389 ?_; refine Z356 ?_
  refine yb L (rs:=[.tmp 2]) rfl (fun _ _ h => h) Since.refl fun u H hH hle => ?_
  rfl
 ·have e0:Int.tmod (n:Int) 5 = 2:=by rw [e, h]; rfl
  rw [h]
  refine Z390 ?_; refine Z356 ?_
  refine yb L (rs:=[.tmp 2]) rfl (fun _ _ h => h) Since.refl fun u H hH hle => ?_
  rfl
 ·have e0:Int.tmod (n:Int) 5 = 3:=by rw [e, h]; rfl
  rw [h]
  refine Z355 ?_; refine z7 (zc9 L 3 rfl rfl rfl rfl rfl rfl rfl (by omega)) rfl ?_; refine Z356 ?_
  refine yb L (rs:=[.tmp 2]) rfl (fun _ _ h => h) Since.refl fun u H hH hle => ?_
  rfl
 ·have e0:Int.tmod (n:Int) 5 = 4:=by rw [e, h]; rfl
  rw [h]
  refine Z355 ?_; refine z7 (zc9 L 4 rfl rfl rfl rfl rfl rfl rfl (by omega)) rfl ?_; refine Z356 ?_
  refine yb L (rs:=[.tmp 2]) rfl (fun _ _ h => h) Since.refl fun u H hH hle => ?_
  rfl
theorem zt3 (n:Nat) {w:World} {B:Heap} (hB:B.Le (hp w)):Ret Tryz.prog 147 [.int .i64 n] w B (fun v _ => v = .string (z0a n)):=by
 unfold z0a
 have e:Int.tmod (n:Int) 4 = ((n % 4:Nat):Int):=rfl
 refine yc Tryz.func147 rfl Tryz.ntmps147 (Nat.le_of_ble_eq_true rfl) hB ?_
 have hlt:=Nat.mod_lt n (show 0 < 4 by decide)
 rcases (by omega:n % 4 = 0 ∨ n % 4 = 1 ∨ n % 4 = 2 ∨ n % 4 = 3) with h | h | h | h
 ·have e0:Int.tmod (n:Int) 4 = 0:=by rw [e, h]; rfl
  rw [h]
  refine Z355 ?_; refine Z133 ?_; refine Z356 ?_
  refine yb L (rs:=[.tmp 2]) rfl (fun _ _ h => h) Since.refl fun u H hH hle => ?_
  rfl
 ·have e0:Int.tmod (n:Int) 4 = 1:=by rw [e, h]; rfl
  rw [h]
  refine Z389 ?_; refine Z356 ?_
  refine yb L (rs:=[.tmp 2]) rfl (fun _ _ h => h) Since.refl fun u H hH hle => ?_
  rfl
 ·have e0:Int.tmod (n:Int) 4 = 2:=by rw [e, h]; rfl
  rw [h]
  refine Z390 ?_; refine Z356 ?_
  refine yb L (rs:=[.tmp 2]) rfl (fun _ _ h => h) Since.refl fun u H hH hle => ?_
  rfl
 ·have e0:Int.tmod (n:Int) 4 = 3:=by rw [e, h]; rfl
  rw [h]
  refine Z355 ?_; refine z7 (zc9 L 3 rfl rfl rfl rfl rfl rfl rfl (by omega)) rfl ?_; refine Z356 ?_
  refine yb L (rs:=[.tmp 2]) rfl (fun _ _ h => h) Since.refl fun u H hH hle => ?_
  rfl
end Go.V
set_option maxRecDepth 20000
namespace Go.V.L2
open Go.Proofs Go.RowKit Go.V
theorem _root_.Go.V.Z25 {A B:Prop} (h:B) (t:Wr B → A:=by intro h; refine z7 (yn rfl rfl rfl rfl (by assumption)) rfl ?_; exact h.h):A:=t ⟨h⟩
theorem _root_.Go.V.Z50 {A B:Prop} (h:B) (t:Wr B → A:=by intro h; refine z7 (z2j rfl rfl rfl rfl (by omega) (by assumption)) rfl ?_; exact h.h):A:=t ⟨h⟩
theorem _root_.Go.V.Z136 {A B:Prop} (h:B) (t:Wr B → A:=by intro h; refine z8 (zzc rfl rfl rfl rfl (by omega) (by assumption)) rfl ?_; exact h.h):A:=t ⟨h⟩
theorem _root_.Go.V.Z357 {A B:Prop} (h:B) (t:Wr B → A:=by intro h; refine Z157 ?_; refine Z23 ?_; exact h.h):A:=t ⟨h⟩
theorem _root_.Go.V.Z383 {A B:Prop} (h:B) (t:Wr B → A:=by intro h; refine Z199 ?_; refine Z191 ?_; exact h.h):A:=t ⟨h⟩
def zz5 (s:Nat):zyr:=((zjg s, idS (s / 3)), if 15 ≤ s then z0a (s / 15 - 1) else ⟨#[]⟩)
def zul (a b:Nat):U:=(zm0 (a % 60), zz5 (b % 75))
def tl (ps:List (Nat × Nat)):List U:=(ps.take 20).map fun p => zul p.1 p.2
theorem ztu (s:Nat):(zz5 s).1.1.size ≤ 16 ∧ (zz5 s).1.2.size ≤ 16 ∧ (zz5 s).2.size ≤ 16:=by
 refine ⟨(zeq _).2, (zlq _).2, ?_⟩
 unfold zz5
 dsimp only
 split
 ·exact (zmf _).2
 ·decide
theorem zuk (a b:Nat):TZ (zul a b):=by
 have h1:=zsx (a % 60)
 have h2:=ztu (b % 75)
 unfold TZ zul
 dsimp only
 refine ⟨⟨?_, ?_, ?_⟩, ?_, ?_, ?_⟩ <;> omega
theorem z0m (a b:Nat):tE (zul a b) = 0:=by
 unfold tE zul
 dsimp only
 rw [if_pos (zxw _)]
 unfold zz5 zgl
 dsimp only
 by_cases h:15 ≤ b % 75
 ·rw [if_pos h]
  split
  ·simp only [zc1, (zeq _).1, (zlq _).1, if_pos]
  ·simp only [zc1, (zeq _).1, (zlq _).1, (zmf _).1, if_pos]
 ·rw [if_neg h, if_pos rfl]
  simp only [zc1, (zeq _).1, (zlq _).1, if_pos]
attribute [local irreducible] V N X VO Par StepOK Has Ret RetL Src
set_option maxHeartbeats 1000000 in
theorem zn2 (a b:Nat) (ha:a ≤ 255) (hb:b ≤ 255) {w:World} {B:Heap} (hB:B.Le (hp w)):Ret Tryz.prog 98 [.agg #[.int .u8 a, .int .u8 b]] w B (fun v _ => v = uv (zul a b)):=by
 have e60:Int.tmod (a:Int) 60 = ((a % 60:Nat):Int):=rfl
 have e75:Int.tmod (b:Int) 75 = ((b % 75:Nat):Int):=rfl
 have hlt:=Nat.mod_lt a (show 0 < 60 by decide)
 have hlt2:=Nat.mod_lt b (show 0 < 75 by decide)
 unfold zul
 generalize a % 60 = m at e60 hlt
 generalize b % 75 = s at e75 hlt2
 have q1:(m:Int).tdiv 3 = ((m / 3:Nat):Int):=rfl
 have q2:(m:Int).tdiv 15 = ((m / 15:Nat):Int):=rfl
 have q3:(s:Int).tdiv 3 = ((s / 3:Nat):Int):=rfl
 have q4:(s:Int).tdiv 15 = ((s / 15:Nat):Int):=rfl
 have d1:IntKind.i64.wrap ((m:Int).tdiv 3) = ((m / 3:Nat):Int):=zaa (by omega) (by omega)
 have d2:IntKind.i64.wrap ((m:Int).tdiv 15) = ((m / 15:Nat):Int):=zaa (by omega) (by omega)
 have d3:IntKind.i64.wrap ((s:Int).tdiv 3) = ((s / 3:Nat):Int):=zaa (by omega) (by omega)
 have d4:IntKind.i64.wrap ((s:Int).tdiv 15) = ((s / 15:Nat):Int):=zaa (by omega) (by omega)
 unfold zm0 zz5
 refine yc Tryz.func98 rfl Tryz.ntmps98 (Nat.le_of_ble_eq_true rfl) hB ?_
 refine Z357 ?_; refine Z159 ?_; refine Z77 ?_; refine z8 (zcc L _ rfl rfl rfl rfl z3o rfl rfl (by first | omega | decide)) rfl ?_; refine Z55 ?_; refine Z136 ?_; refine z8 (zau rfl rfl rfl zx6.1 zx6.2 (zaa (by omega) (by omega))) rfl ?_; refine z8 (zcc L _ rfl rfl rfl rfl z3o rfl rfl (by first | omega | decide)) rfl ?_; refine Z55 ?_; refine Z136 ?_; refine z8 (zau rfl rfl rfl zx6.1 zx6.2 (zaa (by omega) (by omega))) rfl ?_; refine Z327 ?_; refine Z175 ?_; refine z7 (zo L rfl rfl (zk rfl) rfl rfl rfl (fun u H hH _ _ => znj _ hH)) rfl ?_; refine Z1 ?_; refine Z50 ?_; refine z7 (zo L rfl rfl (zk rfl) rfl rfl rfl (fun u H hH _ _ => zze _ hH)) rfl ?_; refine z7 (yv (cs:=[_, _]) rfl rfl zpd rfl rfl) rfl ?_; refine Z1 ?_; refine Z50 ?_; refine z7 (zo L rfl rfl (zk rfl) rfl rfl rfl (fun u H hH _ _ => zt3 _ hH)) rfl ?_; refine z7 (yv (cs:=[_, _, _]) rfl rfl z2g rfl rfl) rfl ?_; refine Z1 ?_; refine z7 (zo L rfl rfl (zk rfl) rfl rfl rfl (fun u H hH _ _ => znj _ hH)) rfl ?_; refine Z1 ?_; refine Z50 ?_; refine z7 (zo L rfl rfl (zk rfl) rfl rfl rfl (fun u H hH _ _ => zze _ hH)) rfl ?_; refine z7 (yv (cs:=[_, _]) rfl rfl zpd rfl rfl) rfl ?_; refine z7 (yv (cs:=[_, _, _]) rfl rfl z2f rfl rfl) rfl ?_; refine z7 (yv (cs:=[_, _, _, _, _, _]) rfl rfl zfg rfl rfl) rfl ?_; refine Z383 ?_
 by_cases h:15 ≤ s
 ·rw [if_pos h]
  have hs1:IntKind.i64.wrap (((s / 15:Nat):Int) - 1) = ((s / 15 - 1:Nat):Int):=(zaa (by omega) (by omega)).trans (by omega)
  refine zkz 5 rfl fun b5 hb5 => ?_
  refine Z173 ?_; refine Z259 ?_; refine Z161 ?_; refine Z50 ?_; refine Z25 ?_; refine z7 (zo L rfl rfl (zk rfl) rfl rfl rfl (fun u H hH _ _ => zt3 _ hH)) rfl ?_; refine Z42 ?_; refine Z42 ?_; refine Z118 ?_; refine Z159 ?_; refine Z37 ?_; refine z7 (zw L (vs:=[_, _, _, _, _, _]) (zaz rfl (List.Mem.head _)) rfl rfl rfl rfl ⟨_, rfl⟩) rfl ?_; refine Z252 ?_
  refine yb L (rs:=[.cell 2 114]) rfl (fun _ _ h => h) Since.refl fun u H hH hle => ?_
  refine Z115 ?_
  rfl
 ·rw [if_neg h]
  refine Z173 ?_; refine Z47 ?_; refine Z162 ?_; refine Z37 ?_; refine z7 (zw L (vs:=[_, _, _, _, _, _]) (yk rfl) rfl rfl rfl rfl ⟨_, rfl⟩) rfl ?_; refine Z252 ?_
  refine yb L (rs:=[.cell 2 114]) rfl (fun _ _ h => h) Since.refl fun u H hH hle => ?_
  refine Z115 ?_
  rfl
end Go.V.L2
set_option maxRecDepth 20000
namespace Go.V
open Go.Proofs Go.RowKit
section
variable {P:Program} {F:Fr} {B:Heap} {O:Boxes} {n:Nat} {ops:Array Oper} {κ:Kap} {d:Nat} {ty:TypeId} {pos:String} {aft:Array Edge} {g:Option (Nat × Bool)}
theorem zzd {t t':TypeId} {x y:Operand} {k:IntKind} {p q r:Int} (hn:Nat.blt d n = true) (hg:gK ops κ ⟨some d, .binOp .and t x y t', ty, pos, aft, g⟩ = some true) (hx:evK κ x = some (.int k p)) (hy:evK κ y = some (.int k q)) (hb:bits .and k p q = r) :
  StepOK P F B n ops O κ ⟨some d, .binOp .and t x y t', ty, pos, aft, g⟩ d (.is (.int k r)):=zcd hn hg hx hy fun u => by subst hb; simp [eqGuard_and, binOp_and, intBits_and]
end
end Go.V
set_option maxRecDepth 20000
namespace Go.V.L3
open Go.Proofs Go.RowKit Go.V Go.V.L2
attribute [local irreducible] V N X VO Par StepOK Has Ret RetL RetO RetT Src
end Go.V.L3
set_option maxRecDepth 20000
namespace Go.V.L3
open Go.Proofs Go.RowKit Go.V Go.V.L2
attribute [local irreducible] V N X VO Par StepOK Has Ret RetL RetO RetT Src
end Go.V.L3
set_option maxRecDepth 20000
namespace Go.V.L3
open Go.Proofs Go.RowKit Go.V Go.V.L2
attribute [local irreducible] V N X VO Par StepOK Has Ret RetL RetO RetT Src
end Go.V.L3
set_option maxRecDepth 20000
namespace Go.V.L3
open Go.Proofs Go.RowKit Go.V Go.V.L2
attribute [local irreducible] V N X VO Par StepOK Has Ret RetL RetO RetT Src
end Go.V.L3
set_option maxRecDepth 20000
namespace Go.V.L6
open Go.Proofs Go.RowKit Go.V Go.V.L2 Go.V.L3
abbrev d0:U:=(((⟨#[100, 111, 99]⟩, ⟨#[97]⟩), ⟨#[118, 105, 101, 119, 101, 114]⟩), ((⟨#[117, 115, 101, 114]⟩, ⟨#[120]⟩), ⟨#[]⟩))
abbrev d1:U:=(((⟨#[100, 111, 99]⟩, ⟨#[97]⟩), ⟨#[118, 105, 101, 119, 101, 114]⟩), ((⟨#[103, 114, 111, 117, 112]⟩, ⟨#[103]⟩), ⟨#[109, 101, 109, 98, 101, 114]⟩))
abbrev d2:U:=(((⟨#[100, 111, 99]⟩, ⟨#[98]⟩), ⟨#[118, 105, 101, 119, 101, 114]⟩), ((⟨#[117, 115, 101, 114]⟩, ⟨#[120]⟩), ⟨#[]⟩))
def tzB (t:U):Bool:=decide (t.1.1.1.size ≤ 1000) && decide (t.1.1.2.size ≤ 1000) && decide (t.1.2.size ≤ 1000) && decide (t.2.1.1.size ≤ 1000) && decide (t.2.1.2.size ≤ 1000) && decide (t.2.2.size ≤ 1000)
theorem zy1 {t:U} (h:tzB t = true):TZ t:=by
 unfold tzB at h
 simp only [Bool.and_eq_true, decide_eq_true_eq] at h
 unfold TZ; omega
attribute [local irreducible] V N X VO Par StepOK Has Ret RetL RetO RetT Src
end Go.V.L6
set_option maxRecDepth 20000
namespace Go.V.L6
open Go.Proofs Go.RowKit Go.V Go.V.L2 Go.V.L3
abbrev ty3:TypeId:=148
abbrev C3:=Nat × Nat × Nat
def qcs (p:C3):List Value:=[.int .u8 p.1, .int .u8 p.2.1, .int .u8 p.2.2]
theorem z0b (p:C3):(qcs p).length = 3:=rfl
abbrev PS3 (cs:List C3) (fu:Bool):Value → Heap → Prop:=SlV ty3 3 (cs.flatMap qcs) cs.length fu
theorem z18 {cs:List C3} {j:Nat} {a b c:Nat} (h:cs[j]? = some (a, b, c)):((cs.flatMap qcs).drop (j * 3)).take 3 = [.int .u8 a, .int .u8 b, .int .u8 c]:=zdc z0b cs j _ h
def drB (c:Nat):Bool:=decide (c % 2 = 1)
structure SOK (l:List U):Prop where
 sst:Sst zbd l
 tz:∀ t ∈ l, TZ t
 ok:∀ t ∈ l, tE t = 0
theorem zwn {l:List U} (h:SOK l) {x:U} (hz:TZ x) (hx:tE x = 0) (d:Bool) (hl:l.length < 4096):SOK (zcp l x d).1 ∧ (zcp l x d).2 = 0 ∧ (zcp l x d).1.length ≤ l.length + 1:=by
 refine ⟨⟨znc h.sst x d, fun t ht => ?_, fun t ht => ?_⟩, ?_⟩
 ·rcases zi7 ht with ht | rfl
  ·exact h.tz t ht
  ·exact hz
 ·rcases zi7 ht with ht | rfl
  ·exact h.ok t ht
  ·exact hx
 ·unfold zcp
  rw [if_pos hx]
  split
  ·exact ⟨rfl, Nat.le_succ_of_le (List.length_filter_le _ _)⟩
  ·split
   ·exact ⟨rfl, Nat.le_succ _⟩
   ·rw [if_neg (by omega), zcg]; exact ⟨rfl, Nat.le_refl _⟩
attribute [local irreducible] V N X VO Par StepOK Has Ret RetL RetO RetT Src
theorem z16 (c:Nat):Int.tmod (c:Int) 2 = ((c % 2:Nat):Int):=rfl
theorem zyc {a b c:Nat} {x:U} {d:Bool} (hx:zul a b = x) (hd:drB c = d) (ha:a ≤ 255) (hb:b ≤ 255) (hc:c ≤ 255) {w:World} {B:Heap} (hB:B.Le (hp w)):Ret Tryz.prog 68 [.agg #[.int .u8 a, .int .u8 b, .int .u8 c]] w B (fun v _ => v = chv x d):=by
 subst hx hd
 have hr:=z16 c
 refine yc Tryz.func68 rfl Tryz.ntmps68 (Nat.le_of_ble_eq_true rfl) hB ?_
 by_cases h1:c % 2 = 1
 ·have e1:drB c = true:=decide_eq_true h1
  rw [e1]
  refine Z357 ?_; refine Z159 ?_; refine Z77 ?_; refine z8 (zcc L _ rfl rfl rfl rfl zs8 rfl rfl (by first | omega | decide)) rfl ?_; refine Z55 ?_; refine z8 (zcc L _ rfl rfl rfl rfl zs8 rfl rfl (by first | omega | decide)) rfl ?_; refine Z55 ?_; refine z8 (yv (cs:=[_, _]) rfl rfl z2b rfl rfl) rfl ?_; refine z8 (zo L rfl rfl (zk rfl) rfl rfl rfl (fun u H hH _ _ => zn2 a b ha hb hH)) rfl ?_; refine z8 (zcc L _ rfl rfl rfl rfl zs8 rfl rfl (by first | omega | decide)) rfl ?_; refine Z55 ?_; refine Z136 ?_; refine Z101 ?_; refine z8 (yv (cs:=[_, _, _, _, _, _, _]) rfl rfl zpc rfl rfl) rfl ?_; refine Z111 ?_; refine Z150 ?_
  refine yb L (rs:=[.cell 2 120]) rfl (fun _ _ h => h) Since.refl fun u H hH hle => ?_
  refine Z115 ?_
  rfl
 ·have e1:drB c = false:=decide_eq_false h1
  rw [e1]
  refine Z357 ?_; refine Z159 ?_; refine Z77 ?_; refine z8 (zcc L _ rfl rfl rfl rfl zs8 rfl rfl (by first | omega | decide)) rfl ?_; refine Z55 ?_; refine z8 (zcc L _ rfl rfl rfl rfl zs8 rfl rfl (by first | omega | decide)) rfl ?_; refine Z55 ?_; refine z8 (yv (cs:=[_, _]) rfl rfl z2b rfl rfl) rfl ?_; refine z8 (zo L rfl rfl (zk rfl) rfl rfl rfl (fun u H hH _ _ => zn2 a b ha hb hH)) rfl ?_; refine z8 (zcc L _ rfl rfl rfl rfl zs8 rfl rfl (by first | omega | decide)) rfl ?_; refine Z55 ?_; refine Z136 ?_; refine Z89 ?_; refine z8 (yv (cs:=[_, _, _, _, _, _, _]) rfl rfl zpc rfl rfl) rfl ?_; refine Z111 ?_; refine Z150 ?_
  refine yb L (rs:=[.cell 2 120]) rfl (fun _ _ h => h) Since.refl fun u H hH hle => ?_
  refine Z115 ?_
  rfl
end Go.V.L6
set_option maxRecDepth 20000
namespace Go.V.L6
open Go.Proofs Go.RowKit Go.V Go.V.L2 Go.V.L3
end Go.V.L6
set_option maxRecDepth 20000
namespace Go.V.L2
open Go.Proofs Go.RowKit Go.V
def TM (t:U):Prop:=(t.1.1.1.size ≤ 9223372036854775807 ∧ t.1.1.2.size ≤ 9223372036854775807 ∧ t.1.2.size ≤ 9223372036854775807) ∧ t.2.1.1.size ≤ 9223372036854775807 ∧ t.2.1.2.size ≤ 9223372036854775807 ∧ t.2.2.size ≤ 9223372036854775807
attribute [local irreducible] V N X VO Par StepOK Has Ret RetL Src
end Go.V.L2
set_option maxRecDepth 20000
namespace Go.V.L8
open Go.Proofs Go.RowKit Go.V Go.V.L2 Go.V.L3 Go.V.L6
abbrev tyM:TypeId:=118
abbrev tyC:TypeId:=120
abbrev z5s:TypeId:=96
abbrev z5t:TypeId:=79
def ccs (c:CH):List Value:=[.string c.1.1.1.1, .string c.1.1.1.2, .string c.1.1.2, .string c.1.2.1.1, .string c.1.2.1.2, .string c.1.2.2, .bool c.2]
theorem zv5 (c:CH):(ccs c).length = 7:=rfl
abbrev KS (ty:TypeId) (l:List CH) (fu:Bool):Value → Heap → Prop:=SlV ty 7 (l.flatMap ccs) l.length fu
theorem zik {l:List CH} {i:Nat} {c:CH} (h:l[i]? = some c):((l.flatMap ccs).drop (i * 7)).take 7 = [.string c.1.1.1.1, .string c.1.1.1.2, .string c.1.1.2, .string c.1.2.1.1, .string c.1.2.1.2, .string c.1.2.2, .bool c.2]:=zdc zv5 l i c h
theorem zgu {ty:TypeId} {κ:Kap} {s:Nat} {r:List CH} {c:CH} (h:κ s = some (.own (SlR ty 7 (r.length + 1) (r.flatMap ccs ++ [.string c.1.1.1.1, .string c.1.1.1.2, .string c.1.1.2, .string c.1.2.1.1, .string c.1.2.1.2, .string c.1.2.2, .bool c.2])))):κ s = some (.own (SlR ty 7 (r ++ [c]).length ((r ++ [c]).flatMap ccs))):=by
 rw [h, List.flatMap_append, List.length_append]; rfl
theorem z1b {n:Nat} {l:List CH} (hl:¬ n < l.length) {i:Nat} {c:CH} (hc:l[i]? = some c) (h:¬ tE c.1 = 0):cE n l = 6:=by
 unfold cE
 rw [if_neg hl, if_pos]
 rw [List.any_eq_true]
 exact ⟨c, List.mem_of_getElem? hc, by simp [h]⟩
theorem zv8 {n:Nat} {l:List CH} (hl:¬ n < l.length) (h:∀ (j:Nat) c, l[j]? = some c → tE c.1 = 0):cE n l = 0:=by
 unfold cE
 rw [if_neg hl, if_neg]
 rw [List.any_eq_true]
 rintro ⟨c, hc, h1⟩
 obtain ⟨j, hj⟩:=List.getElem?_of_mem hc
 rw [decide_eq_true (h j c hj)] at h1
 cases h1
attribute [local irreducible] V N X VO Par StepOK Has Ret RetL RetO RetT Src
theorem ztr {t:U} (hz:TM t) {w:World} {B:Heap} (hB:B.Le (hp w)):Ret Tryz.prog 91 [uv t] w B (fun v _ => v = .int .i64 (tE t)):=by
 obtain ⟨⟨z1, z2, z3⟩, z4, z5, z6⟩:=hz
 unfold tE
 refine yc Tryz.func91 rfl Tryz.ntmps91 (Nat.le_of_ble_eq_true rfl) hB ?_
 by_cases h:zc1 [t.1.1.1, t.1.1.2, t.1.2] = 0
 ·rw [if_pos h]
  refine Z157 ?_; refine Z265 ?_; refine z7 (zw L (vs:=[_, _, _]) (ql rfl) rfl rfl rfl rfl ⟨_, rfl⟩) rfl ?_; refine z7 (zo L rfl rfl (zk rfl) rfl rfl rfl (fun u H hH _ _ => zg9 (by first | assumption | omega | decide) (by first | assumption | omega | decide) (by first | assumption | omega | decide) hH)) rfl ?_; refine Z250 ?_; refine Z234 ?_; refine Z30 ?_; refine Z19 ?_; refine z7 (zw L (vs:=[_, _, _]) (ql rfl) rfl rfl rfl rfl ⟨_, rfl⟩) rfl ?_; refine z7 (zo L rfl rfl (zk rfl) rfl rfl rfl (fun u H hH _ _ => zjc (by first | assumption | omega | decide) (by first | assumption | omega | decide) (by first | assumption | omega | decide) hH)) rfl ?_; refine Z139 ?_
  refine yb L (rs:=[.tmp 2]) rfl (fun _ _ h => h) Since.refl fun u H hH hle => ?_
  rfl
 ·rw [if_neg h]
  refine Z157 ?_; refine Z265 ?_; refine z7 (zw L (vs:=[_, _, _]) (ql rfl) rfl rfl rfl rfl ⟨_, rfl⟩) rfl ?_; refine z7 (zo L rfl rfl (zk rfl) rfl rfl rfl (fun u H hH _ _ => zg9 (by first | assumption | omega | decide) (by first | assumption | omega | decide) (by first | assumption | omega | decide) hH)) rfl ?_; refine Z250 ?_; refine Z222 ?_; refine Z173 ?_; refine Z139 ?_
  refine yb L (rs:=[.tmp 2]) rfl (fun _ _ h => h) Since.refl fun u H hH hle => ?_
  rfl
theorem zit {t:U} (hz:TM t) {w:World} {B:Heap} (hB:B.Le (hp w)):Ret Tryz.prog 157 [uv t] w B (fun v _ => v = .int .i64 (tE t)):=by
 obtain ⟨⟨z1, z2, z3⟩, z4, z5, z6⟩:=hz
 have hm:=zy3 t
 refine yc Tryz.func157 rfl Tryz.ntmps157 (Nat.le_of_ble_eq_true rfl) hB ?_
 refine Z157 ?_; refine Z377 ?_; refine Z46 ?_; refine z8 (zw L (vs:=[_, _, _]) (ql rfl) rfl rfl rfl rfl ⟨_, rfl⟩) rfl ?_; refine z8 (zo L rfl rfl (zk rfl) rfl rfl rfl (fun u H hH _ _ => znx (by first | assumption | omega | decide) (by first | assumption | omega | decide) (by first | assumption | omega | decide) hH)) rfl ?_; refine Z46 ?_; refine z8 (zw L (vs:=[_, _, _]) (ql rfl) rfl rfl rfl rfl ⟨_, rfl⟩) rfl ?_; refine z8 (zo L rfl rfl (zk rfl) rfl rfl rfl (fun u H hH _ _ => zic (by first | assumption | omega | decide) (by first | assumption | omega | decide) (by first | assumption | omega | decide) hH)) rfl ?_; refine z8 (zgi rfl rfl rfl rfl (by assumption)) rfl ?_; refine Z185 ?_
 refine yb L (rs:=[.tmp 2]) rfl (fun _ _ h => h) Since.refl fun u H hH hle => ?_
 rfl
theorem z0r {l:List CH} {fu:Bool} {b i:Nat} {c:CH} (hc0:l[i]? = some c) {v:Value} {w:World} {B:Heap} (hB:B.Le (hp w)) (hb:B b = some (.cells #[v] z5s)) (hv:KS tyM l fu v B) :
  Ret Tryz.prog 120 ([.int .i64 i] ++ [.pointer (some ⟨b, 0, none⟩)]) w B (fun r _ => r = uv c.1):=by
 have hc:=zik hc0
 have hil:=get_lt hc0
 refine yc Tryz.func120 rfl Tryz.ntmps120 (Nat.le_of_ble_eq_true rfl) hB ?_
 refine Z315 ?_; refine Z159 ?_; refine Z17 ?_; refine Z59 ?_; refine zfj 4 (KS tyM l fu) rfl SlV.mono hv ?_; refine Z1 ?_; refine z7 (qu L _ rfl rfl rfl rfl rfl rfl rfl (by first | omega | decide) (by assumption)) rfl ?_; refine Z78 ?_; refine z7 (yg L (vs:=[_, _, _, _, _, _]) rfl rfl rfl rfl rfl ⟨_, rfl⟩) rfl ?_; refine Z252 ?_
 refine yb L (rs:=[.cell 3 114]) rfl (fun _ _ h => h) Since.refl fun u H hH hle => ?_
 refine Z115 ?_
 rfl
theorem z1a {l:List CH} {fu:Bool} {b i:Nat} {c:CH} (hc0:l[i]? = some c) {v:Value} {w:World} {B:Heap} (hB:B.Le (hp w)) (hb:B b = some (.cells #[v] z5t)) (hv:KS tyC l fu v B) :
  Ret Tryz.prog 121 ([.int .i64 i] ++ [.pointer (some ⟨b, 0, none⟩)]) w B (fun r _ => r = uv c.1):=by
 have hc:=zik hc0
 have hil:=get_lt hc0
 refine yc Tryz.func121 rfl Tryz.ntmps121 (Nat.le_of_ble_eq_true rfl) hB ?_
 refine Z315 ?_; refine Z159 ?_; refine Z17 ?_; refine Z59 ?_; refine zfj 4 (KS tyC l fu) rfl SlV.mono hv ?_; refine Z1 ?_; refine z7 (qu L _ rfl rfl rfl rfl rfl rfl rfl (by first | omega | decide) (by assumption)) rfl ?_; refine Z78 ?_; refine z7 (yg L (vs:=[_, _, _, _, _, _]) rfl rfl rfl rfl rfl ⟨_, rfl⟩) rfl ?_; refine Z252 ?_
 refine yb L (rs:=[.cell 3 114]) rfl (fun _ _ h => h) Since.refl fun u H hH hle => ?_
 refine Z115 ?_
 rfl
theorem zlk {l:List CH} {cf:Nat} {caps:List Value} (hz:∀ c ∈ l, TM c.1) (hl:l.length ≤ 9223372036854775807) (hfn:L.fn cf = some ()) {e:Int} (he:cE 32 l = e) {w:World} {B:Heap} (hB:B.Le (hp w))
  (hcl:∀ (i:Nat) (c:CH), l[i]? = some c → ∀ (u:World) (H:Heap), H.Le (hp u) → B.Le H → Ret Tryz.prog cf ([.int .i64 i] ++ caps) u H (fun r _ => r = uv c.1)) :
  Ret Tryz.prog 119 [.int .i64 l.length, .func (.func cf) #[] caps.toArray] w B (fun v _ => v = .int .i64 e):=by
 subst he
 refine yc Tryz.func119 rfl Tryz.ntmps119 (Nat.le_of_ble_eq_true rfl) hB ?_
 by_cases h32:32 < l.length
 ·have:cE 32 l = 3:=if_pos h32
  rw [this]
  refine Z256 ?_; refine Z40 ?_; refine Z263 ?_
  refine yb L (rs:=[.tmp 4]) rfl (fun _ _ h => h) Since.refl fun u H hH hle => ?_
  rfl
 ·refine Z256 ?_; refine Z32 ?_; refine Z168 ?_; refine Z207 ?_; refine Z254 ?_
  refine zak (fun i:Nat => [(1, .is (.func (.func cf) #[] caps.toArray)), (9, .is (.int .i64 l.length)), (10, .is (.int .i64 i))]) (fun i => i ≤ l.length ∧ ∀ (j:Nat) c, j < i → l[j]? = some c → tE c.1 = 0) (fun i => l.length - i) 0 ⟨Nat.zero_le _, fun j c h => absurd h (Nat.not_lt_zero _)⟩ ⟨rfl, rfl, rfl, trivial⟩ ?_
  rintro i ⟨hi, hok⟩
  by_cases hlt:i < l.length
  ·obtain ⟨c, hc⟩:=zae hlt
   have hzc:=hz c (List.mem_of_getElem? hc)
   by_cases h0:tE c.1 = 0
   ·refine Z342 ?_; refine Z144 ?_; refine Z284 ?_; refine z7 (zo L rfl rfl (zk rfl) rfl rfl hfn (fun u H hH hle _ => hcl i c hc u H hH hle)) rfl ?_; refine z7 (zo L rfl rfl (zk rfl) rfl rfl rfl (fun u H hH _ _ => h0 ▸ ztr hzc hH)) rfl ?_; refine Z144 ?_; refine Z196 ?_; refine Z21 ?_; refine Z221 ?_; refine Z60 ?_; refine Z320 ?_
    exact yi (x:=i) (i + 1) ⟨hlt, fun j c' hj hc' => by
     rcases Nat.lt_or_ge j i with h | h
     ·exact hok j c' h hc'
     ·have:j = i:=by omega
      subst this; rw [hc] at hc'; cases hc'; exact h0⟩ (by omega) ⟨rfl, rfl, rfl, trivial⟩
   ·have h6:=(zqb c.1).resolve_left h0
    rw [z1b h32 hc h0]
    refine Z342 ?_; refine Z144 ?_; refine Z284 ?_; refine z7 (zo L rfl rfl (zk rfl) rfl rfl hfn (fun u H hH hle _ => hcl i c hc u H hH hle)) rfl ?_; refine z7 (zo L rfl rfl (zk rfl) rfl rfl rfl (fun u H hH _ _ => h6 ▸ ztr hzc hH)) rfl ?_; refine Z144 ?_; refine Z196 ?_; refine Z222 ?_; refine Z228 ?_; refine Z139 ?_
    refine yb L (rs:=[.tmp 4]) rfl (fun _ _ h => h) Since.refl fun u H hH hle => ?_
    rfl
  ·rw [zv8 h32 (fun j c hj => hok j c (by have:=get_lt hj; omega) hj)]
   refine Z276 ?_; refine Z300 ?_; refine Z68 ?_; refine Z139 ?_
   refine yb L (rs:=[.tmp 4]) rfl (fun _ _ h => h) Since.refl fun u H hH hle => ?_
   rfl
theorem znk {e:TypeId} {s n:Nat} {xs:List Value} {fu:Bool} {v:Value} {H:Heap} (h:SlV e s xs n fu v H):∃ p m c, v = .slice p m c:=by
 rcases h.2 with ⟨_, _, h⟩ | ⟨b, off, cap, cs, ty0, fr, h, _⟩
 ·exact ⟨_, _, _, h⟩
 ·exact ⟨_, _, _, h⟩
theorem zgb {l:List CH} {fu:Bool} (hz:∀ c ∈ l, TM c.1) (hl:l.length ≤ 9223372036854775807) {e:Int} (he:cE 32 l = e) {v:Value} {w:World} {B:Heap} (hB:B.Le (hp w)) (hv:KS tyM l fu v B) :
  Ret Tryz.prog 78 [v] w B (fun r _ => r = .int .i64 e):=by
 obtain ⟨p, m, c, rfl⟩:=znk hv
 refine yc Tryz.func78 rfl Tryz.ntmps78 (Nat.le_of_ble_eq_true rfl) hB ?_
 refine Z157 ?_; refine Z144 ?_
 refine zky 1 rfl fun q H1 hs1 ⟨b, hpb, hb1⟩ => ?_
 subst hpb
 refine Z17 ?_; refine Z59 ?_; refine zfj 3 (KS tyM l fu) rfl SlV.mono (hv.le hs1.le) ?_; refine Z11 ?_; refine z7 (zd3 rfl rfl rfl rfl) rfl ?_; refine z7 (zo L rfl rfl (zk rfl) rfl rfl rfl (fun u H hH hle _ => zlk (caps:=[.pointer (some ⟨b, 0, none⟩)]) hz hl rfl he hH (fun i c hc u' H' hH' hle' => z0r hc hH' (hle' _ _ (hle _ _ hb1)) ((hv.le hs1.le).le (Heap.Le.trans hle hle'))))) rfl ?_; refine Z139 ?_
 refine yb L (rs:=[.tmp 2]) rfl (fun _ _ h => h) hs1 fun u H hH hle => ?_
 rfl
end Go.V.L8
set_option maxRecDepth 20000
namespace Go.V.L8
open Go.Proofs Go.RowKit Go.V Go.V.L2 Go.V.L3 Go.V.L6
theorem zok {s:List U} {l:List CH} (h0:cE 32 l = 0) {i:Nat} {c:CH} (h:∀ (j:Nat) x, j < i → l[j]? = some x → zfa s x = true) (hc:l[i]? = some c) (hh:zfa s c = false):zex s l = (i, 13):=by
 unfold zex; rw [if_pos h0]; exact zsy h hc hh
theorem zlr {s:List U} {l:List CH} (h0:cE 32 l = 0) (h:∀ (j:Nat) x, l[j]? = some x → zfa s x = true):zex s l = (l.length, 0):=by
 unfold zex; rw [if_pos h0]; exact zsz fun x hx => let ⟨j, hj⟩:=List.getElem?_of_mem hx; h j x hj
attribute [local irreducible] V N X VO Par StepOK Has Ret RetL RetO RetT Src
theorem zm5 {l:List CH} {fu:Bool} (hz:∀ c ∈ l, TM c.1) (hl:l.length ≤ 9223372036854775807) {e:Int} (he:cE 32 l = e) {v:Value} {w:World} {B:Heap} (hB:B.Le (hp w)) (hv:KS tyC l fu v B) :
  Ret Tryz.prog 79 [v] w B (fun r _ => r = .int .i64 e):=by
 obtain ⟨p, m, c, rfl⟩:=znk hv
 refine yc Tryz.func79 rfl Tryz.ntmps79 (Nat.le_of_ble_eq_true rfl) hB ?_
 refine Z157 ?_; refine Z144 ?_
 refine zky 1 rfl fun q H1 hs1 ⟨b, hpb, hb1⟩ => ?_
 subst hpb
 refine Z17 ?_; refine Z59 ?_; refine zfj 3 (KS tyC l fu) rfl SlV.mono (hv.le hs1.le) ?_; refine Z11 ?_; refine z7 (zd3 rfl rfl rfl rfl) rfl ?_; refine z7 (zo L rfl rfl (zk rfl) rfl rfl rfl (fun u H hH hle _ => zlk (caps:=[.pointer (some ⟨b, 0, none⟩)]) hz hl rfl he hH (fun i c hc u' H' hH' hle' => z1a hc hH' (hle' _ _ (hle _ _ hb1)) ((hv.le hs1.le).le (Heap.Le.trans hle hle'))))) rfl ?_; refine Z139 ?_
 refine yb L (rs:=[.tmp 2]) rfl (fun _ _ h => h) hs1 fun u H hH hle => ?_
 rfl
theorem zoh {s:List U} {c:CH} {b:Bool} (hb:zfa s c = b) {v:Value} {w:World} {B:Heap} (hB:B.Le (hp w)) (hv:SetV s v B):Ret Tryz.prog 122 [v, chv c.1 c.2] w B (fun r _ => r = .bool b):=by
 subst hb
 obtain ⟨x, d⟩:=c
 obtain ⟨f1, p1, f2, q1, rfl, hpl⟩:=hv.shape
 obtain ⟨h, hh⟩:∃ h, decide (x ∈ s) = h:=⟨_, rfl⟩
 unfold zfa
 dsimp only
 rw [hh]
 refine yc Tryz.func122 rfl Tryz.ntmps122 (Nat.le_of_ble_eq_true rfl) hB ?_
 refine Z206 ?_; refine Z377 ?_; refine z8 (zw L (vs:=[_, _, _, _]) (ql rfl) rfl rfl rfl rfl ⟨_, rfl⟩) rfl ?_; refine Z46 ?_; refine z8 (zw L (vs:=[_, _, _, _, _, _]) (ql rfl) rfl rfl rfl rfl ⟨_, rfl⟩) rfl ?_; refine z8 (zo L rfl rfl (zk rfl) rfl rfl rfl (fun u H hH hle _ => zcu hh hH (hv.le hle))) rfl ?_; refine Z373 ?_; refine Z185 ?_
 refine yb L (rs:=[.tmp 4]) rfl (fun _ _ h => h) Since.refl fun u H hH hle => ?_
 cases h <;> cases d <;> rfl
set_option maxHeartbeats 1000000 in
theorem first_ret {s:List U} {l:List CH} {fu:Bool} (hz:∀ c ∈ l, TM c.1) (hl:l.length ≤ 9223372036854775807) {r:Nat} {e:Int} (hr:zex s l = (r, e)) {sv v:Value} {w:World} {B:Heap} (hB:B.Le (hp w)) (hs:SetV s sv B) (hv:KS tyM l fu v B) :
  Ret Tryz.prog 80 [sv, v] w B (fun x _ => x = .tuple #[.int .i64 r, .int .i64 e]):=by
 obtain ⟨f1, p1, f2, q1, rfl, hpl⟩:=hs.shape
 refine yc Tryz.func80 rfl Tryz.ntmps80 (Nat.le_of_ble_eq_true rfl) hB ?_
 refine zax 1 (KS tyM l fu) rfl SlV.mono hv ?_
 by_cases h0:cE 32 l = 0
 ·refine Z329 ?_; refine Z155 ?_; refine Z4 ?_; refine z7 (zo L rfl rfl (zk rfl) rfl rfl rfl (fun u H hH _ _ v1 h1 => zgb hz hl h0 hH h1)) rfl ?_; refine Z250 ?_; refine Z240 ?_; refine Z30 ?_; refine Z395 ?_
  refine zak (fun i:Nat => [(1, .sat (KS tyM l fu)), (2, .sat (At [f1, .pointer p1, f2, .pointer q1] znf 0)), (14, .sat (KS tyM l fu)), (15, .is (.int .i64 l.length)), (16, .is (.int .i64 i))]) (fun i => i ≤ l.length ∧ ∀ (j:Nat) x, j < i → l[j]? = some x → zfa s x = true) (fun i => l.length - i) 0 ⟨Nat.zero_le _, fun j c h => absurd h (Nat.not_lt_zero _)⟩ ⟨rfl, rfl, rfl, rfl, rfl, trivial⟩ ?_
  rintro i ⟨hi, hok⟩
  by_cases hlt:i < l.length
  ·obtain ⟨c, hc0⟩:=zae hlt
   have hc:=zik hc0
   cases hh:zfa s c
   ·rw [zok h0 hok hc0 hh] at hr
    cases hr
    refine zh ?_; refine Z37 ?_; refine Z219 ?_; refine Z192 ?_; refine z7 (qu L _ rfl rfl rfl rfl rfl rfl rfl (by first | omega | decide) (by assumption)) rfl ?_; refine z7 (yg L (vs:=[_, _, _, _, _, _, _]) rfl rfl rfl rfl rfl ⟨_, rfl⟩) rfl ?_; refine Z260 ?_; refine Z18 ?_; refine Z159 ?_; refine Z44 ?_; refine z7 (zw L (vs:=[_, _, _, _]) (ql rfl) rfl rfl rfl rfl ⟨_, rfl⟩) rfl ?_; refine z7 (zw L (vs:=[_, _, _, _, _, _, _]) (yk rfl) rfl rfl rfl rfl ⟨_, rfl⟩) rfl ?_; refine z7 (zo L rfl rfl (zk rfl) rfl rfl rfl (fun u H hH hle _ => zoh hh hH (hs.le hle))) rfl ?_; refine Z52 ?_; refine Z154 ?_; refine Z228 ?_; refine Z186 ?_
    refine yb L (rs:=[.tmp 4, .tmp 5]) rfl (fun _ _ h => h) Since.refl fun u H hH hle => ?_
    rfl
   ·refine zh ?_; refine Z37 ?_; refine Z219 ?_; refine Z192 ?_; refine z7 (qu L _ rfl rfl rfl rfl rfl rfl rfl (by first | omega | decide) (by assumption)) rfl ?_; refine z7 (yg L (vs:=[_, _, _, _, _, _, _]) rfl rfl rfl rfl rfl ⟨_, rfl⟩) rfl ?_; refine Z260 ?_; refine Z18 ?_; refine Z159 ?_; refine Z44 ?_; refine z7 (zw L (vs:=[_, _, _, _]) (ql rfl) rfl rfl rfl rfl ⟨_, rfl⟩) rfl ?_; refine z7 (zw L (vs:=[_, _, _, _, _, _, _]) (yk rfl) rfl rfl rfl rfl ⟨_, rfl⟩) rfl ?_; refine z7 (zo L rfl rfl (zk rfl) rfl rfl rfl (fun u H hH hle _ => zoh hh hH (hs.le hle))) rfl ?_; refine Z52 ?_; refine Z221 ?_; refine Z60 ?_; refine Z320 ?_
    exact yi (x:=i) (i + 1) ⟨hlt, fun j c' hj hc' => by
     rcases Nat.lt_or_ge j i with h | h
     ·exact hok j c' h hc'
     ·have:j = i:=by omega
      subst this; rw [hc0] at hc'; cases hc'; exact hh⟩ (by omega) ⟨rfl, rfl, rfl, rfl, rfl, trivial⟩
  ·rw [zlr h0 (fun j x hj => hok j x (by have:=get_lt hj; omega) hj)] at hr
   cases hr
   refine zh ?_; refine Z37 ?_; refine Z300 ?_; refine Z68 ?_; refine Z151 ?_; refine Z186 ?_
   refine yb L (rs:=[.tmp 4, .tmp 5]) rfl (fun _ _ h => h) Since.refl fun u H hH hle => ?_
   rfl
 ·have:zex s l = (0, cE 32 l):=if_neg h0
  rw [this] at hr
  cases hr
  refine Z329 ?_; refine Z155 ?_; refine Z4 ?_; refine z7 (zo L rfl rfl (zk rfl) rfl rfl rfl (fun u H hH _ _ v1 h1 => zgb hz hl rfl hH h1)) rfl ?_; refine Z250 ?_; refine Z222 ?_; refine Z173 ?_; refine Z186 ?_
  refine yb L (rs:=[.tmp 4, .tmp 5]) rfl (fun _ _ h => h) Since.refl fun u H hH hle => ?_
  rfl
end Go.V.L8
set_option maxRecDepth 20000
namespace Go.V.L8
open Go.Proofs Go.RowKit Go.V Go.V.L2 Go.V.L3 Go.V.L6
attribute [local irreducible] V N X VO Par StepOK Has Ret RetL RetO RetT Src
end Go.V.L8
set_option maxRecDepth 20000
namespace Go.V.L8
open Go.Proofs Go.RowKit Go.V Go.V.L2 Go.V.L3 Go.V.L6
theorem _root_.Go.V.Z94 {A B:Prop} (h:B) (t:Wr B → A:=by intro h; refine zf (id:=20) ?_; exact h.h):A:=t ⟨h⟩
theorem _root_.Go.V.Z107 {A B:Prop} (h:B) (t:Wr B → A:=by intro h; refine qn (zce L rfl rfl rfl (zh5 rfl) rfl zx4 rfl rfl (by omega) (by omega)) ?_; exact h.h):A:=t ⟨h⟩
theorem _root_.Go.V.Z119 {A B:Prop} (h:B) (t:Wr B → A:=by intro h; refine zf (id:=19) ?_; exact h.h):A:=t ⟨h⟩
theorem _root_.Go.V.Z137 {A B:Prop} (h:B) (t:Wr B → A:=by intro h; refine z8 (z0p rfl rfl rfl rfl bt4 rfl) rfl ?_; exact h.h):A:=t ⟨h⟩
theorem _root_.Go.V.Z298 {A B:Prop} (h:B) (t:Wr B → A:=by intro h; refine Z23 ?_; refine Z62 ?_; exact h.h):A:=t ⟨h⟩
theorem _root_.Go.V.Z299 {A B:Prop} (h:B) (t:Wr B → A:=by intro h; refine Z100 ?_; refine Z1 ?_; exact h.h):A:=t ⟨h⟩
theorem _root_.Go.V.Z309 {A B:Prop} (h:B) (t:Wr B → A:=by intro h; refine Z172 ?_; refine Z298 ?_; exact h.h):A:=t ⟨h⟩
theorem zzm {n:Nat} {l:List CH} (h:cE n l = 0):l.length ≤ n ∧ ∀ c ∈ l, tE c.1 = 0:=by
 unfold cE at h
 split at h
 ·exact absurd h (by decide)
 ·split at h
  ·exact absurd h (by decide)
  ·rename_i h1 h2
   refine ⟨by omega, fun c hc => ?_⟩
   by_cases h0:tE c.1 = 0
   ·exact h0
   ·exact absurd (List.any_eq_true.2 ⟨c, hc, by simp [h0]⟩) h2
theorem zk5 {s:ByteArray} (h:chk s = 0):s.size ≤ 1099511627776:=by
 unfold chk at h
 split at h
 ·rename_i h1; omega
 ·exact absurd h (by decide)
theorem zp9 {t:U} (h:tE t = 0):TZ t:=by
 unfold tE at h
 split at h
 ·rename_i h1
  obtain ⟨c1, c2, c3⟩:=zyj h1
  obtain ⟨d1, d2, d3⟩:=zrx h
  refine ⟨⟨zk5 c1, zk5 c2, zk5 c3⟩, zk5 d1, zk5 d2, ?_⟩
  rcases d3 with d3 | d3
  ·rw [d3]; exact Nat.zero_le _
  ·exact zk5 d3
 ·rename_i h1; exact absurd h h1
def WriteP (t:List U) (made:List CH) (e:Int) (r:Value) (H:Heap):Prop:=∃ tv mv, r = .tuple #[tv, mv, .int .i64 e] ∧ SetV t tv H ∧ KS tyC made true mv H
theorem WriteP.mono {t:List U} {made:List CH} {e:Int}:Kn.mono (.sat (WriteP t made e)):=fun _ _ _ ⟨tv, mv, h1, h2, h3⟩ hle => ⟨tv, mv, h1, h2.le hle, h3.le hle⟩
attribute [local irreducible] V N X VO Par StepOK Has Ret RetL RetO RetT Src
theorem zv2 {l:List CH} {fu:Bool} {v:Value} {w:World} {B:Heap} (hB:B.Le (hp w)) (hv:KS tyC l fu v B):Ret Tryz.prog 81 [v] w B (KS tyC l true):=by
 refine yc Tryz.func81 rfl Tryz.ntmps81 (Nat.le_of_ble_eq_true rfl) hB ?_
 refine zax 0 (KS tyC l fu) rfl SlV.mono hv ?_
 refine Z182 ?_; refine Z4 ?_; refine Z151 ?_; refine Z151 ?_; refine Z122 ?_; refine Z266 ?_
 refine yb L (rs:=[.tmp 2]) rfl (fun _ _ h => h) Since.refl fun u H hH hle => ?_
 exact fun v hv => hv
set_option maxHeartbeats 4000000 in
set_option maxRecDepth 10000 in
theorem ztd {s t:List U} {l cs made:List CH} {fl fc:Bool} {e:Int} (zl:∀ c ∈ l, TM c.1) (zc:∀ c ∈ cs, TM c.1) (ll:l.length ≤ 9223372036854775807) (lc:cs.length ≤ 9223372036854775807) (hsl:s.length ≤ 4096) (hr:zec s l cs = (t, made, e)) {sv lv cv:Value} {w:World} {B:Heap} (hB:B.Le (hp w))
  (hs:SetV s sv B) (hl:KS tyM l fl lv B) (hc:KS tyC cs fc cv B):Ret Tryz.prog 49 [sv, lv, cv] w B (WriteP t made e):=by
 obtain ⟨f1, p1, f2, q1, rfl, hpl⟩:=hs.shape
 refine yc Tryz.func49 rfl Tryz.ntmps49 (Nat.le_of_ble_eq_true rfl) hB ?_
 refine zax 1 (KS tyM l fl) rfl SlV.mono hl ?_
 refine zax 2 (KS tyC cs fc) rfl SlV.mono hc ?_
 unfold zec at hr
 by_cases h1:cE 32 l = 0
 ·rw [if_pos h1] at hr
  by_cases h2:cE 32 cs = 0
  ·rw [if_pos h2] at hr
   obtain ⟨r, e1, hf⟩:∃ r e1, zex s l = (r, e1):=⟨_, _, rfl⟩
   rw [hf] at hr
   dsimp only at hr
   by_cases h3:e1 = 0
   ·subst h3
    rw [if_pos rfl] at hr
    obtain ⟨l32, hval⟩:=zzm h2
    refine Z348 ?_; refine Z260 ?_; refine Z155 ?_; refine Z4 ?_; refine z7 (zo L rfl rfl (zk rfl) rfl rfl rfl (fun u H hH _ _ v1 g1 => zgb zl ll h1 hH g1)) rfl ?_; refine Z250 ?_; refine Z240 ?_; refine Z30 ?_; refine Z4 ?_; refine z7 (zo L rfl rfl (zk rfl) rfl rfl rfl (fun u H hH _ _ v1 g1 => zm5 zc lc h2 hH g1)) rfl ?_; refine Z144 ?_; refine Z179 ?_; refine Z240 ?_; refine Z44 ?_; refine z7 (zw L (vs:=[_, _, _, _]) (yk rfl) rfl rfl rfl rfl ⟨_, rfl⟩) rfl ?_; refine Z4 ?_; refine z7 (zo L rfl rfl (zk rfl) rfl rfl rfl (fun u H hH hle _ v1 g1 => first_ret zl ll hf hH (hs.le hle) g1)) rfl ?_; refine Z229 ?_; refine Z228 ?_; refine Z240 ?_; refine Z68 ?_; refine Z395 ?_
    refine z3t (X:=SXp) 3 (r:=fun x => zez (scs x.1) znf) (φ:=zwj s) (zdi s) ⟨(f1, p1, f2, q1), hpl⟩ hs rfl ?_
    refine zeb 7 tyC 7 rfl ?_
    refine zak (fun y:Nat × List U × List CH => [(3, .own (ExR (fun x:SXp => zez (scs x.1) znf) (zwj y.2.1) (zdi y.2.1))), (6, .own (zez [.nilFunc, .pointer none, .nilFunc, .pointer none] znf)), (7, .own (SlR tyC 7 y.2.2.length (y.2.2.flatMap ccs))), (40, .sat (KS tyC cs fc)), (41, .is (.int .i64 cs.length)), (42, .is (.int .i64 y.1))])
     (fun y => y.1 ≤ cs.length ∧ zfh y.2.1 y.2.2 (cs.drop y.1) = (t, made, e) ∧ y.2.1.length ≤ 4096 ∧ y.2.2.length ≤ y.1) (fun y => cs.length - y.1) (0, s, []) ⟨Nat.zero_le _, hr, hsl, Nat.le_refl _⟩ ⟨rfl, rfl, rfl, rfl, rfl, rfl, trivial⟩ ?_
    clear hr hs hsl
    rintro ⟨k, s, md⟩ ⟨hk, he, hsl, hmd⟩
    dsimp only at hk he hsl hmd ⊢
    refine zey 3 rfl fun ⟨⟨f1, p1, f2, q1⟩, hpl⟩ H3 hs3 hT => ?_
    have hT:SetV s (.agg #[f1, .pointer p1, f2, .pointer q1]) H3:=hT
    by_cases hlt:k < cs.length
    ·obtain ⟨c, hc0⟩:=zae hlt
     have hc:=zik hc0
     have hv:=hval c (List.mem_of_getElem? hc0)
     have hzt:=zp9 hv
     rw [zfe hc0, zfh] at he
     obtain ⟨x, d⟩:=c
     dsimp only at hc hv hzt he
     rcases hw:zcp s x d with ⟨s', e'⟩
     rw [hw] at he
     dsimp only at he
     have hsl':=znd hsl x d
     rw [hw] at hsl'
     obtain ⟨i, hin⟩:∃ i, decide (x ∈ s) = i:=⟨_, rfl⟩
     rw [hin] at he
     by_cases h0:e' = 0
     ·rw [if_pos h0] at he
      subst h0
      cases i <;> cases d
      ·rw [if_pos rfl] at he
       refine zh ?_; refine Z65 ?_; refine Z219 ?_; refine Z86 ?_; refine z7 (qu L _ rfl rfl rfl rfl rfl rfl rfl (by first | omega | decide) (by assumption)) rfl ?_; refine z7 (yg L (vs:=[_, _, _, _, _, _, _]) rfl rfl rfl rfl rfl ⟨_, rfl⟩) rfl ?_; refine Z199 ?_; refine Z159 ?_
       refine zkz 14 rfl fun b14 hb14 => ?_
       refine Z123 ?_; refine z8 (zw L (vs:=[_, _, _, _]) (yk rfl) rfl rfl rfl rfl ⟨_, rfl⟩) rfl ?_; refine Z27 ?_; refine z8 (zw L (vs:=[_, _, _, _, _, _]) (zaz rfl (List.Mem.head _)) rfl rfl rfl rfl ⟨_, rfl⟩) rfl ?_; refine z8 (zo L rfl rfl (zk rfl) rfl rfl rfl (fun u H hH hle _ => zcu hin hH (hT.le hle))) rfl ?_; refine Z27 ?_; refine z8 (qd L (zaz rfl (List.Mem.head _)) rfl rfl rfl rfl) rfl ?_; refine Z137 ?_; refine Z249 ?_; refine Z72 ?_; refine z7 (zw L (vs:=[_, _, _, _]) (yk rfl) rfl rfl rfl rfl ⟨_, rfl⟩) rfl ?_; refine z7 (zw L (vs:=[_, _, _, _, _, _, _]) (zaz rfl (List.Mem.head _)) rfl rfl rfl rfl ⟨_, rfl⟩) rfl ?_; refine z7 (yq (φ:=WithP s' 0) L rfl rfl (zk rfl) rfl rfl rfl WithP.mono (fun u H hH hle _ => znb hw hsl hzt hH (hT.le hle))) rfl ?_; refine zbl 56 rfl ?_; rintro _ H19 hs19 ⟨tv, rfl, hT19⟩; obtain ⟨g1, r1, g2, r2, rfl, hpl2⟩:=hT19.shape; refine Z309 ?_; refine Z148 ?_; refine Z96 ?_; refine Z1 ?_; refine Z234 ?_; refine Z108 ?_; refine z7 (zw L (vs:=[_, _, _, _]) (yk rfl) rfl rfl rfl rfl ⟨_, rfl⟩) rfl ?_; refine Z62 ?_; refine Z159 ?_; refine Z299 ?_; refine Z145 ?_; refine Z119 ?_; refine qn (yo (.inl rfl) rfl rfl rfl rfl) ?_; refine z7 (zw L (vs:=[_, _, _, _, _, _, _]) (zaz rfl (List.Mem.head _)) rfl rfl rfl rfl ⟨_, rfl⟩) rfl ?_; refine Z35 ?_; refine Z107 ?_; refine qn (yo (.inr rfl) rfl rfl rfl rfl) ?_; refine Z237 ?_
       refine zrq (O':=[]) (List.nil_sublist _) ?_
       refine Z94 ?_; refine Z320 ?_
       refine zrr (X:=SXp) 3 (r:=fun x => zez (scs x.1) znf) (φ:=zwj s') (zdi _) ⟨(g1, r1, g2, r2), hpl2⟩ hT19 rfl ?_
       exact zhh (x:=(k, s, md)) (k + 1, s', md ++ [(x, false)]) (hs3.trans hs19) ⟨hlt, he, hsl', by dsimp only; rw [List.length_append]; show md.length + 1 ≤ k + 1; omega⟩ (by dsimp only; omega) ⟨rfl, rfl, zgu rfl, rfl, rfl, rfl, trivial⟩
      ·rw [if_neg (by decide)] at he
       refine zh ?_; refine Z65 ?_; refine Z219 ?_; refine Z86 ?_; refine z7 (qu L _ rfl rfl rfl rfl rfl rfl rfl (by first | omega | decide) (by assumption)) rfl ?_; refine z7 (yg L (vs:=[_, _, _, _, _, _, _]) rfl rfl rfl rfl rfl ⟨_, rfl⟩) rfl ?_; refine Z199 ?_; refine Z159 ?_
       refine zkz 14 rfl fun b14 hb14 => ?_
       refine Z123 ?_; refine z8 (zw L (vs:=[_, _, _, _]) (yk rfl) rfl rfl rfl rfl ⟨_, rfl⟩) rfl ?_; refine Z27 ?_; refine z8 (zw L (vs:=[_, _, _, _, _, _]) (zaz rfl (List.Mem.head _)) rfl rfl rfl rfl ⟨_, rfl⟩) rfl ?_; refine z8 (zo L rfl rfl (zk rfl) rfl rfl rfl (fun u H hH hle _ => zcu hin hH (hT.le hle))) rfl ?_; refine Z27 ?_; refine z8 (qd L (zaz rfl (List.Mem.head _)) rfl rfl rfl rfl) rfl ?_; refine Z137 ?_; refine Z249 ?_; refine Z72 ?_; refine z7 (zw L (vs:=[_, _, _, _]) (yk rfl) rfl rfl rfl rfl ⟨_, rfl⟩) rfl ?_; refine z7 (zw L (vs:=[_, _, _, _, _, _, _]) (zaz rfl (List.Mem.head _)) rfl rfl rfl rfl ⟨_, rfl⟩) rfl ?_; refine z7 (yq (φ:=WithP s' 0) L rfl rfl (zk rfl) rfl rfl rfl WithP.mono (fun u H hH hle _ => znb hw hsl hzt hH (hT.le hle))) rfl ?_; refine zbl 56 rfl ?_; rintro _ H19 hs19 ⟨tv, rfl, hT19⟩; obtain ⟨g1, r1, g2, r2, rfl, hpl2⟩:=hT19.shape; refine Z309 ?_; refine Z148 ?_; refine Z96 ?_; refine Z1 ?_; refine Z234 ?_; refine Z108 ?_; refine z7 (zw L (vs:=[_, _, _, _]) (yk rfl) rfl rfl rfl rfl ⟨_, rfl⟩) rfl ?_; refine Z62 ?_; refine Z159 ?_; refine Z299 ?_; refine Z221 ?_
       refine zrq (O':=[]) (List.nil_sublist _) ?_
       refine Z94 ?_; refine Z320 ?_
       refine zrr (X:=SXp) 3 (r:=fun x => zez (scs x.1) znf) (φ:=zwj s') (zdi _) ⟨(g1, r1, g2, r2), hpl2⟩ hT19 rfl ?_
       exact zhh (x:=(k, s, md)) (k + 1, s', md) (hs3.trans hs19) ⟨hlt, he, hsl', by dsimp only; omega⟩ (by dsimp only; omega) ⟨rfl, rfl, rfl, rfl, rfl, rfl, trivial⟩
      ·rw [if_neg (by decide)] at he
       refine zh ?_; refine Z65 ?_; refine Z219 ?_; refine Z86 ?_; refine z7 (qu L _ rfl rfl rfl rfl rfl rfl rfl (by first | omega | decide) (by assumption)) rfl ?_; refine z7 (yg L (vs:=[_, _, _, _, _, _, _]) rfl rfl rfl rfl rfl ⟨_, rfl⟩) rfl ?_; refine Z199 ?_; refine Z159 ?_
       refine zkz 14 rfl fun b14 hb14 => ?_
       refine Z123 ?_; refine z8 (zw L (vs:=[_, _, _, _]) (yk rfl) rfl rfl rfl rfl ⟨_, rfl⟩) rfl ?_; refine Z27 ?_; refine z8 (zw L (vs:=[_, _, _, _, _, _]) (zaz rfl (List.Mem.head _)) rfl rfl rfl rfl ⟨_, rfl⟩) rfl ?_; refine z8 (zo L rfl rfl (zk rfl) rfl rfl rfl (fun u H hH hle _ => zcu hin hH (hT.le hle))) rfl ?_; refine Z27 ?_; refine z8 (qd L (zaz rfl (List.Mem.head _)) rfl rfl rfl rfl) rfl ?_; refine Z137 ?_; refine Z249 ?_; refine Z72 ?_; refine z7 (zw L (vs:=[_, _, _, _]) (yk rfl) rfl rfl rfl rfl ⟨_, rfl⟩) rfl ?_; refine z7 (zw L (vs:=[_, _, _, _, _, _, _]) (zaz rfl (List.Mem.head _)) rfl rfl rfl rfl ⟨_, rfl⟩) rfl ?_; refine z7 (yq (φ:=WithP s' 0) L rfl rfl (zk rfl) rfl rfl rfl WithP.mono (fun u H hH hle _ => znb hw hsl hzt hH (hT.le hle))) rfl ?_; refine zbl 56 rfl ?_; rintro _ H19 hs19 ⟨tv, rfl, hT19⟩; obtain ⟨g1, r1, g2, r2, rfl, hpl2⟩:=hT19.shape; refine Z309 ?_; refine Z148 ?_; refine Z96 ?_; refine Z1 ?_; refine Z234 ?_; refine Z108 ?_; refine z7 (zw L (vs:=[_, _, _, _]) (yk rfl) rfl rfl rfl rfl ⟨_, rfl⟩) rfl ?_; refine Z62 ?_; refine Z159 ?_; refine Z299 ?_; refine Z221 ?_
       refine zrq (O':=[]) (List.nil_sublist _) ?_
       refine Z94 ?_; refine Z320 ?_
       refine zrr (X:=SXp) 3 (r:=fun x => zez (scs x.1) znf) (φ:=zwj s') (zdi _) ⟨(g1, r1, g2, r2), hpl2⟩ hT19 rfl ?_
       exact zhh (x:=(k, s, md)) (k + 1, s', md) (hs3.trans hs19) ⟨hlt, he, hsl', by dsimp only; omega⟩ (by dsimp only; omega) ⟨rfl, rfl, rfl, rfl, rfl, rfl, trivial⟩
      ·rw [if_pos rfl] at he
       refine zh ?_; refine Z65 ?_; refine Z219 ?_; refine Z86 ?_; refine z7 (qu L _ rfl rfl rfl rfl rfl rfl rfl (by first | omega | decide) (by assumption)) rfl ?_; refine z7 (yg L (vs:=[_, _, _, _, _, _, _]) rfl rfl rfl rfl rfl ⟨_, rfl⟩) rfl ?_; refine Z199 ?_; refine Z159 ?_
       refine zkz 14 rfl fun b14 hb14 => ?_
       refine Z123 ?_; refine z8 (zw L (vs:=[_, _, _, _]) (yk rfl) rfl rfl rfl rfl ⟨_, rfl⟩) rfl ?_; refine Z27 ?_; refine z8 (zw L (vs:=[_, _, _, _, _, _]) (zaz rfl (List.Mem.head _)) rfl rfl rfl rfl ⟨_, rfl⟩) rfl ?_; refine z8 (zo L rfl rfl (zk rfl) rfl rfl rfl (fun u H hH hle _ => zcu hin hH (hT.le hle))) rfl ?_; refine Z27 ?_; refine z8 (qd L (zaz rfl (List.Mem.head _)) rfl rfl rfl rfl) rfl ?_; refine Z137 ?_; refine Z249 ?_; refine Z72 ?_; refine z7 (zw L (vs:=[_, _, _, _]) (yk rfl) rfl rfl rfl rfl ⟨_, rfl⟩) rfl ?_; refine z7 (zw L (vs:=[_, _, _, _, _, _, _]) (zaz rfl (List.Mem.head _)) rfl rfl rfl rfl ⟨_, rfl⟩) rfl ?_; refine z7 (yq (φ:=WithP s' 0) L rfl rfl (zk rfl) rfl rfl rfl WithP.mono (fun u H hH hle _ => znb hw hsl hzt hH (hT.le hle))) rfl ?_; refine zbl 56 rfl ?_; rintro _ H19 hs19 ⟨tv, rfl, hT19⟩; obtain ⟨g1, r1, g2, r2, rfl, hpl2⟩:=hT19.shape; refine Z309 ?_; refine Z148 ?_; refine Z96 ?_; refine Z1 ?_; refine Z234 ?_; refine Z108 ?_; refine z7 (zw L (vs:=[_, _, _, _]) (yk rfl) rfl rfl rfl rfl ⟨_, rfl⟩) rfl ?_; refine Z62 ?_; refine Z159 ?_; refine Z299 ?_; refine Z145 ?_; refine Z119 ?_; refine qn (yo (.inl rfl) rfl rfl rfl rfl) ?_; refine z7 (zw L (vs:=[_, _, _, _, _, _, _]) (zaz rfl (List.Mem.head _)) rfl rfl rfl rfl ⟨_, rfl⟩) rfl ?_; refine Z35 ?_; refine Z107 ?_; refine qn (yo (.inr rfl) rfl rfl rfl rfl) ?_; refine Z237 ?_
       refine zrq (O':=[]) (List.nil_sublist _) ?_
       refine Z94 ?_; refine Z320 ?_
       refine zrr (X:=SXp) 3 (r:=fun x => zez (scs x.1) znf) (φ:=zwj s') (zdi _) ⟨(g1, r1, g2, r2), hpl2⟩ hT19 rfl ?_
       exact zhh (x:=(k, s, md)) (k + 1, s', md ++ [(x, true)]) (hs3.trans hs19) ⟨hlt, he, hsl', by dsimp only; rw [List.length_append]; show md.length + 1 ≤ k + 1; omega⟩ (by dsimp only; omega) ⟨rfl, rfl, zgu rfl, rfl, rfl, rfl, trivial⟩
     ·rw [if_neg h0] at he
      cases he
      refine zh ?_; refine Z65 ?_; refine Z219 ?_; refine Z86 ?_; refine z7 (qu L _ rfl rfl rfl rfl rfl rfl rfl (by first | omega | decide) (by assumption)) rfl ?_; refine z7 (yg L (vs:=[_, _, _, _, _, _, _]) rfl rfl rfl rfl rfl ⟨_, rfl⟩) rfl ?_; refine Z199 ?_; refine Z159 ?_
      refine zkz 14 rfl fun b14 hb14 => ?_
      refine Z123 ?_; refine z8 (zw L (vs:=[_, _, _, _]) (yk rfl) rfl rfl rfl rfl ⟨_, rfl⟩) rfl ?_; refine Z27 ?_; refine z8 (zw L (vs:=[_, _, _, _, _, _]) (zaz rfl (List.Mem.head _)) rfl rfl rfl rfl ⟨_, rfl⟩) rfl ?_; refine z8 (zo L rfl rfl (zk rfl) rfl rfl rfl (fun u H hH hle _ => zcu hin hH (hT.le hle))) rfl ?_; refine Z27 ?_; refine z8 (qd L (zaz rfl (List.Mem.head _)) rfl rfl rfl rfl) rfl ?_; refine Z137 ?_; refine Z249 ?_; refine Z72 ?_; refine z7 (zw L (vs:=[_, _, _, _]) (yk rfl) rfl rfl rfl rfl ⟨_, rfl⟩) rfl ?_; refine z7 (zw L (vs:=[_, _, _, _, _, _, _]) (zaz rfl (List.Mem.head _)) rfl rfl rfl rfl ⟨_, rfl⟩) rfl ?_; refine z7 (yq (φ:=WithP s' e) L rfl rfl (zk rfl) rfl rfl rfl WithP.mono (fun u H hH hle _ => znb hw hsl hzt hH (hT.le hle))) rfl ?_; refine zbl 56 rfl ?_; rintro _ H19 hs19 ⟨tv, rfl, hT19⟩; obtain ⟨g1, r1, g2, r2, rfl, hpl2⟩:=hT19.shape; refine Z309 ?_; refine Z148 ?_; refine Z96 ?_; refine Z1 ?_; refine Z222 ?_; refine Z102 ?_; refine z7 (yv (cs:=[_, _, _, _]) rfl rfl ztb rfl rfl) rfl ?_; refine Z1 ?_; refine Z18 ?_; refine Z186 ?_
      refine yb L (rs:=[.cell 6 45, .tmp 7, .tmp 8]) rfl (fun _ _ h => h) (hs3.trans hs19) fun u H hH hle => ?_
      exact ⟨_, yk rfl, rfl, _, _, rfl, SetV.nil, SlV.nil⟩
    ·obtain rfl:k = cs.length:=by omega
     rw [List.drop_length, zfh] at he
     cases he
     refine zh ?_; refine Z65 ?_; refine Z300 ?_
     refine zck 7 rfl ?_
     refine qf (id:=21) [] mixed (by kernel_rfl) ?_; refine z8 (zw L (vs:=[_, _, _, _]) (yk rfl) rfl rfl rfl rfl ⟨_, rfl⟩) rfl ?_; refine Z38 ?_; refine z8 (yq (φ:=KS tyC made true) L rfl rfl (zk rfl) rfl rfl rfl SlV.mono (fun u H hH _ _ v1 g1 => zv2 hH g1)) rfl ?_; refine z8 (y8 L rfl rfl rfl rfl rfl rfl (by assumption) rfl) rfl ?_; refine Z91 ?_; refine Z185 ?_
     refine yb L (rs:=[.cell 6 45, .tmp 7, .tmp 8]) rfl (fun _ _ h => h) hs3 fun u H hH hle => ?_
     exact ⟨_, yk rfl, rfl, fun mv hmv => ⟨_, mv, rfl, hT.le hle, hmv⟩⟩
   ·rw [if_neg h3] at hr
    cases hr
    refine Z348 ?_; refine Z260 ?_; refine Z155 ?_; refine Z4 ?_; refine z7 (zo L rfl rfl (zk rfl) rfl rfl rfl (fun u H hH _ _ v1 g1 => zgb zl ll h1 hH g1)) rfl ?_; refine Z250 ?_; refine Z240 ?_; refine Z30 ?_; refine Z4 ?_; refine z7 (zo L rfl rfl (zk rfl) rfl rfl rfl (fun u H hH _ _ v1 g1 => zm5 zc lc h2 hH g1)) rfl ?_; refine Z144 ?_; refine Z179 ?_; refine Z240 ?_; refine Z44 ?_; refine z7 (zw L (vs:=[_, _, _, _]) (yk rfl) rfl rfl rfl rfl ⟨_, rfl⟩) rfl ?_; refine Z4 ?_; refine z7 (zo L rfl rfl (zk rfl) rfl rfl rfl (fun u H hH hle _ v1 g1 => first_ret zl ll hf hH (hs.le hle) g1)) rfl ?_; refine Z229 ?_; refine Z228 ?_; refine Z222 ?_; refine Z60 ?_; refine z7 (yv (cs:=[_, _, _, _]) rfl rfl ztb rfl rfl) rfl ?_; refine Z1 ?_; refine Z18 ?_; refine Z186 ?_
    refine yb L (rs:=[.cell 6 45, .tmp 7, .tmp 8]) rfl (fun _ _ h => h) Since.refl fun u H hH hle => ?_
    exact ⟨_, yk rfl, rfl, _, _, rfl, SetV.nil, SlV.nil⟩
  ·rw [if_neg h2] at hr
   cases hr
   refine Z348 ?_; refine Z260 ?_; refine Z155 ?_; refine Z4 ?_; refine z7 (zo L rfl rfl (zk rfl) rfl rfl rfl (fun u H hH _ _ v1 g1 => zgb zl ll h1 hH g1)) rfl ?_; refine Z250 ?_; refine Z240 ?_; refine Z30 ?_; refine Z4 ?_; refine z7 (zo L rfl rfl (zk rfl) rfl rfl rfl (fun u H hH _ _ v1 g1 => zm5 zc lc rfl hH g1)) rfl ?_; refine Z144 ?_; refine Z179 ?_; refine Z222 ?_; refine Z43 ?_; refine z7 (yv (cs:=[_, _, _, _]) rfl rfl ztb rfl rfl) rfl ?_; refine Z1 ?_; refine Z18 ?_; refine Z186 ?_
   refine yb L (rs:=[.cell 6 45, .tmp 7, .tmp 8]) rfl (fun _ _ h => h) Since.refl fun u H hH hle => ?_
   exact ⟨_, yk rfl, rfl, _, _, rfl, SetV.nil, SlV.nil⟩
 ·rw [if_neg h1] at hr
  cases hr
  refine Z348 ?_; refine Z260 ?_; refine Z155 ?_; refine Z4 ?_; refine z7 (zo L rfl rfl (zk rfl) rfl rfl rfl (fun u H hH _ _ v1 g1 => zgb zl ll rfl hH g1)) rfl ?_; refine Z250 ?_; refine Z222 ?_; refine Z28 ?_; refine z7 (yv (cs:=[_, _, _, _]) rfl rfl ztb rfl rfl) rfl ?_; refine Z1 ?_; refine Z18 ?_; refine Z186 ?_
  refine yb L (rs:=[.cell 6 45, .tmp 7, .tmp 8]) rfl (fun _ _ h => h) Since.refl fun u H hH hle => ?_
  exact ⟨_, yk rfl, rfl, _, _, rfl, SetV.nil, SlV.nil⟩
end Go.V.L8
set_option maxRecDepth 20000
namespace Go.V.L8
open Go.Proofs Go.RowKit Go.V Go.V.L2 Go.V.L3 Go.V.L6
theorem zvr (s:List U) (x:U):(1 - (if x ∈ s then 1 else 0:Int)) = if zfa s (x, true) = true then 1 else 0:=by
 unfold zfa
 by_cases h:x ∈ s <;> simp [h]
theorem zsv (s:List U) (x:U):(if x ∈ s then 1 else 0:Int) = if zfa s (x, false) = true then 1 else 0:=by
 unfold zfa
 by_cases h:x ∈ s <;> simp [h]
attribute [local irreducible] V N X VO Par StepOK Has Ret RetL RetO RetT Src
theorem ze5 {l:List CH} {fu:Bool} (hz:∀ c ∈ l, TM c.1) (hl:l.length ≤ 9223372036854775807) {e:Int} (he:cE 32 l = e) {v:Value} {w:World} {B:Heap} (hB:B.Le (hp w)) (hv:KS tyM l fu v B) :
  Ret Tryz.prog 124 [v] w B (fun r _ => r = .int .i64 e):=by
 subst he
 refine yc Tryz.func124 rfl Tryz.ntmps124 (Nat.le_of_ble_eq_true rfl) hB ?_
 refine zax 0 (KS tyM l fu) rfl SlV.mono hv ?_
 by_cases h32:32 < l.length
 ·have:cE 32 l = 3:=if_pos h32
  rw [this]
  refine Z313 ?_; refine Z40 ?_; refine Z263 ?_
  refine yb L (rs:=[.tmp 2]) rfl (fun _ _ h => h) Since.refl fun u H hH hle => ?_
  rfl
 ·refine Z313 ?_; refine Z32 ?_; refine Z168 ?_; refine Z28 ?_; refine Z203 ?_
  refine zak (fun i:Nat => [(0, .sat (KS tyM l fu)), (3, .is (.int .i64 i))]) (fun i => i ≤ l.length ∧ ∀ (j:Nat) c, j < i → l[j]? = some c → tE c.1 = 0) (fun i => l.length - i) 0 ⟨Nat.zero_le _, fun j c h => absurd h (Nat.not_lt_zero _)⟩ ⟨rfl, rfl, trivial⟩ ?_
  rintro i ⟨hi, hok⟩
  by_cases hlt:i < l.length
  ·obtain ⟨c, hc0⟩:=zae hlt
   have hc:=zik hc0
   have hzc:=hz c (List.mem_of_getElem? hc0)
   by_cases h0:tE c.1 = 0
   ·refine Z279 ?_; refine Z43 ?_; refine Z194 ?_; refine z7 (qu L _ rfl rfl rfl rfl rfl rfl rfl (by first | omega | decide) (by assumption)) rfl ?_; refine Z78 ?_; refine z7 (yg L (vs:=[_, _, _, _, _, _]) rfl rfl rfl rfl rfl ⟨_, rfl⟩) rfl ?_; refine z7 (zo L rfl rfl (zk rfl) rfl rfl rfl (fun u H hH _ _ => h0 ▸ zit hzc hH)) rfl ?_; refine Z21 ?_; refine Z221 ?_; refine Z304 ?_
    exact yi (x:=i) (i + 1) ⟨hlt, fun j c' hj hc' => by
     rcases Nat.lt_or_ge j i with h | h
     ·exact hok j c' h hc'
     ·have:j = i:=by omega
      subst this; rw [hc0] at hc'; cases hc'; exact h0⟩ (by omega) ⟨rfl, rfl, trivial⟩
   ·have h6:=(zqb c.1).resolve_left h0
    rw [z1b h32 hc0 h0]
    refine Z279 ?_; refine Z43 ?_; refine Z194 ?_; refine z7 (qu L _ rfl rfl rfl rfl rfl rfl rfl (by first | omega | decide) (by assumption)) rfl ?_; refine Z78 ?_; refine z7 (yg L (vs:=[_, _, _, _, _, _]) rfl rfl rfl rfl rfl ⟨_, rfl⟩) rfl ?_; refine z7 (zo L rfl rfl (zk rfl) rfl rfl rfl (fun u H hH _ _ => h6 ▸ zit hzc hH)) rfl ?_; refine Z222 ?_; refine Z375 ?_
    refine yb L (rs:=[.tmp 2]) rfl (fun _ _ h => h) Since.refl fun u H hH hle => ?_
    rfl
  ·rw [zv8 h32 (fun j c hj => hok j c (by have:=get_lt hj; omega) hj)]
   refine Z216 ?_; refine Z294 ?_; refine Z376 ?_
   refine yb L (rs:=[.tmp 2]) rfl (fun _ _ h => h) Since.refl fun u H hH hle => ?_
   rfl
theorem zmg {l:List CH} {fu:Bool} (hz:∀ c ∈ l, TM c.1) (hl:l.length ≤ 9223372036854775807) {e:Int} (he:cE 32 l = e) {v:Value} {w:World} {B:Heap} (hB:B.Le (hp w)) (hv:KS tyC l fu v B) :
  Ret Tryz.prog 125 [v] w B (fun r _ => r = .int .i64 e):=by
 subst he
 refine yc Tryz.func125 rfl Tryz.ntmps125 (Nat.le_of_ble_eq_true rfl) hB ?_
 refine zax 0 (KS tyC l fu) rfl SlV.mono hv ?_
 by_cases h32:32 < l.length
 ·have:cE 32 l = 3:=if_pos h32
  rw [this]
  refine Z313 ?_; refine Z40 ?_; refine Z263 ?_
  refine yb L (rs:=[.tmp 2]) rfl (fun _ _ h => h) Since.refl fun u H hH hle => ?_
  rfl
 ·refine Z313 ?_; refine Z32 ?_; refine Z168 ?_; refine Z28 ?_; refine Z203 ?_
  refine zak (fun i:Nat => [(0, .sat (KS tyC l fu)), (3, .is (.int .i64 i))]) (fun i => i ≤ l.length ∧ ∀ (j:Nat) c, j < i → l[j]? = some c → tE c.1 = 0) (fun i => l.length - i) 0 ⟨Nat.zero_le _, fun j c h => absurd h (Nat.not_lt_zero _)⟩ ⟨rfl, rfl, trivial⟩ ?_
  rintro i ⟨hi, hok⟩
  by_cases hlt:i < l.length
  ·obtain ⟨c, hc0⟩:=zae hlt
   have hc:=zik hc0
   have hzc:=hz c (List.mem_of_getElem? hc0)
   by_cases h0:tE c.1 = 0
   ·refine Z279 ?_; refine Z43 ?_; refine Z194 ?_; refine z7 (qu L _ rfl rfl rfl rfl rfl rfl rfl (by first | omega | decide) (by assumption)) rfl ?_; refine Z78 ?_; refine z7 (yg L (vs:=[_, _, _, _, _, _]) rfl rfl rfl rfl rfl ⟨_, rfl⟩) rfl ?_; refine z7 (zo L rfl rfl (zk rfl) rfl rfl rfl (fun u H hH _ _ => h0 ▸ zit hzc hH)) rfl ?_; refine Z21 ?_; refine Z221 ?_; refine Z304 ?_
    exact yi (x:=i) (i + 1) ⟨hlt, fun j c' hj hc' => by
     rcases Nat.lt_or_ge j i with h | h
     ·exact hok j c' h hc'
     ·have:j = i:=by omega
      subst this; rw [hc0] at hc'; cases hc'; exact h0⟩ (by omega) ⟨rfl, rfl, trivial⟩
   ·have h6:=(zqb c.1).resolve_left h0
    rw [z1b h32 hc0 h0]
    refine Z279 ?_; refine Z43 ?_; refine Z194 ?_; refine z7 (qu L _ rfl rfl rfl rfl rfl rfl rfl (by first | omega | decide) (by assumption)) rfl ?_; refine Z78 ?_; refine z7 (yg L (vs:=[_, _, _, _, _, _]) rfl rfl rfl rfl rfl ⟨_, rfl⟩) rfl ?_; refine z7 (zo L rfl rfl (zk rfl) rfl rfl rfl (fun u H hH _ _ => h6 ▸ zit hzc hH)) rfl ?_; refine Z222 ?_; refine Z375 ?_
    refine yb L (rs:=[.tmp 2]) rfl (fun _ _ h => h) Since.refl fun u H hH hle => ?_
    rfl
  ·rw [zv8 h32 (fun j c hj => hok j c (by have:=get_lt hj; omega) hj)]
   refine Z216 ?_; refine Z294 ?_; refine Z376 ?_
   refine yb L (rs:=[.tmp 2]) rfl (fun _ _ h => h) Since.refl fun u H hH hle => ?_
   rfl
theorem zle {s:List U} {c:CH} {fs:Bool} (ls:s.length ≤ 90000) {b:Int} (hb:(if zfa s c = true then 1 else 0) = b) {v:Value} {w:World} {B:Heap} (hB:B.Le (hp w)) (hv:US s fs v B) :
  Ret Tryz.prog 158 [v, chv c.1 c.2] w B (fun r _ => r = .int .i64 b):=by
 subst hb
 obtain ⟨x, d⟩:=c
 refine yc Tryz.func158 rfl Tryz.ntmps158 (Nat.le_of_ble_eq_true rfl) hB ?_
 refine zax 0 (US s fs) rfl SlV.mono hv ?_
 obtain ⟨m, hm⟩:∃ m:Int, (if x ∈ s then 1 else 0:Int) = m:=⟨_, rfl⟩
 have hm2:m = 0 ∨ m = 1:=by rw [← hm]; split <;> simp
 cases d
 ·rw [← zsv, hm]
  refine Z344 ?_; refine Z181 ?_; refine Z162 ?_; refine Z28 ?_; refine Z4 ?_; refine Z19 ?_; refine z7 (zw L (vs:=[_, _, _, _, _, _]) (ql rfl) rfl rfl rfl rfl ⟨_, rfl⟩) rfl ?_; refine z7 (zo L rfl rfl (zk rfl) rfl rfl rfl (fun u H hH _ _ v1 h1 => zbm (by omega) hm hH h1)) rfl ?_; refine Z139 ?_
  refine yb L (rs:=[.tmp 4]) rfl (fun _ _ h => h) Since.refl fun u H hH hle => ?_
  rfl
 ·rw [← zvr, hm]
  refine Z344 ?_; refine Z181 ?_; refine Z208 ?_; refine Z4 ?_; refine Z19 ?_; refine z7 (zw L (vs:=[_, _, _, _, _, _]) (ql rfl) rfl rfl rfl rfl ⟨_, rfl⟩) rfl ?_; refine z7 (zo L rfl rfl (zk rfl) rfl rfl rfl (fun u H hH _ _ v1 h1 => zbm (by omega) hm hH h1)) rfl ?_; refine Z71 ?_; refine Z139 ?_
  refine yb L (rs:=[.tmp 4]) rfl (fun _ _ h => h) Since.refl fun u H hH hle => ?_
  rfl
set_option maxHeartbeats 1000000 in
theorem zjs {s:List U} {l:List CH} {fs fu:Bool} (ls:s.length ≤ 90000) (hz:∀ c ∈ l, TM c.1) (hl:l.length ≤ 9223372036854775807) {r:Nat} {e:Int} (hr:zex s l = (r, e)) {sv v:Value} {w:World} {B:Heap} (hB:B.Le (hp w)) (hs:US s fs sv B) (hv:KS tyM l fu v B) :
  Ret Tryz.prog 126 [sv, v] w B (fun x _ => x = .tuple #[.int .i64 r, .int .i64 e]):=by
 refine yc Tryz.func126 rfl Tryz.ntmps126 (Nat.le_of_ble_eq_true rfl) hB ?_
 refine zax 0 (US s fs) rfl SlV.mono hs ?_
 refine zax 1 (KS tyM l fu) rfl SlV.mono hv ?_
 by_cases h0:cE 32 l = 0
 ·refine Z251 ?_; refine Z155 ?_; refine Z4 ?_; refine z7 (zo L rfl rfl (zk rfl) rfl rfl rfl (fun u H hH _ _ v1 h1 => ze5 hz hl h0 hH h1)) rfl ?_; refine Z240 ?_; refine Z28 ?_; refine Z203 ?_
  refine zak (fun i:Nat => [(0, .sat (US s fs)), (1, .sat (KS tyM l fu)), (6, .is (.int .i64 i))]) (fun i => i ≤ l.length ∧ ∀ (j:Nat) x, j < i → l[j]? = some x → zfa s x = true) (fun i => l.length - i) 0 ⟨Nat.zero_le _, fun j c h => absurd h (Nat.not_lt_zero _)⟩ ⟨rfl, rfl, rfl, trivial⟩ ?_
  rintro i ⟨hi, hok⟩
  by_cases hlt:i < l.length
  ·obtain ⟨c, hc0⟩:=zae hlt
   have hc:=zik hc0
   cases hh:zfa s c
   ·rw [zok h0 hok hc0 hh] at hr
    cases hr
    refine Z279 ?_; refine Z43 ?_; refine Z399 ?_; refine z7 (qu L _ rfl rfl rfl rfl rfl rfl rfl (by first | omega | decide) (by assumption)) rfl ?_; refine z7 (yg L (vs:=[_, _, _, _, _, _, _]) rfl rfl rfl rfl rfl ⟨_, rfl⟩) rfl ?_; refine z7 (zo L rfl rfl (zk rfl) rfl rfl rfl (fun u H hH hle _ v1 h1 => zle (c:=c) (b:=0) ls (by rw [hh]; rfl) hH h1)) rfl ?_; refine Z305 ?_; refine Z196 ?_; refine Z186 ?_
    refine yb L (rs:=[.tmp 4, .tmp 5]) rfl (fun _ _ h => h) Since.refl fun u H hH hle => ?_
    rfl
   ·refine Z279 ?_; refine Z43 ?_; refine Z399 ?_; refine z7 (qu L _ rfl rfl rfl rfl rfl rfl rfl (by first | omega | decide) (by assumption)) rfl ?_; refine z7 (yg L (vs:=[_, _, _, _, _, _, _]) rfl rfl rfl rfl rfl ⟨_, rfl⟩) rfl ?_; refine z7 (zo L rfl rfl (zk rfl) rfl rfl rfl (fun u H hH hle _ v1 h1 => zle (c:=c) (b:=1) ls (by rw [hh]; rfl) hH h1)) rfl ?_; refine Z15 ?_; refine Z221 ?_; refine Z304 ?_
    exact yi (x:=i) (i + 1) ⟨hlt, fun j c' hj hc' => by
     rcases Nat.lt_or_ge j i with h | h
     ·exact hok j c' h hc'
     ·have:j = i:=by omega
      subst this; rw [hc0] at hc'; cases hc'; exact hh⟩ (by omega) ⟨rfl, rfl, rfl, trivial⟩
  ·rw [zlr h0 (fun j x hj => hok j x (by have:=get_lt hj; omega) hj)] at hr
   cases hr
   refine Z216 ?_; refine Z294 ?_; refine Z57 ?_; refine Z151 ?_; refine Z186 ?_
   refine yb L (rs:=[.tmp 4, .tmp 5]) rfl (fun _ _ h => h) Since.refl fun u H hH hle => ?_
   rfl
 ·have:zex s l = (0, cE 32 l):=if_neg h0
  rw [this] at hr
  cases hr
  refine Z251 ?_; refine Z155 ?_; refine Z4 ?_; refine z7 (zo L rfl rfl (zk rfl) rfl rfl rfl (fun u H hH _ _ v1 h1 => ze5 hz hl rfl hH h1)) rfl ?_; refine Z45 ?_; refine Z208 ?_; refine Z4 ?_; refine z7 (zo L rfl rfl (zk rfl) rfl rfl rfl (fun u H hH _ _ v1 h1 => ze5 hz hl rfl hH h1)) rfl ?_; refine Z186 ?_
  refine yb L (rs:=[.tmp 4, .tmp 5]) rfl (fun _ _ h => h) Since.refl fun u H hH hle => ?_
  rfl
end Go.V.L8
set_option maxRecDepth 20000
namespace Go.V.L8
open Go.Proofs Go.RowKit Go.V Go.V.L2 Go.V.L3 Go.V.L6
attribute [local irreducible] V N X VO Par StepOK Has Ret RetL RetO RetT Src
end Go.V.L8
set_option maxRecDepth 20000
namespace Go.V.L8
open Go.Proofs Go.RowKit Go.V Go.V.L2 Go.V.L3 Go.V.L6
theorem _root_.Go.V.Z267 {A B:Prop} (h:B) (t:Wr B → A:=by intro h; refine Z72 ?_; refine Z1 ?_; exact h.h):A:=t ⟨h⟩
theorem _root_.Go.V.Z358 {A B:Prop} (h:B) (t:Wr B → A:=by intro h; refine Z148 ?_; refine Z192 ?_; exact h.h):A:=t ⟨h⟩
theorem _root_.Go.V.Z384 {A B:Prop} (h:B) (t:Wr B → A:=by intro h; refine Z4 ?_; refine Z4 ?_; exact h.h):A:=t ⟨h⟩
def RWriteP (t:List U) (made:List CH) (e:Int) (r:Value) (H:Heap):Prop:=∃ tv mv, r = .tuple #[tv, mv, .int .i64 e] ∧ US t false tv H ∧ KS tyC made false mv H
theorem RWriteP.mono {t:List U} {made:List CH} {e:Int}:Kn.mono (.sat (RWriteP t made e)):=fun _ _ _ ⟨tv, mv, h1, h2, h3⟩ hle => ⟨tv, mv, h1, h2.le hle, h3.le hle⟩
attribute [local irreducible] V N X VO Par StepOK Has Ret RetL RetO RetT Src
set_option maxHeartbeats 4000000 in
set_option maxRecDepth 10000 in
theorem zo8 {s t:List U} {l cs made:List CH} {fs fl fc:Bool} {e:Int} (zl:∀ c ∈ l, TM c.1) (zc:∀ c ∈ cs, TM c.1) (ll:l.length ≤ 9223372036854775807) (lc:cs.length ≤ 9223372036854775807) (hsl:s.length ≤ 4096) (hss:Sst zbd s) (hsz:∀ t ∈ s, TZ t) (hr:zec s l cs = (t, made, e)) {sv lv cv:Value} {w:World} {B:Heap} (hB:B.Le (hp w))
  (hs:US s fs sv B) (hl:KS tyM l fl lv B) (hc:KS tyC cs fc cv B):Ret Tryz.prog 84 [sv, lv, cv] w B (RWriteP t made e):=by
 refine yc Tryz.func84 rfl Tryz.ntmps84 (Nat.le_of_ble_eq_true rfl) hB ?_
 refine zax 0 (US s false) rfl SlV.mono hs.nofu ?_
 refine zax 1 (KS tyM l fl) rfl SlV.mono hl ?_
 refine zax 2 (KS tyC cs fc) rfl SlV.mono hc ?_
 unfold zec at hr
 by_cases h1:cE 32 l = 0
 ·rw [if_pos h1] at hr
  by_cases h2:cE 32 cs = 0
  ·rw [if_pos h2] at hr
   obtain ⟨r, e1, hf⟩:∃ r e1, zex s l = (r, e1):=⟨_, _, rfl⟩
   rw [hf] at hr
   dsimp only at hr
   by_cases h3:e1 = 0
   ·subst h3
    rw [if_pos rfl] at hr
    obtain ⟨l32, hval⟩:=zzm h2
    refine Z251 ?_; refine Z2 ?_; refine Z160 ?_; refine Z4 ?_; refine z7 (zo L rfl rfl (zk rfl) rfl rfl rfl (fun u H hH _ _ v1 g1 => ze5 zl ll h1 hH g1)) rfl ?_; refine Z148 ?_; refine Z175 ?_; refine Z288 ?_; refine Z28 ?_; refine Z4 ?_; refine z7 (zo L rfl rfl (zk rfl) rfl rfl rfl (fun u H hH _ _ v1 g1 => zmg zc lc h2 hH g1)) rfl ?_; refine Z148 ?_; refine Z161 ?_; refine Z288 ?_; refine Z37 ?_; refine Z384 ?_; refine z7 (zo L rfl rfl (zk rfl) rfl rfl rfl (fun u H hH _ _ v1 g1 v2 g2 => zjs (by omega) zl ll hf hH g1 g2)) rfl ?_; refine Z172 ?_; refine Z358 ?_; refine Z234 ?_; refine Z57 ?_; refine Z148 ?_; refine Z60 ?_; refine Z203 ?_
    refine zeb 10 tyC 7 rfl ?_
    refine zak (fun y:Nat × List U × List CH => [(0, .sat (US y.2.1 false)), (2, .sat (KS tyC cs fc)), (10, .own (SlR tyC 7 y.2.2.length (y.2.2.flatMap ccs))), (11, .is (.int .i64 y.1))])
     (fun y => y.1 ≤ cs.length ∧ zfh y.2.1 y.2.2 (cs.drop y.1) = (t, made, e) ∧ y.2.1.length ≤ 4096 ∧ y.2.2.length ≤ y.1 ∧ Sst zbd y.2.1 ∧ ∀ t ∈ y.2.1, TZ t) (fun y => cs.length - y.1) (0, s, []) ⟨Nat.zero_le _, hr, hsl, Nat.le_refl _, hss, hsz⟩ ⟨rfl, rfl, rfl, rfl, trivial⟩ ?_
    clear hr hs hsl hss hsz
    rintro ⟨k, s, md⟩ ⟨hk, he, hsl, hmd, hss, hsz⟩
    dsimp only at hk he hsl hmd hss hsz ⊢
    by_cases hlt:k < cs.length
    ·obtain ⟨c, hc0⟩:=zae hlt
     have hc:=zik hc0
     have hv:=hval c (List.mem_of_getElem? hc0)
     have hzt:=zp9 hv
     rw [zfe hc0, zfh] at he
     obtain ⟨x, d⟩:=c
     dsimp only at hc hv hzt he
     have hdf:=zrt (l:=s) x d
     have hss':=znc hss x d
     have hsl':=znd hsl x d
     have hsz':∀ z ∈ (zcp s x d).1, TZ z:=fun z hz => by
      rcases zi7 hz with h | h
      ·exact hsz z h
      ·exact h ▸ hzt
     rcases hw:zcp s x d with ⟨s', e'⟩
     rw [hw] at he hdf hss' hsl' hsz'
     dsimp only at he hdf hss' hsl' hsz'
     have hmo:Kn.mono (.sat (US s' false)):=SlV.mono
     by_cases h0:e' = 0
     ·subst h0
      rw [if_pos rfl] at he
      have hdf:=hdf rfl
      by_cases hsame:s' = s
      ·rw [if_neg (hdf.1 hsame)] at he
       refine Z140 ?_; refine Z292 ?_; refine Z214 ?_; refine Z86 ?_; refine Z399 ?_; refine z7 (qu L _ rfl rfl rfl rfl rfl rfl rfl (by first | omega | decide) (by assumption)) rfl ?_; refine z7 (yg L (vs:=[_, _, _, _, _, _, _]) rfl rfl rfl rfl rfl ⟨_, rfl⟩) rfl ?_; refine z7 (yq (φ:=R6 s' 0) L rfl rfl (zk rfl) rfl rfl rfl (LE2.mono SlV.mono) (fun u H hH _ _ v1 g1 => zjn hw hss (by omega) hzt hsz hH g1)) rfl ?_; refine Z350 ?_; refine Z148 ?_; refine Z316 ?_; refine Z240 ?_; refine Z96 ?_; refine Z384 ?_; refine z7 (zo L rfl rfl (zk rfl) rfl rfl rfl (fun u H hH _ _ v1 g1 v2 g2 => zho (e:=1) (by omega) (by omega) (by rw [if_pos hsame]) hH g1 g2)) rfl ?_; refine Z15 ?_; refine Z142 ?_; refine Z143 ?_; refine Z400 ?_; refine Z51 ?_; refine Z237 ?_; refine Z272 ?_; refine Z197 ?_
       exact yi (x:=(k, s, md)) (k + 1, s', md) ⟨hlt, he, hsl', by dsimp only; omega, hss', hsz'⟩ (by dsimp only; omega) ⟨rfl, rfl, rfl, rfl, trivial⟩
      ·have hdd:decide (x ∈ s) = d:=by
        by_cases h:decide (x ∈ s) = d
        ·exact h
        ·exact absurd (hdf.2 h) hsame
       rw [if_pos hdd] at he
       refine Z140 ?_; refine Z292 ?_; refine Z214 ?_; refine Z86 ?_; refine Z399 ?_; refine z7 (qu L _ rfl rfl rfl rfl rfl rfl rfl (by first | omega | decide) (by assumption)) rfl ?_; refine z7 (yg L (vs:=[_, _, _, _, _, _, _]) rfl rfl rfl rfl rfl ⟨_, rfl⟩) rfl ?_; refine z7 (yq (φ:=R6 s' 0) L rfl rfl (zk rfl) rfl rfl rfl (LE2.mono SlV.mono) (fun u H hH _ _ v1 g1 => zjn hw hss (by omega) hzt hsz hH g1)) rfl ?_; refine Z350 ?_; refine Z148 ?_; refine Z316 ?_; refine Z240 ?_; refine Z96 ?_; refine Z384 ?_; refine z7 (zo L rfl rfl (zk rfl) rfl rfl rfl (fun u H hH _ _ v1 g1 v2 g2 => zho (e:=0) (by omega) (by omega) (by rw [if_neg hsame]) hH g1 g2)) rfl ?_; refine Z288 ?_; refine Z102 ?_; refine qn (yo (.inl rfl) rfl rfl rfl rfl) ?_; refine Z194 ?_; refine z7 (qu L _ rfl rfl rfl rfl rfl rfl rfl (by first | omega | decide) (by assumption)) rfl ?_; refine z7 (yg L (vs:=[_, _, _, _, _, _, _]) rfl rfl rfl rfl rfl ⟨_, rfl⟩) rfl ?_; refine Z35 ?_; refine Z107 ?_; refine qn (yo (.inr rfl) rfl rfl rfl rfl) ?_; refine Z138 ?_; refine Z400 ?_; refine Z51 ?_; refine Z237 ?_; refine Z272 ?_; refine Z197 ?_
       exact yi (x:=(k, s, md)) (k + 1, s', md ++ [(x, d)]) ⟨hlt, he, hsl', by dsimp only; rw [List.length_append]; show md.length + 1 ≤ k + 1; omega, hss', hsz'⟩ (by dsimp only; omega) ⟨rfl, rfl, zgu rfl, rfl, trivial⟩
     ·rw [if_neg h0] at he
      cases he
      refine Z140 ?_; refine Z292 ?_; refine Z214 ?_; refine Z86 ?_; refine Z399 ?_; refine z7 (qu L _ rfl rfl rfl rfl rfl rfl rfl (by first | omega | decide) (by assumption)) rfl ?_; refine z7 (yg L (vs:=[_, _, _, _, _, _, _]) rfl rfl rfl rfl rfl ⟨_, rfl⟩) rfl ?_; refine z7 (yq (φ:=R6 s' e) L rfl rfl (zk rfl) rfl rfl rfl (LE2.mono SlV.mono) (fun u H hH _ _ v1 g1 => zjn hw hss (by omega) hzt hsz hH g1)) rfl ?_; refine Z350 ?_; refine Z148 ?_; refine Z316 ?_; refine Z222 ?_; refine Z267 ?_; refine Z2 ?_; refine Z186 ?_
      refine yb L (rs:=[.tmp 6, .tmp 7, .tmp 8]) rfl (fun _ _ h => h) Since.refl fun u H hH hle => ?_
      exact ⟨_, _, rfl, SlV.nil, SlV.nil⟩
    ·obtain rfl:k = cs.length:=by omega
     rw [List.drop_length, zfh] at he
     cases he
     refine Z140 ?_; refine Z292 ?_; refine Z294 ?_
     refine zck 10 rfl ?_
     refine Z100 ?_; refine Z384 ?_; refine Z51 ?_; refine Z51 ?_; refine Z139 ?_
     refine yb L (rs:=[.tmp 6, .tmp 7, .tmp 8]) rfl (fun _ _ h => h) Since.refl fun u H hH hle => ?_
     exact fun tv htv mv hmv => ⟨tv, mv, rfl, htv, hmv⟩
   ·rw [if_neg h3] at hr
    cases hr
    refine Z251 ?_; refine Z2 ?_; refine Z160 ?_; refine Z4 ?_; refine z7 (zo L rfl rfl (zk rfl) rfl rfl rfl (fun u H hH _ _ v1 g1 => ze5 zl ll h1 hH g1)) rfl ?_; refine Z148 ?_; refine Z175 ?_; refine Z288 ?_; refine Z28 ?_; refine Z4 ?_; refine z7 (zo L rfl rfl (zk rfl) rfl rfl rfl (fun u H hH _ _ v1 g1 => zmg zc lc h2 hH g1)) rfl ?_; refine Z148 ?_; refine Z161 ?_; refine Z288 ?_; refine Z37 ?_; refine Z384 ?_; refine z7 (zo L rfl rfl (zk rfl) rfl rfl rfl (fun u H hH _ _ v1 g1 v2 g2 => zjs (by omega) zl ll hf hH g1 g2)) rfl ?_; refine Z172 ?_; refine Z358 ?_; refine Z222 ?_; refine Z196 ?_; refine Z2 ?_; refine Z186 ?_
    refine yb L (rs:=[.tmp 6, .tmp 7, .tmp 8]) rfl (fun _ _ h => h) Since.refl fun u H hH hle => ?_
    exact ⟨_, _, rfl, SlV.nil, SlV.nil⟩
  ·rw [if_neg h2] at hr
   cases hr
   refine Z251 ?_; refine Z2 ?_; refine Z160 ?_; refine Z4 ?_; refine z7 (zo L rfl rfl (zk rfl) rfl rfl rfl (fun u H hH _ _ v1 g1 => ze5 zl ll h1 hH g1)) rfl ?_; refine Z148 ?_; refine Z175 ?_; refine Z288 ?_; refine Z28 ?_; refine Z4 ?_; refine z7 (zo L rfl rfl (zk rfl) rfl rfl rfl (fun u H hH _ _ v1 g1 => zmg zc lc rfl hH g1)) rfl ?_; refine Z148 ?_; refine Z161 ?_; refine Z281 ?_; refine Z192 ?_; refine Z222 ?_; refine Z196 ?_; refine Z2 ?_; refine Z186 ?_
   refine yb L (rs:=[.tmp 6, .tmp 7, .tmp 8]) rfl (fun _ _ h => h) Since.refl fun u H hH hle => ?_
   exact ⟨_, _, rfl, SlV.nil, SlV.nil⟩
 ·rw [if_neg h1] at hr
  cases hr
  refine Z251 ?_; refine Z2 ?_; refine Z160 ?_; refine Z4 ?_; refine z7 (zo L rfl rfl (zk rfl) rfl rfl rfl (fun u H hH _ _ v1 g1 => ze5 zl ll rfl hH g1)) rfl ?_; refine Z148 ?_; refine Z175 ?_; refine Z281 ?_; refine Z161 ?_; refine Z281 ?_; refine Z192 ?_; refine Z222 ?_; refine Z196 ?_; refine Z2 ?_; refine Z186 ?_
  refine yb L (rs:=[.tmp 6, .tmp 7, .tmp 8]) rfl (fun _ _ h => h) Since.refl fun u H hH hle => ?_
  exact ⟨_, _, rfl, SlV.nil, SlV.nil⟩
end Go.V.L8
set_option maxRecDepth 20000
namespace Go.V.L8
open Go.Proofs Go.RowKit Go.V Go.V.L2 Go.V.L3 Go.V.L6
attribute [local irreducible] V N X VO Par StepOK Has Ret RetL RetO RetT Src
end Go.V.L8
set_option maxRecDepth 20000
namespace Go.V.L8
open Go.Proofs Go.RowKit Go.V Go.V.L2 Go.V.L3 Go.V.L6
theorem _root_.Go.V.Z273 {A B:Prop} (h:B) (t:Wr B → A:=by intro h; refine Z141 ?_; refine Z10 ?_; exact h.h):A:=t ⟨h⟩
theorem _root_.Go.V.Z330 {A B:Prop} (h:B) (t:Wr B → A:=by intro h; refine Z141 ?_; refine Z7 ?_; exact h.h):A:=t ⟨h⟩
def fC (c:C3):CH:=(zul c.1 c.2.1, drB c.2.2)
def dOf (cs:List C3):List CH:=(cs.take 30).map fC
theorem zh1 (cs:List C3):(dOf cs).length ≤ 30:=by unfold dOf; rw [List.length_map, List.length_take]; omega
attribute [local irreducible] V N X VO Par StepOK Has Ret RetL RetO RetT Src
set_option maxHeartbeats 1000000 in
theorem zki {cs:List C3} {fc:Bool} {M:List CH} (hM:dOf cs = M) (hcs:∀ c ∈ cs, c.1 ≤ 255 ∧ c.2.1 ≤ 255 ∧ c.2.2 ≤ 255) (lcs:cs.length ≤ 9223372036854775807)
  {cx:Value} {w:World} {B:Heap} (hB:B.Le (hp w)) (hc:PS3 cs fc cx B):Ret Tryz.prog 38 [.agg #[cx]] w B (KS tyC M false):=by
 refine yc Tryz.func38 rfl Tryz.ntmps38 (Nat.le_of_ble_eq_true rfl) hB ?_
 refine Z285 ?_; refine Z148 ?_; refine Z378 ?_
 refine zeb 3 tyC 7 rfl ?_
 refine zak (fun y:Nat × List CH => [(1, .sat (At [cx] 66 0)), (3, .own (SlR tyC 7 y.2.length (y.2.flatMap ccs))), (4, .is (.int .i64 y.1))])
  (fun y => y.1 ≤ (cs.take 30).length ∧ y.2 = (cs.take y.1).map fC) (fun y => (cs.take 30).length - y.1) (0, []) ⟨Nat.zero_le _, rfl⟩ ⟨rfl, rfl, rfl, trivial⟩ ?_
 rintro ⟨i, out⟩ ⟨hi, ho⟩
 dsimp only at hi ho ⊢
 have h30:(cs.take 30).length = min 30 cs.length:=List.length_take
 have hol:out.length = i:=by rw [ho, List.length_map, List.length_take]; omega
 have hfin:i = (cs.take 30).length → out = M:=fun e => by
  rw [← hM, ho, e, h30]
  unfold dOf
  congr 1
  exact (List.take_eq_take_min (l:=cs) (i:=30)).symm
 by_cases h1:i < cs.length
 ·by_cases h2:i < 30
  ·obtain ⟨⟨a, b, c⟩, hn⟩:=zae h1
   have hcc:=z18 hn
   obtain ⟨ka, kb, kc⟩:=hcs _ (List.mem_of_getElem? hn)
   dsimp only at ka kb kc
   have hnx:out ++ [(zul a b, drB c)] = (cs.take (i + 1)).map fC:=by rw [List.take_add_one, hn, List.map_append, ho]; rfl
   generalize hxx:zul a b = x at hnx
   generalize hdd:drB c = d at hnx
   refine Z258 ?_; refine Z181 ?_; refine zfj 7 (PS3 cs fc) rfl SlV.mono hc ?_; refine Z11 ?_; refine Z7 ?_; refine Z330 ?_; refine Z257 ?_; refine Z236 ?_; refine Z37 ?_; refine qn (yo (.inl rfl) rfl rfl rfl rfl) ?_; refine Z181 ?_; refine zfj 18 (PS3 cs fc) rfl SlV.mono hc ?_; refine Z1 ?_; refine z7 (qu L _ rfl rfl rfl rfl rfl rfl rfl (by first | omega | decide) (by assumption)) rfl ?_; refine z7 (yg L (vs:=[_, _, _]) rfl rfl rfl rfl rfl ⟨_, rfl⟩) rfl ?_; refine z7 (zo L rfl rfl (zk rfl) rfl rfl rfl (fun u H hH _ _ => zyc hxx hdd ka kb kc hH)) rfl ?_; refine Z35 ?_; refine Z107 ?_; refine qn (yo (.inr rfl) rfl rfl rfl rfl) ?_; refine Z237 ?_; refine Z380 ?_
   exact yi (x:=(i, out)) (i + 1, out ++ [(x, d)]) ⟨by dsimp only; omega, hnx⟩ (by dsimp only; omega) ⟨rfl, zgu rfl, rfl, trivial⟩
  ·obtain he:=hfin (by omega)
   subst he
   refine Z258 ?_; refine Z181 ?_; refine zfj 7 (PS3 cs fc) rfl SlV.mono hc ?_; refine Z11 ?_; refine Z7 ?_; refine Z273 ?_; refine Z8 ?_; refine Z183 ?_; refine zh ?_
   refine zck 3 rfl ?_
   refine Z43 ?_; refine Z4 ?_; refine Z266 ?_
   refine yb L (rs:=[.tmp 2]) rfl (fun _ _ h => h) Since.refl fun u H hH hle => ?_
   exact fun v hv => hv
 ·obtain he:=hfin (by omega)
  subst he
  refine Z258 ?_; refine Z181 ?_; refine zfj 7 (PS3 cs fc) rfl SlV.mono hc ?_; refine Z11 ?_; refine Z10 ?_; refine Z187 ?_; refine Z8 ?_; refine Z183 ?_; refine zh ?_
  refine zck 3 rfl ?_
  refine Z43 ?_; refine Z4 ?_; refine Z266 ?_
  refine yb L (rs:=[.tmp 2]) rfl (fun _ _ h => h) Since.refl fun u H hH hle => ?_
  exact fun v hv => hv
end Go.V.L8
set_option maxRecDepth 20000
namespace Go.V.L8
open Go.Proofs Go.RowKit Go.V Go.V.L2 Go.V.L3 Go.V.L6
theorem zm9:∀ {cs:List CH} {s:List U} {md:List CH}, SOK s → (∀ c ∈ cs, TZ c.1 ∧ tE c.1 = 0) → s.length + cs.length < 4096 → ∃ t made, zfh s md cs = (t, made, 0) ∧ SOK t ∧ t.length ≤ s.length + cs.length
 | [], s, md, h, _, _ => ⟨s, md, rfl, h, Nat.le_refl _⟩
 | c :: r, s, md, h, hc, hl => by
  simp only [List.length_cons] at hl
  obtain ⟨hz, h0⟩:=hc c (List.mem_cons_self ..)
  obtain ⟨h1, h2, h3⟩:=zwn h hz h0 c.2 (by omega)
  obtain ⟨t, made, e, ht, hlt⟩:=zm9 (cs:=r) (s:=(zcp s c.1 c.2).1) (md:=if decide (c.1 ∈ s) = c.2 then md ++ [c] else md) h1 (fun x hx => hc x (List.mem_cons_of_mem _ hx)) (by omega)
  refine ⟨t, made, by rw [zfh, if_pos h2, e], ht, ?_⟩
  simp only [List.length_cons]; omega
theorem writeR_ok {s:List U} {l cs:List CH} (h1:cE 32 l = 0) (h2:cE 32 cs = 0) (h3:(zex s l).2 = 0):zec s l cs = zfh s [] cs:=by
 unfold zec; rw [if_pos h1, if_pos h2, if_pos h3]
end Go.V.L8
set_option maxRecDepth 20000
namespace Go.V.L8
open Go.Proofs Go.RowKit Go.V Go.V.L2 Go.V.L3 Go.V.L6
theorem _root_.Go.V.Z110 {A B:Prop} (h:B) (t:Wr B → A:=by intro h; refine z8 (zn5 L rfl rfl rfl rfl rfl) rfl ?_; exact h.h):A:=t ⟨h⟩
theorem _root_.Go.V.Z282 {A B:Prop} (h:B) (t:Wr B → A:=by intro h; refine qs ?_; refine Z167 ?_; exact h.h):A:=t ⟨h⟩
theorem _root_.Go.V.Z359 {A B:Prop} (h:B) (t:Wr B → A:=by intro h; refine Z51 ?_; refine Z191 ?_; exact h.h):A:=t ⟨h⟩
attribute [local irreducible] V N X VO Par StepOK Has Ret RetL RetO RetT Src
set_option maxHeartbeats 2000000 in
theorem zmp {cs:List C3} {fc:Bool} {M:List CH} (hM:dOf cs = M) (hcs:∀ c ∈ cs, c.1 ≤ 255 ∧ c.2.1 ≤ 255 ∧ c.2.2 ≤ 255) (lcs:cs.length ≤ 9223372036854775807)
  {cx:Value} {w:World} {B:Heap} (hB:B.Le (hp w)) (hc:PS3 cs fc cx B):Ret Tryz.prog 37 [.agg #[cx]] w B (KS tyM M false):=by
 have lM:M.length ≤ 30:=hM ▸ zh1 cs
 refine yc Tryz.func37 rfl Tryz.ntmps37 (Nat.le_of_ble_eq_true rfl) hB ?_
 refine Z285 ?_; refine Z144 ?_; refine Z29 ?_; refine Z19 ?_; refine z7 (zw L (vs:=[_]) (ql rfl) rfl rfl rfl rfl ⟨_, rfl⟩) rfl ?_; refine z7 (yq (φ:=KS tyC M false) L rfl rfl (zk rfl) rfl rfl rfl SlV.mono (fun u H hH hle _ => zki hM hcs lcs hH (hc.le hle))) rfl ?_; refine Z359 ?_; refine Z28 ?_; refine Z203 ?_
 refine zeb 3 tyM 7 rfl ?_
 refine zak (fun y:Nat × List CH => [(3, .own (SlR tyM 7 y.2.length (y.2.flatMap ccs))), (4, .sat (KS tyC M false)), (5, .is (.int .i64 y.1))])
  (fun y => y.1 ≤ M.length ∧ y.2 = M.take y.1) (fun y => M.length - y.1) (0, []) ⟨Nat.zero_le _, rfl⟩ ⟨rfl, rfl, rfl, trivial⟩ ?_
 rintro ⟨i, out⟩ ⟨hi, ho⟩
 dsimp only at hi ho ⊢
 have hol:out.length = i:=by rw [ho, List.length_take]; omega
 by_cases hlt:i < M.length
 ·obtain ⟨c, hc0⟩:=zae hlt
  have hcc:=zik hc0
  have hnx:out ++ [c] = M.take (i + 1):=by rw [List.take_add_one, hc0, ho]; rfl
  refine Z216 ?_; refine Z151 ?_; refine Z177 ?_; refine Z236 ?_; refine qf (id:=6) [(15, [3]), (28, [15]), (3, [28])] mixed (by kernel_rfl) ?_; refine za4 (yo (.inl rfl) rfl rfl rfl rfl) rfl rfl ?_; refine Z198 ?_; refine z8 (qu L _ rfl rfl rfl rfl rfl rfl rfl (by first | omega | decide) (by assumption)) rfl ?_; refine z8 (zhv L rfl rfl rfl rfl) rfl ?_; refine z8 (yg L (vs:=[_, _, _, _, _, _]) rfl rfl rfl rfl rfl ⟨_, rfl⟩) rfl ?_; refine Z198 ?_; refine z8 (qu L _ rfl rfl rfl rfl rfl rfl rfl (by first | omega | decide) (by assumption)) rfl ?_; refine z8 (zhv L rfl rfl rfl rfl) rfl ?_; refine Z110 ?_; refine z8 (yv (cs:=[_, _, _, _, _, _, _]) rfl rfl z2e rfl rfl) rfl ?_; refine Z121 ?_; refine za4 (zce L rfl rfl rfl (zh5 rfl) rfl z40 rfl rfl (by omega) (by omega)) rfl rfl ?_; refine za4 (yo (.inr rfl) rfl rfl rfl rfl) rfl rfl ?_; refine Z282 ?_; refine Z304 ?_
  exact yi (x:=(i, out)) (i + 1, out ++ [c]) ⟨hlt, hnx⟩ (by dsimp only; omega) ⟨zgu rfl, rfl, rfl, trivial⟩
 ·have he:out = M:=by rw [ho]; exact List.take_of_length_le (by omega)
  subst he
  refine Z216 ?_; refine Z294 ?_
  refine zck 3 rfl ?_
  refine Z44 ?_; refine Z4 ?_; refine Z266 ?_
  refine yb L (rs:=[.tmp 2]) rfl (fun _ _ h => h) Since.refl fun u H hH hle => ?_
  exact fun v hv => hv
end Go.V.L8
set_option maxRecDepth 20000
namespace Go.V.L10
open Go.Proofs Go.RowKit Go.V Go.V.L2 Go.V.L8 Go.V.L6
structure OO where
 wh:Nat
 ms:List C3
 cs:List C3
 rv:Nat
 kp:Int
def OO.rev (o:OO):Int:=if o.rv = 255 then 18446744073709551615 else (o.rv:Int)
def doS (S:Sto) (o:OO):Sto :=
 if o.wh % 8 < 4 then (zen S (dOf o.ms) (dOf o.cs)).1 else if o.wh % 8 < 6 then (zn0 S o.rev false).1 else if o.wh % 8 = 6 then (zn0 S o.rev true).1 else (zdd S o.kp).1
structure JJ (n:Nat) (S:Sto):Prop where
 last:(kpt S.R S.R.length).isSome = true
 pin:∀ r ∈ S.P, (kpt S.R r).isSome = true
 so:∀ r t, kpt S.R r = some t → SOK t ∧ t.length ≤ 30 * S.R.length
 hR:S.R.length ≤ n + 1
 hP:S.P.length ≤ n
theorem JJ.ne {n:Nat} {S:Sto} (h:JJ n S):S.R.length ≠ 0:=by have:=zfd h.last; omega
theorem JJ.I {n:Nat} {S:Sto} (h:JJ n S) (hn:n ≤ 100):z3v S:=⟨h.last, Nat.le_trans (zdj _) (by have:=h.hR; omega), h.pin, fun r t ht => by have:=(h.so r t ht).2; have:=h.hR; omega⟩
theorem JJ.mono {n m:Nat} {S:Sto} (h:JJ n S) (hm:n ≤ m):JJ m S:=⟨h.last, h.pin, h.so, Nat.le_trans h.hR (by omega), Nat.le_trans h.hP hm⟩
theorem JJ.ss {n:Nat} {S:Sto} (h:JJ n S):∀ r t, kpt S.R r = some t → Sst zbd t ∧ ∀ x ∈ t, TZ x:=fun r t ht => ⟨(h.so r t ht).1.sst, (h.so r t ht).1.tz⟩
theorem JJ.pos {n:Nat} {S:Sto} (h:JJ n S):∀ x ∈ S.P, 0 < x:=fun x hx => (zfd (h.pin x hx)).1
theorem zvp:JJ 0 newS:=⟨rfl, fun _ h => (by cases h), fun r t h => by
 have hr:=zfd (R:=newS.R) (r:=r) (by rw [h]; rfl)
 have h1:newS.R.length = 1:=rfl
 have:r = ((0 + 1:Nat):Int):=by omega
 subst this
 have h2:kpt newS.R ((0 + 1:Nat):Int) = some []:=by rw [zfx]; rfl
 rw [h2] at h
 cases h
 exact ⟨⟨Sst.nil, fun _ h => (by cases h), fun _ h => (by cases h)⟩, Nat.zero_le _⟩, Nat.le_refl _, Nat.le_refl _⟩
theorem zzg (cs:List C3):∀ c ∈ dOf cs, TZ c.1 ∧ tE c.1 = 0:=fun c hc => by
 unfold dOf at hc
 obtain ⟨x, _, rfl⟩:=List.mem_map.1 hc
 exact ⟨zuk _ _, z0m _ _⟩
theorem zz0 {t:U} (h:TZ t):TM t:=by
 unfold TZ at h; unfold TM; omega
theorem zre (cs:List C3):∀ c ∈ dOf cs, TM c.1:=fun c hc => zz0 (zzg cs c hc).1
theorem writeR_ok {s:List U} {l cs:List CH} {t:List U} {made:List CH} (h:zec s l cs = (t, made, 0)) (hs:SOK s) (hc:∀ c ∈ cs, TZ c.1 ∧ tE c.1 = 0) (hl:s.length + cs.length < 4096):SOK t ∧ t.length ≤ s.length + cs.length:=by
 obtain ⟨t2, m2, h2, h3, h4⟩:=zm9 (md:=[]) hs hc hl
 unfold zec at h
 split at h
 ·split at h
  ·split at h
   ·rw [h2] at h; cases h; exact ⟨h3, h4⟩
   ·rename_i h1; exact absurd (congrArg (·.2.2) h) h1
  ·rename_i h1; exact absurd (congrArg (·.2.2) h) h1
 ·rename_i h1; exact absurd (congrArg (·.2.2) h) h1
theorem zyh {S:Sto} {t:List U} (h:kpt S.R S.R.length = some t):atS S 0 = (t, 0):=by unfold atS; rw [if_pos rfl, h]
theorem zq5 {n:Nat} {S:Sto} (h:JJ n S) (hn:n ≤ 100) {l cs:List CH} (hc:∀ c ∈ cs, TZ c.1 ∧ tE c.1 = 0) (hcl:cs.length ≤ 30):JJ (n + 1) (zen S l cs).1:=by
 obtain ⟨t0, ht0⟩:∃ t0, kpt S.R S.R.length = some t0:=Option.isSome_iff_exists.1 h.last
 obtain ⟨⟨t1, made, e1⟩, hwr⟩:∃ x, zec t0 l cs = x:=⟨_, rfl⟩
 unfold zen
 rw [zyh ht0, hwr]
 dsimp only
 by_cases he:e1 = 0
 ·subst he
  rw [if_pos rfl]
  split
  ·exact h.mono (Nat.le_succ _)
  ·have h0:=h.so _ _ ht0
   have hR:=h.hR
   have h1:=writeR_ok hwr h0.1 hc (by omega)
   have hln:(S.R ++ [some t1]).length = S.R.length + 1:=by rw [List.length_append]; rfl
   refine ⟨?_, fun r hr => ?_, fun r t ht => ?_, ?_, Nat.le_succ_of_le h.hP⟩
   ·dsimp only; rw [hln, zix, if_pos rfl]; rfl
   ·dsimp only; rw [zix]
    split
    ·rfl
    ·exact h.pin r hr
   ·dsimp only at ht ⊢
    rw [zix] at ht
    rw [hln]
    split at ht
    ·cases ht; exact ⟨h1.1, by omega⟩
    ·have h2:=h.so r t ht; exact ⟨h2.1, by omega⟩
   ·dsimp only; omega
 ·rw [if_neg he]; exact h.mono (Nat.le_succ _)
theorem zvo {n:Nat} {S:Sto} (h:JJ n S) (r:Int) (un:Bool):JJ (n + 1) (zn0 S r un).1:=by
 unfold zn0
 by_cases hk:(kpt S.R r).isSome = true
 ·rw [if_pos hk]
  cases un with
  | true =>
   rw [if_pos rfl]
   split
   ·refine ⟨h.last, fun x hx => h.pin x ?_, h.so, Nat.le_succ_of_le h.hR, ?_⟩
    ·dsimp only at hx
     unfold zfl at hx
     split at hx
     ·cases hx
     ·exact List.mem_of_mem_erase hx
    ·dsimp only
     unfold zfl
     split
     ·exact Nat.zero_le _
     ·exact Nat.le_trans (List.length_erase_le ..) (Nat.le_succ_of_le h.hP)
   ·exact h.mono (Nat.le_succ _)
  | false =>
   rw [if_neg (by decide)]
   refine ⟨h.last, fun x hx => ?_, h.so, Nat.le_succ_of_le h.hR, ?_⟩
   ·rcases List.mem_append.1 hx with hx | hx
    ·exact h.pin x hx
    ·rw [List.mem_singleton.1 hx]; exact hk
   ·have:=h.hP; dsimp only; rw [List.length_append, List.length_singleton]; omega
 ·rw [if_neg hk]; exact h.mono (Nat.le_succ _)
theorem zso {S:Sto} {k:Nat} (hk:1 ≤ k):((S.R.length:Nat):Int) ∉ zdb S.P (za8 S.R) k:=fun hm => by
 unfold zdb at hm
 have h1:=(List.mem_filter.1 hm).1
 obtain ⟨i, hi⟩:=List.getElem?_of_mem h1
 have hil:i < (za8 S.R).length - k:=by have:=get_lt hi; rw [List.length_take] at this; omega
 rw [List.getElem?_take_of_lt hil] at hi
 obtain ⟨y, hy⟩:=zae (show i + 1 < (za8 S.R).length by omega)
 have h3:=List.pairwise_iff_getElem.1 (zjd S.R) i (i + 1) (get_lt hi) (get_lt hy) (Nat.lt_succ_self i)
 rw [zea hi, zea hy, zyf] at h3
 have:=zfd (zd6.1 (List.mem_of_getElem? hy))
 omega
theorem zoi {P0:List Int} {R:List (Option (List U))} {k:Nat} {g:Int} (hg:g ∈ zdb P0 (za8 R) k):(kpt R g).isSome = true ∧ g ∉ P0:=by
 unfold zdb at hg
 have h1:=List.mem_filter.1 hg
 exact ⟨zd6.1 (List.mem_of_mem_take h1.1), fun hm => by have:=List.count_pos_iff.2 hm; have h2:=h1.2; simp at h2; omega⟩
theorem zvq {n:Nat} {S:Sto} (h:JJ n S) (keep:Int):JJ (n + 1) (zdd S keep).1:=by
 unfold zdd
 split
 ·rename_i hk
  have hp:∀ g ∈ zdb S.P (za8 S.R) keep.toNat, 0 < g:=fun g hg => (zfd (zoi hg).1).1
  refine ⟨?_, fun r hr => ?_, fun r t ht => ?_, ?_, Nat.le_succ_of_le h.hP⟩
  ·dsimp only; rw [zd9, ziy hp, if_neg (zso (by omega))]; exact h.last
  ·dsimp only; rw [ziy hp, if_neg (fun hm => (zoi hm).2 hr)]; exact h.pin r hr
  ·dsimp only at ht ⊢
   rw [ziy hp] at ht
   rw [zd9]
   split at ht
   ·cases ht
   ·exact h.so r t ht
  ·dsimp only; rw [zd9]; exact Nat.le_succ_of_le h.hR
 ·exact h.mono (Nat.le_succ _)
theorem z4u {n:Nat} {S:Sto} (h:JJ n S) (hn:n ≤ 100) (o:OO):JJ (n + 1) (doS S o):=by
 unfold doS
 split
 ·exact zq5 h hn (zzg _) (zh1 _)
 ·split
  ·exact zvo h _ _
  ·split
   ·exact zvo h _ _
   ·exact zvq h _
end Go.V.L10
set_option maxRecDepth 20000
namespace Go.V
open Go.RowKit
def z37 {V:Type} (m:Nat) (kd:IntKind) (vc:V → Value) (l left:List (Int × V)) (p:Int × V):Res where
 P x _ u C:=∃ (i:Nat) (es:Array MapEntry) (ck since:Nat) (seen:Array Nat) (e:MapEntry), x = .pointer (some ⟨i, 0, none⟩) ∧ i ≠ m ∧ u.heap[m]? = some (.map es ck) ∧ MiE kd vc l es.toList ∧ Brn es.toList ck ∧ u.heap[i]? = some (.mapIter (some m) since (seen.push e.born) ck) ∧
  (∀ e ∈ es.toList, e.born < since) ∧ since ≤ ck ∧ MiE kd vc left (leftOf es (seen.push e.born)).toList ∧ e ∈ es.toList ∧ e.key = .int kd p.1 ∧ e.val = vc p.2 ∧ ∀ k, C k ↔ k = m ∨ k = i
 st:=fun ⟨i, es, ck, since, seen, e, h1, h2, h3, h4, h5, h6, h7, h8, h9, h10, h11, h12, hC⟩ _ _ _ hk => ⟨i, es, ck, since, seen, e, h1, h2, (hk m ((hC m).2 (.inl rfl))).trans h3, h4, h5, (hk i ((hC i).2 (.inr rfl))).trans h6, h7, h8, h9, h10, h11, h12, hC⟩
theorem z15 {V:Type} {m:Nat} {kd:IntKind} {vc:V → Value} {l left:List (Int × V)} {p:Int × V} {B:Heap}:∀ v H u C, B.Le H → (z37 m kd vc l left p).P v H u C → (zys m kd vc l left).P v H u C :=
 fun _ _ _ _ _ ⟨i, es, ck, since, seen, e, h1, h2, h3, h4, h5, h6, h7, h8, h9, _, _, _, hC⟩ => ⟨i, es, ck, since, seen.push e.born, ck, h1, h2, h3, h4, h5, h6, h7, h8, h8, h9, hC⟩
theorem zxk {es:Array MapEntry} {seen:Array Nat} {j:Nat} {e:MapEntry} (h:(leftOf es seen)[j]? = some e):e ∈ es.toList:=by
 have h1:e ∈ leftOf es seen:=Array.mem_of_getElem? h
 unfold leftOf at h1
 rw [Array.mem_filter] at h1
 exact Array.mem_toList_iff.2 h1.1
theorem zvv {es:List MapEntry} (hn:(es.map (·.born)).Nodup) {e:MapEntry} (he:e ∈ es):es.find? (fun x => x.born == e.born) = some e:=by
 induction es with
 | nil => cases he
 | cons x es ih =>
  rw [List.map_cons, List.nodup_cons] at hn
  rw [List.find?_cons]
  rcases List.mem_cons.1 he with h | h
  ·subst h; simp
  ·have hne:x.born ≠ e.born:=fun h2 => hn.1 (h2 ▸ List.mem_map_of_mem (f:=(·.born)) h)
   have:(x.born == e.born) = false:=by simpa using hne
   rw [this]
   exact ih hn.2 h
section
variable {P:Program} {F:Fr} {B:Heap} {O:Boxes} {n:Nat} {ops:Array Oper} {κ:Kap} {d:Nat} {ty:TypeId} {pos:String} {aft:Array Edge} {g:Option (Nat × Bool)} {a:Act} {u:World} {H:Heap} {os:List Oper} {Q:Exit → Act → World → Prop}
variable {Y:Type} {kd:IntKind} {vc:Y → Value} {l left:List (Int × Y)}
theorem zwo {q m d:Nat} {o:Oper} (ho:o = ⟨some d, .next (.tmp q) false, ty, pos, aft, g⟩) (hq:κ q = some (.own (zys m kd vc l left))) (hl:left ≠ []) (hn:Nat.blt d n = true) (hdq:Nat.beq q d = false) (hg:gK ops κ o = some true)
  (h:∀ (j:Nat) (p:Int × Y), left[j]? = some p → VO P F B n O ops (upd (upd κ q (.own (z37 m kd vc l (left.eraseIdx j) p))) d (.is (.tuple #[.bool true, .int kd p.1, vc p.2]))) os Q):VO P F B n O ops κ (o :: os) Q:=fun a u hh => by
 subst ho
 obtain ⟨H, fp, hh⟩:=hh
 obtain ⟨⟨i, es, ck, since, seen, last, h1, h2, h3, h4, h5, h6, h7, h8, h9, h10, hC⟩, hM⟩:=hh.slot q _ hq
 show After P ops _ _ a u
 unfold After
 rw [if_pos (zaf hh (fun _ _ => rfl) hg)]
 rcases zns (P:=P) (ty:=ty) h3 h6 h7 h8 with ⟨hz, _⟩ | ⟨j, e, he, u1, hu1, hr⟩
 ·exfalso
  have:=congrArg List.length h10
  simp [hz] at this
  exact hl (List.eq_nil_of_length_eq_zero this.symm)
 ·have hrun:(execOp a.eval ⟨some d, .next (.tmp q) false, ty, pos, aft, g⟩).run P u = .ok (.value (.tuple #[.bool true, e.key, e.val])) (u1.putObj i (.mapIter (some m) since (seen.push e.born) ck)):=by
   simp only [execOp, h1, Sem.run_bind, hr, Result.andThen_ok]
   rfl
  rw [hrun]
  simp only [Upon]
  obtain ⟨p, hp, hk1, hv1⟩:=z2u h10 (by rw [Array.getElem?_toList]; exact he)
  rw [hk1, hv1]
  have him:=hM i ((hC i).2 (.inr rfl))
  have hsub:H.Le (Go.V.hp u1):=by rcases hu1 with rfl | rfl <;> exact hh.sub
  have hgr:Grow (fp q) u H (u1.putObj i (.mapIter (some m) since (seen.push e.born) ck)) H:=by
   have g1:=zkc (u:=u1) (L:=fp q) (o:=.mapIter (some m) since (seen.push e.born) ck) hsub ((hC i).2 (.inr rfl)) him.2.1
   rcases hu1 with rfl | rfl
   ·exact g1
   ·exact ⟨⟨g1.keep.os, g1.keep.tape, g1.keep.output, g1.keep.size, g1.keep.block, Nat.le_trans (Nat.le_succ _) g1.keep.dr⟩, g1.sub, g1.le, g1.fresh⟩
  have hmm:u1.heap[m]? = some (.map es ck):=by rcases hu1 with rfl | rfl <;> exact h3
  have hsz:i < u1.heap.size:=by rcases hu1 with rfl | rfl <;> exact him.1
  have h5':=hh.usePut (d:=q) (a':=a) (r':=z37 m kd vc l (left.eraseIdx j) p) (C:=fun k => k = m ∨ k = i) hq hgr rfl rfl (fun _ _ => rfl)
   ⟨i, es, ck, since, seen, e, h1, h2, by rw [World.putObj_heap_other (Ne.symm h2)]; exact hmm, h4, h5, World.putObj_heap_same hsz, h7, h9, by rw [zsm h5 he]; exact zoa h10 j, zxk he, hk1, hv1, fun _ => Iff.rfl⟩
   (fun k hk => by
    have hkC:fp q k:=(hC k).2 hk
    refine ⟨.inl hkC, ?_, (hM k hkC).2.1⟩
    rw [World.putObj_size]
    rcases hu1 with rfl | rfl <;> exact (hM k hkC).1)
  rw [zbe] at h5'
  exact h j p hp _ _ ⟨H, _, h5'.put (k:=.is _) (zk hn) trivial rfl⟩
theorem zuz {q m:Nat} {p:Int × Y} (hq:κ q = some (.own (z37 m kd vc l left p))) (hn:Nat.blt d n = true) (hg:gK ops κ ⟨some d, .entry (.tmp q), ty, pos, aft, g⟩ = some true) :
  StepOK P F B n ops O κ ⟨some d, .entry (.tmp q), ty, pos, aft, g⟩ d (.is (.tuple #[.int kd p.1, vc p.2])) :=
 zav rfl (zk hn) hg trivial fun a u H fp e => by
  obtain ⟨⟨i, es, ck, since, seen, x, h1, h2, h3, h4, h5, h6, h7, h8, h9, h10, h11, h12, hC⟩, hM⟩:=e.own_ q _ (by simp [Op.operands]) hq
  refine ⟨_, ?_, rfl⟩
  have hf:=zvv h5.nd h10
  have hf2:es.find? (fun y => y.born == x.born) = some x:=by rw [← Array.find?_toList]; exact hf
  simp only [execOp, h1, Instr.entry, getObj, Sem.run_bind, Sem.run, h6, Result.andThen, Array.back?_push, h3, bne_self_eq_false, Bool.false_eq_true, if_false, hf2, h11, h12]
  rfl
theorem zsb {x y z:Operand} {q b:Nat} {t kt et:TypeId} (k:Int) (v:Y) {zv:Value} {l':List (Int × Y)} (ht:P.underlying t = some (.map kt et)) (hkt:P.underlying kt = some (.int kd))
  (hx:evK κ x = some (.map (some b))) (hq:κ q = some (.own (zk1 b kd vc l))) (hy:evK κ y = some (.int kd k)) (hz:evK κ z = some zv) (hzv:vc v = zv) (hg:gK ops κ ⟨none, .insert t x y z, ty, pos, aft, g⟩ = some true)
  (hl':zqt k v l = l') :
  zf5 P F B n ops O κ ⟨none, .insert t x y z, ty, pos, aft, g⟩ q (.own (zk1 b kd vc l')):=by
 rintro κ' a u hlk hqk ⟨H, fp, hh⟩
 subst hl' hzv
 unfold After
 rw [if_pos (zaf hh hlk hg)]
 have e:=hh.env hlk
 have h1:=e.is_ x _ (by simp [Op.operands]) hx
 have h2:=e.is_ y _ (by simp [Op.operands]) hy
 have h3:=e.is_ z _ (by simp [Op.operands]) hz
 have hqs:=hqk.trans hq
 obtain ⟨⟨⟨es, ck, hb, he, hbn⟩, hC⟩, hM⟩:=hh.slot q _ hqs
 obtain ⟨es', ck', hr, he', hb'⟩:=zgh ht hkt hb he hbn k v
 have hrun:(execOp a.eval ⟨none, .insert t x y z, ty, pos, aft, g⟩).run P u = .ok .skip (u.putObj b (.map es' ck')):=by
  simp only [execOp, h1, h2, h3, Sem.run_bind, hr, Result.andThen_ok]
  rfl
 rw [hrun]
 simp only [Upon, Act.put]
 exact ⟨H, _, hh.turnMap hqs he' hb'⟩
end
end Go.V
set_option maxRecDepth 20000
namespace Go.V.So
open Go.Proofs Go.RowKit Go.V Go.Sort
theorem _root_.Go.V.Z241 {A B:Prop} (h:B) (t:Wr B → A:=by intro h; refine Z147 ?_; refine Z58 ?_; exact h.h):A:=t ⟨h⟩
theorem _root_.Go.V.Z274 {A B:Prop} (h:B) (t:Wr B → A:=by intro h; refine Z205 ?_; refine Z165 ?_; exact h.h):A:=t ⟨h⟩
theorem _root_.Go.V.Z331 {A B:Prop} (h:B) (t:Wr B → A:=by intro h; refine Z182 ?_; refine Z141 ?_; exact h.h):A:=t ⟨h⟩
theorem _root_.Go.V.Z360 {A B:Prop} (h:B) (t:Wr B → A:=by intro h; refine Z273 ?_; refine Z142 ?_; exact h.h):A:=t ⟨h⟩
abbrev lt:Int → Int → Bool:=ltInt
abbrev tyU:TypeId:=49
attribute [local irreducible] V N X VO Par StepOK Has Ret RetL RetO zb8 zdn Src
theorem isnanU (a:Int) {w:World} {B:Heap} (hB:B.Le (hp w)):Ret Tryz.prog 153 [.int .u64 a] w B (fun v _ => v = .bool false):=by
 refine yc Tryz.func153 rfl Tryz.ntmps153 (Nat.le_of_ble_eq_true rfl) hB ?_
 refine Z331 ?_; refine Z21 ?_; refine Z139 ?_
 refine yb L (rs:=[.tmp 2]) rfl (fun _ _ h => h) Since.refl fun u H hH hle => ?_
 rfl
theorem z4l (a b:Int) {w:World} {B:Heap} (hB:B.Le (hp w)):Ret Tryz.prog 107 [.int .u64 a, .int .u64 b] w B (fun v _ => v = .bool (lt a b)):=by
 unfold lt ltInt
 refine yc Tryz.func107 rfl Tryz.ntmps107 (Nat.le_of_ble_eq_true rfl) hB ?_
 by_cases h:a < b
 ·rw [decide_eq_true h]
  refine Z286 ?_; refine z7 (zo L rfl rfl (zk rfl) rfl rfl rfl (fun u H hH _ _ => isnanU _ hH)) rfl ?_; refine Z264 ?_; refine Z176 ?_; refine Z7 ?_; refine Z8 ?_; refine Z139 ?_
  refine yb L (rs:=[.tmp 4]) rfl (fun _ _ h => h) Since.refl fun u H hH hle => ?_
  rfl
 ·rw [decide_eq_false h]
  refine Z286 ?_; refine z7 (zo L rfl rfl (zk rfl) rfl rfl rfl (fun u H hH _ _ => isnanU _ hH)) rfl ?_; refine Z264 ?_; refine Z176 ?_; refine Z10 ?_; refine Z8 ?_; refine Z139 ?_
  refine yb L (rs:=[.tmp 4]) rfl (fun _ _ h => h) Since.refl fun u H hH hle => ?_
  rfl
theorem zbc {a b:Int} {f:Bool} (h:lt a b = f) {w:World} {B:Heap} (hB:B.Le (hp w)):Ret Tryz.prog 107 [.int .u64 a, .int .u64 b] w B (fun v _ => v = .bool f):=h ▸ z4l a b hB
set_option maxHeartbeats 1000000 in
set_option maxRecDepth 20000 in
theorem ins_ret {d:Array Int} {rest:List Value} {b m cap a e:Nat} (hab:a ≤ e) (he:e ≤ d.size) (hm:d.size = m) (hm1:m ≤ 100000) {w:World} {B:Heap} {C:Nat → Prop} (hB:B.Le (hp w))
  (hr:(zab b (uC d ++ rest) tyU).P B w C) (hC:∀ k, C k → k < w.heap.size ∧ B k = none) :
  zb8 Tryz.prog 101 [.slice (some ⟨b, 0, none⟩) m cap, .int .i64 a, .int .i64 e] w B C (zab b (uC (insertionSort lt d a e) ++ rest) tyU):=by
 unfold zb8
 refine zar 900 (zab b (uC d ++ rest) tyU) Tryz.func101 rfl Tryz.ntmps101 (Nat.le_of_ble_eq_true rfl) hB hr hC ?_
 rw [za2]
 have hw0:IntKind.i64.wrap ((a:Int) + 1) = ((a + 1:Nat):Int):=zaa (by omega) (by omega)
 refine Z146 ?_; refine Z1 ?_; refine Z20 ?_; refine Z203 ?_
 refine zak (fun s:Nat × Array Int => [(0, .is (.slice (some ⟨b, 0, none⟩) m cap)), (1, .is (.int .i64 a)), (2, .is (.int .i64 e)), (6, .is (.int .i64 s.1)), (900, .own (zal b (uC s.2 ++ rest) tyU))]) (fun s => s.1 ≤ e + 1 ∧ a < s.1 ∧ s.2.size = m ∧ insOuter lt a e s.1 s.2 = insertionSort lt d a e) (fun s => e + 1 - s.1) (a + 1, d) ⟨by omega, by omega, hm, rfl⟩ ⟨rfl, rfl, rfl, rfl, rfl, trivial⟩ ?_
 rintro ⟨i, D⟩ ⟨hi, hai, hD, hO⟩
 dsimp only at hi hai hD hO ⊢
 by_cases hlt:i < e
 ·rw [insOuter, if_pos hlt] at hO
  refine Z140 ?_; refine Z17 ?_; refine Z141 ?_; refine Z201 ?_; refine Z173 ?_; refine Z203 ?_
  refine zak (fun t:Nat × Array Int => [(0, .is (.slice (some ⟨b, 0, none⟩) m cap)), (1, .is (.int .i64 a)), (2, .is (.int .i64 e)), (6, .is (.int .i64 i)), (7, .is (.int .i64 t.1)), (900, .own (zal b (uC t.2 ++ rest) tyU))]) (fun t => t.1 ≤ i ∧ t.2.size = m ∧ insInner lt a t.1 t.2 = insInner lt a i D) (fun t => t.1) (i, D) ⟨Nat.le_refl _, hD, rfl⟩ ⟨rfl, rfl, rfl, rfl, rfl, rfl, trivial⟩ ?_
  rintro ⟨j, E⟩ ⟨hj, hE, hI⟩
  dsimp only at hj hE hI ⊢
  rcases j with _ | j
  ·rw [insInner] at hI
   rw [hI]
   refine Z140 ?_; refine Z97 ?_; refine Z147 ?_; refine Z92 ?_; refine Z306 ?_; refine Z274 ?_; refine Z167 ?_; refine Z175 ?_; refine Z197 ?_
   exact yi (x:=(i, D)) (i + 1, insInner lt a i D) ⟨by dsimp only; omega, by dsimp only; omega, by dsimp only; rw [← hI]; exact hE, hO⟩ (by dsimp only; omega) ⟨rfl, rfl, rfl, rfl, rfl, trivial⟩
  ·by_cases hja:a < j + 1
   ·have hw1:IntKind.i64.wrap (((j + 1:Nat):Int) - 1) = (j:Int):=zaa (by omega) (by omega) |>.trans (by omega)
    obtain ⟨r1, q1⟩:=zc2 (rest:=rest) (show j + 1 < E.size by omega) (0 + (j + 1) * 1) rfl
    obtain ⟨r2, q2⟩:=zc2 (rest:=rest) (show j < E.size by omega) (0 + j * 1) rfl
    cases hc:lt E[j + 1]! E[j]! with
    | true =>
     rw [insInner, if_pos (by rw [hc]; simp; omega)] at hI
     have s1:=zca (rest:=rest) E[j]! (show j + 1 < E.size by omega) (0 + (j + 1) * 1) rfl
     have b1:=zcb (rest:=rest) (show j + 1 < E.size by omega) (0 + (j + 1) * 1) rfl
     have hz:j < (E.setIfInBounds (j + 1) E[j]!).size:=by rw [Array.size_setIfInBounds]; omega
     have s2:=zca (rest:=rest) E[j + 1]! hz (0 + j * 1) rfl
     have b2:=zcb (rest:=rest) hz (0 + j * 1) rfl
     rw [zc6] at s2
     refine Z140 ?_; refine qf (id:=4) [(200023, [900]), (200028, [900])] mixed (by kernel_rfl) ?_; refine Z147 ?_; refine Z90 ?_; refine Z180 ?_; refine z8 (qg L _ rfl rfl rfl rfl rfl rfl rfl (by omega)) rfl ?_; refine qp (qq L (q:=900) rfl rfl rfl rfl rfl q1) rfl rfl ?_; refine Z241 ?_; refine z8 (qg L _ rfl rfl rfl rfl rfl rfl rfl (by omega)) rfl ?_; refine qp (qq L (q:=900) rfl rfl rfl rfl rfl q2) rfl rfl ?_; refine z8 (zo L rfl rfl (zk rfl) rfl rfl rfl (fun u H hH _ _ => zbc hc hH)) rfl ?_; refine Z261 ?_; refine Z236 ?_; refine qf (id:=6) [(200042, [900]), (200046, [900]), (100047, [900]), (100048, [900])] mixed (by kernel_rfl) ?_; refine Z147 ?_; refine Z241 ?_; refine Z241 ?_; refine z8 (qg L _ rfl rfl rfl rfl rfl rfl rfl (by omega)) rfl ?_; refine qp (qq L (q:=900) rfl rfl rfl rfl rfl q2) rfl rfl ?_; refine Z147 ?_; refine z8 (qg L _ rfl rfl rfl rfl rfl rfl rfl (by omega)) rfl ?_; refine qp (qq L (q:=900) rfl rfl rfl rfl rfl q1) rfl rfl ?_; refine z8 (qg L _ rfl rfl rfl rfl rfl rfl rfl (by omega)) rfl ?_; refine zag (yw L (q:=900) rfl rfl rfl rfl rfl rfl b1 rfl s1) rfl ?_; refine z8 (qg L _ rfl rfl rfl rfl rfl rfl rfl (by omega)) rfl ?_; refine zag (yw L (q:=900) rfl rfl rfl rfl rfl rfl b2 rfl s2) rfl ?_; refine Z282 ?_; refine Z179 ?_; refine Z25 ?_; refine Z156 ?_
     exact yi (x:=(j + 1, E)) (j, swp E (j + 1) j) ⟨by dsimp only; omega, by dsimp only; rw [zbo]; exact hE, hI⟩ (by dsimp only; omega) ⟨rfl, rfl, rfl, rfl, rfl, rfl, trivial⟩
    | false =>
     rw [insInner, if_neg (by rw [hc]; simp)] at hI
     refine Z140 ?_; refine qf (id:=4) [(200023, [900]), (200028, [900])] mixed (by kernel_rfl) ?_; refine Z147 ?_; refine Z90 ?_; refine Z180 ?_; refine z8 (qg L _ rfl rfl rfl rfl rfl rfl rfl (by omega)) rfl ?_; refine qp (qq L (q:=900) rfl rfl rfl rfl rfl q1) rfl rfl ?_; refine Z241 ?_; refine z8 (qg L _ rfl rfl rfl rfl rfl rfl rfl (by omega)) rfl ?_; refine qp (qq L (q:=900) rfl rfl rfl rfl rfl q2) rfl rfl ?_; refine z8 (zo L rfl rfl (zk rfl) rfl rfl rfl (fun u H hH _ _ => zbc hc hH)) rfl ?_; refine Z274 ?_; refine Z167 ?_
     rw [hI]
     refine Z175 ?_; refine Z197 ?_
     exact yi (x:=(i, D)) (i + 1, insInner lt a i D) ⟨by dsimp only; omega, by dsimp only; omega, by dsimp only; rw [← hI]; exact hE, hO⟩ (by dsimp only; omega) ⟨rfl, rfl, rfl, rfl, rfl, trivial⟩
   ·rw [insInner, if_neg (by simp; omega)] at hI
    rw [hI]
    refine Z140 ?_; refine Z97 ?_; refine Z147 ?_; refine Z92 ?_; refine Z306 ?_; refine Z274 ?_; refine Z167 ?_; refine Z175 ?_; refine Z197 ?_
    exact yi (x:=(i, D)) (i + 1, insInner lt a i D) ⟨by dsimp only; omega, by dsimp only; omega, by dsimp only; rw [← hI]; exact hE, hO⟩ (by dsimp only; omega) ⟨rfl, rfl, rfl, rfl, rfl, trivial⟩
 ·rw [insOuter, if_neg hlt] at hO
  subst hO
  refine Z140 ?_; refine Z17 ?_; refine Z360 ?_; refine Z165 ?_
  exact zbb L 900 (r:=zab b _ tyU) rfl (fun _ _ h => h) Since.refl rfl rfl
end Go.V.So
set_option maxRecDepth 20000
namespace Go.V.So
open Go.Proofs Go.RowKit Go.V Go.Sort
theorem _root_.Go.V.Z53 {A B:Prop} (h:B) (t:Wr B → A:=by intro h; refine z7 (zuu rfl rfl rfl rfl (zaa (by omega) (by omega))) rfl ?_; exact h.h):A:=t ⟨h⟩
theorem _root_.Go.V.Z113 {A B:Prop} (h:B) (t:Wr B → A:=by intro h; refine qf (id:=5) [(200044, [900]), (200050, [900])] mixed (by kernel_rfl) ?_; exact h.h):A:=t ⟨h⟩
theorem _root_.Go.V.Z124 {A B:Prop} (h:B) (t:Wr B → A:=by intro h; refine qf (id:=6) [(200066, [900]), (200072, [900]), (100073, [900]), (100074, [900])] mixed (by kernel_rfl) ?_; exact h.h):A:=t ⟨h⟩
theorem _root_.Go.V.Z130 {A B:Prop} (h:B) (t:Wr B → A:=by intro h; refine qf (id:=3) [(200027, [900]), (200034, [900])] mixed (by kernel_rfl) ?_; exact h.h):A:=t ⟨h⟩
theorem _root_.Go.V.Z209 {A B:Prop} (h:B) (t:Wr B → A:=by intro h; refine Z180 ?_; refine Z33 ?_; exact h.h):A:=t ⟨h⟩
theorem _root_.Go.V.Z212 {A B:Prop} (h:B) (t:Wr B → A:=by intro h; refine Z141 ?_; refine Z25 ?_; exact h.h):A:=t ⟨h⟩
theorem _root_.Go.V.Z227 {A B:Prop} (h:B) (t:Wr B → A:=by intro h; refine Z53 ?_; refine Z20 ?_; exact h.h):A:=t ⟨h⟩
theorem _root_.Go.V.Z231 {A B:Prop} (h:B) (t:Wr B → A:=by intro h; refine Z1 ?_; refine Z25 ?_; exact h.h):A:=t ⟨h⟩
theorem _root_.Go.V.Z232 {A B:Prop} (h:B) (t:Wr B → A:=by intro h; refine Z141 ?_; refine Z141 ?_; exact h.h):A:=t ⟨h⟩
theorem _root_.Go.V.Z301 {A B:Prop} (h:B) (t:Wr B → A:=by intro h; refine Z150 ?_; refine zh ?_; exact h.h):A:=t ⟨h⟩
theorem _root_.Go.V.Z310 {A B:Prop} (h:B) (t:Wr B → A:=by intro h; refine Z147 ?_; refine Z147 ?_; exact h.h):A:=t ⟨h⟩
theorem _root_.Go.V.Z332 {A B:Prop} (h:B) (t:Wr B → A:=by intro h; refine Z152 ?_; refine Z289 ?_; exact h.h):A:=t ⟨h⟩
theorem _root_.Go.V.Z333 {A B:Prop} (h:B) (t:Wr B → A:=by intro h; refine Z148 ?_; refine Z173 ?_; exact h.h):A:=t ⟨h⟩
theorem _root_.Go.V.Z403 {A B:Prop} (h:B) (t:Wr B → A:=by intro h; refine Z177 ?_; refine Z230 ?_; exact h.h):A:=t ⟨h⟩
attribute [local irreducible] V N X VO Par StepOK Has Ret RetL RetO zb8 zdn Src
set_option maxHeartbeats 1000000 in
set_option maxRecDepth 20000 in
theorem rev_ret {d:Array Int} {rest:List Value} {b m cap a e:Nat} (hab:a < e) (he:e ≤ d.size) (hm:d.size = m) (hm1:m ≤ 100000) {w:World} {B:Heap} {C:Nat → Prop} (hB:B.Le (hp w))
  (hr:(zab b (uC d ++ rest) tyU).P B w C) (hC:∀ k, C k → k < w.heap.size ∧ B k = none) :
  zb8 Tryz.prog 105 [.slice (some ⟨b, 0, none⟩) m cap, .int .i64 a, .int .i64 e] w B C (zab b (uC (reverseRange d a e) ++ rest) tyU):=by
 unfold zb8
 refine zar 900 (zab b (uC d ++ rest) tyU) Tryz.func105 rfl Tryz.ntmps105 (Nat.le_of_ble_eq_true rfl) hB hr hC ?_
 rw [za2]
 have hw0:IntKind.i64.wrap ((e:Int) - 1) = ((e - 1:Nat):Int):=zaa (by omega) (by omega) |>.trans (by omega)
 refine Z146 ?_; refine Z1 ?_; refine Z160 ?_; refine Z231 ?_; refine Z203 ?_
 refine zak (fun s:(Nat × Nat) × Array Int => [(0, .is (.slice (some ⟨b, 0, none⟩) m cap)), (6, .is (.int .i64 s.1.1)), (7, .is (.int .i64 s.1.2)), (900, .own (zal b (uC s.2 ++ rest) tyU))]) (fun s => s.1.1 ≤ m ∧ s.1.2 < m ∧ s.2.size = m ∧ reverseLoop s.1.1 s.1.2 s.2 = reverseRange d a e) (fun s => s.1.2 - s.1.1) ((a, e - 1), d) ⟨by dsimp only; omega, by dsimp only; omega, hm, rfl⟩ ⟨rfl, rfl, rfl, rfl, trivial⟩ ?_
 rintro ⟨⟨i, j⟩, E⟩ ⟨hi, hj, hE, hO⟩
 dsimp only at hi hj hE hO ⊢
 by_cases hlt:i < j
 ·rw [reverseLoop, if_pos hlt] at hO
  have hw1:IntKind.i64.wrap ((i:Int) + 1) = ((i + 1:Nat):Int):=zaa (by omega) (by omega)
  have hw2:IntKind.i64.wrap ((j:Int) - 1) = ((j - 1:Nat):Int):=zaa (by omega) (by omega) |>.trans (by omega)
  obtain ⟨_, qj⟩:=zc2 (rest:=rest) (show j < E.size by omega) (0 + (j) * 1) rfl
  obtain ⟨_, qi⟩:=zc2 (rest:=rest) (show i < E.size by omega) (0 + (i) * 1) rfl
  have s1:=zca (rest:=rest) E[j]! (show i < E.size by omega) (0 + (i) * 1) rfl
  have b1:=zcb (rest:=rest) (show i < E.size by omega) (0 + (i) * 1) rfl
  have hz:j < (E.setIfInBounds (i) E[j]!).size:=by rw [Array.size_setIfInBounds]; omega
  have s2:=zca (rest:=rest) E[i]! hz (0 + (j) * 1) rfl
  have b2:=zcb (rest:=rest) hz (0 + (j) * 1) rfl
  rw [zc6] at s2
  refine Z314 ?_; refine Z403 ?_; refine qf (id:=3) [(200021, [900]), (200025, [900]), (100026, [900]), (100027, [900])] mixed (by kernel_rfl) ?_; refine Z310 ?_; refine Z147 ?_; refine z8 (qg L _ rfl rfl rfl rfl rfl rfl rfl (by omega)) rfl ?_; refine qp (qq L (q:=900) rfl rfl rfl rfl rfl qj) rfl rfl ?_; refine Z147 ?_; refine z8 (qg L _ rfl rfl rfl rfl rfl rfl rfl (by omega)) rfl ?_; refine qp (qq L (q:=900) rfl rfl rfl rfl rfl qi) rfl rfl ?_; refine z8 (qg L _ rfl rfl rfl rfl rfl rfl rfl (by omega)) rfl ?_; refine zag (yw L (q:=900) rfl rfl rfl rfl rfl rfl b1 rfl s1) rfl ?_; refine z8 (qg L _ rfl rfl rfl rfl rfl rfl rfl (by omega)) rfl ?_; refine zag (yw L (q:=900) rfl rfl rfl rfl rfl rfl b2 rfl s2) rfl ?_; refine Z301 ?_; refine Z161 ?_; refine Z20 ?_; refine Z139 ?_; refine Z179 ?_; refine Z25 ?_; refine Z243 ?_
  exact yi (x:=((i, j), E)) ((i + 1, j - 1), swp E i j) ⟨by dsimp only; omega, by dsimp only; omega, by dsimp only; rw [zbo]; exact hE, hO⟩ (by dsimp only; omega) ⟨rfl, rfl, rfl, rfl, trivial⟩
 ·rw [reverseLoop, if_neg hlt] at hO
  subst hO
  refine Z314 ?_; refine Z10 ?_; refine Z142 ?_; refine Z165 ?_
  exact zbb L 900 (r:=zab b _ tyU) rfl (fun _ _ h => h) Since.refl rfl rfl
set_option maxHeartbeats 1000000 in
set_option maxRecDepth 20000 in
theorem zqh {d:Array Int} {rest:List Value} {b m cap lo hi first:Nat} (hlo:lo ≤ hi) (hf:first + hi ≤ d.size) (hm:d.size = m) (hm1:m ≤ 100000) {w:World} {B:Heap} {C:Nat → Prop} (hB:B.Le (hp w))
  (hr:(zab b (uC d ++ rest) tyU).P B w C) (hC:∀ k, C k → k < w.heap.size ∧ B k = none) :
  zb8 Tryz.prog 148 [.slice (some ⟨b, 0, none⟩) m cap, .int .i64 lo, .int .i64 hi, .int .i64 first] w B C (zab b (uC (siftDown lt hi first lo d) ++ rest) tyU):=by
 unfold zb8
 refine zar 900 (zab b (uC d ++ rest) tyU) Tryz.func148 rfl Tryz.ntmps148 (Nat.le_of_ble_eq_true rfl) hB hr hC ?_
 rw [za2]
 refine Z146 ?_; refine Z1 ?_; refine Z203 ?_
 refine zak (fun s:Nat × Array Int => [(0, .is (.slice (some ⟨b, 0, none⟩) m cap)), (2, .is (.int .i64 hi)), (3, .is (.int .i64 first)), (8, .is (.int .i64 s.1)), (900, .own (zal b (uC s.2 ++ rest) tyU))]) (fun s => s.1 ≤ hi ∧ s.2.size = m ∧ siftDown lt hi first s.1 s.2 = siftDown lt hi first lo d) (fun s => hi - s.1) (lo, d) ⟨hlo, hm, rfl⟩ ⟨rfl, rfl, rfl, rfl, rfl, trivial⟩ ?_
 rintro ⟨r, E⟩ ⟨hr0, hE, hO⟩
 dsimp only at hr0 hE hO ⊢
 have hw1:IntKind.i64.wrap (2 * (r:Int)) = ((2 * r:Nat):Int):=zaa (by omega) (by omega) |>.trans (by omega)
 have hw2:IntKind.i64.wrap (((2 * r:Nat):Int) + 1) = ((2 * r + 1:Nat):Int):=zaa (by omega) (by omega)
 by_cases hend:hi ≤ 2 * r + 1
 ·rw [siftDown, dif_pos (by omega)] at hO
  subst hO
  refine Z332 ?_; refine Z227 ?_; refine Z148 ?_; refine Z238 ?_; refine Z259 ?_; refine Z163 ?_; refine zkr rfl ?_; refine y7 ?_; refine yt ?_
  exact zbb L 900 (r:=zab b _ tyU) rfl (fun _ _ h => h) Since.refl rfl rfl
 ·rw [siftDown, dif_neg (by omega)] at hO
  have hw3:IntKind.i64.wrap (((2 * r + 1:Nat):Int) + 1) = ((2 * r + 2:Nat):Int):=zaa (by omega) (by omega)
  have hw4:IntKind.i64.wrap ((first:Int) + ((2 * r + 1:Nat):Int)) = ((first + (2 * r + 1):Nat):Int):=zaa (by omega) (by omega)
  have hw5:IntKind.i64.wrap (((first + (2 * r + 1):Nat):Int) + 1) = ((first + (2 * r + 2):Nat):Int):=zaa (by omega) (by omega)
  have hw6:IntKind.i64.wrap ((first:Int) + (r:Int)) = ((first + r:Nat):Int):=zaa (by omega) (by omega)
  have hw7:IntKind.i64.wrap ((first:Int) + ((2 * r + 2:Nat):Int)) = ((first + (2 * r + 2):Nat):Int):=zaa (by omega) (by omega)
  obtain ⟨_, qr⟩:=zc2 (rest:=rest) (show first + r < E.size by omega) (0 + (first + r) * 1) rfl
  by_cases h2:2 * r + 2 < hi
  ·obtain ⟨_, q1⟩:=zc2 (rest:=rest) (show first + (2 * r + 1) < E.size by omega) (0 + (first + (2 * r + 1)) * 1) rfl
   obtain ⟨_, q2⟩:=zc2 (rest:=rest) (show first + (2 * r + 2) < E.size by omega) (0 + (first + (2 * r + 2)) * 1) rfl
   have e2:first + (2 * r + 1) + 1 = first + (2 * r + 2):=by omega
   rw [e2] at hO
   cases hc:lt E[first + (2 * r + 1)]! E[first + (2 * r + 2)]! with
   | true =>
    rw [if_pos (by rw [hc]; simp; omega)] at hO
    have qc:=q2
    cases hc2:lt E[first + r]! E[first + (2 * r + 2)]! with
    | false =>
     rw [hc2] at hO
     simp only [Bool.not_false, if_true] at hO
     subst hO
     refine Z332 ?_; refine Z227 ?_; refine Z148 ?_; refine Z238 ?_; refine Z47 ?_; refine Z168 ?_; refine Z130 ?_; refine Z3 ?_; refine Z33 ?_; refine Z3 ?_; refine Z73 ?_; refine Z310 ?_; refine Z33 ?_; refine z8 (qg L _ rfl rfl rfl rfl rfl rfl rfl (by omega)) rfl ?_; refine qp (qq L (q:=900) rfl rfl rfl rfl rfl q1) rfl rfl ?_; refine Z209 ?_; refine Z33 ?_; refine z8 (qg L _ rfl rfl rfl rfl rfl rfl rfl (by omega)) rfl ?_; refine qp (qq L (q:=900) rfl rfl rfl rfl rfl q2) rfl rfl ?_; refine z8 (zo L rfl rfl (zk rfl) rfl rfl rfl (fun u H hH _ _ => zbc hc hH)) rfl ?_; refine Z261 ?_; refine Z161 ?_; refine Z20 ?_; refine Z148 ?_; refine Z113 ?_; refine Z209 ?_; refine z8 (qg L _ rfl rfl rfl rfl rfl rfl rfl (by omega)) rfl ?_; refine qp (qq L (q:=900) rfl rfl rfl rfl rfl qr) rfl rfl ?_; refine Z209 ?_; refine z8 (qg L _ rfl rfl rfl rfl rfl rfl rfl (by omega)) rfl ?_; refine qp (qq L (q:=900) rfl rfl rfl rfl rfl qc) rfl rfl ?_; refine z8 (zo L rfl rfl (zk rfl) rfl rfl rfl (fun u H hH _ _ => zbc hc2 hH)) rfl ?_; refine Z63 ?_; refine Z210 ?_
     exact zbi L 900 (r:=zab b _ tyU) rfl (fun _ _ h => h) Since.refl rfl rfl
    | true =>
     rw [hc2] at hO
     simp only [Bool.not_true, Bool.false_eq_true, if_false] at hO
     rw [dif_pos (by omega)] at hO
     obtain ⟨_, qj⟩:=zc2 (rest:=rest) (show first + (2 * r + 2) < E.size by omega) (0 + (first + (2 * r + 2)) * 1) rfl
     obtain ⟨_, qi⟩:=zc2 (rest:=rest) (show first + r < E.size by omega) (0 + (first + r) * 1) rfl
     have s1:=zca (rest:=rest) E[first + (2 * r + 2)]! (show first + r < E.size by omega) (0 + (first + r) * 1) rfl
     have b1:=zcb (rest:=rest) (show first + r < E.size by omega) (0 + (first + r) * 1) rfl
     have hz:first + (2 * r + 2) < (E.setIfInBounds (first + r) E[first + (2 * r + 2)]!).size:=by rw [Array.size_setIfInBounds]; omega
     have s2:=zca (rest:=rest) E[first + r]! hz (0 + (first + (2 * r + 2)) * 1) rfl
     have b2:=zcb (rest:=rest) hz (0 + (first + (2 * r + 2)) * 1) rfl
     rw [zc6] at s2
     refine Z332 ?_; refine Z227 ?_; refine Z148 ?_; refine Z238 ?_; refine Z47 ?_; refine Z168 ?_; refine Z130 ?_; refine Z3 ?_; refine Z33 ?_; refine Z3 ?_; refine Z73 ?_; refine Z310 ?_; refine Z33 ?_; refine z8 (qg L _ rfl rfl rfl rfl rfl rfl rfl (by omega)) rfl ?_; refine qp (qq L (q:=900) rfl rfl rfl rfl rfl q1) rfl rfl ?_; refine Z209 ?_; refine Z33 ?_; refine z8 (qg L _ rfl rfl rfl rfl rfl rfl rfl (by omega)) rfl ?_; refine qp (qq L (q:=900) rfl rfl rfl rfl rfl q2) rfl rfl ?_; refine z8 (zo L rfl rfl (zk rfl) rfl rfl rfl (fun u H hH _ _ => zbc hc hH)) rfl ?_; refine Z261 ?_; refine Z161 ?_; refine Z20 ?_; refine Z148 ?_; refine Z113 ?_; refine Z209 ?_; refine z8 (qg L _ rfl rfl rfl rfl rfl rfl rfl (by omega)) rfl ?_; refine qp (qq L (q:=900) rfl rfl rfl rfl rfl qr) rfl rfl ?_; refine Z209 ?_; refine z8 (qg L _ rfl rfl rfl rfl rfl rfl rfl (by omega)) rfl ?_; refine qp (qq L (q:=900) rfl rfl rfl rfl rfl qc) rfl rfl ?_; refine z8 (zo L rfl rfl (zk rfl) rfl rfl rfl (fun u H hH _ _ => zbc hc2 hH)) rfl ?_; refine Z63 ?_; refine Z178 ?_; refine Z149 ?_; refine Z124 ?_; refine Z209 ?_; refine Z209 ?_; refine Z209 ?_; refine z8 (qg L _ rfl rfl rfl rfl rfl rfl rfl (by omega)) rfl ?_; refine qp (qq L (q:=900) rfl rfl rfl rfl rfl qj) rfl rfl ?_; refine Z209 ?_; refine z8 (qg L _ rfl rfl rfl rfl rfl rfl rfl (by omega)) rfl ?_; refine qp (qq L (q:=900) rfl rfl rfl rfl rfl qi) rfl rfl ?_; refine z8 (qg L _ rfl rfl rfl rfl rfl rfl rfl (by omega)) rfl ?_; refine zag (yw L (q:=900) rfl rfl rfl rfl rfl rfl b1 rfl s1) rfl ?_; refine z8 (qg L _ rfl rfl rfl rfl rfl rfl rfl (by omega)) rfl ?_; refine zag (yw L (q:=900) rfl rfl rfl rfl rfl rfl b2 rfl s2) rfl ?_; refine Z150 ?_; refine Z196 ?_; refine Z243 ?_
     exact yi (x:=(r, E)) (2 * r + 2, swp E (first + r) (first + (2 * r + 2))) ⟨by dsimp only; omega, by dsimp only; rw [zbo]; exact hE, hO⟩ (by dsimp only; omega) ⟨rfl, rfl, rfl, rfl, rfl, trivial⟩
   | false =>
    rw [if_neg (by rw [hc]; simp)] at hO
    have qc:=q1
    cases hc2:lt E[first + r]! E[first + (2 * r + 1)]! with
    | false =>
     rw [hc2] at hO
     simp only [Bool.not_false, if_true] at hO
     subst hO
     refine Z332 ?_; refine Z227 ?_; refine Z148 ?_; refine Z238 ?_; refine Z47 ?_; refine Z168 ?_; refine Z130 ?_; refine Z3 ?_; refine Z33 ?_; refine Z3 ?_; refine Z73 ?_; refine Z310 ?_; refine Z33 ?_; refine z8 (qg L _ rfl rfl rfl rfl rfl rfl rfl (by omega)) rfl ?_; refine qp (qq L (q:=900) rfl rfl rfl rfl rfl q1) rfl rfl ?_; refine Z209 ?_; refine Z33 ?_; refine z8 (qg L _ rfl rfl rfl rfl rfl rfl rfl (by omega)) rfl ?_; refine qp (qq L (q:=900) rfl rfl rfl rfl rfl q2) rfl rfl ?_; refine z8 (zo L rfl rfl (zk rfl) rfl rfl rfl (fun u H hH _ _ => zbc hc hH)) rfl ?_; refine Z205 ?_; refine Z166 ?_; refine Z113 ?_; refine Z209 ?_; refine z8 (qg L _ rfl rfl rfl rfl rfl rfl rfl (by omega)) rfl ?_; refine qp (qq L (q:=900) rfl rfl rfl rfl rfl qr) rfl rfl ?_; refine Z209 ?_; refine z8 (qg L _ rfl rfl rfl rfl rfl rfl rfl (by omega)) rfl ?_; refine qp (qq L (q:=900) rfl rfl rfl rfl rfl qc) rfl rfl ?_; refine z8 (zo L rfl rfl (zk rfl) rfl rfl rfl (fun u H hH _ _ => zbc hc2 hH)) rfl ?_; refine Z63 ?_; refine Z210 ?_
     exact zbi L 900 (r:=zab b _ tyU) rfl (fun _ _ h => h) Since.refl rfl rfl
    | true =>
     rw [hc2] at hO
     simp only [Bool.not_true, Bool.false_eq_true, if_false] at hO
     obtain ⟨_, qj⟩:=zc2 (rest:=rest) (show first + (2 * r + 1) < E.size by omega) (0 + (first + (2 * r + 1)) * 1) rfl
     obtain ⟨_, qi⟩:=zc2 (rest:=rest) (show first + r < E.size by omega) (0 + (first + r) * 1) rfl
     have s1:=zca (rest:=rest) E[first + (2 * r + 1)]! (show first + r < E.size by omega) (0 + (first + r) * 1) rfl
     have b1:=zcb (rest:=rest) (show first + r < E.size by omega) (0 + (first + r) * 1) rfl
     have hz:first + (2 * r + 1) < (E.setIfInBounds (first + r) E[first + (2 * r + 1)]!).size:=by rw [Array.size_setIfInBounds]; omega
     have s2:=zca (rest:=rest) E[first + r]! hz (0 + (first + (2 * r + 1)) * 1) rfl
     have b2:=zcb (rest:=rest) hz (0 + (first + (2 * r + 1)) * 1) rfl
     rw [zc6] at s2
     refine Z332 ?_; refine Z227 ?_; refine Z148 ?_; refine Z238 ?_; refine Z47 ?_; refine Z168 ?_; refine Z130 ?_; refine Z3 ?_; refine Z33 ?_; refine Z3 ?_; refine Z73 ?_; refine Z310 ?_; refine Z33 ?_; refine z8 (qg L _ rfl rfl rfl rfl rfl rfl rfl (by omega)) rfl ?_; refine qp (qq L (q:=900) rfl rfl rfl rfl rfl q1) rfl rfl ?_; refine Z209 ?_; refine Z33 ?_; refine z8 (qg L _ rfl rfl rfl rfl rfl rfl rfl (by omega)) rfl ?_; refine qp (qq L (q:=900) rfl rfl rfl rfl rfl q2) rfl rfl ?_; refine z8 (zo L rfl rfl (zk rfl) rfl rfl rfl (fun u H hH _ _ => zbc hc hH)) rfl ?_; refine Z205 ?_; refine Z166 ?_; refine Z113 ?_; refine Z209 ?_; refine z8 (qg L _ rfl rfl rfl rfl rfl rfl rfl (by omega)) rfl ?_; refine qp (qq L (q:=900) rfl rfl rfl rfl rfl qr) rfl rfl ?_; refine Z209 ?_; refine z8 (qg L _ rfl rfl rfl rfl rfl rfl rfl (by omega)) rfl ?_; refine qp (qq L (q:=900) rfl rfl rfl rfl rfl qc) rfl rfl ?_; refine z8 (zo L rfl rfl (zk rfl) rfl rfl rfl (fun u H hH _ _ => zbc hc2 hH)) rfl ?_; refine Z63 ?_; refine Z178 ?_; refine Z149 ?_; refine Z124 ?_; refine Z209 ?_; refine Z209 ?_; refine Z209 ?_; refine z8 (qg L _ rfl rfl rfl rfl rfl rfl rfl (by omega)) rfl ?_; refine qp (qq L (q:=900) rfl rfl rfl rfl rfl qj) rfl rfl ?_; refine Z209 ?_; refine z8 (qg L _ rfl rfl rfl rfl rfl rfl rfl (by omega)) rfl ?_; refine qp (qq L (q:=900) rfl rfl rfl rfl rfl qi) rfl rfl ?_; refine z8 (qg L _ rfl rfl rfl rfl rfl rfl rfl (by omega)) rfl ?_; refine zag (yw L (q:=900) rfl rfl rfl rfl rfl rfl b1 rfl s1) rfl ?_; refine z8 (qg L _ rfl rfl rfl rfl rfl rfl rfl (by omega)) rfl ?_; refine zag (yw L (q:=900) rfl rfl rfl rfl rfl rfl b2 rfl s2) rfl ?_; refine Z150 ?_; refine Z196 ?_; refine Z243 ?_
     exact yi (x:=(r, E)) (2 * r + 1, swp E (first + r) (first + (2 * r + 1))) ⟨by dsimp only; omega, by dsimp only; rw [zbo]; exact hE, hO⟩ (by dsimp only; omega) ⟨rfl, rfl, rfl, rfl, rfl, trivial⟩
  ·rw [if_neg (by simp; omega)] at hO
   obtain ⟨_, qc⟩:=zc2 (rest:=rest) (show first + (2 * r + 1) < E.size by omega) (0 + (first + (2 * r + 1)) * 1) rfl
   cases hc2:lt E[first + r]! E[first + (2 * r + 1)]! with
   | false =>
    rw [hc2] at hO
    simp only [Bool.not_false, if_true] at hO
    subst hO
    refine Z332 ?_; refine Z227 ?_; refine Z148 ?_; refine Z238 ?_; refine Z47 ?_; refine Z168 ?_; refine Z85 ?_; refine Z3 ?_; refine Z33 ?_; refine Z3 ?_; refine Z88 ?_; refine Z246 ?_; refine Z189 ?_; refine Z153 ?_; refine Z205 ?_; refine Z166 ?_; refine Z113 ?_; refine Z209 ?_; refine z8 (qg L _ rfl rfl rfl rfl rfl rfl rfl (by omega)) rfl ?_; refine qp (qq L (q:=900) rfl rfl rfl rfl rfl qr) rfl rfl ?_; refine Z209 ?_; refine z8 (qg L _ rfl rfl rfl rfl rfl rfl rfl (by omega)) rfl ?_; refine qp (qq L (q:=900) rfl rfl rfl rfl rfl qc) rfl rfl ?_; refine z8 (zo L rfl rfl (zk rfl) rfl rfl rfl (fun u H hH _ _ => zbc hc2 hH)) rfl ?_; refine Z63 ?_; refine Z210 ?_
    exact zbi L 900 (r:=zab b _ tyU) rfl (fun _ _ h => h) Since.refl rfl rfl
   | true =>
    rw [hc2] at hO
    simp only [Bool.not_true, Bool.false_eq_true, if_false] at hO
    obtain ⟨_, qj⟩:=zc2 (rest:=rest) (show first + (2 * r + 1) < E.size by omega) (0 + (first + (2 * r + 1)) * 1) rfl
    obtain ⟨_, qi⟩:=zc2 (rest:=rest) (show first + r < E.size by omega) (0 + (first + r) * 1) rfl
    have s1:=zca (rest:=rest) E[first + (2 * r + 1)]! (show first + r < E.size by omega) (0 + (first + r) * 1) rfl
    have b1:=zcb (rest:=rest) (show first + r < E.size by omega) (0 + (first + r) * 1) rfl
    have hz:first + (2 * r + 1) < (E.setIfInBounds (first + r) E[first + (2 * r + 1)]!).size:=by rw [Array.size_setIfInBounds]; omega
    have s2:=zca (rest:=rest) E[first + r]! hz (0 + (first + (2 * r + 1)) * 1) rfl
    have b2:=zcb (rest:=rest) hz (0 + (first + (2 * r + 1)) * 1) rfl
    rw [zc6] at s2
    refine Z332 ?_; refine Z227 ?_; refine Z148 ?_; refine Z238 ?_; refine Z47 ?_; refine Z168 ?_; refine Z85 ?_; refine Z3 ?_; refine Z33 ?_; refine Z3 ?_; refine Z88 ?_; refine Z246 ?_; refine Z189 ?_; refine Z153 ?_; refine Z205 ?_; refine Z166 ?_; refine Z113 ?_; refine Z209 ?_; refine z8 (qg L _ rfl rfl rfl rfl rfl rfl rfl (by omega)) rfl ?_; refine qp (qq L (q:=900) rfl rfl rfl rfl rfl qr) rfl rfl ?_; refine Z209 ?_; refine z8 (qg L _ rfl rfl rfl rfl rfl rfl rfl (by omega)) rfl ?_; refine qp (qq L (q:=900) rfl rfl rfl rfl rfl qc) rfl rfl ?_; refine z8 (zo L rfl rfl (zk rfl) rfl rfl rfl (fun u H hH _ _ => zbc hc2 hH)) rfl ?_; refine Z63 ?_; refine Z178 ?_; refine Z149 ?_; refine Z124 ?_; refine Z209 ?_; refine Z209 ?_; refine Z209 ?_; refine z8 (qg L _ rfl rfl rfl rfl rfl rfl rfl (by omega)) rfl ?_; refine qp (qq L (q:=900) rfl rfl rfl rfl rfl qj) rfl rfl ?_; refine Z209 ?_; refine z8 (qg L _ rfl rfl rfl rfl rfl rfl rfl (by omega)) rfl ?_; refine qp (qq L (q:=900) rfl rfl rfl rfl rfl qi) rfl rfl ?_; refine z8 (qg L _ rfl rfl rfl rfl rfl rfl rfl (by omega)) rfl ?_; refine zag (yw L (q:=900) rfl rfl rfl rfl rfl rfl b1 rfl s1) rfl ?_; refine z8 (qg L _ rfl rfl rfl rfl rfl rfl rfl (by omega)) rfl ?_; refine zag (yw L (q:=900) rfl rfl rfl rfl rfl rfl b2 rfl s2) rfl ?_; refine Z150 ?_; refine Z196 ?_; refine Z243 ?_
    exact yi (x:=(r, E)) (2 * r + 1, swp E (first + r) (first + (2 * r + 1))) ⟨by dsimp only; omega, by dsimp only; rw [zbo]; exact hE, hO⟩ (by dsimp only; omega) ⟨rfl, rfl, rfl, rfl, rfl, trivial⟩
theorem znm (hi first:Nat):∀ (n root:Nat) (d:Array Int), hi - root ≤ n → (siftDown lt hi first root d).size = d.size:=by
 intro n
 induction n with
 | zero =>
  intro root d h
  rw [siftDown, dif_pos (by omega)]
 | succ n ih =>
  intro root d h
  rw [siftDown]
  split
  ·rfl
  ·split
   ·split
    ·rfl
    ·split
     ·rw [ih _ _ (by omega), zbo]
     ·rfl
   ·split
    ·rfl
    ·rw [ih _ _ (by omega), zbo]
set_option maxHeartbeats 1000000 in
set_option maxRecDepth 20000 in
theorem zxt {d:Array Int} {rest:List Value} {b m cap a e:Nat} (hab:a < e) (he:e ≤ d.size) (hm:d.size = m) (hm1:m ≤ 100000) {w:World} {B:Heap} {C:Nat → Prop} (hB:B.Le (hp w))
  (hr:(zab b (uC d ++ rest) tyU).P B w C) (hC:∀ k, C k → k < w.heap.size ∧ B k = none) :
  zb8 Tryz.prog 102 [.slice (some ⟨b, 0, none⟩) m cap, .int .i64 a, .int .i64 e] w B C (zab b (uC (heapSort lt d a e) ++ rest) tyU):=by
 unfold zb8
 refine zar 900 (zab b (uC d ++ rest) tyU) Tryz.func102 rfl Tryz.ntmps102 (Nat.le_of_ble_eq_true rfl) hB hr hC ?_
 rw [za2]
 have hw0:IntKind.i64.wrap ((e:Int) - (a:Int)) = ((e - a:Nat):Int):=zaa (by omega) (by omega) |>.trans (by omega)
 have hw1:IntKind.i64.wrap (((e - a:Nat):Int) - 1) = ((e - a - 1:Nat):Int):=zaa (by omega) (by omega) |>.trans (by omega)
 have et:((e - a - 1:Nat):Int).tdiv 2 = (((e - a - 1) / 2 + 1:Nat):Int) - 1:=by
  rw [Int.tdiv_eq_ediv_of_nonneg (by omega)]
  omega
 have hw2:IntKind.i64.wrap (((e - a - 1:Nat):Int).tdiv 2) = (((e - a - 1) / 2 + 1:Nat):Int) - 1:=by rw [et]; exact zaa (by omega) (by omega)
 refine Z146 ?_; refine Z1 ?_; refine Z160 ?_; refine Z144 ?_; refine Z29 ?_; refine Z212 ?_; refine Z333 ?_; refine Z25 ?_; refine Z50 ?_; refine Z203 ?_
 refine zak (fun s:Nat × Array Int => [(0, .is (.slice (some ⟨b, 0, none⟩) m cap)), (6, .is (.int .i64 a)), (7, .is (.int .i64 0)), (8, .is (.int .i64 (e - a:Nat))), (9, .is (.int .i64 ((s.1:Int) - 1))), (900, .own (zal b (uC s.2 ++ rest) tyU))]) (fun s => s.1 ≤ (e - a - 1) / 2 + 1 ∧ s.2.size = m ∧ heapBuild lt (e - a) a s.1 s.2 = heapBuild lt (e - a) a ((e - a - 1) / 2 + 1) d) (fun s => s.1) ((e - a - 1) / 2 + 1, d) ⟨Nat.le_refl _, hm, rfl⟩ ⟨rfl, rfl, rfl, rfl, rfl, rfl, trivial⟩ ?_
 rintro ⟨k, E⟩ ⟨hk, hE, hO⟩
 dsimp only at hk hE hO ⊢
 rcases k with _ | k
 ·have e9:(((0:Nat):Int) - 1) = -1:=rfl
  rw [e9]
  refine Z216 ?_; refine Z47 ?_; refine Z183 ?_; refine zh ?_
  rw [heapBuild] at hO
  have e10:((e - a - 1:Nat):Int) = ((e - a:Nat):Int) - 1:=by omega
  rw [e10] at hw1
  refine Z196 ?_; refine Z25 ?_; refine Z203 ?_
  refine zak (fun s:Nat × Array Int => [(0, .is (.slice (some ⟨b, 0, none⟩) m cap)), (6, .is (.int .i64 a)), (7, .is (.int .i64 0)), (10, .is (.int .i64 ((s.1:Int) - 1))), (900, .own (zal b (uC s.2 ++ rest) tyU))]) (fun s => s.1 ≤ e - a ∧ s.2.size = m ∧ heapPop lt a s.1 s.2 = heapPop lt a (e - a) E) (fun s => s.1) (e - a, E) ⟨Nat.le_refl _, hE, rfl⟩ ⟨rfl, rfl, rfl, rfl, rfl, trivial⟩ ?_
  rintro ⟨j, G⟩ ⟨hj, hG, hP⟩
  dsimp only at hj hG hP ⊢
  rcases j with _ | j
  ·rw [e9]
   rw [heapPop] at hP
   have:G = heapSort lt d a e:=by unfold heapSort; rw [← hO, hP]
   subst this
   refine Z321 ?_; refine Z47 ?_; refine Z142 ?_; refine Z165 ?_
   exact zbb L 900 (r:=zab b _ tyU) rfl (fun _ _ h => h) Since.refl rfl rfl
  ·have e8:(((j + 1:Nat):Int) - 1) = (j:Int):=by omega
   rw [heapPop] at hP
   rw [e8]
   have hw3:IntKind.i64.wrap ((a:Int) + (j:Int)) = ((a + j:Nat):Int):=zaa (by omega) (by omega)
   have hw4:IntKind.i64.wrap ((j:Int) - 1) = (j:Int) - 1:=zaa (by omega) (by omega)
   have hsz:=zbo G a (a + j)
   have hss:=znm j a j 0 (swp G a (a + j)) (by omega)
   obtain ⟨_, qj⟩:=zc2 (rest:=rest) (show a + j < G.size by omega) (0 + (a + j) * 1) rfl
   obtain ⟨_, qi⟩:=zc2 (rest:=rest) (show a < G.size by omega) (0 + (a) * 1) rfl
   have s1:=zca (rest:=rest) G[a + j]! (show a < G.size by omega) (0 + (a) * 1) rfl
   have b1:=zcb (rest:=rest) (show a < G.size by omega) (0 + (a) * 1) rfl
   have hz:a + j < (G.setIfInBounds (a) G[a + j]!).size:=by rw [Array.size_setIfInBounds]; omega
   have s2:=zca (rest:=rest) G[a]! hz (0 + (a + j) * 1) rfl
   have b2:=zcb (rest:=rest) hz (0 + (a + j) * 1) rfl
   rw [zc6] at s2
   refine Z321 ?_; refine Z259 ?_; refine Z170 ?_; refine qf (id:=10) [(200044, [900]), (200048, [900]), (100049, [900]), (100050, [900])] mixed (by kernel_rfl) ?_; refine Z147 ?_; refine Z209 ?_; refine Z209 ?_; refine z8 (qg L _ rfl rfl rfl rfl rfl rfl rfl (by omega)) rfl ?_; refine qp (qq L (q:=900) rfl rfl rfl rfl rfl qj) rfl rfl ?_; refine Z147 ?_; refine z8 (qg L _ rfl rfl rfl rfl rfl rfl rfl (by omega)) rfl ?_; refine qp (qq L (q:=900) rfl rfl rfl rfl rfl qi) rfl rfl ?_; refine z8 (qg L _ rfl rfl rfl rfl rfl rfl rfl (by omega)) rfl ?_; refine zag (yw L (q:=900) rfl rfl rfl rfl rfl rfl b1 rfl s1) rfl ?_; refine z8 (qg L _ rfl rfl rfl rfl rfl rfl rfl (by omega)) rfl ?_; refine zag (yw L (q:=900) rfl rfl rfl rfl rfl rfl b2 rfl s2) rfl ?_; refine Z150 ?_; refine Z65 ?_; refine Z232 ?_; refine qn (za1 L 900 (zab b (uC (siftDown lt j a 0 (swp G a (a + j))) ++ rest) tyU) (r:=zab b (uC (swp G a (a + j)) ++ rest) tyU) rfl rfl rfl rfl rfl (fun u H C hH _ hr hC => zqh (Nat.zero_le _) (by omega) (by omega) hm1 hH hr hC)) ?_; refine Z237 ?_; refine Z60 ?_; refine Z231 ?_; refine Z156 ?_
   exact yi (x:=(j + 1, G)) (j, siftDown lt j a 0 (swp G a (a + j))) ⟨by dsimp only; omega, by dsimp only; omega, hP⟩ (by dsimp only; omega) ⟨rfl, rfl, rfl, rfl, rfl, trivial⟩
 ·have e8:(((k + 1:Nat):Int) - 1) = (k:Int):=by omega
  rw [heapBuild] at hO
  rw [e8]
  have hw4:IntKind.i64.wrap ((k:Int) - 1) = (k:Int) - 1:=zaa (by omega) (by omega)
  have hss:=znm (e - a) a (e - a) k E (by omega)
  refine Z216 ?_; refine Z259 ?_; refine Z236 ?_; refine Z43 ?_; refine Z232 ?_; refine qn (za1 L 900 (zab b (uC (siftDown lt (e - a) a k E) ++ rest) tyU) (r:=zab b (uC E ++ rest) tyU) rfl rfl rfl rfl rfl (fun u H C hH _ hr hC => zqh (by omega) (by omega) (by omega) hm1 hH hr hC)) ?_; refine Z237 ?_; refine Z179 ?_; refine Z25 ?_; refine Z156 ?_
  exact yi (x:=(k + 1, E)) (k, siftDown lt (e - a) a k E) ⟨by dsimp only; omega, by dsimp only; omega, hO⟩ (by dsimp only; omega) ⟨rfl, rfl, rfl, rfl, rfl, rfl, trivial⟩
end Go.V.So
set_option maxRecDepth 20000
namespace Go.V.So
open Go.Proofs Go.RowKit Go.V Go.Sort
theorem _root_.Go.V.Z131 {A B:Prop} (h:B) (t:Wr B → A:=by intro h; refine qf (id:=5) [(200053, [900]), (200057, [900])] mixed (by kernel_rfl) ?_; exact h.h):A:=t ⟨h⟩
theorem _root_.Go.V.Z217 {A B:Prop} (h:B) (t:Wr B → A:=by intro h; refine Z20 ?_; refine Z156 ?_; exact h.h):A:=t ⟨h⟩
theorem _root_.Go.V.Z361 {A B:Prop} (h:B) (t:Wr B → A:=by intro h; refine Z147 ?_; refine Z79 ?_; exact h.h):A:=t ⟨h⟩
theorem _root_.Go.V.Z362 {A B:Prop} (h:B) (t:Wr B → A:=by intro h; refine Z361 ?_; refine Z180 ?_; exact h.h):A:=t ⟨h⟩
theorem _root_.Go.V.Z363 {A B:Prop} (h:B) (t:Wr B → A:=by intro h; refine Z161 ?_; refine Z217 ?_; exact h.h):A:=t ⟨h⟩
attribute [local irreducible] V N X VO Par StepOK Has Ret RetL RetO zb8 zdn Src
theorem zc8 {p:Int → Bool} {d:Array Int} {j i:Nat} (h:¬ (i ≤ j ∧ p d[i]! = true)):scanUp p d j i = i:=by
 rw [scanUp, if_neg]
 simpa using h
theorem zjm {p:Int → Bool} {d:Array Int} {j i:Nat} (h1:i ≤ j) (h2:p d[i]! = true):scanUp p d j i = scanUp p d j (i + 1):=by
 rw [scanUp, if_pos (by simp [h1, h2])]
theorem zcm {p:Int → Bool} {d:Array Int} {i j:Nat} (h:¬ (i ≤ j ∧ p d[j]! = true)):scanDown p d i j = j:=by
 cases j with
 | zero => rfl
 | succ j => rw [scanDown, if_neg]; simpa using h
theorem zgn {p:Int → Bool} {d:Array Int} {i j:Nat} (h1:i ≤ j + 1) (h2:p d[j + 1]! = true):scanDown p d i (j + 1) = scanDown p d i j:=by
 rw [scanDown, if_pos (by simp [h1, h2])]
set_option maxHeartbeats 2000000 in
set_option maxRecDepth 20000 in
theorem zef {d:Array Int} {rest:List Value} {b m cap a e p:Nat} (hap:a ≤ p) (hpe:p < e) (he:e ≤ d.size) (hm:d.size = m) (hm1:m ≤ 100000) {w:World} {B:Heap} {C:Nat → Prop} (hB:B.Le (hp w))
  (hr:(zab b (uC d ++ rest) tyU).P B w C) (hC:∀ k, C k → k < w.heap.size ∧ B k = none) :
  zdn Tryz.prog 109 [.slice (some ⟨b, 0, none⟩) m cap, .int .i64 a, .int .i64 e, .int .i64 p] w B C (zab b (uC (Go.Sort.partition lt d a e p).2.2 ++ rest) tyU) (.tuple #[.int .i64 (Go.Sort.partition lt d a e p).1, .bool (Go.Sort.partition lt d a e p).2.1]):=by
 unfold zdn
 refine zar 900 (zab b (uC d ++ rest) tyU) Tryz.func109 rfl Tryz.ntmps109 (Nat.le_of_ble_eq_true rfl) hB hr hC ?_
 rw [za2]
 obtain ⟨_, qj⟩:=zc2 (rest:=rest) (show p < d.size by omega) (0 + (p) * 1) rfl
 obtain ⟨_, qi⟩:=zc2 (rest:=rest) (show a < d.size by omega) (0 + (a) * 1) rfl
 have s1:=zca (rest:=rest) d[p]! (show a < d.size by omega) (0 + (a) * 1) rfl
 have b1:=zcb (rest:=rest) (show a < d.size by omega) (0 + (a) * 1) rfl
 have hz:p < (d.setIfInBounds (a) d[p]!).size:=by rw [Array.size_setIfInBounds]; omega
 have s2:=zca (rest:=rest) d[a]! hz (0 + (p) * 1) rfl
 have b2:=zcb (rest:=rest) hz (0 + (p) * 1) rfl
 rw [zc6] at s2
 have hw1:IntKind.i64.wrap ((a:Int) + 1) = ((a + 1:Nat):Int):=zaa (by omega) (by omega)
 obtain ⟨e1, rfl⟩:∃ e1, e = e1 + 1:=⟨e - 1, by omega⟩
 have hw2:IntKind.i64.wrap (((e1 + 1:Nat):Int) - 1) = (e1:Int):=zaa (by omega) (by omega) |>.trans (by omega)
 obtain ⟨R, hR⟩:∃ R, R = Go.Sort.partition lt d a (e1 + 1) p:=⟨_, rfl⟩
 rw [← hR]
 have hR':=hR
 unfold Go.Sort.partition at hR'
 have hDs:=zbo d a p
 refine Z146 ?_; refine Z195 ?_; refine qf (id:=1) [(200019, [900]), (200023, [900]), (100024, [900]), (100025, [900])] mixed (by kernel_rfl) ?_; refine Z310 ?_; refine Z147 ?_; refine z8 (qg L _ rfl rfl rfl rfl rfl rfl rfl (by omega)) rfl ?_; refine qp (qq L (q:=900) rfl rfl rfl rfl rfl qj) rfl rfl ?_; refine Z147 ?_; refine z8 (qg L _ rfl rfl rfl rfl rfl rfl rfl (by omega)) rfl ?_; refine qp (qq L (q:=900) rfl rfl rfl rfl rfl qi) rfl rfl ?_; refine z8 (qg L _ rfl rfl rfl rfl rfl rfl rfl (by omega)) rfl ?_; refine zag (yw L (q:=900) rfl rfl rfl rfl rfl rfl b1 rfl s1) rfl ?_; refine z8 (qg L _ rfl rfl rfl rfl rfl rfl rfl (by omega)) rfl ?_; refine zag (yw L (q:=900) rfl rfl rfl rfl rfl rfl b2 rfl s2) rfl ?_; refine Z301 ?_; refine Z175 ?_; refine Z20 ?_; refine Z231 ?_; refine Z195 ?_; refine qk ?_
 generalize swp d a p = D at *
 rw [Nat.add_sub_cancel] at hR'
 dsimp only at hR'
 refine zhf (zdq (fun i:Nat => [(0, .is (.slice (some ⟨b, 0, none⟩) m cap)), (1, .is (.int .i64 a)), (10, .is (.int .i64 i)), (11, .is (.int .i64 e1)), (900, .own (zal b (uC D ++ rest) tyU))]) (fun i => (a + 1) ≤ i ∧ i ≤ max (a + 1) (e1 + 1) ∧ i = scanUp (fun x => lt x D[a]!) D e1 (a + 1)) (fun _ => []) ?_) ?_
 rotate_left
 ·refine zak (fun i:Nat => [(0, .is (.slice (some ⟨b, 0, none⟩) m cap)), (1, .is (.int .i64 a)), (10, .is (.int .i64 i)), (11, .is (.int .i64 e1)), (900, .own (zal b (uC D ++ rest) tyU))]) (fun i => (a + 1) ≤ i ∧ i ≤ max (a + 1) (e1 + 1) ∧ scanUp (fun x => lt x D[a]!) D e1 i = scanUp (fun x => lt x D[a]!) D e1 (a + 1)) (fun i => e1 + 1 - i) (a + 1) ⟨Nat.le_refl _, by omega, rfl⟩ ⟨rfl, rfl, rfl, rfl, rfl, trivial⟩ ?_
  rintro i ⟨hi1, hi2, hi3⟩
  by_cases hle:i ≤ e1
  ·obtain ⟨_, qx⟩:=zc2 (rest:=rest) (show i < D.size by omega) (0 + (i) * 1) rfl
   obtain ⟨_, qa⟩:=zc2 (rest:=rest) (show a < D.size by omega) (0 + (a) * 1) rfl
   cases hc:lt D[i]! D[a]! with
   | true =>
    have hw:IntKind.i64.wrap ((i:Int) + 1) = ((i + 1:Nat):Int):=zaa (by omega) (by omega)
    refine Z140 ?_; refine qf (id:=3) [(200037, [900]), (200041, [900])] mixed (by kernel_rfl) ?_; refine Z362 ?_; refine z8 (qg L _ rfl rfl rfl rfl rfl rfl rfl (by omega)) rfl ?_; refine qp (qq L (q:=900) rfl rfl rfl rfl rfl qx) rfl rfl ?_; refine Z147 ?_; refine z8 (qg L _ rfl rfl rfl rfl rfl rfl rfl (by omega)) rfl ?_; refine qp (qq L (q:=900) rfl rfl rfl rfl rfl qa) rfl rfl ?_; refine z8 (zo L rfl rfl (zk rfl) rfl rfl rfl (fun u H hH _ _ => zbc hc hH)) rfl ?_; refine Z261 ?_; refine Z143 ?_; refine qk ?_; refine Z363 ?_; refine y9 ?_
    exact yi (x:=i) (i + 1) ⟨by omega, by omega, by rw [← hi3]; exact (zjm hle (by simp [hc])).symm⟩ (by omega) ⟨rfl, rfl, rfl, rfl, rfl, trivial⟩
   | false =>
    refine Z140 ?_; refine qf (id:=3) [(200037, [900]), (200041, [900])] mixed (by kernel_rfl) ?_; refine Z362 ?_; refine z8 (qg L _ rfl rfl rfl rfl rfl rfl rfl (by omega)) rfl ?_; refine qp (qq L (q:=900) rfl rfl rfl rfl rfl qx) rfl rfl ?_; refine Z147 ?_; refine z8 (qg L _ rfl rfl rfl rfl rfl rfl rfl (by omega)) rfl ?_; refine qp (qq L (q:=900) rfl rfl rfl rfl rfl qa) rfl rfl ?_; refine z8 (zo L rfl rfl (zk rfl) rfl rfl rfl (fun u H hH _ _ => zbc hc hH)) rfl ?_; refine Z274 ?_
    exact za6 i Since.refl ⟨hi1, hi2, by rw [← hi3]; exact (zc8 (by rintro ⟨_, h⟩; simp [hc] at h)).symm⟩ rfl ⟨rfl, rfl, rfl, rfl, rfl, trivial⟩
  ·refine Z140 ?_; refine Z85 ?_; refine Z147 ?_; refine Z106 ?_; refine Z246 ?_; refine Z5 ?_; refine Z274 ?_
   exact za6 i Since.refl ⟨hi1, hi2, by rw [← hi3]; exact (zc8 (by rintro ⟨h, _⟩; exact hle h)).symm⟩ rfl ⟨rfl, rfl, rfl, rfl, rfl, trivial⟩
 rintro I ⟨hI1, hI2, hI3⟩
 refine zh (qk ?_)
 refine zhf (zdq (fun i:Nat => [(0, .is (.slice (some ⟨b, 0, none⟩) m cap)), (1, .is (.int .i64 a)), (10, .is (.int .i64 I)), (11, .is (.int .i64 i)), (900, .own (zal b (uC D ++ rest) tyU))]) (fun i => i ≤ e1 ∧ min (I - 1) e1 ≤ i ∧ i = scanDown (fun x => !lt x D[a]!) D I e1) (fun _ => []) ?_) ?_
 rotate_left
 ·refine zak (fun i:Nat => [(0, .is (.slice (some ⟨b, 0, none⟩) m cap)), (1, .is (.int .i64 a)), (10, .is (.int .i64 I)), (11, .is (.int .i64 i)), (900, .own (zal b (uC D ++ rest) tyU))]) (fun i => i ≤ e1 ∧ min (I - 1) e1 ≤ i ∧ scanDown (fun x => !lt x D[a]!) D I i = scanDown (fun x => !lt x D[a]!) D I e1) (fun i => i) e1 ⟨Nat.le_refl _, by omega, rfl⟩ ⟨rfl, rfl, rfl, rfl, rfl, trivial⟩ ?_
  rintro i ⟨hi1, hi2, hi3⟩
  by_cases hle:I ≤ i
  ·obtain ⟨_, qx⟩:=zc2 (rest:=rest) (show i < D.size by omega) (0 + (i) * 1) rfl
   obtain ⟨_, qa⟩:=zc2 (rest:=rest) (show a < D.size by omega) (0 + (a) * 1) rfl
   cases hc:lt D[i]! D[a]! with
   | false =>
    obtain ⟨i, rfl⟩:∃ k, i = k + 1:=⟨i - 1, by omega⟩
    have hw:IntKind.i64.wrap (((i + 1:Nat):Int) - 1) = (i:Int):=zaa (by omega) (by omega) |>.trans (by omega)
    refine Z140 ?_; refine Z131 ?_; refine Z362 ?_; refine z8 (qg L _ rfl rfl rfl rfl rfl rfl rfl (by omega)) rfl ?_; refine qp (qq L (q:=900) rfl rfl rfl rfl rfl qx) rfl rfl ?_; refine Z147 ?_; refine z8 (qg L _ rfl rfl rfl rfl rfl rfl rfl (by omega)) rfl ?_; refine qp (qq L (q:=900) rfl rfl rfl rfl rfl qa) rfl rfl ?_; refine z8 (zo L rfl rfl (zk rfl) rfl rfl rfl (fun u H hH _ _ => zbc hc hH)) rfl ?_; refine Z63 ?_; refine Z261 ?_; refine Z143 ?_; refine qk ?_; refine Z192 ?_; refine Z25 ?_; refine Z243 ?_
    exact yi (x:=i + 1) i ⟨by omega, by omega, by rw [← hi3]; exact (zgn hle (by simp [hc])).symm⟩ (by omega) ⟨rfl, rfl, rfl, rfl, rfl, trivial⟩
   | true =>
    refine Z140 ?_; refine Z131 ?_; refine Z362 ?_; refine z8 (qg L _ rfl rfl rfl rfl rfl rfl rfl (by omega)) rfl ?_; refine qp (qq L (q:=900) rfl rfl rfl rfl rfl qx) rfl rfl ?_; refine Z147 ?_; refine z8 (qg L _ rfl rfl rfl rfl rfl rfl rfl (by omega)) rfl ?_; refine qp (qq L (q:=900) rfl rfl rfl rfl rfl qa) rfl rfl ?_; refine z8 (zo L rfl rfl (zk rfl) rfl rfl rfl (fun u H hH _ _ => zbc hc hH)) rfl ?_; refine Z63 ?_; refine Z274 ?_
    exact za6 i Since.refl ⟨hi1, hi2, by rw [← hi3]; exact (zcm (by rintro ⟨_, h⟩; simp [hc] at h)).symm⟩ rfl ⟨rfl, rfl, rfl, rfl, rfl, trivial⟩
  ·refine Z140 ?_; refine Z125 ?_; refine Z147 ?_; refine Z106 ?_; refine Z306 ?_; refine Z274 ?_
   exact za6 i Since.refl ⟨hi1, hi2, by rw [← hi3]; exact (zcm (by rintro ⟨h, _⟩; exact hle h)).symm⟩ rfl ⟨rfl, rfl, rfl, rfl, rfl, trivial⟩
 rintro J ⟨hJ1, hJ2, hJ3⟩
 rw [← hI3, ← hJ3] at hR'
 by_cases hIJ:J < I
 ·rw [if_pos hIJ] at hR'
  subst hR'
  obtain ⟨_, qj⟩:=zc2 (rest:=rest) (show a < D.size by omega) (0 + (a) * 1) rfl
  obtain ⟨_, qi⟩:=zc2 (rest:=rest) (show J < D.size by omega) (0 + (J) * 1) rfl
  have s1:=zca (rest:=rest) D[a]! (show J < D.size by omega) (0 + (J) * 1) rfl
  have b1:=zcb (rest:=rest) (show J < D.size by omega) (0 + (J) * 1) rfl
  have hz:a < (D.setIfInBounds (J) D[a]!).size:=by rw [Array.size_setIfInBounds]; omega
  have s2:=zca (rest:=rest) D[J]! hz (0 + (a) * 1) rfl
  have b2:=zcb (rest:=rest) hz (0 + (a) * 1) rfl
  rw [zc6] at s2
  refine Z140 ?_; refine Z328 ?_; refine Z40 ?_; refine Z154 ?_; refine qf (id:=8) [(200073, [900]), (200077, [900]), (100078, [900]), (100079, [900])] mixed (by kernel_rfl) ?_; refine Z310 ?_; refine Z147 ?_; refine z8 (qg L _ rfl rfl rfl rfl rfl rfl rfl (by omega)) rfl ?_; refine qp (qq L (q:=900) rfl rfl rfl rfl rfl qj) rfl rfl ?_; refine Z147 ?_; refine z8 (qg L _ rfl rfl rfl rfl rfl rfl rfl (by omega)) rfl ?_; refine qp (qq L (q:=900) rfl rfl rfl rfl rfl qi) rfl rfl ?_; refine z8 (qg L _ rfl rfl rfl rfl rfl rfl rfl (by omega)) rfl ?_; refine zag (yw L (q:=900) rfl rfl rfl rfl rfl rfl b1 rfl s1) rfl ?_; refine z8 (qg L _ rfl rfl rfl rfl rfl rfl rfl (by omega)) rfl ?_; refine zag (yw L (q:=900) rfl rfl rfl rfl rfl rfl b2 rfl s2) rfl ?_; refine Z301 ?_; refine Z280 ?_; refine Z186 ?_
  exact zf3 L 900 (r:=zab b _ tyU) (rs:=[.tmp 8, .tmp 9]) rfl (fun _ _ h => h) Since.refl rfl rfl (fun _ => rfl)
 ·rw [if_neg hIJ] at hR'
  have hw3:IntKind.i64.wrap ((I:Int) + 1) = ((I + 1:Nat):Int):=zaa (by omega) (by omega)
  have hw4:IntKind.i64.wrap ((J:Int) - 1) = ((J - 1:Nat):Int):=zaa (by omega) (by omega) |>.trans (by omega)
  obtain ⟨_, qj⟩:=zc2 (rest:=rest) (show J < D.size by omega) (0 + (J) * 1) rfl
  obtain ⟨_, qi⟩:=zc2 (rest:=rest) (show I < D.size by omega) (0 + (I) * 1) rfl
  have s1:=zca (rest:=rest) D[J]! (show I < D.size by omega) (0 + (I) * 1) rfl
  have b1:=zcb (rest:=rest) (show I < D.size by omega) (0 + (I) * 1) rfl
  have hz:J < (D.setIfInBounds (I) D[J]!).size:=by rw [Array.size_setIfInBounds]; omega
  have s2:=zca (rest:=rest) D[I]! hz (0 + (J) * 1) rfl
  have b2:=zcb (rest:=rest) hz (0 + (J) * 1) rfl
  rw [zc6] at s2
  have hEs:=zbo D I J
  refine Z140 ?_; refine Z328 ?_; refine Z32 ?_; refine Z162 ?_; refine qf (id:=10) [(200088, [900]), (200092, [900]), (100093, [900]), (100094, [900])] mixed (by kernel_rfl) ?_; refine Z310 ?_; refine Z147 ?_; refine z8 (qg L _ rfl rfl rfl rfl rfl rfl rfl (by omega)) rfl ?_; refine qp (qq L (q:=900) rfl rfl rfl rfl rfl qj) rfl rfl ?_; refine Z147 ?_; refine z8 (qg L _ rfl rfl rfl rfl rfl rfl rfl (by omega)) rfl ?_; refine qp (qq L (q:=900) rfl rfl rfl rfl rfl qi) rfl rfl ?_; refine z8 (qg L _ rfl rfl rfl rfl rfl rfl rfl (by omega)) rfl ?_; refine zag (yw L (q:=900) rfl rfl rfl rfl rfl rfl b1 rfl s1) rfl ?_; refine z8 (qg L _ rfl rfl rfl rfl rfl rfl rfl (by omega)) rfl ?_; refine zag (yw L (q:=900) rfl rfl rfl rfl rfl rfl b2 rfl s2) rfl ?_; refine Z301 ?_; refine Z272 ?_; refine Z20 ?_; refine Z144 ?_; refine Z86 ?_; refine Z231 ?_; refine Z144 ?_; refine qk ?_
  generalize swp D I J = E at *
  obtain ⟨X, hX⟩:∃ X, X = partLoop lt a (I + 1) (J - 1) E:=⟨_, rfl⟩
  rw [← hX] at hR'
  refine zhf (zdq (fun s:Nat × Array Int => [(0, .is (.slice (some ⟨b, 0, none⟩) m cap)), (1, .is (.int .i64 a)), (11, .is (.int .i64 s.1)), (900, .own (zal b (uC s.2 ++ rest) tyU))]) (fun s => s.2.size = m ∧ a ≤ s.1 ∧ s.1 ≤ e1 ∧ s = X) (fun _ => []) ?_) ?_
  rotate_left
  ·refine zak (fun s:(Nat × Nat) × Array Int => [(0, .is (.slice (some ⟨b, 0, none⟩) m cap)), (1, .is (.int .i64 a)), (10, .is (.int .i64 s.1.1)), (11, .is (.int .i64 s.1.2)), (900, .own (zal b (uC s.2 ++ rest) tyU))]) (fun s => s.2.size = m ∧ a + 1 ≤ s.1.1 ∧ s.1.1 ≤ e1 + 1 ∧ a ≤ s.1.2 ∧ s.1.2 ≤ e1 ∧ partLoop lt a s.1.1 s.1.2 s.2 = X) (fun s => s.1.2 + 1 - s.1.1) ((I + 1, J - 1), E) ⟨by dsimp only; omega, by dsimp only; omega, by dsimp only; omega, by dsimp only; omega, by dsimp only; omega, hX.symm⟩ ⟨rfl, rfl, rfl, rfl, rfl, trivial⟩ ?_
   rintro ⟨⟨i0, j0⟩, G⟩ ⟨hG, hi1, hi2, hj1, hj2, hL⟩
   dsimp only at hG hi1 hi2 hj1 hj2 hL ⊢
   rw [partLoop] at hL
   clear hX hR' hEs hIJ hI3 hJ3
   refine qk (zh (qk ?_))
   refine zhf (zdq (fun i:Nat => [(0, .is (.slice (some ⟨b, 0, none⟩) m cap)), (1, .is (.int .i64 a)), (10, .is (.int .i64 i)), (11, .is (.int .i64 j0)), (900, .own (zal b (uC G ++ rest) tyU))]) (fun i => i0 ≤ i ∧ i ≤ max i0 (j0 + 1) ∧ i = scanUp (fun x => lt x G[a]!) G j0 i0) (fun _ => []) ?_) ?_
   rotate_left
   ·refine zak (fun i:Nat => [(0, .is (.slice (some ⟨b, 0, none⟩) m cap)), (1, .is (.int .i64 a)), (10, .is (.int .i64 i)), (11, .is (.int .i64 j0)), (900, .own (zal b (uC G ++ rest) tyU))]) (fun i => i0 ≤ i ∧ i ≤ max i0 (j0 + 1) ∧ scanUp (fun x => lt x G[a]!) G j0 i = scanUp (fun x => lt x G[a]!) G j0 i0) (fun i => j0 + 1 - i) i0 ⟨Nat.le_refl _, by omega, rfl⟩ ⟨rfl, rfl, rfl, rfl, rfl, trivial⟩ ?_
    rintro i ⟨hi1, hi2, hi3⟩
    by_cases hle:i ≤ j0
    ·obtain ⟨_, qx⟩:=zc2 (rest:=rest) (show i < G.size by omega) (0 + (i) * 1) rfl
     obtain ⟨_, qa⟩:=zc2 (rest:=rest) (show a < G.size by omega) (0 + (a) * 1) rfl
     cases hc:lt G[i]! G[a]! with
     | true =>
      have hw:IntKind.i64.wrap ((i:Int) + 1) = ((i + 1:Nat):Int):=zaa (by omega) (by omega)
      refine Z140 ?_; refine qf (id:=13) [(200106, [900]), (200110, [900])] mixed (by kernel_rfl) ?_; refine Z362 ?_; refine z8 (qg L _ rfl rfl rfl rfl rfl rfl rfl (by omega)) rfl ?_; refine qp (qq L (q:=900) rfl rfl rfl rfl rfl qx) rfl rfl ?_; refine Z147 ?_; refine z8 (qg L _ rfl rfl rfl rfl rfl rfl rfl (by omega)) rfl ?_; refine qp (qq L (q:=900) rfl rfl rfl rfl rfl qa) rfl rfl ?_; refine z8 (zo L rfl rfl (zk rfl) rfl rfl rfl (fun u H hH _ _ => zbc hc hH)) rfl ?_; refine Z261 ?_; refine Z143 ?_; refine qk ?_; refine Z267 ?_; refine Z217 ?_; refine y9 ?_
      exact yi (x:=i) (i + 1) ⟨by omega, by omega, by rw [← hi3]; exact (zjm hle (by simp [hc])).symm⟩ (by omega) ⟨rfl, rfl, rfl, rfl, rfl, trivial⟩
     | false =>
      refine Z140 ?_; refine qf (id:=13) [(200106, [900]), (200110, [900])] mixed (by kernel_rfl) ?_; refine Z362 ?_; refine z8 (qg L _ rfl rfl rfl rfl rfl rfl rfl (by omega)) rfl ?_; refine qp (qq L (q:=900) rfl rfl rfl rfl rfl qx) rfl rfl ?_; refine Z147 ?_; refine z8 (qg L _ rfl rfl rfl rfl rfl rfl rfl (by omega)) rfl ?_; refine qp (qq L (q:=900) rfl rfl rfl rfl rfl qa) rfl rfl ?_; refine z8 (zo L rfl rfl (zk rfl) rfl rfl rfl (fun u H hH _ _ => zbc hc hH)) rfl ?_; refine Z274 ?_
      exact za6 i Since.refl ⟨hi1, hi2, by rw [← hi3]; exact (zc8 (by rintro ⟨_, h⟩; simp [hc] at h)).symm⟩ rfl ⟨rfl, rfl, rfl, rfl, rfl, trivial⟩
    ·refine Z140 ?_; refine Z123 ?_; refine Z147 ?_; refine Z106 ?_; refine Z246 ?_; refine Z5 ?_; refine Z274 ?_
     exact za6 i Since.refl ⟨hi1, hi2, by rw [← hi3]; exact (zc8 (by rintro ⟨h, _⟩; exact hle h)).symm⟩ rfl ⟨rfl, rfl, rfl, rfl, rfl, trivial⟩
   rintro K ⟨hK1, hK2, hK3⟩
   refine zh (qk ?_)
   refine zhf (zdq (fun i:Nat => [(0, .is (.slice (some ⟨b, 0, none⟩) m cap)), (1, .is (.int .i64 a)), (10, .is (.int .i64 K)), (11, .is (.int .i64 i)), (900, .own (zal b (uC G ++ rest) tyU))]) (fun i => i ≤ j0 ∧ min (K - 1) j0 ≤ i ∧ i = scanDown (fun x => !lt x G[a]!) G K j0) (fun _ => []) ?_) ?_
   rotate_left
   ·refine zak (fun i:Nat => [(0, .is (.slice (some ⟨b, 0, none⟩) m cap)), (1, .is (.int .i64 a)), (10, .is (.int .i64 K)), (11, .is (.int .i64 i)), (900, .own (zal b (uC G ++ rest) tyU))]) (fun i => i ≤ j0 ∧ min (K - 1) j0 ≤ i ∧ scanDown (fun x => !lt x G[a]!) G K i = scanDown (fun x => !lt x G[a]!) G K j0) (fun i => i) j0 ⟨Nat.le_refl _, by omega, rfl⟩ ⟨rfl, rfl, rfl, rfl, rfl, trivial⟩ ?_
    rintro i ⟨hi1, hi2, hi3⟩
    by_cases hle:K ≤ i
    ·obtain ⟨_, qx⟩:=zc2 (rest:=rest) (show i < G.size by omega) (0 + (i) * 1) rfl
     obtain ⟨_, qa⟩:=zc2 (rest:=rest) (show a < G.size by omega) (0 + (a) * 1) rfl
     cases hc:lt G[i]! G[a]! with
     | false =>
      obtain ⟨i, rfl⟩:∃ k, i = k + 1:=⟨i - 1, by omega⟩
      have hw:IntKind.i64.wrap (((i + 1:Nat):Int) - 1) = (i:Int):=zaa (by omega) (by omega) |>.trans (by omega)
      refine Z140 ?_; refine qf (id:=15) [(200122, [900]), (200126, [900])] mixed (by kernel_rfl) ?_; refine Z362 ?_; refine z8 (qg L _ rfl rfl rfl rfl rfl rfl rfl (by omega)) rfl ?_; refine qp (qq L (q:=900) rfl rfl rfl rfl rfl qx) rfl rfl ?_; refine Z147 ?_; refine z8 (qg L _ rfl rfl rfl rfl rfl rfl rfl (by omega)) rfl ?_; refine qp (qq L (q:=900) rfl rfl rfl rfl rfl qa) rfl rfl ?_; refine z8 (zo L rfl rfl (zk rfl) rfl rfl rfl (fun u H hH _ _ => zbc hc hH)) rfl ?_; refine Z63 ?_; refine Z261 ?_; refine Z143 ?_; refine qk ?_; refine Z102 ?_; refine Z231 ?_; refine Z243 ?_
      exact yi (x:=i + 1) i ⟨by omega, by omega, by rw [← hi3]; exact (zgn hle (by simp [hc])).symm⟩ (by omega) ⟨rfl, rfl, rfl, rfl, rfl, trivial⟩
     | true =>
      refine Z140 ?_; refine qf (id:=15) [(200122, [900]), (200126, [900])] mixed (by kernel_rfl) ?_; refine Z362 ?_; refine z8 (qg L _ rfl rfl rfl rfl rfl rfl rfl (by omega)) rfl ?_; refine qp (qq L (q:=900) rfl rfl rfl rfl rfl qx) rfl rfl ?_; refine Z147 ?_; refine z8 (qg L _ rfl rfl rfl rfl rfl rfl rfl (by omega)) rfl ?_; refine qp (qq L (q:=900) rfl rfl rfl rfl rfl qa) rfl rfl ?_; refine z8 (zo L rfl rfl (zk rfl) rfl rfl rfl (fun u H hH _ _ => zbc hc hH)) rfl ?_; refine Z63 ?_; refine Z274 ?_
      exact za6 i Since.refl ⟨hi1, hi2, by rw [← hi3]; exact (zcm (by rintro ⟨_, h⟩; simp [hc] at h)).symm⟩ rfl ⟨rfl, rfl, rfl, rfl, rfl, trivial⟩
    ·refine Z140 ?_; refine qf (id:=15) [] mixed (by kernel_rfl) ?_; refine Z147 ?_; refine Z106 ?_; refine Z306 ?_; refine Z274 ?_
     exact za6 i Since.refl ⟨hi1, hi2, by rw [← hi3]; exact (zcm (by rintro ⟨h, _⟩; exact hle h)).symm⟩ rfl ⟨rfl, rfl, rfl, rfl, rfl, trivial⟩
   rintro M ⟨hM1, hM2, hM3⟩
   rw [← hK3, ← hM3] at hL
   by_cases hKM:M < K
   ·rw [if_pos hKM] at hL
    refine Z140 ?_; refine Z108 ?_; refine Z141 ?_; refine Z40 ?_; refine Z145 ?_; refine Z163 ?_; refine zkr rfl ?_; refine y7 ?_; refine yt ?_
    exact za6 (M, G) Since.refl ⟨hG, by dsimp only; omega, by dsimp only; omega, hL⟩ rfl ⟨rfl, rfl, rfl, rfl, trivial⟩
   ·rw [if_neg hKM, dif_pos (by omega)] at hL
    have hw5:IntKind.i64.wrap ((K:Int) + 1) = ((K + 1:Nat):Int):=zaa (by omega) (by omega)
    have hw6:IntKind.i64.wrap ((M:Int) - 1) = ((M - 1:Nat):Int):=zaa (by omega) (by omega) |>.trans (by omega)
    have hGs:=zbo G K M
    obtain ⟨_, qj⟩:=zc2 (rest:=rest) (show M < G.size by omega) (0 + (M) * 1) rfl
    obtain ⟨_, qi⟩:=zc2 (rest:=rest) (show K < G.size by omega) (0 + (K) * 1) rfl
    have s1:=zca (rest:=rest) G[M]! (show K < G.size by omega) (0 + (K) * 1) rfl
    have b1:=zcb (rest:=rest) (show K < G.size by omega) (0 + (K) * 1) rfl
    have hz:M < (G.setIfInBounds (K) G[M]!).size:=by rw [Array.size_setIfInBounds]; omega
    have s2:=zca (rest:=rest) G[K]! hz (0 + (M) * 1) rfl
    have b2:=zcb (rest:=rest) hz (0 + (M) * 1) rfl
    rw [zc6] at s2
    refine Z140 ?_; refine Z108 ?_; refine Z141 ?_; refine Z32 ?_; refine Z162 ?_; refine qf (id:=18) [(200142, [900]), (200146, [900]), (100147, [900]), (100148, [900])] mixed (by kernel_rfl) ?_; refine Z310 ?_; refine Z147 ?_; refine z8 (qg L _ rfl rfl rfl rfl rfl rfl rfl (by omega)) rfl ?_; refine qp (qq L (q:=900) rfl rfl rfl rfl rfl qj) rfl rfl ?_; refine Z147 ?_; refine z8 (qg L _ rfl rfl rfl rfl rfl rfl rfl (by omega)) rfl ?_; refine qp (qq L (q:=900) rfl rfl rfl rfl rfl qi) rfl rfl ?_; refine z8 (qg L _ rfl rfl rfl rfl rfl rfl rfl (by omega)) rfl ?_; refine zag (yw L (q:=900) rfl rfl rfl rfl rfl rfl b1 rfl s1) rfl ?_; refine z8 (qg L _ rfl rfl rfl rfl rfl rfl rfl (by omega)) rfl ?_; refine zag (yw L (q:=900) rfl rfl rfl rfl rfl rfl b2 rfl s2) rfl ?_; refine Z301 ?_; refine Z119 ?_; refine Z1 ?_; refine Z20 ?_; refine Z139 ?_; refine Z94 ?_; refine Z231 ?_; refine Z243 ?_
    exact yi (x:=((i0, j0), G)) ((K + 1, M - 1), swp G K M) ⟨by dsimp only; omega, by dsimp only; omega, by dsimp only; omega, by dsimp only; omega, by dsimp only; omega, hL⟩ (by dsimp only; omega) ⟨rfl, rfl, rfl, rfl, rfl, trivial⟩
  ·rintro ⟨J2, G⟩ ⟨hG, hj1, hj2, hL⟩
   dsimp only at hG hj1 hj2 ⊢
   rw [← hL] at hR'
   dsimp only at hR'
   subst hR'
   obtain ⟨_, qj⟩:=zc2 (rest:=rest) (show a < G.size by omega) (0 + (a) * 1) rfl
   obtain ⟨_, qi⟩:=zc2 (rest:=rest) (show J2 < G.size by omega) (0 + (J2) * 1) rfl
   have s1:=zca (rest:=rest) G[a]! (show J2 < G.size by omega) (0 + (J2) * 1) rfl
   have b1:=zcb (rest:=rest) (show J2 < G.size by omega) (0 + (J2) * 1) rfl
   have hz:a < (G.setIfInBounds (J2) G[a]!).size:=by rw [Array.size_setIfInBounds]; omega
   have s2:=zca (rest:=rest) G[J2]! hz (0 + (a) * 1) rfl
   have b2:=zcb (rest:=rest) hz (0 + (a) * 1) rfl
   rw [zc6] at s2
   refine zh ?_; refine qf (id:=21) [(200160, [900]), (200164, [900]), (100165, [900]), (100166, [900])] mixed (by kernel_rfl) ?_; refine Z310 ?_; refine Z147 ?_; refine z8 (qg L _ rfl rfl rfl rfl rfl rfl rfl (by omega)) rfl ?_; refine qp (qq L (q:=900) rfl rfl rfl rfl rfl qj) rfl rfl ?_; refine Z147 ?_; refine z8 (qg L _ rfl rfl rfl rfl rfl rfl rfl (by omega)) rfl ?_; refine qp (qq L (q:=900) rfl rfl rfl rfl rfl qi) rfl rfl ?_; refine z8 (qg L _ rfl rfl rfl rfl rfl rfl rfl (by omega)) rfl ?_; refine zag (yw L (q:=900) rfl rfl rfl rfl rfl rfl b1 rfl s1) rfl ?_; refine z8 (qg L _ rfl rfl rfl rfl rfl rfl rfl (by omega)) rfl ?_; refine zag (yw L (q:=900) rfl rfl rfl rfl rfl rfl b2 rfl s2) rfl ?_; refine Z301 ?_; refine zf (id:=22) ?_; refine Z1 ?_; refine Z186 ?_
   exact zf3 L 900 (r:=zab b _ tyU) (rs:=[.tmp 8, .tmp 9]) rfl (fun _ _ h => h) Since.refl rfl rfl (fun _ => rfl)
end Go.V.So
set_option maxRecDepth 20000
namespace Go.V.So
open Go.Proofs Go.RowKit Go.V Go.Sort
attribute [local irreducible] V N X VO Par StepOK Has Ret RetL RetO zb8 zdn Src
set_option maxHeartbeats 2000000 in
set_option maxRecDepth 20000 in
theorem z0g {d:Array Int} {rest:List Value} {b m cap a e p:Nat} (hap:a ≤ p) (hpe:p < e) (he:e ≤ d.size) (hm:d.size = m) (hm1:m ≤ 100000) {w:World} {B:Heap} {C:Nat → Prop} (hB:B.Le (hp w))
  (hr:(zab b (uC d ++ rest) tyU).P B w C) (hC:∀ k, C k → k < w.heap.size ∧ B k = none) :
  zdn Tryz.prog 108 [.slice (some ⟨b, 0, none⟩) m cap, .int .i64 a, .int .i64 e, .int .i64 p] w B C (zab b (uC (partitionEqual lt d a e p).2 ++ rest) tyU) (.int .i64 (partitionEqual lt d a e p).1):=by
 unfold zdn
 refine zar 900 (zab b (uC d ++ rest) tyU) Tryz.func108 rfl Tryz.ntmps108 (Nat.le_of_ble_eq_true rfl) hB hr hC ?_
 rw [za2]
 obtain ⟨_, qj⟩:=zc2 (rest:=rest) (show p < d.size by omega) (0 + (p) * 1) rfl
 obtain ⟨_, qi⟩:=zc2 (rest:=rest) (show a < d.size by omega) (0 + (a) * 1) rfl
 have s1:=zca (rest:=rest) d[p]! (show a < d.size by omega) (0 + (a) * 1) rfl
 have b1:=zcb (rest:=rest) (show a < d.size by omega) (0 + (a) * 1) rfl
 have hz:p < (d.setIfInBounds (a) d[p]!).size:=by rw [Array.size_setIfInBounds]; omega
 have s2:=zca (rest:=rest) d[a]! hz (0 + (p) * 1) rfl
 have b2:=zcb (rest:=rest) hz (0 + (p) * 1) rfl
 rw [zc6] at s2
 have hw1:IntKind.i64.wrap ((a:Int) + 1) = ((a + 1:Nat):Int):=zaa (by omega) (by omega)
 obtain ⟨e1, rfl⟩:∃ e1, e = e1 + 1:=⟨e - 1, by omega⟩
 have hw2:IntKind.i64.wrap (((e1 + 1:Nat):Int) - 1) = (e1:Int):=zaa (by omega) (by omega) |>.trans (by omega)
 obtain ⟨X, hX⟩:∃ X, X = partitionEqual lt d a (e1 + 1) p:=⟨_, rfl⟩
 rw [← hX]
 have hR':=hX
 unfold partitionEqual at hR'
 rw [Nat.add_sub_cancel] at hR'
 have hDs:=zbo d a p
 refine Z146 ?_; refine Z144 ?_; refine qf (id:=1) [(200018, [900]), (200022, [900]), (100023, [900]), (100024, [900])] mixed (by kernel_rfl) ?_; refine Z310 ?_; refine Z147 ?_; refine z8 (qg L _ rfl rfl rfl rfl rfl rfl rfl (by omega)) rfl ?_; refine qp (qq L (q:=900) rfl rfl rfl rfl rfl qj) rfl rfl ?_; refine Z147 ?_; refine z8 (qg L _ rfl rfl rfl rfl rfl rfl rfl (by omega)) rfl ?_; refine qp (qq L (q:=900) rfl rfl rfl rfl rfl qi) rfl rfl ?_; refine z8 (qg L _ rfl rfl rfl rfl rfl rfl rfl (by omega)) rfl ?_; refine zag (yw L (q:=900) rfl rfl rfl rfl rfl rfl b1 rfl s1) rfl ?_; refine z8 (qg L _ rfl rfl rfl rfl rfl rfl rfl (by omega)) rfl ?_; refine zag (yw L (q:=900) rfl rfl rfl rfl rfl rfl b2 rfl s2) rfl ?_; refine Z301 ?_; refine Z175 ?_; refine Z20 ?_; refine Z231 ?_; refine Z195 ?_; refine qk ?_
 generalize swp d a p = D at *
 refine zhf (zdq (fun s:Nat × Array Int => [(9, .is (.int .i64 s.1)), (900, .own (zal b (uC s.2 ++ rest) tyU))]) (fun s => s.2.size = m ∧ s = X) (fun _ => []) ?_) ?_
 rotate_left
 ·refine zak (fun s:(Nat × Nat) × Array Int => [(0, .is (.slice (some ⟨b, 0, none⟩) m cap)), (1, .is (.int .i64 a)), (9, .is (.int .i64 s.1.1)), (10, .is (.int .i64 s.1.2)), (900, .own (zal b (uC s.2 ++ rest) tyU))]) (fun s => s.2.size = m ∧ a + 1 ≤ s.1.1 ∧ s.1.1 ≤ e1 + 1 ∧ a ≤ s.1.2 ∧ s.1.2 ≤ e1 ∧ partEqLoop lt a s.1.1 s.1.2 s.2 = X) (fun s => s.1.2 + 1 - s.1.1) ((a + 1, e1), D) ⟨by dsimp only; omega, by dsimp only; omega, by dsimp only; omega, by dsimp only; omega, by dsimp only; omega, hR'.symm⟩ ⟨rfl, rfl, rfl, rfl, rfl, trivial⟩ ?_
  rintro ⟨⟨i0, j0⟩, G⟩ ⟨hG, hi1, hi2, hj1, hj2, hL⟩
  dsimp only at hG hi1 hi2 hj1 hj2 hL ⊢
  rw [partEqLoop] at hL
  clear hX hR' hDs
  refine qk (zh (qk ?_))
  refine zhf (zdq (fun i:Nat => [(0, .is (.slice (some ⟨b, 0, none⟩) m cap)), (1, .is (.int .i64 a)), (9, .is (.int .i64 i)), (10, .is (.int .i64 j0)), (900, .own (zal b (uC G ++ rest) tyU))]) (fun i => i0 ≤ i ∧ i ≤ max i0 (j0 + 1) ∧ i = scanUp (fun x => !lt G[a]! x) G j0 i0) (fun _ => []) ?_) ?_
  rotate_left
  ·refine zak (fun i:Nat => [(0, .is (.slice (some ⟨b, 0, none⟩) m cap)), (1, .is (.int .i64 a)), (9, .is (.int .i64 i)), (10, .is (.int .i64 j0)), (900, .own (zal b (uC G ++ rest) tyU))]) (fun i => i0 ≤ i ∧ i ≤ max i0 (j0 + 1) ∧ scanUp (fun x => !lt G[a]! x) G j0 i = scanUp (fun x => !lt G[a]! x) G j0 i0) (fun i => j0 + 1 - i) i0 ⟨Nat.le_refl _, by omega, rfl⟩ ⟨rfl, rfl, rfl, rfl, rfl, trivial⟩ ?_
   rintro i ⟨hi1, hi2, hi3⟩
   by_cases hle:i ≤ j0
   ·obtain ⟨_, qx⟩:=zc2 (rest:=rest) (show i < G.size by omega) (0 + (i) * 1) rfl
    obtain ⟨_, qa⟩:=zc2 (rest:=rest) (show a < G.size by omega) (0 + (a) * 1) rfl
    cases hc:lt G[a]! G[i]! with
    | false =>
     have hw:IntKind.i64.wrap ((i:Int) + 1) = ((i + 1:Nat):Int):=zaa (by omega) (by omega)
     refine Z140 ?_; refine qf (id:=3) [(200036, [900]), (200040, [900])] mixed (by kernel_rfl) ?_; refine Z362 ?_; refine z8 (qg L _ rfl rfl rfl rfl rfl rfl rfl (by omega)) rfl ?_; refine qp (qq L (q:=900) rfl rfl rfl rfl rfl qa) rfl rfl ?_; refine Z147 ?_; refine z8 (qg L _ rfl rfl rfl rfl rfl rfl rfl (by omega)) rfl ?_; refine qp (qq L (q:=900) rfl rfl rfl rfl rfl qx) rfl rfl ?_; refine z8 (zo L rfl rfl (zk rfl) rfl rfl rfl (fun u H hH _ _ => zbc hc hH)) rfl ?_; refine Z63 ?_; refine Z261 ?_; refine Z143 ?_; refine qk ?_; refine Z363 ?_; refine y9 ?_
     exact yi (x:=i) (i + 1) ⟨by omega, by omega, by rw [← hi3]; exact (zjm hle (by simp [hc])).symm⟩ (by omega) ⟨rfl, rfl, rfl, rfl, rfl, trivial⟩
    | true =>
     refine Z140 ?_; refine qf (id:=3) [(200036, [900]), (200040, [900])] mixed (by kernel_rfl) ?_; refine Z362 ?_; refine z8 (qg L _ rfl rfl rfl rfl rfl rfl rfl (by omega)) rfl ?_; refine qp (qq L (q:=900) rfl rfl rfl rfl rfl qa) rfl rfl ?_; refine Z147 ?_; refine z8 (qg L _ rfl rfl rfl rfl rfl rfl rfl (by omega)) rfl ?_; refine qp (qq L (q:=900) rfl rfl rfl rfl rfl qx) rfl rfl ?_; refine z8 (zo L rfl rfl (zk rfl) rfl rfl rfl (fun u H hH _ _ => zbc hc hH)) rfl ?_; refine Z63 ?_; refine Z274 ?_
     exact za6 i Since.refl ⟨hi1, hi2, by rw [← hi3]; exact (zc8 (by rintro ⟨_, h⟩; simp [hc] at h)).symm⟩ rfl ⟨rfl, rfl, rfl, rfl, rfl, trivial⟩
   ·refine Z140 ?_; refine Z85 ?_; refine Z147 ?_; refine Z106 ?_; refine Z306 ?_; refine Z274 ?_
    exact za6 i Since.refl ⟨hi1, hi2, by rw [← hi3]; exact (zc8 (by rintro ⟨h, _⟩; exact hle h)).symm⟩ rfl ⟨rfl, rfl, rfl, rfl, rfl, trivial⟩
  rintro K ⟨hK1, hK2, hK3⟩
  refine zh (qk ?_)
  refine zhf (zdq (fun i:Nat => [(0, .is (.slice (some ⟨b, 0, none⟩) m cap)), (1, .is (.int .i64 a)), (9, .is (.int .i64 K)), (10, .is (.int .i64 i)), (900, .own (zal b (uC G ++ rest) tyU))]) (fun i => i ≤ j0 ∧ min (K - 1) j0 ≤ i ∧ i = scanDown (fun x => lt G[a]! x) G K j0) (fun _ => []) ?_) ?_
  rotate_left
  ·refine zak (fun i:Nat => [(0, .is (.slice (some ⟨b, 0, none⟩) m cap)), (1, .is (.int .i64 a)), (9, .is (.int .i64 K)), (10, .is (.int .i64 i)), (900, .own (zal b (uC G ++ rest) tyU))]) (fun i => i ≤ j0 ∧ min (K - 1) j0 ≤ i ∧ scanDown (fun x => lt G[a]! x) G K i = scanDown (fun x => lt G[a]! x) G K j0) (fun i => i) j0 ⟨Nat.le_refl _, by omega, rfl⟩ ⟨rfl, rfl, rfl, rfl, rfl, trivial⟩ ?_
   rintro i ⟨hi1, hi2, hi3⟩
   by_cases hle:K ≤ i
   ·obtain ⟨_, qx⟩:=zc2 (rest:=rest) (show i < G.size by omega) (0 + (i) * 1) rfl
    obtain ⟨_, qa⟩:=zc2 (rest:=rest) (show a < G.size by omega) (0 + (a) * 1) rfl
    cases hc:lt G[a]! G[i]! with
    | true =>
     obtain ⟨i, rfl⟩:∃ k, i = k + 1:=⟨i - 1, by omega⟩
     have hw:IntKind.i64.wrap (((i + 1:Nat):Int) - 1) = (i:Int):=zaa (by omega) (by omega) |>.trans (by omega)
     refine Z140 ?_; refine Z131 ?_; refine Z362 ?_; refine z8 (qg L _ rfl rfl rfl rfl rfl rfl rfl (by omega)) rfl ?_; refine qp (qq L (q:=900) rfl rfl rfl rfl rfl qa) rfl rfl ?_; refine Z147 ?_; refine z8 (qg L _ rfl rfl rfl rfl rfl rfl rfl (by omega)) rfl ?_; refine qp (qq L (q:=900) rfl rfl rfl rfl rfl qx) rfl rfl ?_; refine z8 (zo L rfl rfl (zk rfl) rfl rfl rfl (fun u H hH _ _ => zbc hc hH)) rfl ?_; refine Z261 ?_; refine Z143 ?_; refine qk ?_; refine Z192 ?_; refine Z25 ?_; refine Z243 ?_
     exact yi (x:=i + 1) i ⟨by omega, by omega, by rw [← hi3]; exact (zgn hle (by simp [hc])).symm⟩ (by omega) ⟨rfl, rfl, rfl, rfl, rfl, trivial⟩
    | false =>
     refine Z140 ?_; refine Z131 ?_; refine Z362 ?_; refine z8 (qg L _ rfl rfl rfl rfl rfl rfl rfl (by omega)) rfl ?_; refine qp (qq L (q:=900) rfl rfl rfl rfl rfl qa) rfl rfl ?_; refine Z147 ?_; refine z8 (qg L _ rfl rfl rfl rfl rfl rfl rfl (by omega)) rfl ?_; refine qp (qq L (q:=900) rfl rfl rfl rfl rfl qx) rfl rfl ?_; refine z8 (zo L rfl rfl (zk rfl) rfl rfl rfl (fun u H hH _ _ => zbc hc hH)) rfl ?_; refine Z274 ?_
     exact za6 i Since.refl ⟨hi1, hi2, by rw [← hi3]; exact (zcm (by rintro ⟨_, h⟩; simp [hc] at h)).symm⟩ rfl ⟨rfl, rfl, rfl, rfl, rfl, trivial⟩
   ·refine Z140 ?_; refine Z125 ?_; refine Z147 ?_; refine Z106 ?_; refine Z246 ?_; refine Z5 ?_; refine Z274 ?_
    exact za6 i Since.refl ⟨hi1, hi2, by rw [← hi3]; exact (zcm (by rintro ⟨h, _⟩; exact hle h)).symm⟩ rfl ⟨rfl, rfl, rfl, rfl, rfl, trivial⟩
  rintro M ⟨hM1, hM2, hM3⟩
  rw [← hK3, ← hM3] at hL
  by_cases hKM:M < K
  ·rw [if_pos hKM] at hL
   refine Z140 ?_; refine Z328 ?_; refine Z40 ?_; refine Z145 ?_; refine Z163 ?_; refine zkr rfl ?_; refine y7 ?_; refine yt ?_
   exact za6 (K, G) Since.refl ⟨hG, hL⟩ rfl ⟨rfl, rfl, trivial⟩
  ·rw [if_neg hKM, dif_pos (by omega)] at hL
   have hw5:IntKind.i64.wrap ((K:Int) + 1) = ((K + 1:Nat):Int):=zaa (by omega) (by omega)
   have hw6:IntKind.i64.wrap ((M:Int) - 1) = ((M - 1:Nat):Int):=zaa (by omega) (by omega) |>.trans (by omega)
   have hGs:=zbo G K M
   obtain ⟨_, qj⟩:=zc2 (rest:=rest) (show M < G.size by omega) (0 + (M) * 1) rfl
   obtain ⟨_, qi⟩:=zc2 (rest:=rest) (show K < G.size by omega) (0 + (K) * 1) rfl
   have s1:=zca (rest:=rest) G[M]! (show K < G.size by omega) (0 + (K) * 1) rfl
   have b1:=zcb (rest:=rest) (show K < G.size by omega) (0 + (K) * 1) rfl
   have hz:M < (G.setIfInBounds (K) G[M]!).size:=by rw [Array.size_setIfInBounds]; omega
   have s2:=zca (rest:=rest) G[K]! hz (0 + (M) * 1) rfl
   have b2:=zcb (rest:=rest) hz (0 + (M) * 1) rfl
   rw [zc6] at s2
   refine Z140 ?_; refine Z328 ?_; refine Z32 ?_; refine Z162 ?_; refine qf (id:=8) [(200072, [900]), (200076, [900]), (100077, [900]), (100078, [900])] mixed (by kernel_rfl) ?_; refine Z310 ?_; refine Z147 ?_; refine z8 (qg L _ rfl rfl rfl rfl rfl rfl rfl (by omega)) rfl ?_; refine qp (qq L (q:=900) rfl rfl rfl rfl rfl qj) rfl rfl ?_; refine Z147 ?_; refine z8 (qg L _ rfl rfl rfl rfl rfl rfl rfl (by omega)) rfl ?_; refine qp (qq L (q:=900) rfl rfl rfl rfl rfl qi) rfl rfl ?_; refine z8 (qg L _ rfl rfl rfl rfl rfl rfl rfl (by omega)) rfl ?_; refine zag (yw L (q:=900) rfl rfl rfl rfl rfl rfl b1 rfl s1) rfl ?_; refine z8 (qg L _ rfl rfl rfl rfl rfl rfl rfl (by omega)) rfl ?_; refine zag (yw L (q:=900) rfl rfl rfl rfl rfl rfl b2 rfl s2) rfl ?_; refine Z301 ?_; refine Z280 ?_; refine Z20 ?_; refine Z139 ?_; refine Z68 ?_; refine Z231 ?_; refine Z243 ?_
   exact yi (x:=((i0, j0), G)) ((K + 1, M - 1), swp G K M) ⟨by dsimp only; omega, by dsimp only; omega, by dsimp only; omega, by dsimp only; omega, by dsimp only; omega, hL⟩ (by dsimp only; omega) ⟨rfl, rfl, rfl, rfl, rfl, trivial⟩
 ·rintro ⟨K, G⟩ ⟨hG, hL⟩
  dsimp only at hG ⊢
  rw [← hL]
  refine zh ?_; refine Z272 ?_; refine Z139 ?_
  exact zf3 L 900 (r:=zab b _ tyU) (rs:=[.tmp 8]) rfl (fun _ _ h => h) Since.refl rfl rfl (fun _ => rfl)
end Go.V.So
set_option maxRecDepth 20000
namespace Go.V.So
open Go.Proofs Go.RowKit Go.V Go.Sort
theorem _root_.Go.V.Z116 {A B:Prop} (h:B) (t:Wr B → A:=by intro h; refine zf (id:=21) ?_; exact h.h):A:=t ⟨h⟩
theorem _root_.Go.V.Z334 {A B:Prop} (h:B) (t:Wr B → A:=by intro h; refine Z94 ?_; refine Z141 ?_; exact h.h):A:=t ⟨h⟩
theorem _root_.Go.V.Z385 {A B:Prop} (h:B) (t:Wr B → A:=by intro h; refine Z116 ?_; refine Z1 ?_; exact h.h):A:=t ⟨h⟩
attribute [local irreducible] V N X VO Par StepOK Has Ret RetL RetO zb8 zdn Src
theorem zfq {d:Array Int} {e i:Nat} (h:¬ (i < e ∧ lt d[i]! d[i - 1]! = false)):scanSorted lt d e i = i:=by
 rw [scanSorted, if_neg]
 simpa using h
theorem zl9 {d:Array Int} {e i:Nat} (h1:i < e) (h2:lt d[i]! d[i - 1]! = false):scanSorted lt d e i = scanSorted lt d e (i + 1):=by
 rw [scanSorted, if_pos (by simp [h1, h2])]
set_option maxHeartbeats 2000000 in
set_option maxRecDepth 20000 in
theorem pins_ret {d:Array Int} {rest:List Value} {b m cap a e:Nat} (hab:a < e) (he:e ≤ d.size) (hm:d.size = m) (hm1:m ≤ 100000) {w:World} {B:Heap} {C:Nat → Prop} (hB:B.Le (hp w))
  (hr:(zab b (uC d ++ rest) tyU).P B w C) (hC:∀ k, C k → k < w.heap.size ∧ B k = none) :
  zdn Tryz.prog 106 [.slice (some ⟨b, 0, none⟩) m cap, .int .i64 a, .int .i64 e] w B C (zab b (uC (partialInsertionSort lt d a e).1 ++ rest) tyU) (.bool (partialInsertionSort lt d a e).2):=by
 unfold zdn
 refine zar 900 (zab b (uC d ++ rest) tyU) Tryz.func106 rfl Tryz.ntmps106 (Nat.le_of_ble_eq_true rfl) hB hr hC ?_
 rw [za2]
 have hw1:IntKind.i64.wrap ((a:Int) + 1) = ((a + 1:Nat):Int):=zaa (by omega) (by omega)
 have hw2:IntKind.i64.wrap ((e:Int) - (a:Int)) = ((e - a:Nat):Int):=zaa (by omega) (by omega) |>.trans (by omega)
 obtain ⟨X, hX⟩:∃ X, X = partialInsertionSort lt d a e:=⟨_, rfl⟩
 rw [← hX]
 unfold partialInsertionSort at hX
 refine Z286 ?_; refine Z20 ?_; refine Z148 ?_; refine Z378 ?_
 refine zak (fun s:(Nat × Nat) × Array Int => [(0, .is (.slice (some ⟨b, 0, none⟩) m cap)), (1, .is (.int .i64 a)), (2, .is (.int .i64 e)), (7, .is (.int .i64 s.1.2)), (8, .is (.int .i64 s.1.1)), (900, .own (zal b (uC s.2 ++ rest) tyU))]) (fun s => s.1.1 ≤ 5 ∧ a + 1 ≤ s.1.2 ∧ s.1.2 ≤ e ∧ s.2.size = m ∧ partialIns lt a e (5 - s.1.1) s.1.2 s.2 = X) (fun s => 5 - s.1.1) ((0, a + 1), d) ⟨by dsimp only; omega, by dsimp only; omega, by dsimp only; omega, hm, hX.symm⟩ ⟨rfl, rfl, rfl, rfl, rfl, rfl, trivial⟩ ?_
 rintro ⟨⟨k, i0⟩, D⟩ ⟨hk, hi1, hi2, hD, hL⟩
 dsimp only at hk hi1 hi2 hD hL ⊢
 clear hX
 by_cases hk5:k < 5
 ·obtain ⟨s, hs⟩:∃ s, 5 - k = s + 1:=⟨5 - k - 1, by omega⟩
  have hs':5 - (k + 1) = s:=by omega
  rw [hs, partialIns] at hL
  dsimp only at hL
  refine Z258 ?_; refine Z201 ?_; refine qk ?_
  refine zhf (zdq (fun i:Nat => [(0, .is (.slice (some ⟨b, 0, none⟩) m cap)), (1, .is (.int .i64 a)), (2, .is (.int .i64 e)), (7, .is (.int .i64 i)), (8, .is (.int .i64 k)), (900, .own (zal b (uC D ++ rest) tyU))]) (fun i => a + 1 ≤ i ∧ i ≤ e ∧ i = scanSorted lt D e i0) (fun _ => []) ?_) ?_
  rotate_left
  ·refine zak (fun i:Nat => [(0, .is (.slice (some ⟨b, 0, none⟩) m cap)), (1, .is (.int .i64 a)), (2, .is (.int .i64 e)), (7, .is (.int .i64 i)), (8, .is (.int .i64 k)), (900, .own (zal b (uC D ++ rest) tyU))]) (fun i => a + 1 ≤ i ∧ i ≤ e ∧ scanSorted lt D e i = scanSorted lt D e i0) (fun i => e - i) i0 ⟨hi1, hi2, rfl⟩ ⟨rfl, rfl, rfl, rfl, rfl, rfl, trivial⟩ ?_
   rintro i ⟨h1, h2, h3⟩
   by_cases hle:i < e
   ·obtain ⟨_, q1⟩:=zc2 (rest:=rest) (show i < D.size by omega) (0 + (i) * 1) rfl
    obtain ⟨_, q2⟩:=zc2 (rest:=rest) (show i - 1 < D.size by omega) (0 + (i - 1) * 1) rfl
    have hw3:IntKind.i64.wrap ((i:Int) - 1) = ((i - 1:Nat):Int):=zaa (by omega) (by omega) |>.trans (by omega)
    cases hc:lt D[i]! D[i - 1]! with
    | false =>
     have hw4:IntKind.i64.wrap ((i:Int) + 1) = ((i + 1:Nat):Int):=zaa (by omega) (by omega)
     refine Z140 ?_; refine qf (id:=5) [(200024, [900]), (200029, [900])] mixed (by kernel_rfl) ?_; refine Z147 ?_; refine Z73 ?_; refine Z180 ?_; refine z8 (qg L _ rfl rfl rfl rfl rfl rfl rfl (by omega)) rfl ?_; refine qp (qq L (q:=900) rfl rfl rfl rfl rfl q1) rfl rfl ?_; refine Z241 ?_; refine z8 (qg L _ rfl rfl rfl rfl rfl rfl rfl (by omega)) rfl ?_; refine qp (qq L (q:=900) rfl rfl rfl rfl rfl q2) rfl rfl ?_; refine z8 (zo L rfl rfl (zk rfl) rfl rfl rfl (fun u H hH _ _ => zbc hc hH)) rfl ?_; refine Z63 ?_; refine Z261 ?_; refine Z143 ?_; refine qk ?_; refine Z192 ?_; refine Z217 ?_; refine y9 ?_
     exact yi (x:=i) (i + 1) ⟨by omega, by omega, by rw [← h3]; exact (zl9 hle hc).symm⟩ (by omega) ⟨rfl, rfl, rfl, rfl, rfl, rfl, trivial⟩
    | true =>
     refine Z140 ?_; refine qf (id:=5) [(200024, [900]), (200029, [900])] mixed (by kernel_rfl) ?_; refine Z147 ?_; refine Z73 ?_; refine Z180 ?_; refine z8 (qg L _ rfl rfl rfl rfl rfl rfl rfl (by omega)) rfl ?_; refine qp (qq L (q:=900) rfl rfl rfl rfl rfl q1) rfl rfl ?_; refine Z241 ?_; refine z8 (qg L _ rfl rfl rfl rfl rfl rfl rfl (by omega)) rfl ?_; refine qp (qq L (q:=900) rfl rfl rfl rfl rfl q2) rfl rfl ?_; refine z8 (zo L rfl rfl (zk rfl) rfl rfl rfl (fun u H hH _ _ => zbc hc hH)) rfl ?_; refine Z63 ?_; refine Z274 ?_
     exact za6 i Since.refl ⟨h1, h2, by rw [← h3]; exact (zfq (by rintro ⟨_, h⟩; simp [hc] at h)).symm⟩ rfl ⟨rfl, rfl, rfl, rfl, rfl, rfl, trivial⟩
   ·refine Z140 ?_; refine Z125 ?_; refine Z147 ?_; refine Z88 ?_; refine Z306 ?_; refine Z5 ?_; refine Z274 ?_
    exact za6 i Since.refl ⟨h1, h2, by rw [← h3]; exact (zfq (by rintro ⟨h, _⟩; exact hle h)).symm⟩ rfl ⟨rfl, rfl, rfl, rfl, rfl, rfl, trivial⟩
  ·rintro i ⟨h1, h2, h3⟩
   rw [← h3] at hL
   by_cases hie:i = e
   ·rw [if_pos hie] at hL
    subst hie
    rw [← hL]
    refine Z140 ?_; refine Z328 ?_; refine Z305 ?_; refine Z376 ?_
    exact zf3 L 900 (r:=zab b _ tyU) (rs:=[.tmp 6]) rfl (fun _ _ h => h) Since.refl rfl rfl (fun _ => rfl)
   ·rw [if_neg hie] at hL
    by_cases h50:e - a < 50
    ·rw [if_pos h50] at hL
     rw [← hL]
     refine Z140 ?_; refine Z328 ?_; refine Z281 ?_; refine Z60 ?_; refine Z212 ?_; refine Z7 ?_; refine Z154 ?_; refine Z68 ?_; refine Z139 ?_
     exact zf3 L 900 (r:=zab b _ tyU) (rs:=[.tmp 6]) rfl (fun _ _ h => h) Since.refl rfl rfl (fun _ => rfl)
    ·rw [if_neg h50] at hL
     have hw3:IntKind.i64.wrap ((i:Int) - 1) = ((i - 1:Nat):Int):=zaa (by omega) (by omega) |>.trans (by omega)
     have hw4:IntKind.i64.wrap ((i:Int) - (a:Int)) = ((i - a:Nat):Int):=zaa (by omega) (by omega) |>.trans (by omega)
     have hw5:IntKind.i64.wrap ((e:Int) - (i:Int)) = ((e - i:Nat):Int):=zaa (by omega) (by omega) |>.trans (by omega)
     have hw6:IntKind.i64.wrap ((i:Int) + 1) = ((i + 1:Nat):Int):=zaa (by omega) (by omega)
     have hw7:IntKind.i64.wrap ((k:Int) + 1) = ((k + 1:Nat):Int):=zaa (by omega) (by omega)
     have hDs:=zbo D i (i - 1)
     obtain ⟨_, qj⟩:=zc2 (rest:=rest) (show i - 1 < D.size by omega) (0 + (i - 1) * 1) rfl
     obtain ⟨_, qi⟩:=zc2 (rest:=rest) (show i < D.size by omega) (0 + (i) * 1) rfl
     have s1:=zca (rest:=rest) D[i - 1]! (show i < D.size by omega) (0 + (i) * 1) rfl
     have b1:=zcb (rest:=rest) (show i < D.size by omega) (0 + (i) * 1) rfl
     have hz:i - 1 < (D.setIfInBounds (i) D[i - 1]!).size:=by rw [Array.size_setIfInBounds]; omega
     have s2:=zca (rest:=rest) D[i]! hz (0 + (i - 1) * 1) rfl
     have b2:=zcb (rest:=rest) hz (0 + (i - 1) * 1) rfl
     rw [zc6] at s2
     refine Z140 ?_; refine Z328 ?_; refine Z281 ?_; refine Z60 ?_; refine Z212 ?_; refine Z10 ?_; refine Z162 ?_; refine qf (id:=11) [(200051, [900]), (200055, [900]), (100056, [900]), (100057, [900])] mixed (by kernel_rfl) ?_; refine Z147 ?_; refine Z241 ?_; refine Z241 ?_; refine z8 (qg L _ rfl rfl rfl rfl rfl rfl rfl (by omega)) rfl ?_; refine qp (qq L (q:=900) rfl rfl rfl rfl rfl qj) rfl rfl ?_; refine Z147 ?_; refine z8 (qg L _ rfl rfl rfl rfl rfl rfl rfl (by omega)) rfl ?_; refine qp (qq L (q:=900) rfl rfl rfl rfl rfl qi) rfl rfl ?_; refine z8 (qg L _ rfl rfl rfl rfl rfl rfl rfl (by omega)) rfl ?_; refine zag (yw L (q:=900) rfl rfl rfl rfl rfl rfl b1 rfl s1) rfl ?_; refine z8 (qg L _ rfl rfl rfl rfl rfl rfl rfl (by omega)) rfl ?_; refine zag (yw L (q:=900) rfl rfl rfl rfl rfl rfl b2 rfl s2) rfl ?_; refine Z150 ?_; refine Z140 ?_
     generalize swp D i (i - 1) = D1 at *
     obtain ⟨D2, hD2⟩:∃ D2, D2 = (if i - a ≥ 2 then shiftDown lt (i - 1) D1 else D1):=⟨_, rfl⟩
     rw [← hD2] at hL
     refine zfb (fun E:Array Int => [(0, .is (.slice (some ⟨b, 0, none⟩) m cap)), (1, .is (.int .i64 a)), (2, .is (.int .i64 e)), (7, .is (.int .i64 i)), (8, .is (.int .i64 k)), (900, .own (zal b (uC E ++ rest) tyU))]) (fun E => E.size = m ∧ E = D2) (fun _ => []) ?_ ?_
     rotate_left
     ·by_cases h2a:i - a ≥ 2
      ·rw [if_pos h2a] at hD2
       refine Z86 ?_; refine Z212 ?_; refine Z41 ?_; refine Z154 ?_; refine Z82 ?_; refine Z231 ?_; refine Z203 ?_
       refine zak (fun t:Nat × Array Int => [(0, .is (.slice (some ⟨b, 0, none⟩) m cap)), (1, .is (.int .i64 a)), (2, .is (.int .i64 e)), (7, .is (.int .i64 i)), (8, .is (.int .i64 k)), (9, .is (.int .i64 t.1)), (900, .own (zal b (uC t.2 ++ rest) tyU))]) (fun t => t.1 ≤ i - 1 ∧ t.2.size = m ∧ shiftDown lt t.1 t.2 = D2) (fun t => t.1) (i - 1, D1) ⟨Nat.le_refl _, by dsimp only; omega, hD2.symm⟩ ⟨rfl, rfl, rfl, rfl, rfl, rfl, rfl, trivial⟩ ?_
       rintro ⟨j, E⟩ ⟨hj, hE, hS⟩
       dsimp only at hj hE hS ⊢
       clear hD2
       rcases j with _ | j
       ·rw [shiftDown] at hS
        refine Z140 ?_; refine Z267 ?_; refine Z47 ?_; refine Z142 ?_; refine Z165 ?_
        exact za6 E Since.refl ⟨hE, hS⟩ rfl ⟨rfl, rfl, rfl, rfl, rfl, rfl, trivial⟩
       ·rw [shiftDown] at hS
        have hw8:IntKind.i64.wrap (((j + 1:Nat):Int) - 1) = (j:Int):=zaa (by omega) (by omega) |>.trans (by omega)
        obtain ⟨_, q1⟩:=zc2 (rest:=rest) (show j + 1 < E.size by omega) (0 + (j + 1) * 1) rfl
        obtain ⟨_, q2⟩:=zc2 (rest:=rest) (show j < E.size by omega) (0 + (j) * 1) rfl
        cases hc:lt E[j + 1]! E[j]! with
        | false =>
         rw [if_pos (by rw [hc]; rfl)] at hS
         refine Z140 ?_; refine Z267 ?_; refine Z259 ?_; refine Z345 ?_; refine qf (id:=16) [(200071, [900]), (200076, [900])] mixed (by kernel_rfl) ?_; refine Z147 ?_; refine z8 (qg L _ rfl rfl rfl rfl rfl rfl rfl (by omega)) rfl ?_; refine qp (qq L (q:=900) rfl rfl rfl rfl rfl q1) rfl rfl ?_; refine Z241 ?_; refine z8 (qg L _ rfl rfl rfl rfl rfl rfl rfl (by omega)) rfl ?_; refine qp (qq L (q:=900) rfl rfl rfl rfl rfl q2) rfl rfl ?_; refine z8 (zo L rfl rfl (zk rfl) rfl rfl rfl (fun u H hH _ _ => zbc hc hH)) rfl ?_; refine Z63 ?_; refine Z210 ?_; refine Z163 ?_; refine zkr rfl ?_; refine y7 ?_; refine y7 ?_; refine yt ?_
         exact za6 E Since.refl ⟨hE, hS⟩ rfl ⟨rfl, rfl, rfl, rfl, rfl, rfl, trivial⟩
        | true =>
         rw [if_neg (by rw [hc]; simp)] at hS
         obtain ⟨_, qj⟩:=zc2 (rest:=rest) (show j < E.size by omega) (0 + (j) * 1) rfl
         obtain ⟨_, qi⟩:=zc2 (rest:=rest) (show j + 1 < E.size by omega) (0 + (j + 1) * 1) rfl
         have s1:=zca (rest:=rest) E[j]! (show j + 1 < E.size by omega) (0 + (j + 1) * 1) rfl
         have b1:=zcb (rest:=rest) (show j + 1 < E.size by omega) (0 + (j + 1) * 1) rfl
         have hz:j < (E.setIfInBounds (j + 1) E[j]!).size:=by rw [Array.size_setIfInBounds]; omega
         have s2:=zca (rest:=rest) E[j + 1]! hz (0 + (j) * 1) rfl
         have b2:=zcb (rest:=rest) hz (0 + (j) * 1) rfl
         rw [zc6] at s2
         refine Z140 ?_; refine Z267 ?_; refine Z259 ?_; refine Z345 ?_; refine qf (id:=16) [(200071, [900]), (200076, [900])] mixed (by kernel_rfl) ?_; refine Z147 ?_; refine z8 (qg L _ rfl rfl rfl rfl rfl rfl rfl (by omega)) rfl ?_; refine qp (qq L (q:=900) rfl rfl rfl rfl rfl q1) rfl rfl ?_; refine Z241 ?_; refine z8 (qg L _ rfl rfl rfl rfl rfl rfl rfl (by omega)) rfl ?_; refine qp (qq L (q:=900) rfl rfl rfl rfl rfl q2) rfl rfl ?_; refine z8 (zo L rfl rfl (zk rfl) rfl rfl rfl (fun u H hH _ _ => zbc hc hH)) rfl ?_; refine Z63 ?_; refine Z178 ?_; refine Z143 ?_; refine qf (id:=17) [(200088, [900]), (200092, [900]), (100093, [900]), (100094, [900])] mixed (by kernel_rfl) ?_; refine Z147 ?_; refine Z241 ?_; refine Z241 ?_; refine z8 (qg L _ rfl rfl rfl rfl rfl rfl rfl (by omega)) rfl ?_; refine qp (qq L (q:=900) rfl rfl rfl rfl rfl qj) rfl rfl ?_; refine Z147 ?_; refine z8 (qg L _ rfl rfl rfl rfl rfl rfl rfl (by omega)) rfl ?_; refine qp (qq L (q:=900) rfl rfl rfl rfl rfl qi) rfl rfl ?_; refine z8 (qg L _ rfl rfl rfl rfl rfl rfl rfl (by omega)) rfl ?_; refine zag (yw L (q:=900) rfl rfl rfl rfl rfl rfl b1 rfl s1) rfl ?_; refine z8 (qg L _ rfl rfl rfl rfl rfl rfl rfl (by omega)) rfl ?_; refine zag (yw L (q:=900) rfl rfl rfl rfl rfl rfl b2 rfl s2) rfl ?_; refine Z282 ?_; refine Z96 ?_; refine Z231 ?_; refine Z156 ?_
         exact yi (x:=(j + 1, E)) (j, swp E (j + 1) j) ⟨by dsimp only; omega, by dsimp only; rw [zbo]; exact hE, hS⟩ (by dsimp only; omega) ⟨rfl, rfl, rfl, rfl, rfl, rfl, rfl, trivial⟩
      ·rw [if_neg h2a] at hD2
       refine Z86 ?_; refine Z212 ?_; refine Z47 ?_; refine Z193 ?_
       exact za6 D1 Since.refl ⟨by omega, hD2.symm⟩ rfl ⟨rfl, rfl, rfl, rfl, rfl, rfl, trivial⟩
     ·rintro G ⟨hG, hGe⟩
      rw [← hGe] at hL
      clear hD2 hGe
      by_cases h2b:e - i ≥ 2
      ·rw [if_pos h2b] at hL
       obtain ⟨D3, hD3⟩:∃ D3, D3 = shiftUp lt e (i + 1) G:=⟨_, rfl⟩
       rw [← hD3] at hL
       refine zh ?_; refine Z100 ?_; refine Z212 ?_; refine Z41 ?_; refine Z154 ?_; refine Z119 ?_; refine Z1 ?_; refine Z20 ?_; refine Z203 ?_
       ·refine zak (fun t:Nat × Array Int => [(0, .is (.slice (some ⟨b, 0, none⟩) m cap)), (1, .is (.int .i64 a)), (2, .is (.int .i64 e)), (7, .is (.int .i64 i)), (8, .is (.int .i64 k)), (10, .is (.int .i64 t.1)), (900, .own (zal b (uC t.2 ++ rest) tyU))]) (fun t => i + 1 ≤ t.1 ∧ t.1 ≤ e ∧ t.2.size = m ∧ shiftUp lt e t.1 t.2 = D3) (fun t => e - t.1) (i + 1, G) ⟨Nat.le_refl _, by dsimp only; omega, hG, hD3.symm⟩ ⟨rfl, rfl, rfl, rfl, rfl, rfl, rfl, trivial⟩ ?_
        rintro ⟨j, E⟩ ⟨hj1, hj2, hE, hS⟩
        dsimp only at hj1 hj2 hE hS ⊢
        clear hD3
        rw [shiftUp] at hS
        by_cases hje:j < e
        ·rw [if_pos hje] at hS
         have hw8:IntKind.i64.wrap ((j:Int) - 1) = ((j - 1:Nat):Int):=zaa (by omega) (by omega) |>.trans (by omega)
         have hw9:IntKind.i64.wrap ((j:Int) + 1) = ((j + 1:Nat):Int):=zaa (by omega) (by omega)
         obtain ⟨_, q1⟩:=zc2 (rest:=rest) (show j < E.size by omega) (0 + (j) * 1) rfl
         obtain ⟨_, q2⟩:=zc2 (rest:=rest) (show j - 1 < E.size by omega) (0 + (j - 1) * 1) rfl
         cases hc:lt E[j]! E[j - 1]! with
         | false =>
          rw [if_pos (by rw [hc]; rfl)] at hS
          refine Z140 ?_; refine Z334 ?_; refine Z177 ?_; refine Z345 ?_; refine qf (id:=22) [(200109, [900]), (200114, [900])] mixed (by kernel_rfl) ?_; refine Z147 ?_; refine z8 (qg L _ rfl rfl rfl rfl rfl rfl rfl (by omega)) rfl ?_; refine qp (qq L (q:=900) rfl rfl rfl rfl rfl q1) rfl rfl ?_; refine Z241 ?_; refine z8 (qg L _ rfl rfl rfl rfl rfl rfl rfl (by omega)) rfl ?_; refine qp (qq L (q:=900) rfl rfl rfl rfl rfl q2) rfl rfl ?_; refine z8 (zo L rfl rfl (zk rfl) rfl rfl rfl (fun u H hH _ _ => zbc hc hH)) rfl ?_; refine Z63 ?_; refine Z210 ?_; refine Z163 ?_; refine zkr rfl ?_; refine y7 ?_; refine y7 ?_; refine yt ?_; refine Z167 ?_; refine Z363 ?_
          exact yi (x:=((k, i0), D)) ((k + 1, i), E) ⟨by dsimp only; omega, by dsimp only; omega, by dsimp only; omega, hE, by dsimp only; rw [hs', hS]; exact hL⟩ (by dsimp only; omega) ⟨rfl, rfl, rfl, rfl, rfl, rfl, trivial⟩
         | true =>
          rw [if_neg (by rw [hc]; simp)] at hS
          obtain ⟨_, qj⟩:=zc2 (rest:=rest) (show j - 1 < E.size by omega) (0 + (j - 1) * 1) rfl
          obtain ⟨_, qi⟩:=zc2 (rest:=rest) (show j < E.size by omega) (0 + (j) * 1) rfl
          have s1:=zca (rest:=rest) E[j - 1]! (show j < E.size by omega) (0 + (j) * 1) rfl
          have b1:=zcb (rest:=rest) (show j < E.size by omega) (0 + (j) * 1) rfl
          have hz:j - 1 < (E.setIfInBounds (j) E[j - 1]!).size:=by rw [Array.size_setIfInBounds]; omega
          have s2:=zca (rest:=rest) E[j]! hz (0 + (j - 1) * 1) rfl
          have b2:=zcb (rest:=rest) hz (0 + (j - 1) * 1) rfl
          rw [zc6] at s2
          refine Z140 ?_; refine Z334 ?_; refine Z177 ?_; refine Z345 ?_; refine qf (id:=22) [(200109, [900]), (200114, [900])] mixed (by kernel_rfl) ?_; refine Z147 ?_; refine z8 (qg L _ rfl rfl rfl rfl rfl rfl rfl (by omega)) rfl ?_; refine qp (qq L (q:=900) rfl rfl rfl rfl rfl q1) rfl rfl ?_; refine Z241 ?_; refine z8 (qg L _ rfl rfl rfl rfl rfl rfl rfl (by omega)) rfl ?_; refine qp (qq L (q:=900) rfl rfl rfl rfl rfl q2) rfl rfl ?_; refine z8 (zo L rfl rfl (zk rfl) rfl rfl rfl (fun u H hH _ _ => zbc hc hH)) rfl ?_; refine Z63 ?_; refine Z178 ?_; refine Z143 ?_; refine qf (id:=23) [(200126, [900]), (200130, [900]), (100131, [900]), (100132, [900])] mixed (by kernel_rfl) ?_; refine Z147 ?_; refine Z241 ?_; refine Z241 ?_; refine z8 (qg L _ rfl rfl rfl rfl rfl rfl rfl (by omega)) rfl ?_; refine qp (qq L (q:=900) rfl rfl rfl rfl rfl qj) rfl rfl ?_; refine Z147 ?_; refine z8 (qg L _ rfl rfl rfl rfl rfl rfl rfl (by omega)) rfl ?_; refine qp (qq L (q:=900) rfl rfl rfl rfl rfl qi) rfl rfl ?_; refine z8 (qg L _ rfl rfl rfl rfl rfl rfl rfl (by omega)) rfl ?_; refine zag (yw L (q:=900) rfl rfl rfl rfl rfl rfl b1 rfl s1) rfl ?_; refine z8 (qg L _ rfl rfl rfl rfl rfl rfl rfl (by omega)) rfl ?_; refine zag (yw L (q:=900) rfl rfl rfl rfl rfl rfl b2 rfl s2) rfl ?_; refine Z282 ?_; refine Z385 ?_; refine Z217 ?_
          exact yi (x:=(j, E)) (j + 1, swp E j (j - 1)) ⟨by dsimp only; omega, by dsimp only; omega, by dsimp only; rw [zbo]; exact hE, hS⟩ (by dsimp only; omega) ⟨rfl, rfl, rfl, rfl, rfl, rfl, rfl, trivial⟩
        ·rw [if_neg hje] at hS
         refine Z140 ?_; refine Z94 ?_; refine Z360 ?_; refine Z165 ?_; refine Z167 ?_; refine Z363 ?_
         exact yi (x:=((k, i0), D)) ((k + 1, i), E) ⟨by dsimp only; omega, by dsimp only; omega, by dsimp only; omega, hE, by dsimp only; rw [hs', hS]; exact hL⟩ (by dsimp only; omega) ⟨rfl, rfl, rfl, rfl, rfl, rfl, trivial⟩
      ·rw [if_neg h2b] at hL
       refine zh ?_; refine Z100 ?_; refine Z212 ?_; refine Z47 ?_; refine Z221 ?_; refine Z363 ?_
       exact yi (x:=((k, i0), D)) ((k + 1, i), G) ⟨by dsimp only; omega, by dsimp only; omega, by dsimp only; omega, hG, by dsimp only; rw [hs']; exact hL⟩ (by dsimp only; omega) ⟨rfl, rfl, rfl, rfl, rfl, rfl, trivial⟩
 ·obtain rfl:k = 5:=by omega
  have hL':(D, false) = X:=hL
  rw [← hL']
  refine Z258 ?_; refine Z248 ?_; refine zf (id:=24) ?_; refine Z139 ?_
  exact zf3 L 900 (r:=zab b _ tyU) (rs:=[.tmp 6]) rfl (fun _ _ h => h) Since.refl rfl rfl (fun _ => rfl)
end Go.V.So
set_option maxRecDepth 20000
namespace Go.V.So
open Go.Proofs Go.RowKit Go.V Go.Sort
theorem _root_.Go.V.Z64 {A B:Prop} (h:B) (t:Wr B → A:=by intro h; refine yr (qq L (q:=900) rfl rfl rfl rfl rfl rfl) ?_; exact h.h):A:=t ⟨h⟩
theorem _root_.Go.V.Z67 {A B:Prop} (h:B) (t:Wr B → A:=by intro h; refine qp (qq L (q:=900) rfl rfl rfl rfl rfl rfl) rfl rfl ?_; exact h.h):A:=t ⟨h⟩
theorem _root_.Go.V.Z372 {A B:Prop} (h:B) (t:Wr B → A:=by intro h; refine Z36 ?_; refine zag (yw L (q:=900) rfl rfl rfl rfl rfl rfl rfl rfl rfl) rfl ?_; exact h.h):A:=t ⟨h⟩
abbrev tyX:TypeId:=233
attribute [local irreducible] V N X VO Par StepOK Has Ret RetL RetO zb8 zdn Src
set_option maxRecDepth 20000 in
theorem zqs {x b:Nat} (hx:x < 18446744073709551616) {w:World} {B:Heap} {C:Nat → Prop} (hB:B.Le (hp w))
  (hr:(zab b [.int .u64 x] tyX).P B w C) (hC:∀ k, C k → k < w.heap.size ∧ B k = none) :
  zdn Tryz.prog 150 [.pointer (some ⟨b, 0, none⟩)] w B C (zab b [.int .u64 (xorNextN x:Nat)] tyX) (.int .u64 (xorNextN x:Nat)):=by
 obtain ⟨X1, h1⟩:∃ X1:Nat, X1 = x ^^^ (x * 8192 % 18446744073709551616):=⟨_, rfl⟩
 obtain ⟨X2, h2⟩:∃ X2:Nat, X2 = X1 ^^^ (X1 / 128):=⟨_, rfl⟩
 obtain ⟨X3, h3⟩:∃ X3:Nat, X3 = X2 ^^^ (X2 * 131072 % 18446744073709551616):=⟨_, rfl⟩
 have l1:X1 < 18446744073709551616:=by rw [h1]; exact Nat.xor_lt_two_pow (n:=64) (by omega) (by omega)
 have l2:X2 < 18446744073709551616:=by rw [h2]; exact Nat.xor_lt_two_pow (n:=64) (by omega) (by omega)
 have l3:X3 < 18446744073709551616:=by rw [h3]; exact Nat.xor_lt_two_pow (n:=64) (by omega) (by omega)
 have hv:xorNextN x = X3:=by unfold xorNextN; simp only []; rw [← h1, ← h2, ← h3]
 have s1:IntKind.u64.wrap ((x:Int) * 2 ^ min (13:Int).toNat IntKind.u64.bits) = ((x * 8192 % 18446744073709551616:Nat):Int):=by
  rw [IntKind.wrap_u64, show ((2:Int) ^ min (13:Int).toNat IntKind.u64.bits) = 8192 from by decide]; omega
 have s2:(X1:Int).fdiv (2 ^ min (7:Int).toNat IntKind.u64.bits) = ((X1 / 128:Nat):Int):=by
  rw [show ((2:Int) ^ min (7:Int).toNat IntKind.u64.bits) = 128 from by decide, Int.fdiv_eq_ediv_of_nonneg _ (by omega)]; omega
 have s3:IntKind.u64.wrap ((X2:Int) * 2 ^ min (17:Int).toNat IntKind.u64.bits) = ((X2 * 131072 % 18446744073709551616:Nat):Int):=by
  rw [IntKind.wrap_u64, show ((2:Int) ^ min (17:Int).toNat IntKind.u64.bits) = 131072 from by decide]; omega
 have x1:bits .xor .u64 (x:Int) ((x * 8192 % 18446744073709551616:Nat):Int) = (X1:Int):=by rw [bits_xor_u64_nat _ _ hx (by omega), h1]
 have x2:bits .xor .u64 (X1:Int) ((X1 / 128:Nat):Int) = (X2:Int):=by rw [bits_xor_u64_nat _ _ l1 (by omega), h2]
 have x3:bits .xor .u64 (X2:Int) ((X2 * 131072 % 18446744073709551616:Nat):Int) = (X3:Int):=by rw [bits_xor_u64_nat _ _ l2 (by omega), h3]
 rw [hv]
 clear hv h1 h2 h3
 unfold zdn
 refine zar 900 (zab b [.int .u64 x] tyX) Tryz.func150 rfl Tryz.ntmps150 (Nat.le_of_ble_eq_true rfl) hB hr hC ?_
 rw [za2]
 refine Z146 ?_; refine Z144 ?_; refine qf (id:=1) [(200005, [900]), (200008, [900]), (100011, [900])] mixed (by kernel_rfl) ?_; refine Z3 ?_; refine Z36 ?_; refine Z67 ?_; refine Z3 ?_; refine Z36 ?_; refine Z67 ?_; refine z8 (zuo rfl rfl rfl rfl (by decide) s1) rfl ?_; refine z8 (zum rfl rfl rfl rfl x1) rfl ?_; refine Z372 ?_; refine Z301 ?_; refine qf (id:=2) [(200014, [900]), (200017, [900]), (100020, [900])] mixed (by kernel_rfl) ?_; refine Z3 ?_; refine Z36 ?_; refine Z67 ?_; refine Z3 ?_; refine Z36 ?_; refine Z67 ?_; refine z8 (zzb rfl rfl rfl rfl (by decide) s2) rfl ?_; refine z8 (zum rfl rfl rfl rfl x2) rfl ?_; refine Z372 ?_; refine Z301 ?_; refine qf (id:=3) [(200023, [900]), (200026, [900]), (100029, [900])] mixed (by kernel_rfl) ?_; refine Z3 ?_; refine Z36 ?_; refine Z67 ?_; refine Z3 ?_; refine Z36 ?_; refine Z67 ?_; refine z8 (zuo rfl rfl rfl rfl (by decide) s3) rfl ?_; refine z8 (zum rfl rfl rfl rfl x3) rfl ?_; refine Z372 ?_; refine Z301 ?_; refine Z161 ?_; refine Z61 ?_; refine Z64 ?_; refine Z139 ?_
 exact zf3 L 900 (r:=zab b _ tyX) (rs:=[.tmp 2]) rfl (fun _ _ h => h) Since.refl rfl rfl (fun _ => rfl)
end Go.V.So
set_option maxRecDepth 20000
namespace Go.V.So
open Go.Proofs Go.RowKit Go.V Go.Sort
theorem _root_.Go.V.Z253 {A B:Prop} (h:B) (t:Wr B → A:=by intro h; refine Z50 ?_; refine Z227 ?_; exact h.h):A:=t ⟨h⟩
theorem _root_.Go.V.Z335 {A B:Prop} (h:B) (t:Wr B → A:=by intro h; refine Z30 ?_; refine Z141 ?_; exact h.h):A:=t ⟨h⟩
attribute [local irreducible] V N X VO Par StepOK Has Ret RetL RetO zb8 zdn Src
set_option maxRecDepth 20000 in
theorem zko {n:Nat} (hn:n < 18446744073709551616) {w:World} {B:Heap} (hB:B.Le (hp w)):Ret Tryz.prog 73 [.int .u64 n] w B (fun v _ => v = .int .i64 (bitsLen n)):=by
 refine yc Tryz.func73 rfl Tryz.ntmps73 (Nat.le_of_ble_eq_true rfl) hB ?_
 refine Z146 ?_; refine Z144 ?_; refine Z9 ?_; refine Z149 ?_; refine Z175 ?_; refine z7 (zo L rfl rfl (zk rfl) rfl rfl rfl (fun u H hH _ _ => Ret.of_same hH (Tryz.bits_Len64 (n:Int) u (by omega) (by omega)))) rfl ?_; refine Z139 ?_
 refine yb L (rs:=[.tmp 2]) rfl (fun _ _ h => h) Since.refl fun u H hH hle => ?_
 rw [Int.toNat_natCast, bitLen_eq n hn]
 rfl
theorem zxg {n:Nat} (hn:n ≤ 100000) {w:World} {B:Heap} (hB:B.Le (hp w)):Ret Tryz.prog 149 [.int .i64 n] w B (fun v _ => v = .int .u64 (1 <<< bitsLen n:Nat)):=by
 have hb:bitsLen n ≤ 17:=(bitsLen_le_iff n 17).2 (by omega)
 have hp2:(2:Nat) ^ bitsLen n ≤ 2 ^ 17:=Nat.pow_le_pow_right (by omega) hb
 have hmin:min ((bitsLen n:Nat):Int).toNat IntKind.u64.bits = bitsLen n:=by
  rw [Int.toNat_natCast]
  have:IntKind.u64.bits = 64:=by decide
  omega
 have s1:IntKind.u64.wrap ((1:Int) * 2 ^ min ((bitsLen n:Nat):Int).toNat IntKind.u64.bits) = ((1 <<< bitsLen n:Nat):Int):=by
  rw [hmin, Nat.shiftLeft_eq, Nat.one_mul, Int.one_mul, Int.natCast_pow]
  have e2:((2:Nat):Int) ^ bitsLen n = ((2 ^ bitsLen n:Nat):Int):=(Int.natCast_pow 2 _).symm
  rw [show ((2:Int) ^ bitsLen n) = ((2:Nat):Int) ^ bitsLen n from rfl, e2]
  have hp3:2 ^ bitsLen n ≤ 131072:=hp2
  clear hp2 hmin e2
  generalize 2 ^ bitsLen n = M at *
  exact wrap_u64 (by omega) (by omega)
 have hc:IntKind.u64.wrap (n:Int) = (n:Int):=wrap_u64 (by omega) (by omega)
 refine yc Tryz.func149 rfl Tryz.ntmps149 (Nat.le_of_ble_eq_true rfl) hB ?_
 refine Z286 ?_; refine z7 (zau rfl rfl rfl zbq.1 zbq.2 (wrap_u64 (by omega) (by omega))) rfl ?_; refine z7 (zo L rfl rfl (zk rfl) rfl rfl rfl (fun u H hH _ _ => zko (by omega) hH)) rfl ?_; refine z7 (zuo rfl rfl rfl rfl (by omega) s1) rfl ?_; refine Z139 ?_
 refine yb L (rs:=[.tmp 2]) rfl (fun _ _ h => h) Since.refl fun u H hH hle => ?_
 rfl
set_option maxHeartbeats 2000000 in
set_option maxRecDepth 20000 in
theorem z1e {d:Array Int} {rest:List Value} {b m cap a e:Nat} (hab:a ≤ e) (he:e ≤ d.size) (hm:d.size = m) (hm1:m ≤ 100000) {w:World} {B:Heap} {C:Nat → Prop} (hB:B.Le (hp w))
  (hr:(zab b (uC d ++ rest) tyU).P B w C) (hC:∀ k, C k → k < w.heap.size ∧ B k = none) :
  zb8 Tryz.prog 103 [.slice (some ⟨b, 0, none⟩) m cap, .int .i64 a, .int .i64 e] w B C (zab b (uC (breakPatterns d a e) ++ rest) tyU):=by
 unfold zb8
 refine zar 900 (zab b (uC d ++ rest) tyU) Tryz.func103 rfl Tryz.ntmps103 (Nat.le_of_ble_eq_true rfl) hB hr hC ?_
 rw [za2]
 obtain ⟨Ln, rfl⟩:∃ Ln, e = a + Ln:=⟨e - a, by omega⟩
 have hw0:IntKind.i64.wrap (((a + Ln:Nat):Int) - (a:Int)) = (Ln:Int):=zaa (by omega) (by omega) |>.trans (by omega)
 by_cases h8:8 ≤ Ln
 ·have hX:=breakPatterns_eq d a Ln h8
  obtain ⟨M, hM⟩:∃ M, M = 1 <<< bitsLen Ln:=⟨_, rfl⟩
  have hb17:bitsLen Ln ≤ 17:=(bitsLen_le_iff Ln 17).2 (by omega)
  have hMp:1 ≤ M ∧ M ≤ 131072:=by
   rw [hM, Nat.shiftLeft_eq, Nat.one_mul]
   exact ⟨Nat.one_le_two_pow, Nat.pow_le_pow_right (by omega) hb17⟩
  have hM2:M ≤ 2 * Ln:=by
   rw [hM, Nat.shiftLeft_eq, Nat.one_mul]
   exact two_pow_bitsLen_le (by omega)
  obtain ⟨I0, hI0⟩:∃ I0, I0 = a + Ln / 4 * 2 - 1:=⟨_, rfl⟩
  rw [← hM, ← hI0] at hX
  have hc1:IntKind.u64.wrap (Ln:Int) = (Ln:Int):=wrap_u64 (by omega) (by omega)
  have et:((Ln:Nat):Int).tdiv 4 = ((Ln / 4:Nat):Int):=by
   rw [Int.tdiv_eq_ediv_of_nonneg (by omega)]
   omega
  have hq:IntKind.i64.wrap (((Ln:Nat):Int).tdiv 4) = ((Ln / 4:Nat):Int):=by rw [et]; exact zaa (by omega) (by omega)
  have hw1:IntKind.i64.wrap (((Ln / 4:Nat):Int) * 2) = ((Ln / 4 * 2:Nat):Int):=zaa (by omega) (by omega) |>.trans (by omega)
  have hw2:IntKind.i64.wrap ((a:Int) + ((Ln / 4 * 2:Nat):Int)) = ((a + Ln / 4 * 2:Nat):Int):=zaa (by omega) (by omega) |>.trans (by omega)
  have hw3:IntKind.i64.wrap (((a + Ln / 4 * 2:Nat):Int) - 1) = (I0:Int):=zaa (by omega) (by omega) |>.trans (by omega)
  have hw4:IntKind.i64.wrap (((a + Ln / 4 * 2:Nat):Int) + 1) = ((I0 + 2:Nat):Int):=zaa (by omega) (by omega) |>.trans (by omega)
  have hM1:IntKind.u64.wrap ((M:Int) - 1) = ((M - 1:Nat):Int):=wrap_u64 (by omega) (by omega) |>.trans (by omega)
  have hln:(UInt64.ofNat Ln).toNat = Ln:=by
   rw [UInt64.toNat_ofNat']
   exact Nat.mod_eq_of_lt (by omega)
  refine Z146 ?_; refine Z212 ?_; refine Z397 ?_; refine Z41 ?_; refine Z154 ?_; refine Z175 ?_; refine z7 (zau rfl rfl rfl zvz.1 zvz.2 (wrap_u64 (by omega) (by omega))) rfl ?_; refine Z199 ?_; refine Z159 ?_
  refine zrp 7 901 rfl fun br => ?_
  refine Z173 ?_; refine z7 (zo L rfl rfl (zk rfl) rfl rfl rfl (fun u H hH _ _ => hM ▸ zxg (n:=Ln) (by omega) hH)) rfl ?_; refine Z144 ?_; refine Z335 ?_; refine Z253 ?_; refine Z25 ?_; refine Z203 ?_
  refine zak (fun s:Nat × (UInt64 × Array Int) => [(0, .is (.slice (some ⟨b, 0, none⟩) m cap)), (1, .is (.int .i64 a)), (6, .is (.int .i64 Ln)), (7, .is (.pointer (some ⟨br, 0, none⟩))), (8, .is (.int .u64 M)), (9, .is (.int .i64 (I0 + s.1:Nat))), (900, .own (zal b (uC s.2.2 ++ rest) tyU)), (901, .own (zal br [.int .u64 s.2.1.toNat] tyX))]) (fun s => s.1 ≤ 3 ∧ s.2.2.size = m ∧ bpRest a Ln M I0 (3 - s.1) s.1 s.2 = breakPatterns d a (a + Ln)) (fun s => 3 - s.1) (0, (UInt64.ofNat Ln, d)) ⟨by dsimp only; omega, hm, hX.symm⟩ ⟨rfl, rfl, rfl, rfl, rfl, rfl, rfl, by dsimp only; rw [hln]; rfl, trivial⟩ ?_
  rintro ⟨t, ⟨r, D⟩⟩ ⟨ht3, hD, hst⟩
  dsimp only at ht3 hD hst ⊢
  have hrl:r.toNat < 18446744073709551616:=UInt64.toNat_lt r
  by_cases ht:t < 3
  ·obtain ⟨o1, ho1⟩:∃ o1, o1 = xorNextN r.toNat &&& (M - 1):=⟨_, rfl⟩
   have ho1l:o1 ≤ M - 1:=by rw [ho1]; exact Nat.and_le_right
   have hand:bits .and .u64 ((xorNextN r.toNat:Nat):Int) ((M - 1:Nat):Int) = (o1:Int):=by rw [bits_and_u64_nat _ _ (xorNextN_lt _ hrl) (by omega), ho1]
   have hcv:IntKind.i64.wrap (o1:Int) = (o1:Int):=zaa (by omega) (by omega)
   have hwt:IntKind.i64.wrap (((I0 + t:Nat):Int) + 1) = ((I0 + (t + 1):Nat):Int):=zaa (by omega) (by omega) |>.trans (by omega)
   by_cases hoL:Ln ≤ o1
   ·have hw5:IntKind.i64.wrap ((o1:Int) - (Ln:Int)) = ((o1 - Ln:Nat):Int):=zaa (by omega) (by omega) |>.trans (by omega)
    have hw6:IntKind.i64.wrap ((a:Int) + ((o1 - Ln:Nat):Int)) = ((a + (o1 - Ln):Nat):Int):=zaa (by omega) (by omega)
    have ho:(if (xorNext r).toNat &&& (M - 1) ≥ Ln then ((xorNext r).toNat &&& (M - 1)) - Ln else (xorNext r).toNat &&& (M - 1)) = o1 - Ln:=by rw [xorNext_toNat, ← ho1, if_pos hoL]
    obtain ⟨_, qj⟩:=zc2 (rest:=rest) (show a + (o1 - Ln) < D.size by omega) (0 + (a + (o1 - Ln)) * 1) rfl
    obtain ⟨_, qi⟩:=zc2 (rest:=rest) (show I0 + t < D.size by omega) (0 + (I0 + t) * 1) rfl
    have s1:=zca (rest:=rest) D[a + (o1 - Ln)]! (show I0 + t < D.size by omega) (0 + (I0 + t) * 1) rfl
    have b1:=zcb (rest:=rest) (show I0 + t < D.size by omega) (0 + (I0 + t) * 1) rfl
    have hz:a + (o1 - Ln) < (D.setIfInBounds (I0 + t) D[a + (o1 - Ln)]!).size:=by rw [Array.size_setIfInBounds]; omega
    have s2:=zca (rest:=rest) D[I0 + t]! hz (0 + (a + (o1 - Ln)) * 1) rfl
    have b2:=zcb (rest:=rest) hz (0 + (a + (o1 - Ln)) * 1) rfl
    rw [zc6] at s2
    refine Z140 ?_; refine Z37 ?_; refine Z176 ?_; refine Z253 ?_; refine Z20 ?_; refine Z74 ?_; refine Z145 ?_; refine Z170 ?_; refine Z44 ?_; refine qn (zai L 901 (zab br [.int .u64 (xorNextN r.toNat:Nat)] tyX) (.int .u64 (xorNextN r.toNat:Nat)) (r:=zab br [.int .u64 r.toNat] tyX) rfl rfl rfl rfl rfl (fun u H C hH _ hr hC => zqs hrl hH hr hC)) ?_; refine Z231 ?_; refine z7 (zzd rfl rfl rfl rfl hand) rfl ?_; refine z7 (zau rfl rfl rfl zbr.1 zbr.2 (zaa (by omega) (by omega))) rfl ?_; refine Z148 ?_; refine Z57 ?_; refine Z141 ?_; refine Z259 ?_; refine Z60 ?_; refine Z212 ?_; refine Z139 ?_; refine qf (id:=10) [(200058, [900]), (200062, [900]), (100063, [900]), (100064, [900])] mixed (by kernel_rfl) ?_; refine Z147 ?_; refine Z209 ?_; refine Z209 ?_; refine z8 (qg L _ rfl rfl rfl rfl rfl rfl rfl (by omega)) rfl ?_; refine qp (qq L (q:=900) rfl rfl rfl rfl rfl qj) rfl rfl ?_; refine Z147 ?_; refine z8 (qg L _ rfl rfl rfl rfl rfl rfl rfl (by omega)) rfl ?_; refine qp (qq L (q:=900) rfl rfl rfl rfl rfl qi) rfl rfl ?_; refine z8 (qg L _ rfl rfl rfl rfl rfl rfl rfl (by omega)) rfl ?_; refine zag (yw L (q:=900) rfl rfl rfl rfl rfl rfl b1 rfl s1) rfl ?_; refine z8 (qg L _ rfl rfl rfl rfl rfl rfl rfl (by omega)) rfl ?_; refine zag (yw L (q:=900) rfl rfl rfl rfl rfl rfl b2 rfl s2) rfl ?_; refine Z282 ?_; refine Z192 ?_; refine Z217 ?_
    exact yi (x:=(t, (r, D))) (t + 1, (xorNext r, swp D (I0 + t) (a + (o1 - Ln)))) ⟨by dsimp only; omega, by dsimp only; rw [zbo]; exact hD, by dsimp only; rw [← hst, bp_step a Ln M I0 t r D ((o1 - Ln)) ht ho]⟩ (by dsimp only; omega) ⟨rfl, rfl, rfl, rfl, rfl, rfl, rfl, by dsimp only; rw [xorNext_toNat]; rfl, trivial⟩
   ·have hw6:IntKind.i64.wrap ((a:Int) + (o1:Int)) = ((a + o1:Nat):Int):=zaa (by omega) (by omega)
    have ho:(if (xorNext r).toNat &&& (M - 1) ≥ Ln then ((xorNext r).toNat &&& (M - 1)) - Ln else (xorNext r).toNat &&& (M - 1)) = o1:=by rw [xorNext_toNat, ← ho1, if_neg (by omega)]
    obtain ⟨_, qj⟩:=zc2 (rest:=rest) (show a + o1 < D.size by omega) (0 + (a + o1) * 1) rfl
    obtain ⟨_, qi⟩:=zc2 (rest:=rest) (show I0 + t < D.size by omega) (0 + (I0 + t) * 1) rfl
    have s1:=zca (rest:=rest) D[a + o1]! (show I0 + t < D.size by omega) (0 + (I0 + t) * 1) rfl
    have b1:=zcb (rest:=rest) (show I0 + t < D.size by omega) (0 + (I0 + t) * 1) rfl
    have hz:a + o1 < (D.setIfInBounds (I0 + t) D[a + o1]!).size:=by rw [Array.size_setIfInBounds]; omega
    have s2:=zca (rest:=rest) D[I0 + t]! hz (0 + (a + o1) * 1) rfl
    have b2:=zcb (rest:=rest) hz (0 + (a + o1) * 1) rfl
    rw [zc6] at s2
    refine Z140 ?_; refine Z37 ?_; refine Z176 ?_; refine Z253 ?_; refine Z20 ?_; refine Z74 ?_; refine Z145 ?_; refine Z170 ?_; refine Z44 ?_; refine qn (zai L 901 (zab br [.int .u64 (xorNextN r.toNat:Nat)] tyX) (.int .u64 (xorNextN r.toNat:Nat)) (r:=zab br [.int .u64 r.toNat] tyX) rfl rfl rfl rfl rfl (fun u H C hH _ hr hC => zqs hrl hH hr hC)) ?_; refine Z231 ?_; refine z7 (zzd rfl rfl rfl rfl hand) rfl ?_; refine z7 (zau rfl rfl rfl zbr.1 zbr.2 (zaa (by omega) (by omega))) rfl ?_; refine Z148 ?_; refine Z57 ?_; refine Z141 ?_; refine Z47 ?_; refine Z142 ?_; refine Z143 ?_; refine qf (id:=10) [(200058, [900]), (200062, [900]), (100063, [900]), (100064, [900])] mixed (by kernel_rfl) ?_; refine Z147 ?_; refine Z209 ?_; refine Z209 ?_; refine z8 (qg L _ rfl rfl rfl rfl rfl rfl rfl (by omega)) rfl ?_; refine qp (qq L (q:=900) rfl rfl rfl rfl rfl qj) rfl rfl ?_; refine Z147 ?_; refine z8 (qg L _ rfl rfl rfl rfl rfl rfl rfl (by omega)) rfl ?_; refine qp (qq L (q:=900) rfl rfl rfl rfl rfl qi) rfl rfl ?_; refine z8 (qg L _ rfl rfl rfl rfl rfl rfl rfl (by omega)) rfl ?_; refine zag (yw L (q:=900) rfl rfl rfl rfl rfl rfl b1 rfl s1) rfl ?_; refine z8 (qg L _ rfl rfl rfl rfl rfl rfl rfl (by omega)) rfl ?_; refine zag (yw L (q:=900) rfl rfl rfl rfl rfl rfl b2 rfl s2) rfl ?_; refine Z282 ?_; refine Z192 ?_; refine Z217 ?_
    exact yi (x:=(t, (r, D))) (t + 1, (xorNext r, swp D (I0 + t) (a + o1))) ⟨by dsimp only; omega, by dsimp only; rw [zbo]; exact hD, by dsimp only; rw [← hst, bp_step a Ln M I0 t r D (o1) ht ho]⟩ (by dsimp only; omega) ⟨rfl, rfl, rfl, rfl, rfl, rfl, rfl, by dsimp only; rw [xorNext_toNat]; rfl, trivial⟩
  ·obtain rfl:t = 3:=by omega
   have hst':D = breakPatterns d a (a + Ln):=hst
   rw [hst']
   refine Z140 ?_; refine Z37 ?_; refine Z176 ?_; refine Z253 ?_; refine Z20 ?_; refine Z70 ?_; refine Z142 ?_; refine Z165 ?_
   exact zbb L 900 (r:=zab b _ tyU) rfl (fun _ _ h => h) Since.refl rfl rfl
 ·have:breakPatterns d a (a + Ln) = d:=by unfold breakPatterns; simp only [Nat.add_sub_cancel_left]; rw [if_neg (by omega)]
  rw [this]
  refine Z146 ?_; refine Z212 ?_; refine Z397 ?_; refine Z47 ?_; refine Z193 ?_
  exact zbb L 900 (r:=zab b _ tyU) rfl (fun _ _ h => h) Since.refl rfl rfl
end Go.V.So
set_option maxRecDepth 20000
namespace Go.V.So
open Go.Proofs Go.RowKit Go.V Go.Sort
theorem _root_.Go.V.Z127 {A B:Prop} (h:B) (t:Wr B → A:=by intro h; refine z8 (zuy L (ya rfl (by assumption)) rfl rfl rfl (by assumption)) rfl ?_; exact h.h):A:=t ⟨h⟩
abbrev tyI:TypeId:=3
theorem z1w {d:Array Int} {rest:List Value} {j:Nat} (h:j < d.size):(uC d ++ rest)[0 + j * 1]? = some (.int .u64 d[j]!):=by
 rw [Nat.zero_add, Nat.mul_one, List.getElem?_append_left (by rw [zi9]; exact h)]
 exact zy0 h
attribute [local irreducible] V N X VO Par StepOK Has Ret RetL RetO zb8 zdn Src
set_option maxRecDepth 20000 in
theorem zmj {d:Array Int} {rest:List Value} {b m cap a e bs k:Nat} (ha:a < m) (he:e < m) (hm:d.size = m) (hm1:m ≤ 100000) (hk:k ≤ 1000) {w:World} {B:Heap} {C:Nat → Prop} (hB:B.Le (hp w)) (hb:B b = some (.cells (uC d ++ rest).toArray tyU))
  (hr:(zab bs [.int .i64 k] tyI).P B w C) (hC:∀ k, C k → k < w.heap.size ∧ B k = none) :
  zdn Tryz.prog 169 [.slice (some ⟨b, 0, none⟩) m cap, .int .i64 a, .int .i64 e, .pointer (some ⟨bs, 0, none⟩)] w B C (zab bs [.int .i64 (order2 lt d a e k).2.2] tyI) (.tuple #[.int .i64 (order2 lt d a e k).1, .int .i64 (order2 lt d a e k).2.1]):=by
 unfold zdn
 refine zar 900 (zab bs [.int .i64 k] tyI) Tryz.func169 rfl Tryz.ntmps169 (Nat.le_of_ble_eq_true rfl) hB hr hC ?_
 rw [za2]
 have g1:=z1w (rest:=rest) (show a < d.size by omega)
 have g2:=z1w (rest:=rest) (show e < d.size by omega)
 have hw:IntKind.i64.wrap ((k:Int) + 1) = ((k + 1:Nat):Int):=zaa (by omega) (by omega)
 unfold order2
 cases hc:lt d[e]! d[a]! with
 | true =>
  refine Z146 ?_; refine Z225 ?_; refine Z77 ?_; refine Z147 ?_; refine z8 (qg L _ rfl rfl rfl rfl rfl rfl rfl (by omega)) rfl ?_; refine Z127 ?_; refine Z147 ?_; refine z8 (qg L _ rfl rfl rfl rfl rfl rfl rfl (by omega)) rfl ?_; refine Z127 ?_; refine z8 (zo L rfl rfl (zk rfl) rfl rfl rfl (fun u H hH _ _ => zbc hc hH)) rfl ?_; refine Z210 ?_; refine zh ?_; refine Z175 ?_; refine Z61 ?_; refine Z64 ?_; refine Z20 ?_; refine Z61 ?_; refine zcl (yw L (q:=900) rfl rfl rfl rfl rfl rfl rfl rfl rfl) ?_; refine Z159 ?_; refine Z207 ?_; refine Z186 ?_
  exact zf3 L 900 (r:=zab bs _ tyI) (rs:=[.tmp 8, .tmp 9]) rfl (fun _ _ h => h) Since.refl rfl rfl (fun _ => rfl)
 | false =>
  refine Z146 ?_; refine Z225 ?_; refine Z77 ?_; refine Z147 ?_; refine z8 (qg L _ rfl rfl rfl rfl rfl rfl rfl (by omega)) rfl ?_; refine Z127 ?_; refine Z147 ?_; refine z8 (qg L _ rfl rfl rfl rfl rfl rfl rfl (by omega)) rfl ?_; refine Z127 ?_; refine z8 (zo L rfl rfl (zk rfl) rfl rfl rfl (fun u H hH _ _ => zbc hc hH)) rfl ?_; refine Z178 ?_; refine Z149 ?_; refine Z335 ?_; refine Z186 ?_
  exact zf3 L 900 (r:=zab bs _ tyI) (rs:=[.tmp 8, .tmp 9]) rfl (fun _ _ h => h) Since.refl rfl rfl (fun _ => rfl)
theorem zj0 (d:Array Int) {a e m k:Nat} (ha:a < m) (he:e < m):(order2 lt d a e k).1 < m ∧ (order2 lt d a e k).2.1 < m ∧ (order2 lt d a e k).2.2 ≤ k + 1:=by
 unfold order2
 split
 ·exact ⟨he, ha, Nat.le_refl _⟩
 ·exact ⟨ha, he, Nat.le_succ _⟩
set_option maxRecDepth 20000 in
theorem zgs {d:Array Int} {rest:List Value} {b m cap x y z bs k:Nat} (hx:x < m) (hy:y < m) (hz:z < m) (hm:d.size = m) (hm1:m ≤ 100000) (hk:k ≤ 900) {w:World} {B:Heap} {C:Nat → Prop} (hB:B.Le (hp w)) (hb:B b = some (.cells (uC d ++ rest).toArray tyU))
  (hr:(zab bs [.int .i64 k] tyI).P B w C) (hC:∀ k, C k → k < w.heap.size ∧ B k = none) :
  zdn Tryz.prog 152 [.slice (some ⟨b, 0, none⟩) m cap, .int .i64 x, .int .i64 y, .int .i64 z, .pointer (some ⟨bs, 0, none⟩)] w B C (zab bs [.int .i64 (median lt d x y z k).2] tyI) (.int .i64 (median lt d x y z k).1):=by
 unfold zdn
 refine zar 900 (zab bs [.int .i64 k] tyI) Tryz.func152 rfl Tryz.ntmps152 (Nat.le_of_ble_eq_true rfl) hB hr hC ?_
 rw [za2]
 unfold median
 dsimp only
 obtain ⟨r1, hr1⟩:∃ r, r = order2 lt d x y k:=⟨_, rfl⟩
 rw [← hr1]
 obtain ⟨r2, hr2⟩:∃ r, r = order2 lt d r1.2.1 z r1.2.2:=⟨_, rfl⟩
 rw [← hr2]
 obtain ⟨r3, hr3⟩:∃ r, r = order2 lt d r1.1 r2.1 r2.2.2:=⟨_, rfl⟩
 rw [← hr3]
 obtain ⟨a1, a2, a3⟩:=hr1 ▸ zj0 d (k:=k) hx hy
 obtain ⟨b1, b2, b3⟩:=hr2 ▸ zj0 d (k:=r1.2.2) a2 hz
 refine Z182 ?_; refine Z232 ?_; refine qn (zai L 900 (zab bs [.int .i64 r1.2.2] tyI) (.tuple #[.int .i64 r1.1, .int .i64 r1.2.1]) (r:=zab bs [.int .i64 k] tyI) rfl rfl rfl rfl rfl (fun u H C hH hle hr hC => by have h:=zmj (rest:=rest) (cap:=cap) hx hy hm hm1 (k:=k) (by omega) hH (hle _ _ hb) hr hC; rw [← hr1] at h; exact h)) ?_; refine Z229 ?_; refine Z29 ?_; refine Z232 ?_; refine qn (zai L 900 (zab bs [.int .i64 r2.2.2] tyI) (.tuple #[.int .i64 r2.1, .int .i64 r2.2.1]) (r:=zab bs [.int .i64 r1.2.2] tyI) rfl rfl rfl rfl rfl (fun u H C hH hle hr hC => by have h:=zmj (rest:=rest) (cap:=cap) a2 hz hm hm1 (k:=r1.2.2) (by omega) hH (hle _ _ hb) hr hC; rw [← hr2] at h; exact h)) ?_; refine Z229 ?_; refine Z207 ?_; refine Z141 ?_; refine qn (zai L 900 (zab bs [.int .i64 r3.2.2] tyI) (.tuple #[.int .i64 r3.1, .int .i64 r3.2.1]) (r:=zab bs [.int .i64 r2.2.2] tyI) rfl rfl rfl rfl rfl (fun u H C hH hle hr hC => by have h:=zmj (rest:=rest) (cap:=cap) a1 b1 hm hm1 (k:=r2.2.2) (by omega) hH (hle _ _ hb) hr hC; rw [← hr3] at h; exact h)) ?_; refine Z229 ?_; refine Z161 ?_; refine Z139 ?_
 exact zf3 L 900 (r:=zab bs _ tyI) (rs:=[.tmp 10]) rfl (fun _ _ h => h) Since.refl rfl rfl (fun _ => rfl)
theorem zva (d:Array Int) {x y z m k:Nat} (hx:x < m) (hy:y < m) (hz:z < m):(median lt d x y z k).1 < m ∧ (median lt d x y z k).2 ≤ k + 3:=by
 unfold median
 dsimp only
 obtain ⟨a1, a2, a3⟩:=zj0 d (k:=k) hx hy
 obtain ⟨b1, b2, b3⟩:=zj0 d (k:=(order2 lt d x y k).2.2) a2 hz
 obtain ⟨c1, c2, c3⟩:=zj0 d (k:=(order2 lt d (order2 lt d x y k).2.1 z (order2 lt d x y k).2.2).2.2) a1 b1
 exact ⟨c2, by omega⟩
set_option maxRecDepth 20000 in
theorem zdt {d:Array Int} {rest:List Value} {b m cap x bs k:Nat} (h1:1 ≤ x) (hx:x + 1 < m) (hm:d.size = m) (hm1:m ≤ 100000) (hk:k ≤ 900) {w:World} {B:Heap} {C:Nat → Prop} (hB:B.Le (hp w)) (hb:B b = some (.cells (uC d ++ rest).toArray tyU))
  (hr:(zab bs [.int .i64 k] tyI).P B w C) (hC:∀ k, C k → k < w.heap.size ∧ B k = none) :
  zdn Tryz.prog 151 [.slice (some ⟨b, 0, none⟩) m cap, .int .i64 x, .pointer (some ⟨bs, 0, none⟩)] w B C (zab bs [.int .i64 (medianAdjacent lt d x k).2] tyI) (.int .i64 (medianAdjacent lt d x k).1):=by
 unfold zdn
 refine zar 900 (zab bs [.int .i64 k] tyI) Tryz.func151 rfl Tryz.ntmps151 (Nat.le_of_ble_eq_true rfl) hB hr hC ?_
 rw [za2]
 unfold medianAdjacent
 have hw1:IntKind.i64.wrap ((x:Int) - 1) = ((x - 1:Nat):Int):=zaa (by omega) (by omega) |>.trans (by omega)
 have hw2:IntKind.i64.wrap ((x:Int) + 1) = ((x + 1:Nat):Int):=zaa (by omega) (by omega)
 refine Z182 ?_; refine Z212 ?_; refine Z295 ?_; refine Z1 ?_; refine qn (zai L 900 (zab bs [.int .i64 (median lt d (x - 1) x (x + 1) k).2] tyI) (.int .i64 (median lt d (x - 1) x (x + 1) k).1) (r:=zab bs [.int .i64 k] tyI) rfl rfl rfl rfl rfl (fun u H C hH hle hr hC => zgs (rest:=rest) (cap:=cap) (by omega) (by omega) (by omega) hm hm1 hk hH (hle _ _ hb) hr hC)) ?_; refine Z139 ?_
 exact zf3 L 900 (r:=zab bs _ tyI) (rs:=[.tmp 6]) rfl (fun _ _ h => h) Since.refl rfl rfl (fun _ => rfl)
end Go.V.So
set_option maxRecDepth 20000
namespace Go.V.So
open Go.Proofs Go.RowKit Go.V Go.Sort
theorem _root_.Go.V.Z128 {A B:Prop} (h:B) (t:Wr B → A:=by intro h; refine yr (qq L (q:=901) rfl rfl rfl rfl rfl rfl) ?_; exact h.h):A:=t ⟨h⟩
theorem _root_.Go.V.Z242 {A B:Prop} (h:B) (t:Wr B → A:=by intro h; refine Z15 ?_; refine Z213 ?_; exact h.h):A:=t ⟨h⟩
theorem _root_.Go.V.Z336 {A B:Prop} (h:B) (t:Wr B → A:=by intro h; refine Z26 ?_; refine Z247 ?_; exact h.h):A:=t ⟨h⟩
theorem _root_.Go.V.Z364 {A B:Prop} (h:B) (t:Wr B → A:=by intro h; refine Z253 ?_; refine Z144 ?_; exact h.h):A:=t ⟨h⟩
def zmy:Hint → Int
 | .unknown => 0
 | .increasing => 1
 | .decreasing => 2
attribute [local irreducible] V N X VO Par StepOK Has Ret RetL RetO zb8 zdn Src
set_option maxHeartbeats 1000000 in
set_option maxRecDepth 20000 in
theorem z0d {d:Array Int} {rest:List Value} {b m cap a e:Nat} (h12:12 < e - a) (he:e ≤ m) (hm:d.size = m) (hm1:m ≤ 100000) {w:World} {B:Heap} (hB:B.Le (hp w)) (hb:B b = some (.cells (uC d ++ rest).toArray tyU)) :
  Ret Tryz.prog 104 [.slice (some ⟨b, 0, none⟩) m cap, .int .i64 a, .int .i64 e] w B (fun v _ => v = .tuple #[.int .i64 (choosePivot lt d a e).1, .int .i64 (zmy (choosePivot lt d a e).2)]):=by
 obtain ⟨Ln, rfl⟩:∃ Ln, e = a + Ln:=⟨e - a, by omega⟩
 rw [Nat.add_sub_cancel_left] at h12
 unfold choosePivot
 rw [Nat.add_sub_cancel_left]
 dsimp only
 obtain ⟨q, hq⟩:∃ q, q = Ln / 4:=⟨_, rfl⟩
 rw [← hq, if_pos (by omega)]
 have hw0:IntKind.i64.wrap (((a + Ln:Nat):Int) - (a:Int)) = (Ln:Int):=zaa (by omega) (by omega) |>.trans (by omega)
 have et:((Ln:Nat):Int).tdiv 4 = (q:Int):=by
  rw [Int.tdiv_eq_ediv_of_nonneg (by omega)]
  omega
 have hq1:IntKind.i64.wrap (((Ln:Nat):Int).tdiv 4) = (q:Int):=by rw [et]; exact zaa (by omega) (by omega)
 have m1:IntKind.i64.wrap ((q:Int) * 1) = ((q * 1:Nat):Int):=zaa (by omega) (by omega) |>.trans (by omega)
 have m2:IntKind.i64.wrap ((q:Int) * 2) = ((q * 2:Nat):Int):=zaa (by omega) (by omega) |>.trans (by omega)
 have m3:IntKind.i64.wrap ((q:Int) * 3) = ((q * 3:Nat):Int):=zaa (by omega) (by omega) |>.trans (by omega)
 have p1:IntKind.i64.wrap ((a:Int) + ((q * 1:Nat):Int)) = ((a + q * 1:Nat):Int):=zaa (by omega) (by omega) |>.trans (by omega)
 have p2:IntKind.i64.wrap ((a:Int) + ((q * 2:Nat):Int)) = ((a + q * 2:Nat):Int):=zaa (by omega) (by omega) |>.trans (by omega)
 have p3:IntKind.i64.wrap ((a:Int) + ((q * 3:Nat):Int)) = ((a + q * 3:Nat):Int):=zaa (by omega) (by omega) |>.trans (by omega)
 refine yc Tryz.func104 rfl Tryz.ntmps104 (Nat.le_of_ble_eq_true rfl) hB ?_
 refine Z251 ?_; refine Z160 ?_; refine Z212 ?_; refine Z144 ?_; refine Z29 ?_; refine Z23 ?_; refine Z159 ?_
 refine zrp 9 901 rfl fun bs => ?_
 by_cases h50:Ln ≥ 50
 ·rw [if_pos h50]
  obtain ⟨r1, hr1⟩:∃ r, r = medianAdjacent lt d (a + q * 1) 0:=⟨_, rfl⟩
  rw [← hr1]
  obtain ⟨r2, hr2⟩:∃ r, r = medianAdjacent lt d (a + q * 2) r1.2:=⟨_, rfl⟩
  rw [← hr2]
  obtain ⟨r3, hr3⟩:∃ r, r = medianAdjacent lt d (a + q * 3) r2.2:=⟨_, rfl⟩
  rw [← hr3]
  obtain ⟨r4, hr4⟩:∃ r, r = median lt d r1.1 r2.1 r3.1 r3.2:=⟨_, rfl⟩
  rw [← hr4]
  obtain ⟨l1, s1⟩:r1.1 < m ∧ r1.2 ≤ 0 + 3:=hr1 ▸ zva d (by omega) (by omega) (by omega)
  obtain ⟨l2, s2⟩:r2.1 < m ∧ r2.2 ≤ r1.2 + 3:=hr2 ▸ zva d (by omega) (by omega) (by omega)
  obtain ⟨l3, s3⟩:r3.1 < m ∧ r3.2 ≤ r2.2 + 3:=hr3 ▸ zva d (by omega) (by omega) (by omega)
  by_cases z0:r4.2 = 0
  ·rw [if_pos z0]
   refine Z207 ?_; refine Z364 ?_; refine Z335 ?_; refine Z364 ?_; refine Z244 ?_; refine Z253 ?_; refine Z358 ?_; refine Z259 ?_; refine Z140 ?_; refine Z196 ?_; refine Z41 ?_; refine Z154 ?_; refine Z57 ?_; refine Z141 ?_; refine qn (zai L 901 (zab bs [.int .i64 r1.2] tyI) (.int .i64 r1.1) (r:=zab bs [.int .i64 0] tyI) rfl rfl rfl rfl rfl (fun u H C hH hle hr hC => by have h:=zdt (rest:=rest) (cap:=cap) (d:=d) (x:=a + q * 1) (k:=0) (by omega) (by omega) hm hm1 (by omega) hH (hle _ _ hb) hr hC; rw [← hr1] at h; exact h)) ?_; refine Z144 ?_; refine Z60 ?_; refine Z141 ?_; refine qn (zai L 901 (zab bs [.int .i64 r2.2] tyI) (.int .i64 r2.1) (r:=zab bs [.int .i64 r1.2] tyI) rfl rfl rfl rfl rfl (fun u H C hH hle hr hC => by have h:=zdt (rest:=rest) (cap:=cap) (d:=d) (x:=a + q * 2) (k:=r1.2) (by omega) (by omega) hm hm1 (by omega) hH (hle _ _ hb) hr hC; rw [← hr2] at h; exact h)) ?_; refine Z139 ?_; refine Z398 ?_; refine qn (zai L 901 (zab bs [.int .i64 r3.2] tyI) (.int .i64 r3.1) (r:=zab bs [.int .i64 r2.2] tyI) rfl rfl rfl rfl rfl (fun u H C hH hle hr hC => by have h:=zdt (rest:=rest) (cap:=cap) (d:=d) (x:=a + q * 3) (k:=r2.2) (by omega) (by omega) hm hm1 (by omega) hH (hle _ _ hb) hr hC; rw [← hr3] at h; exact h)) ?_; refine Z139 ?_; refine Z65 ?_; refine Z232 ?_; refine qn (zai L 901 (zab bs [.int .i64 r4.2] tyI) (.int .i64 r4.1) (r:=zab bs [.int .i64 r3.2] tyI) rfl rfl rfl rfl rfl (fun u H C hH hle hr hC => by have h:=zgs (rest:=rest) (cap:=cap) (d:=d) (x:=r1.1) (y:=r2.1) (z:=r3.1) (k:=r3.2) (by omega) (by omega) (by omega) hm hm1 (by omega) hH (hle _ _ hb) hr hC; rw [← hr4] at h; exact h)) ?_; refine Z144 ?_; refine Z86 ?_; refine Z128 ?_; refine Z138 ?_; refine Z152 ?_; refine Z72 ?_; refine Z336 ?_; refine zh ?_; refine Z96 ?_; refine Z1 ?_; refine Z186 ?_
   refine yb L (rs:=[.tmp 6, .tmp 7]) rfl (fun _ _ h => h) Since.refl fun u H hH hle => ?_
   rfl
  ·rw [if_neg z0]
   by_cases z12:r4.2 = 12
   ·rw [if_pos z12]
    refine Z207 ?_; refine Z364 ?_; refine Z335 ?_; refine Z364 ?_; refine Z244 ?_; refine Z253 ?_; refine Z358 ?_; refine Z259 ?_; refine Z140 ?_; refine Z196 ?_; refine Z41 ?_; refine Z154 ?_; refine Z57 ?_; refine Z141 ?_; refine qn (zai L 901 (zab bs [.int .i64 r1.2] tyI) (.int .i64 r1.1) (r:=zab bs [.int .i64 0] tyI) rfl rfl rfl rfl rfl (fun u H C hH hle hr hC => by have h:=zdt (rest:=rest) (cap:=cap) (d:=d) (x:=a + q * 1) (k:=0) (by omega) (by omega) hm hm1 (by omega) hH (hle _ _ hb) hr hC; rw [← hr1] at h; exact h)) ?_; refine Z144 ?_; refine Z60 ?_; refine Z141 ?_; refine qn (zai L 901 (zab bs [.int .i64 r2.2] tyI) (.int .i64 r2.1) (r:=zab bs [.int .i64 r1.2] tyI) rfl rfl rfl rfl rfl (fun u H C hH hle hr hC => by have h:=zdt (rest:=rest) (cap:=cap) (d:=d) (x:=a + q * 2) (k:=r1.2) (by omega) (by omega) hm hm1 (by omega) hH (hle _ _ hb) hr hC; rw [← hr2] at h; exact h)) ?_; refine Z139 ?_; refine Z398 ?_; refine qn (zai L 901 (zab bs [.int .i64 r3.2] tyI) (.int .i64 r3.1) (r:=zab bs [.int .i64 r2.2] tyI) rfl rfl rfl rfl rfl (fun u H C hH hle hr hC => by have h:=zdt (rest:=rest) (cap:=cap) (d:=d) (x:=a + q * 3) (k:=r2.2) (by omega) (by omega) hm hm1 (by omega) hH (hle _ _ hb) hr hC; rw [← hr3] at h; exact h)) ?_; refine Z139 ?_; refine Z65 ?_; refine Z232 ?_; refine qn (zai L 901 (zab bs [.int .i64 r4.2] tyI) (.int .i64 r4.1) (r:=zab bs [.int .i64 r3.2] tyI) rfl rfl rfl rfl rfl (fun u H C hH hle hr hC => by have h:=zgs (rest:=rest) (cap:=cap) (d:=d) (x:=r1.1) (y:=r2.1) (z:=r3.1) (k:=r3.2) (by omega) (by omega) (by omega) hm hm1 (by omega) hH (hle _ _ hb) hr hC; rw [← hr4] at h; exact h)) ?_; refine Z144 ?_; refine Z86 ?_; refine Z128 ?_; refine Z138 ?_; refine Z152 ?_; refine Z72 ?_; refine Z242 ?_; refine Z102 ?_; refine Z336 ?_; refine zh ?_; refine Z108 ?_; refine Z1 ?_; refine Z186 ?_
    refine yb L (rs:=[.tmp 6, .tmp 7]) rfl (fun _ _ h => h) Since.refl fun u H hH hle => ?_
    rfl
   ·rw [if_neg z12]
    refine Z207 ?_; refine Z364 ?_; refine Z335 ?_; refine Z364 ?_; refine Z244 ?_; refine Z253 ?_; refine Z358 ?_; refine Z259 ?_; refine Z140 ?_; refine Z196 ?_; refine Z41 ?_; refine Z154 ?_; refine Z57 ?_; refine Z141 ?_; refine qn (zai L 901 (zab bs [.int .i64 r1.2] tyI) (.int .i64 r1.1) (r:=zab bs [.int .i64 0] tyI) rfl rfl rfl rfl rfl (fun u H C hH hle hr hC => by have h:=zdt (rest:=rest) (cap:=cap) (d:=d) (x:=a + q * 1) (k:=0) (by omega) (by omega) hm hm1 (by omega) hH (hle _ _ hb) hr hC; rw [← hr1] at h; exact h)) ?_; refine Z144 ?_; refine Z60 ?_; refine Z141 ?_; refine qn (zai L 901 (zab bs [.int .i64 r2.2] tyI) (.int .i64 r2.1) (r:=zab bs [.int .i64 r1.2] tyI) rfl rfl rfl rfl rfl (fun u H C hH hle hr hC => by have h:=zdt (rest:=rest) (cap:=cap) (d:=d) (x:=a + q * 2) (k:=r1.2) (by omega) (by omega) hm hm1 (by omega) hH (hle _ _ hb) hr hC; rw [← hr2] at h; exact h)) ?_; refine Z139 ?_; refine Z398 ?_; refine qn (zai L 901 (zab bs [.int .i64 r3.2] tyI) (.int .i64 r3.1) (r:=zab bs [.int .i64 r2.2] tyI) rfl rfl rfl rfl rfl (fun u H C hH hle hr hC => by have h:=zdt (rest:=rest) (cap:=cap) (d:=d) (x:=a + q * 3) (k:=r2.2) (by omega) (by omega) hm hm1 (by omega) hH (hle _ _ hb) hr hC; rw [← hr3] at h; exact h)) ?_; refine Z139 ?_; refine Z65 ?_; refine Z232 ?_; refine qn (zai L 901 (zab bs [.int .i64 r4.2] tyI) (.int .i64 r4.1) (r:=zab bs [.int .i64 r3.2] tyI) rfl rfl rfl rfl rfl (fun u H C hH hle hr hC => by have h:=zgs (rest:=rest) (cap:=cap) (d:=d) (x:=r1.1) (y:=r2.1) (z:=r3.1) (k:=r3.2) (by omega) (by omega) (by omega) hm hm1 (by omega) hH (hle _ _ hb) hr hC; rw [← hr4] at h; exact h)) ?_; refine Z144 ?_; refine Z86 ?_; refine Z128 ?_; refine Z138 ?_; refine Z152 ?_; refine Z72 ?_; refine Z242 ?_; refine Z102 ?_; refine Z242 ?_; refine Z316 ?_; refine Z186 ?_
    refine yb L (rs:=[.tmp 6, .tmp 7]) rfl (fun _ _ h => h) Since.refl fun u H hH hle => ?_
    rfl
 ·rw [if_neg h50]
  obtain ⟨r4, hr4⟩:∃ r, r = median lt d (a + q * 1) (a + q * 2) (a + q * 3) 0:=⟨_, rfl⟩
  rw [← hr4]
  by_cases z0:r4.2 = 0
  ·rw [if_pos z0]
   refine Z207 ?_; refine Z364 ?_; refine Z335 ?_; refine Z364 ?_; refine Z244 ?_; refine Z253 ?_; refine Z358 ?_; refine Z259 ?_; refine Z140 ?_; refine Z196 ?_; refine Z47 ?_; refine Z142 ?_; refine Z143 ?_; refine Z65 ?_; refine Z232 ?_; refine qn (zai L 901 (zab bs [.int .i64 r4.2] tyI) (.int .i64 r4.1) (r:=zab bs [.int .i64 0] tyI) rfl rfl rfl rfl rfl (fun u H C hH hle hr hC => by have h:=zgs (rest:=rest) (cap:=cap) (d:=d) (x:=a + q * 1) (y:=a + q * 2) (z:=a + q * 3) (k:=0) (by omega) (by omega) (by omega) hm hm1 (by omega) hH (hle _ _ hb) hr hC; rw [← hr4] at h; exact h)) ?_; refine Z144 ?_; refine Z86 ?_; refine Z128 ?_; refine Z138 ?_; refine Z152 ?_; refine Z72 ?_; refine Z336 ?_; refine zh ?_; refine Z96 ?_; refine Z1 ?_; refine Z186 ?_
   refine yb L (rs:=[.tmp 6, .tmp 7]) rfl (fun _ _ h => h) Since.refl fun u H hH hle => ?_
   rfl
  ·rw [if_neg z0]
   by_cases z12:r4.2 = 12
   ·rw [if_pos z12]
    refine Z207 ?_; refine Z364 ?_; refine Z335 ?_; refine Z364 ?_; refine Z244 ?_; refine Z253 ?_; refine Z358 ?_; refine Z259 ?_; refine Z140 ?_; refine Z196 ?_; refine Z47 ?_; refine Z142 ?_; refine Z143 ?_; refine Z65 ?_; refine Z232 ?_; refine qn (zai L 901 (zab bs [.int .i64 r4.2] tyI) (.int .i64 r4.1) (r:=zab bs [.int .i64 0] tyI) rfl rfl rfl rfl rfl (fun u H C hH hle hr hC => by have h:=zgs (rest:=rest) (cap:=cap) (d:=d) (x:=a + q * 1) (y:=a + q * 2) (z:=a + q * 3) (k:=0) (by omega) (by omega) (by omega) hm hm1 (by omega) hH (hle _ _ hb) hr hC; rw [← hr4] at h; exact h)) ?_; refine Z144 ?_; refine Z86 ?_; refine Z128 ?_; refine Z138 ?_; refine Z152 ?_; refine Z72 ?_; refine Z242 ?_; refine Z102 ?_; refine Z336 ?_; refine zh ?_; refine Z108 ?_; refine Z1 ?_; refine Z186 ?_
    refine yb L (rs:=[.tmp 6, .tmp 7]) rfl (fun _ _ h => h) Since.refl fun u H hH hle => ?_
    rfl
   ·rw [if_neg z12]
    refine Z207 ?_; refine Z364 ?_; refine Z335 ?_; refine Z364 ?_; refine Z244 ?_; refine Z253 ?_; refine Z358 ?_; refine Z259 ?_; refine Z140 ?_; refine Z196 ?_; refine Z47 ?_; refine Z142 ?_; refine Z143 ?_; refine Z65 ?_; refine Z232 ?_; refine qn (zai L 901 (zab bs [.int .i64 r4.2] tyI) (.int .i64 r4.1) (r:=zab bs [.int .i64 0] tyI) rfl rfl rfl rfl rfl (fun u H C hH hle hr hC => by have h:=zgs (rest:=rest) (cap:=cap) (d:=d) (x:=a + q * 1) (y:=a + q * 2) (z:=a + q * 3) (k:=0) (by omega) (by omega) (by omega) hm hm1 (by omega) hH (hle _ _ hb) hr hC; rw [← hr4] at h; exact h)) ?_; refine Z144 ?_; refine Z86 ?_; refine Z128 ?_; refine Z138 ?_; refine Z152 ?_; refine Z72 ?_; refine Z242 ?_; refine Z102 ?_; refine Z242 ?_; refine Z316 ?_; refine Z186 ?_
    refine yb L (rs:=[.tmp 6, .tmp 7]) rfl (fun _ _ h => h) Since.refl fun u H hH hle => ?_
    rfl
end Go.V.So
