/- Texts on the way to StoresCopy, part 4: one behind another. -/
import Derived.Test.YtcppaheijljnfaaGreatStoresCopyM3
import Derived.Lib.IndexAny
import Derived.Sort.LotD5
import Derived.Sort.Walk7
import Derived.Sort.WalkA14
set_option linter.unusedVariables false
set_option linter.unusedSimpArgs false
set_option maxRecDepth 20000
namespace Go.V.L6
open Go.Proofs Go.RowKit Go.V Go.V.L2 Go.V.L3
theorem _root_.Go.V.Z338 {A B:Prop} (h:B) (t:Wr B → A:=by intro h; refine Z165 ?_; refine Z2 ?_; exact h.h):A:=t ⟨h⟩
abbrev R6 (l:List U) (e:Int):Value → Heap → Prop:=TupS [US l false, fun v _ => v = .int .i64 e]
theorem zxg {l:List U} (hs:Sst zbh l) (x:U):zjv l [x] true false false = l.filter fun z => decide (z ≠ x):=by
 refine zew cmpT_ord (zf0 cmpT_ord Sst.nil) (hs.sublist List.filter_sublist) fun z => ?_
 unfold zjv zju
 rw [zf6, List.mem_filter, List.mem_filter]
 unfold zez
 simp only [List.mem_append, List.mem_singleton, List.not_mem_nil, false_or, Bool.and_true, Bool.and_false, Bool.or_false, Bool.and_eq_true, decide_eq_true_eq, Bool.not_eq_true', decide_eq_false_iff_not, ne_eq]
 constructor
 ·rintro ⟨_, h1, h2⟩; exact ⟨h1, h2⟩
 ·rintro ⟨h1, h2⟩; exact ⟨.inl h1, h1, h2⟩
theorem z0q {l:List U} (hs:Sst zbh l) {x:U} (hx:x ∉ l):zjv l [x] true true true = zhv zbh x l:=by
 refine zew cmpT_ord (zf0 cmpT_ord Sst.nil) (zfe cmpT_ord hs hx) fun z => ?_
 unfold zjv zju
 rw [zf6, List.mem_filter, zd4]
 unfold zez
 simp only [List.mem_append, List.mem_singleton, List.not_mem_nil, false_or, Bool.and_true, Bool.or_eq_true, Bool.and_eq_true, decide_eq_true_eq, Bool.not_eq_true', decide_eq_false_iff_not]
 constructor
 ·rintro ⟨h, _⟩; exact h.symm
 ·rintro (rfl | h)
  ·exact ⟨.inr rfl, .inr ⟨hx, rfl⟩⟩
  ·refine ⟨.inl h, .inl (.inl ⟨h, fun e => ?_⟩)⟩
   subst e; exact hx h
theorem zqm (t:U):tE t = 0 ∨ tE t = 6:=by
 unfold tE
 split
 ·exact znp _ _ _
 ·rename_i h; exact .inr ((zjh _).resolve_left h)
theorem zji {l:List U} {x z:U} {d:Bool} (h:z ∈ (zcy l x d).1):z ∈ l ∨ z = x:=by
 unfold zcy at h
 split at h
 ·split at h
  ·exact .inl (List.mem_filter.1 h).1
  ·split at h
   ·exact .inl h
   ·split at h
    ·cases h
    ·exact (zd4.1 h).symm
 ·cases h
attribute [local irreducible] V N X VO Par StepOK Has Ret RetL RetO RetT Src
set_option maxHeartbeats 1000000 in
theorem zjy {l m:List U} {x:U} {d fu:Bool} {e:Int} (hr:zcy l x d = (m, e)) (hs:Sst zbh l) (hl:l.length ≤ 90000) (hz:TZ x) (zl:∀ t ∈ l, TZ t) {v:Value} {w:World} {B:Heap} (hB:B.Le (hp w)) (hv:US l fu v B) :
  Ret Tryz.prog 127 [v, chv x d] w B (R6 m e):=by
 have z1:∀ t ∈ [x], TZ t:=fun t ht => by rw [List.mem_singleton] at ht; subst ht; exact hz
 have zx1:([x]:List U).length ≤ 100000:=show 1 ≤ 100000 by decide
 have key:∀ {a b c:Bool} (u:World) (H:Heap) (v1 v2:Value), H.Le (hp u) → US l fu v1 H → SlB (ucs x) tyU 1 v2 H → (a = true ∧ b = false ∧ c = false ∨ a = true ∧ b = true ∧ c = true) → Ret Tryz.prog 62 [v1, v2, .bool a, .bool b, .bool c] u H (US (zjv l [x] a b c) false):=by
  rintro a b c u H v1 v2 hH h1 h2 (⟨rfl, rfl, rfl⟩ | ⟨rfl, rfl, rfl⟩)
  ·exact zud (y:=[x]) (by omega) zx1 zl z1 hH h1 (h2.toV rfl)
  ·exact zuc (y:=[x]) (by omega) zx1 zl z1 hH h1 (h2.toV rfl)
 refine yg Tryz.func127 rfl Tryz.ntmps127 (Nat.le_of_ble_eq_true rfl) hB ?_
 refine zaz 0 (US l fu) rfl SlV.mono hv ?_
 unfold zcy at hr
 by_cases he:tE x = 0
 ·rw [if_pos he] at hr
  cases d
  ·rw [if_neg (by decide)] at hr
   by_cases hx:x ∈ l
   ·rw [if_pos hx] at hr
    cases hr
    have hin:(if x ∈ l then 1 else 0:Int) = 1:=if_pos hx
    refine Z338 ?_; refine Z273 ?_; refine z7 (qd L (vs:=[_, _, _, _, _, _]) (qp rfl) rfl rfl rfl rfl ⟨_, rfl⟩) rfl ?_; refine z7 (zp L rfl rfl (zk rfl) rfl rfl rfl (fun u H hH _ _ => he ▸ zed hz hH)) rfl ?_; refine Z245 ?_; refine Z331 ?_; refine Z177 ?_; refine Z38 ?_; refine Z5 ?_; refine Z19 ?_; refine z7 (qd L (vs:=[_, _, _, _, _, _]) (qp rfl) rfl rfl rfl rfl ⟨_, rfl⟩) rfl ?_; refine z7 (zp L rfl rfl (zk rfl) rfl rfl rfl (fun u H hH _ _ v1 h1 => zbo (by omega) hin hH h1)) rfl ?_; refine Z310 ?_; refine Z43 ?_; refine Z5 ?_; refine Z54 ?_; refine Z146 ?_
    refine yd L (rs:=[.tmp 4, .tmp 5]) rfl (fun _ _ h => h) Since.refl fun u H hH hle => ?_
    exact fun v hv => LE2.mk hv.nofu
   ·rw [if_neg hx] at hr
    have hin:(if x ∈ l then 1 else 0:Int) = 0:=if_neg hx
    by_cases hf:l.length ≥ 4096
    ·rw [if_pos hf] at hr
     cases hr
     refine Z338 ?_; refine Z273 ?_; refine z7 (qd L (vs:=[_, _, _, _, _, _]) (qp rfl) rfl rfl rfl rfl ⟨_, rfl⟩) rfl ?_; refine z7 (zp L rfl rfl (zk rfl) rfl rfl rfl (fun u H hH _ _ => he ▸ zed hz hH)) rfl ?_; refine Z245 ?_; refine Z331 ?_; refine Z177 ?_; refine Z38 ?_; refine Z5 ?_; refine Z19 ?_; refine z7 (qd L (vs:=[_, _, _, _, _, _]) (qp rfl) rfl rfl rfl rfl ⟨_, rfl⟩) rfl ?_; refine z7 (zp L rfl rfl (zk rfl) rfl rfl rfl (fun u H hH _ _ v1 h1 => zbo (by omega) hin hH h1)) rfl ?_; refine Z289 ?_; refine Z44 ?_; refine Z158 ?_; refine Z42 ?_; refine Z164 ?_; refine Z58 ?_; refine Z195 ?_
     refine yd L (rs:=[.tmp 4, .tmp 5]) rfl (fun _ _ h => h) Since.refl fun u H hH hle => ?_
     exact LE2.mk SlV.nil
    ·rw [if_neg hf] at hr
     cases hr
     rw [← z0q hs hx]
     refine Z338 ?_; refine Z273 ?_; refine z7 (qd L (vs:=[_, _, _, _, _, _]) (qp rfl) rfl rfl rfl rfl ⟨_, rfl⟩) rfl ?_; refine z7 (zp L rfl rfl (zk rfl) rfl rfl rfl (fun u H hH _ _ => he ▸ zed hz hH)) rfl ?_; refine Z245 ?_; refine Z331 ?_; refine Z177 ?_; refine Z38 ?_; refine Z5 ?_; refine Z19 ?_; refine z7 (qd L (vs:=[_, _, _, _, _, _]) (qp rfl) rfl rfl rfl rfl ⟨_, rfl⟩) rfl ?_; refine z7 (zp L rfl rfl (zk rfl) rfl rfl rfl (fun u H hH _ _ v1 h1 => zbo (by omega) hin hH h1)) rfl ?_; refine Z289 ?_; refine Z44 ?_; refine Z158 ?_; refine Z46 ?_; refine Z169 ?_; refine Z60 ?_; refine Z5 ?_; refine Z19 ?_; refine z7 (qd L (vs:=[_, _, _, _, _, _]) (qp rfl) rfl rfl rfl rfl ⟨_, rfl⟩) rfl ?_; refine Z39 ?_; refine z7 (yr (φ:=US (zjv l [x] true true true) false) L rfl rfl (zk rfl) rfl rfl rfl SlV.mono (fun u H hH _ _ v1 h1 v2 h2 => key u H v1 v2 hH h1 h2 (.inr ⟨rfl, rfl, rfl⟩))) rfl ?_; refine Z54 ?_; refine Z146 ?_
     refine yd L (rs:=[.tmp 4, .tmp 5]) rfl (fun _ _ h => h) Since.refl fun u H hH hle => ?_
     exact fun v hv => LE2.mk hv
  ·rw [if_pos rfl] at hr
   cases hr
   rw [← zxg hs x]
   refine Z338 ?_; refine Z273 ?_; refine z7 (qd L (vs:=[_, _, _, _, _, _]) (qp rfl) rfl rfl rfl rfl ⟨_, rfl⟩) rfl ?_; refine z7 (zp L rfl rfl (zk rfl) rfl rfl rfl (fun u H hH _ _ => he ▸ zed hz hH)) rfl ?_; refine Z245 ?_; refine Z331 ?_; refine Z334 ?_; refine Z5 ?_; refine Z19 ?_; refine z7 (qd L (vs:=[_, _, _, _, _, _]) (qp rfl) rfl rfl rfl rfl ⟨_, rfl⟩) rfl ?_; refine Z39 ?_; refine z7 (yr (φ:=US (zjv l [x] true false false) false) L rfl rfl (zk rfl) rfl rfl rfl SlV.mono (fun u H hH _ _ v1 h1 v2 h2 => key u H v1 v2 hH h1 h2 (.inl ⟨rfl, rfl, rfl⟩))) rfl ?_; refine Z54 ?_; refine Z146 ?_
   refine yd L (rs:=[.tmp 4, .tmp 5]) rfl (fun _ _ h => h) Since.refl fun u H hH hle => ?_
   exact fun v hv => LE2.mk hv
 ·have h6:=(zqm x).resolve_left he
  rw [if_neg he, h6] at hr
  cases hr
  refine Z338 ?_; refine Z273 ?_; refine z7 (qd L (vs:=[_, _, _, _, _, _]) (qp rfl) rfl rfl rfl rfl ⟨_, rfl⟩) rfl ?_; refine z7 (zp L rfl rfl (zk rfl) rfl rfl rfl (fun u H hH _ _ => h6 ▸ zed hz hH)) rfl ?_; refine Z221 ?_; refine Z32 ?_; refine Z195 ?_
  refine yd L (rs:=[.tmp 4, .tmp 5]) rfl (fun _ _ h => h) Since.refl fun u H hH hle => ?_
  exact LE2.mk SlV.nil
end Go.V.L6
set_option maxRecDepth 20000
namespace Go.V.L3
open Go.Proofs Go.RowKit Go.V Go.V.L2
attribute [local irreducible] V N X VO Par StepOK Has Ret RetL RetO RetT Src
end Go.V.L3
set_option maxRecDepth 20000
namespace Go.V.L3
open Go.Proofs Go.RowKit Go.V Go.V.L2
attribute [local irreducible] V N X VO Par StepOK Has Ret RetL RetO RetT Src
end Go.V.L3
set_option maxRecDepth 20000
namespace Go.V.L3
open Go.Proofs Go.RowKit Go.V Go.V.L2
abbrev tyI:TypeId:=3
attribute [local irreducible] V N X VO Par StepOK Has Ret RetL RetO RetT Src
end Go.V.L3
set_option maxRecDepth 20000
namespace Go.V.L3
open Go.Proofs Go.RowKit Go.V Go.V.L2
attribute [local irreducible] V N X VO Par StepOK Has Ret RetL RetO RetT Src
end Go.V.L3
set_option maxRecDepth 20000
namespace Go.V
open Go.Proofs Go.RowKit
def zjs (n:Nat):ByteArray:=match n % 3 with
 | 0 => ⟨#[100, 111, 99]⟩
 | 1 => ⟨#[102, 111, 108, 100, 101, 114]⟩
 | _ => ⟨#[103, 114, 111, 117, 112]⟩
def idS (n:Nat):ByteArray:=match n % 5 with
 | 0 => ⟨#[97]⟩
 | 1 => ⟨#[98]⟩
 | 2 => ⟨#[99, 49]⟩
 | 3 => ⟨#[100]⟩
 | _ => ⟨#[114, 111, 111, 116]⟩
def z0s (n:Nat):ByteArray:=match n % 4 with
 | 0 => ⟨#[118, 105, 101, 119, 101, 114]⟩
 | 1 => ⟨#[101, 100, 105, 116, 111, 114]⟩
 | 2 => ⟨#[109, 101, 109, 98, 101, 114]⟩
 | _ => ⟨#[112, 97, 114, 101, 110, 116]⟩
theorem ze4 (n:Nat):chk (zjs n) = 0 ∧ (zjs n).size ≤ 16:=by
 unfold zjs
 split <;> decide +kernel
theorem zlx (n:Nat):chk (idS n) = 0 ∧ (idS n).size ≤ 16:=by
 unfold idS
 split <;> decide +kernel
theorem zmh (n:Nat):chk (z0s n) = 0 ∧ (z0s n).size ≤ 16:=by
 unfold z0s
 split <;> decide +kernel
def zm3 (n:Nat):(ByteArray × ByteArray) × ByteArray:=((zjs n, idS (n / 3)), z0s (n / 15))
theorem zyh (n:Nat):zdb [(zm3 n).1.1, (zm3 n).1.2, (zm3 n).2] = 0:=by
 simp only [zdb, zm3, (ze4 _).1, (zlx _).1, (zmh _).1, if_pos]
theorem zs6 (n:Nat):(zm3 n).1.1.size ≤ 16 ∧ (zm3 n).1.2.size ≤ 16 ∧ (zm3 n).2.size ≤ 16:=⟨(ze4 _).2, (zlx _).2, (zmh _).2⟩
end Go.V
set_option maxRecDepth 20000
namespace Go.V
open Go.Proofs Go.RowKit
theorem _root_.Go.V.Z84 {A B:Prop} (h:B) (t:Wr B → A:=by intro h; refine z7 (zzu rfl rfl rfl rfl (by omega) (by assumption)) rfl ?_; exact h.h):A:=t ⟨h⟩
theorem _root_.Go.V.Z361 {A B:Prop} (h:B) (t:Wr B → A:=by intro h; refine Z194 ?_; refine Z39 ?_; exact h.h):A:=t ⟨h⟩
theorem _root_.Go.V.Z362 {A B:Prop} (h:B) (t:Wr B → A:=by intro h; refine Z361 ?_; refine Z1 ?_; exact h.h):A:=t ⟨h⟩
theorem _root_.Go.V.Z363 {A B:Prop} (h:B) (t:Wr B → A:=by intro h; refine Z362 ?_; refine Z84 ?_; exact h.h):A:=t ⟨h⟩
theorem _root_.Go.V.Z364 {A B:Prop} (h:B) (t:Wr B → A:=by intro h; refine Z34 ?_; refine Z146 ?_; exact h.h):A:=t ⟨h⟩
theorem _root_.Go.V.Z399 {A B:Prop} (h:B) (t:Wr B → A:=by intro h; refine Z363 ?_; refine z7 (zea L 0 rfl rfl rfl rfl rfl rfl rfl (by omega)) rfl ?_; exact h.h):A:=t ⟨h⟩
theorem _root_.Go.V.Z400 {A B:Prop} (h:B) (t:Wr B → A:=by intro h; refine Z363 ?_; refine z7 (zea L 1 rfl rfl rfl rfl rfl rfl rfl (by omega)) rfl ?_; exact h.h):A:=t ⟨h⟩
theorem _root_.Go.V.Z401 {A B:Prop} (h:B) (t:Wr B → A:=by intro h; refine Z363 ?_; refine z7 (zea L 2 rfl rfl rfl rfl rfl rfl rfl (by omega)) rfl ?_; exact h.h):A:=t ⟨h⟩
attribute [local irreducible] V N X VO Par StepOK Has Ret RetL Src
theorem znq (n:Nat) {w:World} {B:Heap} (hB:B.Le (hp w)):Ret Tryz.prog 145 [.int .i64 n] w B (fun v _ => v = .string (zjs n)):=by
 unfold zjs
 have e:Int.tmod (n:Int) 3 = ((n % 3:Nat):Int):=rfl
 refine yg Tryz.func145 rfl Tryz.ntmps145 (Nat.le_of_ble_eq_true rfl) hB ?_
 have hlt:=Nat.mod_lt n (show 0 < 3 by decide)
 rcases (by omega:n % 3 = 0 ∨ n % 3 = 1 ∨ n % 3 = 2) with h | h | h
 ·have e0:Int.tmod (n:Int) 3 = 0:=by rw [e, h]; rfl
  rw [h]
  refine Z399 ?_; refine Z364 ?_
  refine yd L (rs:=[.tmp 2]) rfl (fun _ _ h => h) Since.refl fun u H hH hle => ?_
  rfl
 ·have e0:Int.tmod (n:Int) 3 = 1:=by rw [e, h]; rfl
  rw [h]
  refine Z400 ?_; refine Z364 ?_
  refine yd L (rs:=[.tmp 2]) rfl (fun _ _ h => h) Since.refl fun u H hH hle => ?_
  rfl
 ·have e0:Int.tmod (n:Int) 3 = 2:=by rw [e, h]; rfl
  rw [h]
  refine Z401 ?_; refine Z364 ?_
  refine yd L (rs:=[.tmp 2]) rfl (fun _ _ h => h) Since.refl fun u H hH hle => ?_
  rfl
theorem zzx (n:Nat) {w:World} {B:Heap} (hB:B.Le (hp w)):Ret Tryz.prog 146 [.int .i64 n] w B (fun v _ => v = .string (idS n)):=by
 unfold idS
 have e:Int.tmod (n:Int) 5 = ((n % 5:Nat):Int):=rfl
 refine yg Tryz.func146 rfl Tryz.ntmps146 (Nat.le_of_ble_eq_true rfl) hB ?_
 have hlt:=Nat.mod_lt n (show 0 < 5 by decide)
 rcases (by omega:n % 5 = 0 ∨ n % 5 = 1 ∨ n % 5 = 2 ∨ n % 5 = 3 ∨ n % 5 = 4) with h | h | h | h | h
 ·have e0:Int.tmod (n:Int) 5 = 0:=by rw [e, h]; rfl
  rw [h]
  refine Z399 ?_; refine Z364 ?_
  refine yd L (rs:=[.tmp 2]) rfl (fun _ _ h => h) Since.refl fun u H hH hle => ?_
  rfl
 ·have e0:Int.tmod (n:Int) 5 = 1:=by rw [e, h]; rfl
  rw [h]
  refine Z400 ?_; refine Z364 ?_
  refine yd L (rs:=[.tmp 2]) rfl (fun _ _ h => h) Since.refl fun u H hH hle => ?_
  rfl
 ·have e0:Int.tmod (n:Int) 5 = 2:=by rw [e, h]; rfl
  rw [h]
  refine Z401 ?_; refine Z364 ?_
  refine yd L (rs:=[.tmp 2]) rfl (fun _ _ h => h) Since.refl fun u H hH hle => ?_
  rfl
 ·have e0:Int.tmod (n:Int) 5 = 3:=by rw [e, h]; rfl
  rw [h]
  refine Z363 ?_; refine z7 (zea L 3 rfl rfl rfl rfl rfl rfl rfl (by omega)) rfl ?_; refine Z364 ?_
  refine yd L (rs:=[.tmp 2]) rfl (fun _ _ h => h) Since.refl fun u H hH hle => ?_
  rfl
 ·have e0:Int.tmod (n:Int) 5 = 4:=by rw [e, h]; rfl
  rw [h]
  refine Z363 ?_; refine z7 (zea L 4 rfl rfl rfl rfl rfl rfl rfl (by omega)) rfl ?_; refine Z364 ?_
  refine yd L (rs:=[.tmp 2]) rfl (fun _ _ h => h) Since.refl fun u H hH hle => ?_
  rfl
theorem zuf (n:Nat) {w:World} {B:Heap} (hB:B.Le (hp w)):Ret Tryz.prog 147 [.int .i64 n] w B (fun v _ => v = .string (z0s n)):=by
 unfold z0s
 have e:Int.tmod (n:Int) 4 = ((n % 4:Nat):Int):=rfl
 refine yg Tryz.func147 rfl Tryz.ntmps147 (Nat.le_of_ble_eq_true rfl) hB ?_
 have hlt:=Nat.mod_lt n (show 0 < 4 by decide)
 rcases (by omega:n % 4 = 0 ∨ n % 4 = 1 ∨ n % 4 = 2 ∨ n % 4 = 3) with h | h | h | h
 ·have e0:Int.tmod (n:Int) 4 = 0:=by rw [e, h]; rfl
  rw [h]
  refine Z399 ?_; refine Z364 ?_
  refine yd L (rs:=[.tmp 2]) rfl (fun _ _ h => h) Since.refl fun u H hH hle => ?_
  rfl
 ·have e0:Int.tmod (n:Int) 4 = 1:=by rw [e, h]; rfl
  rw [h]
  refine Z400 ?_; refine Z364 ?_
  refine yd L (rs:=[.tmp 2]) rfl (fun _ _ h => h) Since.refl fun u H hH hle => ?_
  rfl
 ·have e0:Int.tmod (n:Int) 4 = 2:=by rw [e, h]; rfl
  rw [h]
  refine Z401 ?_; refine Z364 ?_
  refine yd L (rs:=[.tmp 2]) rfl (fun _ _ h => h) Since.refl fun u H hH hle => ?_
  rfl
 ·have e0:Int.tmod (n:Int) 4 = 3:=by rw [e, h]; rfl
  rw [h]
  refine Z363 ?_; refine z7 (zea L 3 rfl rfl rfl rfl rfl rfl rfl (by omega)) rfl ?_; refine Z364 ?_
  refine yd L (rs:=[.tmp 2]) rfl (fun _ _ h => h) Since.refl fun u H hH hle => ?_
  rfl
end Go.V
set_option maxRecDepth 20000
namespace Go.V.L2
open Go.Proofs Go.RowKit Go.V
theorem _root_.Go.V.Z27 {A B:Prop} (h:B) (t:Wr B → A:=by intro h; refine z7 (yn rfl rfl rfl rfl (by assumption)) rfl ?_; exact h.h):A:=t ⟨h⟩
theorem _root_.Go.V.Z50 {A B:Prop} (h:B) (t:Wr B → A:=by intro h; refine z7 (z22 rfl rfl rfl rfl (by omega) (by assumption)) rfl ?_; exact h.h):A:=t ⟨h⟩
theorem _root_.Go.V.Z143 {A B:Prop} (h:B) (t:Wr B → A:=by intro h; refine z8 (zzu rfl rfl rfl rfl (by omega) (by assumption)) rfl ?_; exact h.h):A:=t ⟨h⟩
theorem _root_.Go.V.Z365 {A B:Prop} (h:B) (t:Wr B → A:=by intro h; refine Z165 ?_; refine Z26 ?_; exact h.h):A:=t ⟨h⟩
theorem _root_.Go.V.Z390 {A B:Prop} (h:B) (t:Wr B → A:=by intro h; refine Z210 ?_; refine Z199 ?_; exact h.h):A:=t ⟨h⟩
def z0m (s:Nat):zzd:=((zjs s, idS (s / 3)), if 15 ≤ s then z0s (s / 15 - 1) else ⟨#[]⟩)
def zux (a b:Nat):U:=(zm3 (a % 60), z0m (b % 75))
def tl (ps:List (Nat × Nat)):List U:=(ps.take 20).map fun p => zux p.1 p.2
theorem zt2 (s:Nat):(z0m s).1.1.size ≤ 16 ∧ (z0m s).1.2.size ≤ 16 ∧ (z0m s).2.size ≤ 16:=by
 refine ⟨(ze4 _).2, (zlx _).2, ?_⟩
 unfold z0m
 dsimp only
 split
 ·exact (zmh _).2
 ·decide
theorem zuw (a b:Nat):TZ (zux a b):=by
 have h1:=zs6 (a % 60)
 have h2:=zt2 (b % 75)
 unfold TZ zux
 dsimp only
 refine ⟨⟨?_, ?_, ?_⟩, ?_, ?_, ?_⟩ <;> omega
theorem z04 (a b:Nat):tE (zux a b) = 0:=by
 unfold tE zux
 dsimp only
 rw [if_pos (zyh _)]
 unfold z0m zgv
 dsimp only
 by_cases h:15 ≤ b % 75
 ·rw [if_pos h]
  split
  ·simp only [zdb, (ze4 _).1, (zlx _).1, if_pos]
  ·simp only [zdb, (ze4 _).1, (zlx _).1, (zmh _).1, if_pos]
 ·rw [if_neg h, if_pos rfl]
  simp only [zdb, (ze4 _).1, (zlx _).1, if_pos]
attribute [local irreducible] V N X VO Par StepOK Has Ret RetL Src
set_option maxHeartbeats 1000000 in
theorem zob (a b:Nat) (ha:a ≤ 255) (hb:b ≤ 255) {w:World} {B:Heap} (hB:B.Le (hp w)):Ret Tryz.prog 98 [.agg #[.int .u8 a, .int .u8 b]] w B (fun v _ => v = uv (zux a b)):=by
 have e60:Int.tmod (a:Int) 60 = ((a % 60:Nat):Int):=rfl
 have e75:Int.tmod (b:Int) 75 = ((b % 75:Nat):Int):=rfl
 have hlt:=Nat.mod_lt a (show 0 < 60 by decide)
 have hlt2:=Nat.mod_lt b (show 0 < 75 by decide)
 unfold zux
 generalize a % 60 = m at e60 hlt
 generalize b % 75 = s at e75 hlt2
 have q1:(m:Int).tdiv 3 = ((m / 3:Nat):Int):=rfl
 have q2:(m:Int).tdiv 15 = ((m / 15:Nat):Int):=rfl
 have q3:(s:Int).tdiv 3 = ((s / 3:Nat):Int):=rfl
 have q4:(s:Int).tdiv 15 = ((s / 15:Nat):Int):=rfl
 have d1:IntKind.i64.wrap ((m:Int).tdiv 3) = ((m / 3:Nat):Int):=zaa (by omega) (by omega)
 have d2:IntKind.i64.wrap ((m:Int).tdiv 15) = ((m / 15:Nat):Int):=zaa (by omega) (by omega)
 have d3:IntKind.i64.wrap ((s:Int).tdiv 3) = ((s / 3:Nat):Int):=zaa (by omega) (by omega)
 have d4:IntKind.i64.wrap ((s:Int).tdiv 15) = ((s / 15:Nat):Int):=zaa (by omega) (by omega)
 unfold zm3 z0m
 refine yg Tryz.func98 rfl Tryz.ntmps98 (Nat.le_of_ble_eq_true rfl) hB ?_
 refine Z365 ?_; refine Z166 ?_; refine Z78 ?_; refine z8 (zcj L _ rfl rfl rfl rfl z38 rfl rfl (by first | omega | decide)) rfl ?_; refine Z57 ?_; refine Z143 ?_; refine z8 (zav rfl rfl rfl zys.1 zys.2 (zaa (by omega) (by omega))) rfl ?_; refine z8 (zcj L _ rfl rfl rfl rfl z38 rfl rfl (by first | omega | decide)) rfl ?_; refine Z57 ?_; refine Z143 ?_; refine z8 (zav rfl rfl rfl zys.1 zys.2 (zaa (by omega) (by omega))) rfl ?_; refine Z389 ?_; refine Z182 ?_; refine z7 (zp L rfl rfl (zk rfl) rfl rfl rfl (fun u H hH _ _ => znq _ hH)) rfl ?_; refine Z1 ?_; refine Z50 ?_; refine z7 (zp L rfl rfl (zk rfl) rfl rfl rfl (fun u H hH _ _ => zzx _ hH)) rfl ?_; refine z7 (yx (cs:=[_, _]) rfl rfl zpn rfl rfl) rfl ?_; refine Z1 ?_; refine Z50 ?_; refine z7 (zp L rfl rfl (zk rfl) rfl rfl rfl (fun u H hH _ _ => zuf _ hH)) rfl ?_; refine z7 (yx (cs:=[_, _, _]) rfl rfl z20 rfl rfl) rfl ?_; refine Z1 ?_; refine z7 (zp L rfl rfl (zk rfl) rfl rfl rfl (fun u H hH _ _ => znq _ hH)) rfl ?_; refine Z1 ?_; refine Z50 ?_; refine z7 (zp L rfl rfl (zk rfl) rfl rfl rfl (fun u H hH _ _ => zzx _ hH)) rfl ?_; refine z7 (yx (cs:=[_, _]) rfl rfl zpn rfl rfl) rfl ?_; refine z7 (yx (cs:=[_, _, _]) rfl rfl z2z rfl rfl) rfl ?_; refine z7 (yx (cs:=[_, _, _, _, _, _]) rfl rfl zfs rfl rfl) rfl ?_; refine Z390 ?_
 by_cases h:15 ≤ s
 ·rw [if_pos h]
  have hs1:IntKind.i64.wrap (((s / 15:Nat):Int) - 1) = ((s / 15 - 1:Nat):Int):=(zaa (by omega) (by omega)).trans (by omega)
  refine zk9 5 rfl fun b5 hb5 => ?_
  refine Z181 ?_; refine Z267 ?_; refine Z173 ?_; refine Z50 ?_; refine Z27 ?_; refine z7 (zp L rfl rfl (zk rfl) rfl rfl rfl (fun u H hH _ _ => zuf _ hH)) rfl ?_; refine Z40 ?_; refine Z40 ?_; refine Z123 ?_; refine Z166 ?_; refine Z38 ?_; refine z7 (qd L (vs:=[_, _, _, _, _, _]) (za0 rfl (List.Mem.head _)) rfl rfl rfl rfl ⟨_, rfl⟩) rfl ?_; refine Z268 ?_
  refine yd L (rs:=[.cell 2 114]) rfl (fun _ _ h => h) Since.refl fun u H hH hle => ?_
  refine Z120 ?_
  rfl
 ·rw [if_neg h]
  refine Z181 ?_; refine Z46 ?_; refine Z169 ?_; refine Z38 ?_; refine z7 (qd L (vs:=[_, _, _, _, _, _]) (ym rfl) rfl rfl rfl rfl ⟨_, rfl⟩) rfl ?_; refine Z268 ?_
  refine yd L (rs:=[.cell 2 114]) rfl (fun _ _ h => h) Since.refl fun u H hH hle => ?_
  refine Z120 ?_
  rfl
end Go.V.L2
set_option maxRecDepth 20000
namespace Go.V
open Go.Proofs Go.RowKit
section
variable {P:Program} {F:Fr} {B:Heap} {O:Boxes} {n:Nat} {ops:Array Oper} {κ:Kap} {d:Nat} {ty:TypeId} {pos:String} {aft:Array Edge} {g:Option (Nat × Bool)}
theorem zzw {t t':TypeId} {x y:Operand} {k:IntKind} {p q r:Int} (hn:Nat.blt d n = true) (hg:gK ops κ ⟨some d, .binOp .and t x y t', ty, pos, aft, g⟩ = some true) (hx:evK κ x = some (.int k p)) (hy:evK κ y = some (.int k q)) (hb:bits .and k p q = r) :
  StepOK P F B n ops O κ ⟨some d, .binOp .and t x y t', ty, pos, aft, g⟩ d (.is (.int k r)):=zck hn hg hx hy fun u => by subst hb; simp [eqGuard_and, binOp_and, intBits_and]
end
end Go.V
set_option maxRecDepth 20000
namespace Go.V.L3
open Go.Proofs Go.RowKit Go.V Go.V.L2
attribute [local irreducible] V N X VO Par StepOK Has Ret RetL RetO RetT Src
end Go.V.L3
set_option maxRecDepth 20000
namespace Go.V.L3
open Go.Proofs Go.RowKit Go.V Go.V.L2
attribute [local irreducible] V N X VO Par StepOK Has Ret RetL RetO RetT Src
end Go.V.L3
set_option maxRecDepth 20000
namespace Go.V.L3
open Go.Proofs Go.RowKit Go.V Go.V.L2
attribute [local irreducible] V N X VO Par StepOK Has Ret RetL RetO RetT Src
end Go.V.L3
set_option maxRecDepth 20000
namespace Go.V.L3
open Go.Proofs Go.RowKit Go.V Go.V.L2
attribute [local irreducible] V N X VO Par StepOK Has Ret RetL RetO RetT Src
end Go.V.L3
set_option maxRecDepth 20000
namespace Go.V.L6
open Go.Proofs Go.RowKit Go.V Go.V.L2 Go.V.L3
abbrev d0:U:=(((⟨#[100, 111, 99]⟩, ⟨#[97]⟩), ⟨#[118, 105, 101, 119, 101, 114]⟩), ((⟨#[117, 115, 101, 114]⟩, ⟨#[120]⟩), ⟨#[]⟩))
abbrev d1:U:=(((⟨#[100, 111, 99]⟩, ⟨#[97]⟩), ⟨#[118, 105, 101, 119, 101, 114]⟩), ((⟨#[103, 114, 111, 117, 112]⟩, ⟨#[103]⟩), ⟨#[109, 101, 109, 98, 101, 114]⟩))
abbrev d2:U:=(((⟨#[100, 111, 99]⟩, ⟨#[98]⟩), ⟨#[118, 105, 101, 119, 101, 114]⟩), ((⟨#[117, 115, 101, 114]⟩, ⟨#[120]⟩), ⟨#[]⟩))
def tzB (t:U):Bool:=decide (t.1.1.1.size ≤ 1000) && decide (t.1.1.2.size ≤ 1000) && decide (t.1.2.size ≤ 1000) && decide (t.2.1.1.size ≤ 1000) && decide (t.2.1.2.size ≤ 1000) && decide (t.2.2.size ≤ 1000)
theorem zzi {t:U} (h:tzB t = true):TZ t:=by
 unfold tzB at h
 simp only [Bool.and_eq_true, decide_eq_true_eq] at h
 unfold TZ; omega
attribute [local irreducible] V N X VO Par StepOK Has Ret RetL RetO RetT Src
end Go.V.L6
set_option maxRecDepth 20000
namespace Go.V.L6
open Go.Proofs Go.RowKit Go.V Go.V.L2 Go.V.L3
abbrev ty3:TypeId:=148
abbrev C3:=Nat × Nat × Nat
def qcs (p:C3):List Value:=[.int .u8 p.1, .int .u8 p.2.1, .int .u8 p.2.2]
theorem z0t (p:C3):(qcs p).length = 3:=rfl
abbrev PS3 (cs:List C3) (fu:Bool):Value → Heap → Prop:=SlV ty3 3 (cs.flatMap qcs) cs.length fu
theorem z2r {cs:List C3} {j:Nat} {a b c:Nat} (h:cs[j]? = some (a, b, c)):((cs.flatMap qcs).drop (j * 3)).take 3 = [.int .u8 a, .int .u8 b, .int .u8 c]:=zdo z0t cs j _ h
def drB (c:Nat):Bool:=decide (c % 2 = 1)
structure SOK (l:List U):Prop where
 sst:Sst zbh l
 tz:∀ t ∈ l, TZ t
 ok:∀ t ∈ l, tE t = 0
theorem zw5 {l:List U} (h:SOK l) {x:U} (hz:TZ x) (hx:tE x = 0) (d:Bool) (hl:l.length < 4096):SOK (zcy l x d).1 ∧ (zcy l x d).2 = 0 ∧ (zcy l x d).1.length ≤ l.length + 1:=by
 refine ⟨⟨znh h.sst x d, fun t ht => ?_, fun t ht => ?_⟩, ?_⟩
 ·rcases zji ht with ht | rfl
  ·exact h.tz t ht
  ·exact hz
 ·rcases zji ht with ht | rfl
  ·exact h.ok t ht
  ·exact hx
 ·unfold zcy
  rw [if_pos hx]
  split
  ·exact ⟨rfl, Nat.le_succ_of_le (List.length_filter_le _ _)⟩
  ·split
   ·exact ⟨rfl, Nat.le_succ _⟩
   ·rw [if_neg (by omega), zcp]; exact ⟨rfl, Nat.le_refl _⟩
attribute [local irreducible] V N X VO Par StepOK Has Ret RetL RetO RetT Src
theorem z2p (c:Nat):Int.tmod (c:Int) 2 = ((c % 2:Nat):Int):=rfl
theorem zyy {a b c:Nat} {x:U} {d:Bool} (hx:zux a b = x) (hd:drB c = d) (ha:a ≤ 255) (hb:b ≤ 255) (hc:c ≤ 255) {w:World} {B:Heap} (hB:B.Le (hp w)):Ret Tryz.prog 68 [.agg #[.int .u8 a, .int .u8 b, .int .u8 c]] w B (fun v _ => v = chv x d):=by
 subst hx hd
 have hr:=z2p c
 refine yg Tryz.func68 rfl Tryz.ntmps68 (Nat.le_of_ble_eq_true rfl) hB ?_
 by_cases h1:c % 2 = 1
 ·have e1:drB c = true:=decide_eq_true h1
  rw [e1]
  refine Z365 ?_; refine Z166 ?_; refine Z78 ?_; refine z8 (zcj L _ rfl rfl rfl rfl zth rfl rfl (by first | omega | decide)) rfl ?_; refine Z57 ?_; refine z8 (zcj L _ rfl rfl rfl rfl zth rfl rfl (by first | omega | decide)) rfl ?_; refine Z57 ?_; refine z8 (yx (cs:=[_, _]) rfl rfl z2v rfl rfl) rfl ?_; refine z8 (zp L rfl rfl (zk rfl) rfl rfl rfl (fun u H hH _ _ => zob a b ha hb hH)) rfl ?_; refine z8 (zcj L _ rfl rfl rfl rfl zth rfl rfl (by first | omega | decide)) rfl ?_; refine Z57 ?_; refine Z143 ?_; refine Z70 ?_; refine z8 (yx (cs:=[_, _, _, _, _, _, _]) rfl rfl zpm rfl rfl) rfl ?_; refine Z116 ?_; refine Z157 ?_
  refine yd L (rs:=[.cell 2 120]) rfl (fun _ _ h => h) Since.refl fun u H hH hle => ?_
  refine Z120 ?_
  rfl
 ·have e1:drB c = false:=decide_eq_false h1
  rw [e1]
  refine Z365 ?_; refine Z166 ?_; refine Z78 ?_; refine z8 (zcj L _ rfl rfl rfl rfl zth rfl rfl (by first | omega | decide)) rfl ?_; refine Z57 ?_; refine z8 (zcj L _ rfl rfl rfl rfl zth rfl rfl (by first | omega | decide)) rfl ?_; refine Z57 ?_; refine z8 (yx (cs:=[_, _]) rfl rfl z2v rfl rfl) rfl ?_; refine z8 (zp L rfl rfl (zk rfl) rfl rfl rfl (fun u H hH _ _ => zob a b ha hb hH)) rfl ?_; refine z8 (zcj L _ rfl rfl rfl rfl zth rfl rfl (by first | omega | decide)) rfl ?_; refine Z57 ?_; refine Z143 ?_; refine Z66 ?_; refine z8 (yx (cs:=[_, _, _, _, _, _, _]) rfl rfl zpm rfl rfl) rfl ?_; refine Z116 ?_; refine Z157 ?_
  refine yd L (rs:=[.cell 2 120]) rfl (fun _ _ h => h) Since.refl fun u H hH hle => ?_
  refine Z120 ?_
  rfl
end Go.V.L6
set_option maxRecDepth 20000
namespace Go.V.L6
open Go.Proofs Go.RowKit Go.V Go.V.L2 Go.V.L3
end Go.V.L6
set_option maxRecDepth 20000
namespace Go.V.L2
open Go.Proofs Go.RowKit Go.V
def TM (t:U):Prop:=(t.1.1.1.size ≤ 9223372036854775807 ∧ t.1.1.2.size ≤ 9223372036854775807 ∧ t.1.2.size ≤ 9223372036854775807) ∧ t.2.1.1.size ≤ 9223372036854775807 ∧ t.2.1.2.size ≤ 9223372036854775807 ∧ t.2.2.size ≤ 9223372036854775807
attribute [local irreducible] V N X VO Par StepOK Has Ret RetL Src
end Go.V.L2
set_option maxRecDepth 20000
namespace Go.V.L8
open Go.Proofs Go.RowKit Go.V Go.V.L2 Go.V.L3 Go.V.L6
abbrev tyM:TypeId:=118
abbrev tyC:TypeId:=120
abbrev z6i:TypeId:=96
abbrev z6j:TypeId:=79
def ccs (c:CH):List Value:=[.string c.1.1.1.1, .string c.1.1.1.2, .string c.1.1.2, .string c.1.2.1.1, .string c.1.2.1.2, .string c.1.2.2, .bool c.2]
theorem zwl (c:CH):(ccs c).length = 7:=rfl
abbrev KS (ty:TypeId) (l:List CH) (fu:Bool):Value → Heap → Prop:=SlV ty 7 (l.flatMap ccs) l.length fu
theorem zi1 {l:List CH} {i:Nat} {c:CH} (h:l[i]? = some c):((l.flatMap ccs).drop (i * 7)).take 7 = [.string c.1.1.1.1, .string c.1.1.1.2, .string c.1.1.2, .string c.1.2.1.1, .string c.1.2.1.2, .string c.1.2.2, .bool c.2]:=zdo zwl l i c h
theorem zg7 {ty:TypeId} {κ:Kap} {s:Nat} {r:List CH} {c:CH} (h:κ s = some (.own (SlR ty 7 (r.length + 1) (r.flatMap ccs ++ [.string c.1.1.1.1, .string c.1.1.1.2, .string c.1.1.2, .string c.1.2.1.1, .string c.1.2.1.2, .string c.1.2.2, .bool c.2])))):κ s = some (.own (SlR ty 7 (r ++ [c]).length ((r ++ [c]).flatMap ccs))):=by
 rw [h, List.flatMap_append, List.length_append]; rfl
theorem z1u {n:Nat} {l:List CH} (hl:¬ n < l.length) {i:Nat} {c:CH} (hc:l[i]? = some c) (h:¬ tE c.1 = 0):cE n l = 6:=by
 unfold cE
 rw [if_neg hl, if_pos]
 rw [List.any_eq_true]
 exact ⟨c, List.mem_of_getElem? hc, by simp [h]⟩
theorem zwo {n:Nat} {l:List CH} (hl:¬ n < l.length) (h:∀ (j:Nat) c, l[j]? = some c → tE c.1 = 0):cE n l = 0:=by
 unfold cE
 rw [if_neg hl, if_neg]
 rw [List.any_eq_true]
 rintro ⟨c, hc, h1⟩
 obtain ⟨j, hj⟩:=List.getElem?_of_mem hc
 rw [decide_eq_true (h j c hj)] at h1
 cases h1
attribute [local irreducible] V N X VO Par StepOK Has Ret RetL RetO RetT Src
theorem zt0 {t:U} (hz:TM t) {w:World} {B:Heap} (hB:B.Le (hp w)):Ret Tryz.prog 91 [uv t] w B (fun v _ => v = .int .i64 (tE t)):=by
 obtain ⟨⟨z1, z2, z3⟩, z4, z5, z6⟩:=hz
 unfold tE
 refine yg Tryz.func91 rfl Tryz.ntmps91 (Nat.le_of_ble_eq_true rfl) hB ?_
 by_cases h:zdb [t.1.1.1, t.1.1.2, t.1.2] = 0
 ·rw [if_pos h]
  refine Z165 ?_; refine Z273 ?_; refine z7 (qd L (vs:=[_, _, _]) (qp rfl) rfl rfl rfl rfl ⟨_, rfl⟩) rfl ?_; refine z7 (zp L rfl rfl (zk rfl) rfl rfl rfl (fun u H hH _ _ => zhj (by first | assumption | omega | decide) (by first | assumption | omega | decide) (by first | assumption | omega | decide) hH)) rfl ?_; refine Z259 ?_; refine Z241 ?_; refine Z31 ?_; refine Z19 ?_; refine z7 (qd L (vs:=[_, _, _]) (qp rfl) rfl rfl rfl rfl ⟨_, rfl⟩) rfl ?_; refine z7 (zp L rfl rfl (zk rfl) rfl rfl rfl (fun u H hH _ _ => zjo (by first | assumption | omega | decide) (by first | assumption | omega | decide) (by first | assumption | omega | decide) hH)) rfl ?_; refine Z146 ?_
  refine yd L (rs:=[.tmp 2]) rfl (fun _ _ h => h) Since.refl fun u H hH hle => ?_
  rfl
 ·rw [if_neg h]
  refine Z165 ?_; refine Z273 ?_; refine z7 (qd L (vs:=[_, _, _]) (qp rfl) rfl rfl rfl rfl ⟨_, rfl⟩) rfl ?_; refine z7 (zp L rfl rfl (zk rfl) rfl rfl rfl (fun u H hH _ _ => zhj (by first | assumption | omega | decide) (by first | assumption | omega | decide) (by first | assumption | omega | decide) hH)) rfl ?_; refine Z259 ?_; refine Z221 ?_; refine Z181 ?_; refine Z146 ?_
  refine yd L (rs:=[.tmp 2]) rfl (fun _ _ h => h) Since.refl fun u H hH hle => ?_
  rfl
theorem zi8 {t:U} (hz:TM t) {w:World} {B:Heap} (hB:B.Le (hp w)):Ret Tryz.prog 157 [uv t] w B (fun v _ => v = .int .i64 (tE t)):=by
 obtain ⟨⟨z1, z2, z3⟩, z4, z5, z6⟩:=hz
 have hm:=zzk t
 refine yg Tryz.func157 rfl Tryz.ntmps157 (Nat.le_of_ble_eq_true rfl) hB ?_
 refine Z165 ?_; refine Z351 ?_; refine Z48 ?_; refine z8 (qd L (vs:=[_, _, _]) (qp rfl) rfl rfl rfl rfl ⟨_, rfl⟩) rfl ?_; refine z8 (zp L rfl rfl (zk rfl) rfl rfl rfl (fun u H hH _ _ => zn5 (by first | assumption | omega | decide) (by first | assumption | omega | decide) (by first | assumption | omega | decide) hH)) rfl ?_; refine Z48 ?_; refine z8 (qd L (vs:=[_, _, _]) (qp rfl) rfl rfl rfl rfl ⟨_, rfl⟩) rfl ?_; refine z8 (zp L rfl rfl (zk rfl) rfl rfl rfl (fun u H hH _ _ => ziq (by first | assumption | omega | decide) (by first | assumption | omega | decide) (by first | assumption | omega | decide) hH)) rfl ?_; refine z8 (zgt rfl rfl rfl rfl (by assumption)) rfl ?_; refine Z185 ?_
 refine yd L (rs:=[.tmp 2]) rfl (fun _ _ h => h) Since.refl fun u H hH hle => ?_
 rfl
theorem z09 {l:List CH} {fu:Bool} {b i:Nat} {c:CH} (hc0:l[i]? = some c) {v:Value} {w:World} {B:Heap} (hB:B.Le (hp w)) (hb:B b = some (.cells #[v] z6i)) (hv:KS tyM l fu v B) :
  Ret Tryz.prog 120 ([.int .i64 i] ++ [.pointer (some ⟨b, 0, none⟩)]) w B (fun r _ => r = uv c.1):=by
 have hc:=zi1 hc0
 have hil:=get_lt hc0
 refine yg Tryz.func120 rfl Tryz.ntmps120 (Nat.le_of_ble_eq_true rfl) hB ?_
 refine Z355 ?_; refine Z166 ?_; refine Z20 ?_; refine Z64 ?_; refine zfv 4 (KS tyM l fu) rfl SlV.mono hv ?_; refine Z1 ?_; refine z7 (qu L _ rfl rfl rfl rfl rfl rfl rfl (by first | omega | decide) (by assumption)) rfl ?_; refine Z82 ?_; refine z7 (yh L (vs:=[_, _, _, _, _, _]) rfl rfl rfl rfl rfl ⟨_, rfl⟩) rfl ?_; refine Z268 ?_
 refine yd L (rs:=[.cell 3 114]) rfl (fun _ _ h => h) Since.refl fun u H hH hle => ?_
 refine Z120 ?_
 rfl
theorem z1t {l:List CH} {fu:Bool} {b i:Nat} {c:CH} (hc0:l[i]? = some c) {v:Value} {w:World} {B:Heap} (hB:B.Le (hp w)) (hb:B b = some (.cells #[v] z6j)) (hv:KS tyC l fu v B) :
  Ret Tryz.prog 121 ([.int .i64 i] ++ [.pointer (some ⟨b, 0, none⟩)]) w B (fun r _ => r = uv c.1):=by
 have hc:=zi1 hc0
 have hil:=get_lt hc0
 refine yg Tryz.func121 rfl Tryz.ntmps121 (Nat.le_of_ble_eq_true rfl) hB ?_
 refine Z355 ?_; refine Z166 ?_; refine Z20 ?_; refine Z64 ?_; refine zfv 4 (KS tyC l fu) rfl SlV.mono hv ?_; refine Z1 ?_; refine z7 (qu L _ rfl rfl rfl rfl rfl rfl rfl (by first | omega | decide) (by assumption)) rfl ?_; refine Z82 ?_; refine z7 (yh L (vs:=[_, _, _, _, _, _]) rfl rfl rfl rfl rfl ⟨_, rfl⟩) rfl ?_; refine Z268 ?_
 refine yd L (rs:=[.cell 3 114]) rfl (fun _ _ h => h) Since.refl fun u H hH hle => ?_
 refine Z120 ?_
 rfl
theorem zlr {l:List CH} {cf:Nat} {caps:List Value} (hz:∀ c ∈ l, TM c.1) (hl:l.length ≤ 9223372036854775807) (hfn:L.fn cf = some ()) {e:Int} (he:cE 32 l = e) {w:World} {B:Heap} (hB:B.Le (hp w))
  (hcl:∀ (i:Nat) (c:CH), l[i]? = some c → ∀ (u:World) (H:Heap), H.Le (hp u) → B.Le H → Ret Tryz.prog cf ([.int .i64 i] ++ caps) u H (fun r _ => r = uv c.1)) :
  Ret Tryz.prog 119 [.int .i64 l.length, .func (.func cf) #[] caps.toArray] w B (fun v _ => v = .int .i64 e):=by
 subst he
 refine yg Tryz.func119 rfl Tryz.ntmps119 (Nat.le_of_ble_eq_true rfl) hB ?_
 by_cases h32:32 < l.length
 ·have:cE 32 l = 3:=if_pos h32
  rw [this]
  refine Z285 ?_; refine Z41 ?_; refine Z348 ?_
  refine yd L (rs:=[.tmp 4]) rfl (fun _ _ h => h) Since.refl fun u H hH hle => ?_
  rfl
 ·refine Z285 ?_; refine Z35 ?_; refine Z177 ?_; refine Z212 ?_; refine Z254 ?_
  refine zal (fun i:Nat => [(1, .is (.func (.func cf) #[] caps.toArray)), (9, .is (.int .i64 l.length)), (10, .is (.int .i64 i))]) (fun i => i ≤ l.length ∧ ∀ (j:Nat) c, j < i → l[j]? = some c → tE c.1 = 0) (fun i => l.length - i) 0 ⟨Nat.zero_le _, fun j c h => absurd h (Nat.not_lt_zero _)⟩ ⟨rfl, rfl, rfl, trivial⟩ ?_
  rintro i ⟨hi, hok⟩
  by_cases hlt:i < l.length
  ·obtain ⟨c, hc⟩:=zaf hlt
   have hzc:=hz c (List.mem_of_getElem? hc)
   by_cases h0:tE c.1 = 0
   ·refine Z381 ?_; refine Z290 ?_; refine z7 (zp L rfl rfl (zk rfl) rfl rfl hfn (fun u H hH hle _ => hcl i c hc u H hH hle)) rfl ?_; refine z7 (zp L rfl rfl (zk rfl) rfl rfl rfl (fun u H hH _ _ => h0 ▸ zt0 hzc hH)) rfl ?_; refine Z151 ?_; refine Z204 ?_; refine Z24 ?_; refine Z228 ?_; refine Z60 ?_; refine Z322 ?_
    exact yj (x:=i) (i + 1) ⟨hlt, fun j c' hj hc' => by
     rcases Nat.lt_or_ge j i with h | h
     ·exact hok j c' h hc'
     ·have:j = i:=by omega
      subst this; rw [hc] at hc'; cases hc'; exact h0⟩ (by omega) ⟨rfl, rfl, rfl, trivial⟩
   ·have h6:=(zqm c.1).resolve_left h0
    rw [z1u h32 hc h0]
    refine Z381 ?_; refine Z290 ?_; refine z7 (zp L rfl rfl (zk rfl) rfl rfl hfn (fun u H hH hle _ => hcl i c hc u H hH hle)) rfl ?_; refine z7 (zp L rfl rfl (zk rfl) rfl rfl rfl (fun u H hH _ _ => h6 ▸ zt0 hzc hH)) rfl ?_; refine Z151 ?_; refine Z204 ?_; refine Z221 ?_; refine Z233 ?_; refine Z146 ?_
    refine yd L (rs:=[.tmp 4]) rfl (fun _ _ h => h) Since.refl fun u H hH hle => ?_
    rfl
  ·rw [zwo h32 (fun j c hj => hok j c (by have:=get_lt hj; omega) hj)]
   refine Z276 ?_; refine Z296 ?_; refine Z69 ?_; refine Z146 ?_
   refine yd L (rs:=[.tmp 4]) rfl (fun _ _ h => h) Since.refl fun u H hH hle => ?_
   rfl
theorem znr {e:TypeId} {s n:Nat} {xs:List Value} {fu:Bool} {v:Value} {H:Heap} (h:SlV e s xs n fu v H):∃ p m c, v = .slice p m c:=by
 rcases h.2 with ⟨_, _, h⟩ | ⟨b, off, cap, cs, ty0, fr, h, _⟩
 ·exact ⟨_, _, _, h⟩
 ·exact ⟨_, _, _, h⟩
theorem zgm {l:List CH} {fu:Bool} (hz:∀ c ∈ l, TM c.1) (hl:l.length ≤ 9223372036854775807) {e:Int} (he:cE 32 l = e) {v:Value} {w:World} {B:Heap} (hB:B.Le (hp w)) (hv:KS tyM l fu v B) :
  Ret Tryz.prog 78 [v] w B (fun r _ => r = .int .i64 e):=by
 obtain ⟨p, m, c, rfl⟩:=znr hv
 refine yg Tryz.func78 rfl Tryz.ntmps78 (Nat.le_of_ble_eq_true rfl) hB ?_
 refine Z165 ?_; refine Z151 ?_
 refine zna 1 rfl fun q H1 hs1 ⟨b, hpb, hb1⟩ => ?_
 subst hpb
 refine Z20 ?_; refine Z64 ?_; refine zfv 3 (KS tyM l fu) rfl SlV.mono (hv.le hs1.le) ?_; refine Z11 ?_; refine z7 (zfg rfl rfl rfl rfl) rfl ?_; refine z7 (zp L rfl rfl (zk rfl) rfl rfl rfl (fun u H hH hle _ => zlr (caps:=[.pointer (some ⟨b, 0, none⟩)]) hz hl rfl he hH (fun i c hc u' H' hH' hle' => z09 hc hH' (hle' _ _ (hle _ _ hb1)) ((hv.le hs1.le).le (Heap.Le.trans hle hle'))))) rfl ?_; refine Z146 ?_
 refine yd L (rs:=[.tmp 2]) rfl (fun _ _ h => h) hs1 fun u H hH hle => ?_
 rfl
end Go.V.L8
set_option maxRecDepth 20000
namespace Go.V.L8
open Go.Proofs Go.RowKit Go.V Go.V.L2 Go.V.L3 Go.V.L6
theorem zov {s:List U} {l:List CH} (h0:cE 32 l = 0) {i:Nat} {c:CH} (h:∀ (j:Nat) x, j < i → l[j]? = some x → zfl s x = true) (hc:l[i]? = some c) (hh:zfl s c = false):zfa s l = (i, 13):=by
 unfold zfa; rw [if_pos h0]; exact zs8 h hc hh
theorem zly {s:List U} {l:List CH} (h0:cE 32 l = 0) (h:∀ (j:Nat) x, l[j]? = some x → zfl s x = true):zfa s l = (l.length, 0):=by
 unfold zfa; rw [if_pos h0]; exact zs9 fun x hx => let ⟨j, hj⟩:=List.getElem?_of_mem hx; h j x hj
attribute [local irreducible] V N X VO Par StepOK Has Ret RetL RetO RetT Src
theorem zm8 {l:List CH} {fu:Bool} (hz:∀ c ∈ l, TM c.1) (hl:l.length ≤ 9223372036854775807) {e:Int} (he:cE 32 l = e) {v:Value} {w:World} {B:Heap} (hB:B.Le (hp w)) (hv:KS tyC l fu v B) :
  Ret Tryz.prog 79 [v] w B (fun r _ => r = .int .i64 e):=by
 obtain ⟨p, m, c, rfl⟩:=znr hv
 refine yg Tryz.func79 rfl Tryz.ntmps79 (Nat.le_of_ble_eq_true rfl) hB ?_
 refine Z165 ?_; refine Z151 ?_
 refine zna 1 rfl fun q H1 hs1 ⟨b, hpb, hb1⟩ => ?_
 subst hpb
 refine Z20 ?_; refine Z64 ?_; refine zfv 3 (KS tyC l fu) rfl SlV.mono (hv.le hs1.le) ?_; refine Z11 ?_; refine z7 (zfg rfl rfl rfl rfl) rfl ?_; refine z7 (zp L rfl rfl (zk rfl) rfl rfl rfl (fun u H hH hle _ => zlr (caps:=[.pointer (some ⟨b, 0, none⟩)]) hz hl rfl he hH (fun i c hc u' H' hH' hle' => z1t hc hH' (hle' _ _ (hle _ _ hb1)) ((hv.le hs1.le).le (Heap.Le.trans hle hle'))))) rfl ?_; refine Z146 ?_
 refine yd L (rs:=[.tmp 2]) rfl (fun _ _ h => h) hs1 fun u H hH hle => ?_
 rfl
theorem zot {s:List U} {c:CH} {b:Bool} (hb:zfl s c = b) {v:Value} {w:World} {B:Heap} (hB:B.Le (hp w)) (hv:SetV s v B):Ret Tryz.prog 122 [v, chv c.1 c.2] w B (fun r _ => r = .bool b):=by
 subst hb
 obtain ⟨x, d⟩:=c
 obtain ⟨f1, p1, f2, q1, rfl, hpl⟩:=hv.shape
 obtain ⟨h, hh⟩:∃ h, decide (x ∈ s) = h:=⟨_, rfl⟩
 unfold zfl
 dsimp only
 rw [hh]
 refine yg Tryz.func122 rfl Tryz.ntmps122 (Nat.le_of_ble_eq_true rfl) hB ?_
 refine Z213 ?_; refine Z351 ?_; refine z8 (qd L (vs:=[_, _, _, _]) (qp rfl) rfl rfl rfl rfl ⟨_, rfl⟩) rfl ?_; refine Z48 ?_; refine z8 (qd L (vs:=[_, _, _, _, _, _]) (qp rfl) rfl rfl rfl rfl ⟨_, rfl⟩) rfl ?_; refine z8 (zp L rfl rfl (zk rfl) rfl rfl rfl (fun u H hH hle _ => zc3 hh hH (hv.le hle))) rfl ?_; refine Z380 ?_; refine Z185 ?_
 refine yd L (rs:=[.tmp 4]) rfl (fun _ _ h => h) Since.refl fun u H hH hle => ?_
 cases h <;> cases d <;> rfl
set_option maxHeartbeats 1000000 in
theorem first_ret {s:List U} {l:List CH} {fu:Bool} (hz:∀ c ∈ l, TM c.1) (hl:l.length ≤ 9223372036854775807) {r:Nat} {e:Int} (hr:zfa s l = (r, e)) {sv v:Value} {w:World} {B:Heap} (hB:B.Le (hp w)) (hs:SetV s sv B) (hv:KS tyM l fu v B) :
  Ret Tryz.prog 80 [sv, v] w B (fun x _ => x = .tuple #[.int .i64 r, .int .i64 e]):=by
 obtain ⟨f1, p1, f2, q1, rfl, hpl⟩:=hs.shape
 refine yg Tryz.func80 rfl Tryz.ntmps80 (Nat.le_of_ble_eq_true rfl) hB ?_
 refine zaz 1 (KS tyM l fu) rfl SlV.mono hv ?_
 by_cases h0:cE 32 l = 0
 ·refine Z338 ?_; refine Z163 ?_; refine Z5 ?_; refine z7 (zp L rfl rfl (zk rfl) rfl rfl rfl (fun u H hH _ _ v1 h1 => zgm hz hl h0 hH h1)) rfl ?_; refine Z259 ?_; refine Z245 ?_; refine Z31 ?_; refine Z350 ?_
  refine zal (fun i:Nat => [(1, .sat (KS tyM l fu)), (2, .sat (At [f1, .pointer p1, f2, .pointer q1] znk 0)), (14, .sat (KS tyM l fu)), (15, .is (.int .i64 l.length)), (16, .is (.int .i64 i))]) (fun i => i ≤ l.length ∧ ∀ (j:Nat) x, j < i → l[j]? = some x → zfl s x = true) (fun i => l.length - i) 0 ⟨Nat.zero_le _, fun j c h => absurd h (Nat.not_lt_zero _)⟩ ⟨rfl, rfl, rfl, rfl, rfl, trivial⟩ ?_
  rintro i ⟨hi, hok⟩
  by_cases hlt:i < l.length
  ·obtain ⟨c, hc0⟩:=zaf hlt
   have hc:=zi1 hc0
   cases hh:zfl s c
   ·rw [zov h0 hok hc0 hh] at hr
    cases hr
    refine zh ?_; refine Z38 ?_; refine Z220 ?_; refine Z198 ?_; refine z7 (qu L _ rfl rfl rfl rfl rfl rfl rfl (by first | omega | decide) (by assumption)) rfl ?_; refine z7 (yh L (vs:=[_, _, _, _, _, _, _]) rfl rfl rfl rfl rfl ⟨_, rfl⟩) rfl ?_; refine Z260 ?_; refine Z21 ?_; refine Z166 ?_; refine Z44 ?_; refine z7 (qd L (vs:=[_, _, _, _]) (qp rfl) rfl rfl rfl rfl ⟨_, rfl⟩) rfl ?_; refine z7 (qd L (vs:=[_, _, _, _, _, _, _]) (ym rfl) rfl rfl rfl rfl ⟨_, rfl⟩) rfl ?_; refine z7 (zp L rfl rfl (zk rfl) rfl rfl rfl (fun u H hH hle _ => zot hh hH (hs.le hle))) rfl ?_; refine Z52 ?_; refine Z164 ?_; refine Z233 ?_; refine Z195 ?_
    refine yd L (rs:=[.tmp 4, .tmp 5]) rfl (fun _ _ h => h) Since.refl fun u H hH hle => ?_
    rfl
   ·refine zh ?_; refine Z38 ?_; refine Z220 ?_; refine Z198 ?_; refine z7 (qu L _ rfl rfl rfl rfl rfl rfl rfl (by first | omega | decide) (by assumption)) rfl ?_; refine z7 (yh L (vs:=[_, _, _, _, _, _, _]) rfl rfl rfl rfl rfl ⟨_, rfl⟩) rfl ?_; refine Z260 ?_; refine Z21 ?_; refine Z166 ?_; refine Z44 ?_; refine z7 (qd L (vs:=[_, _, _, _]) (qp rfl) rfl rfl rfl rfl ⟨_, rfl⟩) rfl ?_; refine z7 (qd L (vs:=[_, _, _, _, _, _, _]) (ym rfl) rfl rfl rfl rfl ⟨_, rfl⟩) rfl ?_; refine z7 (zp L rfl rfl (zk rfl) rfl rfl rfl (fun u H hH hle _ => zot hh hH (hs.le hle))) rfl ?_; refine Z52 ?_; refine Z228 ?_; refine Z60 ?_; refine Z322 ?_
    exact yj (x:=i) (i + 1) ⟨hlt, fun j c' hj hc' => by
     rcases Nat.lt_or_ge j i with h | h
     ·exact hok j c' h hc'
     ·have:j = i:=by omega
      subst this; rw [hc0] at hc'; cases hc'; exact hh⟩ (by omega) ⟨rfl, rfl, rfl, rfl, rfl, trivial⟩
  ·rw [zly h0 (fun j x hj => hok j x (by have:=get_lt hj; omega) hj)] at hr
   cases hr
   refine zh ?_; refine Z38 ?_; refine Z296 ?_; refine Z69 ?_; refine Z158 ?_; refine Z195 ?_
   refine yd L (rs:=[.tmp 4, .tmp 5]) rfl (fun _ _ h => h) Since.refl fun u H hH hle => ?_
   rfl
 ·have:zfa s l = (0, cE 32 l):=if_neg h0
  rw [this] at hr
  cases hr
  refine Z338 ?_; refine Z163 ?_; refine Z5 ?_; refine z7 (zp L rfl rfl (zk rfl) rfl rfl rfl (fun u H hH _ _ v1 h1 => zgm hz hl rfl hH h1)) rfl ?_; refine Z259 ?_; refine Z221 ?_; refine Z181 ?_; refine Z195 ?_
  refine yd L (rs:=[.tmp 4, .tmp 5]) rfl (fun _ _ h => h) Since.refl fun u H hH hle => ?_
  rfl
end Go.V.L8
set_option maxRecDepth 20000
namespace Go.V.L8
open Go.Proofs Go.RowKit Go.V Go.V.L2 Go.V.L3 Go.V.L6
attribute [local irreducible] V N X VO Par StepOK Has Ret RetL RetO RetT Src
end Go.V.L8
set_option maxRecDepth 20000
namespace Go.V.L8
open Go.Proofs Go.RowKit Go.V Go.V.L2 Go.V.L3 Go.V.L6
theorem _root_.Go.V.Z101 {A B:Prop} (h:B) (t:Wr B → A:=by intro h; refine zf (id:=20) ?_; exact h.h):A:=t ⟨h⟩
theorem _root_.Go.V.Z111 {A B:Prop} (h:B) (t:Wr B → A:=by intro h; refine z8 (z07 rfl rfl rfl rfl bt4 rfl) rfl ?_; exact h.h):A:=t ⟨h⟩
theorem _root_.Go.V.Z112 {A B:Prop} (h:B) (t:Wr B → A:=by intro h; refine qq (zcl L rfl rfl rfl (zii rfl) rfl zyq rfl rfl (by omega) (by omega)) ?_; exact h.h):A:=t ⟨h⟩
theorem _root_.Go.V.Z127 {A B:Prop} (h:B) (t:Wr B → A:=by intro h; refine zf (id:=19) ?_; exact h.h):A:=t ⟨h⟩
theorem _root_.Go.V.Z303 {A B:Prop} (h:B) (t:Wr B → A:=by intro h; refine Z26 ?_; refine Z63 ?_; exact h.h):A:=t ⟨h⟩
theorem _root_.Go.V.Z304 {A B:Prop} (h:B) (t:Wr B → A:=by intro h; refine Z106 ?_; refine Z1 ?_; exact h.h):A:=t ⟨h⟩
theorem _root_.Go.V.Z315 {A B:Prop} (h:B) (t:Wr B → A:=by intro h; refine Z183 ?_; refine Z303 ?_; exact h.h):A:=t ⟨h⟩
theorem zz5 {n:Nat} {l:List CH} (h:cE n l = 0):l.length ≤ n ∧ ∀ c ∈ l, tE c.1 = 0:=by
 unfold cE at h
 split at h
 ·exact absurd h (by decide)
 ·split at h
  ·exact absurd h (by decide)
  ·rename_i h1 h2
   refine ⟨by omega, fun c hc => ?_⟩
   by_cases h0:tE c.1 = 0
   ·exact h0
   ·exact absurd (List.any_eq_true.2 ⟨c, hc, by simp [h0]⟩) h2
theorem zlc {s:ByteArray} (h:chk s = 0):s.size ≤ 1099511627776:=by
 unfold chk at h
 split at h
 ·rename_i h1; omega
 ·exact absurd h (by decide)
theorem zqk {t:U} (h:tE t = 0):TZ t:=by
 unfold tE at h
 split at h
 ·rename_i h1
  obtain ⟨c1, c2, c3⟩:=zy5 h1
  obtain ⟨d1, d2, d3⟩:=zr8 h
  refine ⟨⟨zlc c1, zlc c2, zlc c3⟩, zlc d1, zlc d2, ?_⟩
  rcases d3 with d3 | d3
  ·rw [d3]; exact Nat.zero_le _
  ·exact zlc d3
 ·rename_i h1; exact absurd h h1
def WriteP (t:List U) (made:List CH) (e:Int) (r:Value) (H:Heap):Prop:=∃ tv mv, r = .tuple #[tv, mv, .int .i64 e] ∧ SetV t tv H ∧ KS tyC made true mv H
theorem WriteP.mono {t:List U} {made:List CH} {e:Int}:Kn.mono (.sat (WriteP t made e)):=fun _ _ _ ⟨tv, mv, h1, h2, h3⟩ hle => ⟨tv, mv, h1, h2.le hle, h3.le hle⟩
attribute [local irreducible] V N X VO Par StepOK Has Ret RetL RetO RetT Src
theorem zwi {l:List CH} {fu:Bool} {v:Value} {w:World} {B:Heap} (hB:B.Le (hp w)) (hv:KS tyC l fu v B):Ret Tryz.prog 81 [v] w B (KS tyC l true):=by
 refine yg Tryz.func81 rfl Tryz.ntmps81 (Nat.le_of_ble_eq_true rfl) hB ?_
 refine zaz 0 (KS tyC l fu) rfl SlV.mono hv ?_
 refine Z194 ?_; refine Z5 ?_; refine Z158 ?_; refine Z158 ?_; refine Z129 ?_; refine Z275 ?_
 refine yd L (rs:=[.tmp 2]) rfl (fun _ _ h => h) Since.refl fun u H hH hle => ?_
 exact fun v hv => hv
set_option maxHeartbeats 4000000 in
set_option maxRecDepth 10000 in
theorem ztm {s t:List U} {l cs made:List CH} {fl fc:Bool} {e:Int} (zl:∀ c ∈ l, TM c.1) (zc:∀ c ∈ cs, TM c.1) (ll:l.length ≤ 9223372036854775807) (lc:cs.length ≤ 9223372036854775807) (hsl:s.length ≤ 4096) (hr:zel s l cs = (t, made, e)) {sv lv cv:Value} {w:World} {B:Heap} (hB:B.Le (hp w))
  (hs:SetV s sv B) (hl:KS tyM l fl lv B) (hc:KS tyC cs fc cv B):Ret Tryz.prog 49 [sv, lv, cv] w B (WriteP t made e):=by
 obtain ⟨f1, p1, f2, q1, rfl, hpl⟩:=hs.shape
 refine yg Tryz.func49 rfl Tryz.ntmps49 (Nat.le_of_ble_eq_true rfl) hB ?_
 refine zaz 1 (KS tyM l fl) rfl SlV.mono hl ?_
 refine zaz 2 (KS tyC cs fc) rfl SlV.mono hc ?_
 unfold zel at hr
 by_cases h1:cE 32 l = 0
 ·rw [if_pos h1] at hr
  by_cases h2:cE 32 cs = 0
  ·rw [if_pos h2] at hr
   obtain ⟨r, e1, hf⟩:∃ r e1, zfa s l = (r, e1):=⟨_, _, rfl⟩
   rw [hf] at hr
   dsimp only at hr
   by_cases h3:e1 = 0
   ·subst h3
    rw [if_pos rfl] at hr
    obtain ⟨l32, hval⟩:=zz5 h2
    refine Z357 ?_; refine Z260 ?_; refine Z163 ?_; refine Z5 ?_; refine z7 (zp L rfl rfl (zk rfl) rfl rfl rfl (fun u H hH _ _ v1 g1 => zgm zl ll h1 hH g1)) rfl ?_; refine Z259 ?_; refine Z245 ?_; refine Z31 ?_; refine Z5 ?_; refine z7 (zp L rfl rfl (zk rfl) rfl rfl rfl (fun u H hH _ _ v1 g1 => zm8 zc lc h2 hH g1)) rfl ?_; refine Z151 ?_; refine Z188 ?_; refine Z245 ?_; refine Z44 ?_; refine z7 (qd L (vs:=[_, _, _, _]) (ym rfl) rfl rfl rfl rfl ⟨_, rfl⟩) rfl ?_; refine Z5 ?_; refine z7 (zp L rfl rfl (zk rfl) rfl rfl rfl (fun u H hH hle _ v1 g1 => first_ret zl ll hf hH (hs.le hle) g1)) rfl ?_; refine Z250 ?_; refine Z233 ?_; refine Z245 ?_; refine Z69 ?_; refine Z350 ?_
    refine z4d (X:=SXp) 3 (r:=fun x => zfo (scs x.1) znk) (φ:=zw1 s) (zdu s) ⟨(f1, p1, f2, q1), hpl⟩ hs rfl ?_
    refine zek 7 tyC 7 rfl ?_
    refine zal (fun y:Nat × List U × List CH => [(3, .own (ExR (fun x:SXp => zfo (scs x.1) znk) (zw1 y.2.1) (zdu y.2.1))), (6, .own (zfo [.nilFunc, .pointer none, .nilFunc, .pointer none] znk)), (7, .own (SlR tyC 7 y.2.2.length (y.2.2.flatMap ccs))), (40, .sat (KS tyC cs fc)), (41, .is (.int .i64 cs.length)), (42, .is (.int .i64 y.1))])
     (fun y => y.1 ≤ cs.length ∧ zft y.2.1 y.2.2 (cs.drop y.1) = (t, made, e) ∧ y.2.1.length ≤ 4096 ∧ y.2.2.length ≤ y.1) (fun y => cs.length - y.1) (0, s, []) ⟨Nat.zero_le _, hr, hsl, Nat.le_refl _⟩ ⟨rfl, rfl, rfl, rfl, rfl, rfl, trivial⟩ ?_
    clear hr hs hsl
    rintro ⟨k, s, md⟩ ⟨hk, he, hsl, hmd⟩
    dsimp only at hk he hsl hmd ⊢
    refine zdf 3 rfl fun ⟨⟨f1, p1, f2, q1⟩, hpl⟩ H3 hs3 hT => ?_
    have hT:SetV s (.agg #[f1, .pointer p1, f2, .pointer q1]) H3:=hT
    by_cases hlt:k < cs.length
    ·obtain ⟨c, hc0⟩:=zaf hlt
     have hc:=zi1 hc0
     have hv:=hval c (List.mem_of_getElem? hc0)
     have hzt:=zqk hv
     rw [zfr hc0, zft] at he
     obtain ⟨x, d⟩:=c
     dsimp only at hc hv hzt he
     rcases hw:zcy s x d with ⟨s', e'⟩
     rw [hw] at he
     dsimp only at he
     have hsl':=zni hsl x d
     rw [hw] at hsl'
     obtain ⟨i, hin⟩:∃ i, decide (x ∈ s) = i:=⟨_, rfl⟩
     rw [hin] at he
     by_cases h0:e' = 0
     ·rw [if_pos h0] at he
      subst h0
      cases i <;> cases d
      ·rw [if_pos rfl] at he
       refine zh ?_; refine Z67 ?_; refine Z220 ?_; refine Z88 ?_; refine z7 (qu L _ rfl rfl rfl rfl rfl rfl rfl (by first | omega | decide) (by assumption)) rfl ?_; refine z7 (yh L (vs:=[_, _, _, _, _, _, _]) rfl rfl rfl rfl rfl ⟨_, rfl⟩) rfl ?_; refine Z210 ?_; refine Z166 ?_
       refine zk9 14 rfl fun b14 hb14 => ?_
       refine Z130 ?_; refine z8 (qd L (vs:=[_, _, _, _]) (ym rfl) rfl rfl rfl rfl ⟨_, rfl⟩) rfl ?_; refine Z12 ?_; refine z8 (qd L (vs:=[_, _, _, _, _, _]) (za0 rfl (List.Mem.head _)) rfl rfl rfl rfl ⟨_, rfl⟩) rfl ?_; refine z8 (zp L rfl rfl (zk rfl) rfl rfl rfl (fun u H hH hle _ => zc3 hin hH (hT.le hle))) rfl ?_; refine Z12 ?_; refine z8 (qh L (za0 rfl (List.Mem.head _)) rfl rfl rfl rfl) rfl ?_; refine Z111 ?_; refine Z270 ?_; refine Z77 ?_; refine z7 (qd L (vs:=[_, _, _, _]) (ym rfl) rfl rfl rfl rfl ⟨_, rfl⟩) rfl ?_; refine z7 (qd L (vs:=[_, _, _, _, _, _, _]) (za0 rfl (List.Mem.head _)) rfl rfl rfl rfl ⟨_, rfl⟩) rfl ?_; refine z7 (yr (φ:=WithP s' 0) L rfl rfl (zk rfl) rfl rfl rfl WithP.mono (fun u H hH hle _ => zng hw hsl hzt hH (hT.le hle))) rfl ?_; refine zbx 56 rfl ?_; rintro _ H19 hs19 ⟨tv, rfl, hT19⟩; obtain ⟨g1, r1, g2, r2, rfl, hpl2⟩:=hT19.shape; refine Z315 ?_; refine Z155 ?_; refine Z100 ?_; refine Z1 ?_; refine Z241 ?_; refine Z115 ?_; refine z7 (qd L (vs:=[_, _, _, _]) (ym rfl) rfl rfl rfl rfl ⟨_, rfl⟩) rfl ?_; refine Z63 ?_; refine Z166 ?_; refine Z304 ?_; refine Z152 ?_; refine Z127 ?_; refine qq (yo (.inl rfl) rfl rfl rfl rfl) ?_; refine z7 (qd L (vs:=[_, _, _, _, _, _, _]) (za0 rfl (List.Mem.head _)) rfl rfl rfl rfl ⟨_, rfl⟩) rfl ?_; refine Z39 ?_; refine Z112 ?_; refine qq (yo (.inr rfl) rfl rfl rfl rfl) ?_; refine Z248 ?_
       refine zr1 (O':=[]) (List.nil_sublist _) ?_
       refine Z101 ?_; refine Z322 ?_
       refine zr2 (X:=SXp) 3 (r:=fun x => zfo (scs x.1) znk) (φ:=zw1 s') (zdu _) ⟨(g1, r1, g2, r2), hpl2⟩ hT19 rfl ?_
       exact zhs (x:=(k, s, md)) (k + 1, s', md ++ [(x, false)]) (hs3.trans hs19) ⟨hlt, he, hsl', by dsimp only; rw [List.length_append]; show md.length + 1 ≤ k + 1; omega⟩ (by dsimp only; omega) ⟨rfl, rfl, zg7 rfl, rfl, rfl, rfl, trivial⟩
      ·rw [if_neg (by decide)] at he
       refine zh ?_; refine Z67 ?_; refine Z220 ?_; refine Z88 ?_; refine z7 (qu L _ rfl rfl rfl rfl rfl rfl rfl (by first | omega | decide) (by assumption)) rfl ?_; refine z7 (yh L (vs:=[_, _, _, _, _, _, _]) rfl rfl rfl rfl rfl ⟨_, rfl⟩) rfl ?_; refine Z210 ?_; refine Z166 ?_
       refine zk9 14 rfl fun b14 hb14 => ?_
       refine Z130 ?_; refine z8 (qd L (vs:=[_, _, _, _]) (ym rfl) rfl rfl rfl rfl ⟨_, rfl⟩) rfl ?_; refine Z12 ?_; refine z8 (qd L (vs:=[_, _, _, _, _, _]) (za0 rfl (List.Mem.head _)) rfl rfl rfl rfl ⟨_, rfl⟩) rfl ?_; refine z8 (zp L rfl rfl (zk rfl) rfl rfl rfl (fun u H hH hle _ => zc3 hin hH (hT.le hle))) rfl ?_; refine Z12 ?_; refine z8 (qh L (za0 rfl (List.Mem.head _)) rfl rfl rfl rfl) rfl ?_; refine Z111 ?_; refine Z270 ?_; refine Z77 ?_; refine z7 (qd L (vs:=[_, _, _, _]) (ym rfl) rfl rfl rfl rfl ⟨_, rfl⟩) rfl ?_; refine z7 (qd L (vs:=[_, _, _, _, _, _, _]) (za0 rfl (List.Mem.head _)) rfl rfl rfl rfl ⟨_, rfl⟩) rfl ?_; refine z7 (yr (φ:=WithP s' 0) L rfl rfl (zk rfl) rfl rfl rfl WithP.mono (fun u H hH hle _ => zng hw hsl hzt hH (hT.le hle))) rfl ?_; refine zbx 56 rfl ?_; rintro _ H19 hs19 ⟨tv, rfl, hT19⟩; obtain ⟨g1, r1, g2, r2, rfl, hpl2⟩:=hT19.shape; refine Z315 ?_; refine Z155 ?_; refine Z100 ?_; refine Z1 ?_; refine Z241 ?_; refine Z115 ?_; refine z7 (qd L (vs:=[_, _, _, _]) (ym rfl) rfl rfl rfl rfl ⟨_, rfl⟩) rfl ?_; refine Z63 ?_; refine Z166 ?_; refine Z304 ?_; refine Z228 ?_
       refine zr1 (O':=[]) (List.nil_sublist _) ?_
       refine Z101 ?_; refine Z322 ?_
       refine zr2 (X:=SXp) 3 (r:=fun x => zfo (scs x.1) znk) (φ:=zw1 s') (zdu _) ⟨(g1, r1, g2, r2), hpl2⟩ hT19 rfl ?_
       exact zhs (x:=(k, s, md)) (k + 1, s', md) (hs3.trans hs19) ⟨hlt, he, hsl', by dsimp only; omega⟩ (by dsimp only; omega) ⟨rfl, rfl, rfl, rfl, rfl, rfl, trivial⟩
      ·rw [if_neg (by decide)] at he
       refine zh ?_; refine Z67 ?_; refine Z220 ?_; refine Z88 ?_; refine z7 (qu L _ rfl rfl rfl rfl rfl rfl rfl (by first | omega | decide) (by assumption)) rfl ?_; refine z7 (yh L (vs:=[_, _, _, _, _, _, _]) rfl rfl rfl rfl rfl ⟨_, rfl⟩) rfl ?_; refine Z210 ?_; refine Z166 ?_
       refine zk9 14 rfl fun b14 hb14 => ?_
       refine Z130 ?_; refine z8 (qd L (vs:=[_, _, _, _]) (ym rfl) rfl rfl rfl rfl ⟨_, rfl⟩) rfl ?_; refine Z12 ?_; refine z8 (qd L (vs:=[_, _, _, _, _, _]) (za0 rfl (List.Mem.head _)) rfl rfl rfl rfl ⟨_, rfl⟩) rfl ?_; refine z8 (zp L rfl rfl (zk rfl) rfl rfl rfl (fun u H hH hle _ => zc3 hin hH (hT.le hle))) rfl ?_; refine Z12 ?_; refine z8 (qh L (za0 rfl (List.Mem.head _)) rfl rfl rfl rfl) rfl ?_; refine Z111 ?_; refine Z270 ?_; refine Z77 ?_; refine z7 (qd L (vs:=[_, _, _, _]) (ym rfl) rfl rfl rfl rfl ⟨_, rfl⟩) rfl ?_; refine z7 (qd L (vs:=[_, _, _, _, _, _, _]) (za0 rfl (List.Mem.head _)) rfl rfl rfl rfl ⟨_, rfl⟩) rfl ?_; refine z7 (yr (φ:=WithP s' 0) L rfl rfl (zk rfl) rfl rfl rfl WithP.mono (fun u H hH hle _ => zng hw hsl hzt hH (hT.le hle))) rfl ?_; refine zbx 56 rfl ?_; rintro _ H19 hs19 ⟨tv, rfl, hT19⟩; obtain ⟨g1, r1, g2, r2, rfl, hpl2⟩:=hT19.shape; refine Z315 ?_; refine Z155 ?_; refine Z100 ?_; refine Z1 ?_; refine Z241 ?_; refine Z115 ?_; refine z7 (qd L (vs:=[_, _, _, _]) (ym rfl) rfl rfl rfl rfl ⟨_, rfl⟩) rfl ?_; refine Z63 ?_; refine Z166 ?_; refine Z304 ?_; refine Z228 ?_
       refine zr1 (O':=[]) (List.nil_sublist _) ?_
       refine Z101 ?_; refine Z322 ?_
       refine zr2 (X:=SXp) 3 (r:=fun x => zfo (scs x.1) znk) (φ:=zw1 s') (zdu _) ⟨(g1, r1, g2, r2), hpl2⟩ hT19 rfl ?_
       exact zhs (x:=(k, s, md)) (k + 1, s', md) (hs3.trans hs19) ⟨hlt, he, hsl', by dsimp only; omega⟩ (by dsimp only; omega) ⟨rfl, rfl, rfl, rfl, rfl, rfl, trivial⟩
      ·rw [if_pos rfl] at he
       refine zh ?_; refine Z67 ?_; refine Z220 ?_; refine Z88 ?_; refine z7 (qu L _ rfl rfl rfl rfl rfl rfl rfl (by first | omega | decide) (by assumption)) rfl ?_; refine z7 (yh L (vs:=[_, _, _, _, _, _, _]) rfl rfl rfl rfl rfl ⟨_, rfl⟩) rfl ?_; refine Z210 ?_; refine Z166 ?_
       refine zk9 14 rfl fun b14 hb14 => ?_
       refine Z130 ?_; refine z8 (qd L (vs:=[_, _, _, _]) (ym rfl) rfl rfl rfl rfl ⟨_, rfl⟩) rfl ?_; refine Z12 ?_; refine z8 (qd L (vs:=[_, _, _, _, _, _]) (za0 rfl (List.Mem.head _)) rfl rfl rfl rfl ⟨_, rfl⟩) rfl ?_; refine z8 (zp L rfl rfl (zk rfl) rfl rfl rfl (fun u H hH hle _ => zc3 hin hH (hT.le hle))) rfl ?_; refine Z12 ?_; refine z8 (qh L (za0 rfl (List.Mem.head _)) rfl rfl rfl rfl) rfl ?_; refine Z111 ?_; refine Z270 ?_; refine Z77 ?_; refine z7 (qd L (vs:=[_, _, _, _]) (ym rfl) rfl rfl rfl rfl ⟨_, rfl⟩) rfl ?_; refine z7 (qd L (vs:=[_, _, _, _, _, _, _]) (za0 rfl (List.Mem.head _)) rfl rfl rfl rfl ⟨_, rfl⟩) rfl ?_; refine z7 (yr (φ:=WithP s' 0) L rfl rfl (zk rfl) rfl rfl rfl WithP.mono (fun u H hH hle _ => zng hw hsl hzt hH (hT.le hle))) rfl ?_; refine zbx 56 rfl ?_; rintro _ H19 hs19 ⟨tv, rfl, hT19⟩; obtain ⟨g1, r1, g2, r2, rfl, hpl2⟩:=hT19.shape; refine Z315 ?_; refine Z155 ?_; refine Z100 ?_; refine Z1 ?_; refine Z241 ?_; refine Z115 ?_; refine z7 (qd L (vs:=[_, _, _, _]) (ym rfl) rfl rfl rfl rfl ⟨_, rfl⟩) rfl ?_; refine Z63 ?_; refine Z166 ?_; refine Z304 ?_; refine Z152 ?_; refine Z127 ?_; refine qq (yo (.inl rfl) rfl rfl rfl rfl) ?_; refine z7 (qd L (vs:=[_, _, _, _, _, _, _]) (za0 rfl (List.Mem.head _)) rfl rfl rfl rfl ⟨_, rfl⟩) rfl ?_; refine Z39 ?_; refine Z112 ?_; refine qq (yo (.inr rfl) rfl rfl rfl rfl) ?_; refine Z248 ?_
       refine zr1 (O':=[]) (List.nil_sublist _) ?_
       refine Z101 ?_; refine Z322 ?_
       refine zr2 (X:=SXp) 3 (r:=fun x => zfo (scs x.1) znk) (φ:=zw1 s') (zdu _) ⟨(g1, r1, g2, r2), hpl2⟩ hT19 rfl ?_
       exact zhs (x:=(k, s, md)) (k + 1, s', md ++ [(x, true)]) (hs3.trans hs19) ⟨hlt, he, hsl', by dsimp only; rw [List.length_append]; show md.length + 1 ≤ k + 1; omega⟩ (by dsimp only; omega) ⟨rfl, rfl, zg7 rfl, rfl, rfl, rfl, trivial⟩
     ·rw [if_neg h0] at he
      cases he
      refine zh ?_; refine Z67 ?_; refine Z220 ?_; refine Z88 ?_; refine z7 (qu L _ rfl rfl rfl rfl rfl rfl rfl (by first | omega | decide) (by assumption)) rfl ?_; refine z7 (yh L (vs:=[_, _, _, _, _, _, _]) rfl rfl rfl rfl rfl ⟨_, rfl⟩) rfl ?_; refine Z210 ?_; refine Z166 ?_
      refine zk9 14 rfl fun b14 hb14 => ?_
      refine Z130 ?_; refine z8 (qd L (vs:=[_, _, _, _]) (ym rfl) rfl rfl rfl rfl ⟨_, rfl⟩) rfl ?_; refine Z12 ?_; refine z8 (qd L (vs:=[_, _, _, _, _, _]) (za0 rfl (List.Mem.head _)) rfl rfl rfl rfl ⟨_, rfl⟩) rfl ?_; refine z8 (zp L rfl rfl (zk rfl) rfl rfl rfl (fun u H hH hle _ => zc3 hin hH (hT.le hle))) rfl ?_; refine Z12 ?_; refine z8 (qh L (za0 rfl (List.Mem.head _)) rfl rfl rfl rfl) rfl ?_; refine Z111 ?_; refine Z270 ?_; refine Z77 ?_; refine z7 (qd L (vs:=[_, _, _, _]) (ym rfl) rfl rfl rfl rfl ⟨_, rfl⟩) rfl ?_; refine z7 (qd L (vs:=[_, _, _, _, _, _, _]) (za0 rfl (List.Mem.head _)) rfl rfl rfl rfl ⟨_, rfl⟩) rfl ?_; refine z7 (yr (φ:=WithP s' e) L rfl rfl (zk rfl) rfl rfl rfl WithP.mono (fun u H hH hle _ => zng hw hsl hzt hH (hT.le hle))) rfl ?_; refine zbx 56 rfl ?_; rintro _ H19 hs19 ⟨tv, rfl, hT19⟩; obtain ⟨g1, r1, g2, r2, rfl, hpl2⟩:=hT19.shape; refine Z315 ?_; refine Z155 ?_; refine Z100 ?_; refine Z1 ?_; refine Z221 ?_; refine Z105 ?_; refine z7 (yx (cs:=[_, _, _, _]) rfl rfl zus rfl rfl) rfl ?_; refine Z1 ?_; refine Z21 ?_; refine Z195 ?_
      refine yd L (rs:=[.cell 6 45, .tmp 7, .tmp 8]) rfl (fun _ _ h => h) (hs3.trans hs19) fun u H hH hle => ?_
      exact ⟨_, ym rfl, rfl, _, _, rfl, SetV.nil, SlV.nil⟩
    ·obtain rfl:k = cs.length:=by omega
     rw [List.drop_length, zft] at he
     cases he
     refine zh ?_; refine Z67 ?_; refine Z296 ?_
     refine zcr 7 rfl ?_
     refine qf (id:=21) [] mixed (by kernel_rfl) ?_; refine z8 (qd L (vs:=[_, _, _, _]) (ym rfl) rfl rfl rfl rfl ⟨_, rfl⟩) rfl ?_; refine Z37 ?_; refine z8 (yr (φ:=KS tyC made true) L rfl rfl (zk rfl) rfl rfl rfl SlV.mono (fun u H hH _ _ v1 g1 => zwi hH g1)) rfl ?_; refine z8 (yb L rfl rfl rfl rfl rfl rfl (by assumption) rfl) rfl ?_; refine Z94 ?_; refine Z185 ?_
     refine yd L (rs:=[.cell 6 45, .tmp 7, .tmp 8]) rfl (fun _ _ h => h) hs3 fun u H hH hle => ?_
     exact ⟨_, ym rfl, rfl, fun mv hmv => ⟨_, mv, rfl, hT.le hle, hmv⟩⟩
   ·rw [if_neg h3] at hr
    cases hr
    refine Z357 ?_; refine Z260 ?_; refine Z163 ?_; refine Z5 ?_; refine z7 (zp L rfl rfl (zk rfl) rfl rfl rfl (fun u H hH _ _ v1 g1 => zgm zl ll h1 hH g1)) rfl ?_; refine Z259 ?_; refine Z245 ?_; refine Z31 ?_; refine Z5 ?_; refine z7 (zp L rfl rfl (zk rfl) rfl rfl rfl (fun u H hH _ _ v1 g1 => zm8 zc lc h2 hH g1)) rfl ?_; refine Z151 ?_; refine Z188 ?_; refine Z245 ?_; refine Z44 ?_; refine z7 (qd L (vs:=[_, _, _, _]) (ym rfl) rfl rfl rfl rfl ⟨_, rfl⟩) rfl ?_; refine Z5 ?_; refine z7 (zp L rfl rfl (zk rfl) rfl rfl rfl (fun u H hH hle _ v1 g1 => first_ret zl ll hf hH (hs.le hle) g1)) rfl ?_; refine Z250 ?_; refine Z233 ?_; refine Z221 ?_; refine Z60 ?_; refine z7 (yx (cs:=[_, _, _, _]) rfl rfl zus rfl rfl) rfl ?_; refine Z1 ?_; refine Z21 ?_; refine Z195 ?_
    refine yd L (rs:=[.cell 6 45, .tmp 7, .tmp 8]) rfl (fun _ _ h => h) Since.refl fun u H hH hle => ?_
    exact ⟨_, ym rfl, rfl, _, _, rfl, SetV.nil, SlV.nil⟩
  ·rw [if_neg h2] at hr
   cases hr
   refine Z357 ?_; refine Z260 ?_; refine Z163 ?_; refine Z5 ?_; refine z7 (zp L rfl rfl (zk rfl) rfl rfl rfl (fun u H hH _ _ v1 g1 => zgm zl ll h1 hH g1)) rfl ?_; refine Z259 ?_; refine Z245 ?_; refine Z31 ?_; refine Z5 ?_; refine z7 (zp L rfl rfl (zk rfl) rfl rfl rfl (fun u H hH _ _ v1 g1 => zm8 zc lc rfl hH g1)) rfl ?_; refine Z151 ?_; refine Z188 ?_; refine Z221 ?_; refine Z43 ?_; refine z7 (yx (cs:=[_, _, _, _]) rfl rfl zus rfl rfl) rfl ?_; refine Z1 ?_; refine Z21 ?_; refine Z195 ?_
   refine yd L (rs:=[.cell 6 45, .tmp 7, .tmp 8]) rfl (fun _ _ h => h) Since.refl fun u H hH hle => ?_
   exact ⟨_, ym rfl, rfl, _, _, rfl, SetV.nil, SlV.nil⟩
 ·rw [if_neg h1] at hr
  cases hr
  refine Z357 ?_; refine Z260 ?_; refine Z163 ?_; refine Z5 ?_; refine z7 (zp L rfl rfl (zk rfl) rfl rfl rfl (fun u H hH _ _ v1 g1 => zgm zl ll rfl hH g1)) rfl ?_; refine Z259 ?_; refine Z221 ?_; refine Z29 ?_; refine z7 (yx (cs:=[_, _, _, _]) rfl rfl zus rfl rfl) rfl ?_; refine Z1 ?_; refine Z21 ?_; refine Z195 ?_
  refine yd L (rs:=[.cell 6 45, .tmp 7, .tmp 8]) rfl (fun _ _ h => h) Since.refl fun u H hH hle => ?_
  exact ⟨_, ym rfl, rfl, _, _, rfl, SetV.nil, SlV.nil⟩
end Go.V.L8
set_option maxRecDepth 20000
namespace Go.V.L8
open Go.Proofs Go.RowKit Go.V Go.V.L2 Go.V.L3 Go.V.L6
theorem zv5 (s:List U) (x:U):(1 - (if x ∈ s then 1 else 0:Int)) = if zfl s (x, true) = true then 1 else 0:=by
 unfold zfl
 by_cases h:x ∈ s <;> simp [h]
theorem zs4 (s:List U) (x:U):(if x ∈ s then 1 else 0:Int) = if zfl s (x, false) = true then 1 else 0:=by
 unfold zfl
 by_cases h:x ∈ s <;> simp [h]
attribute [local irreducible] V N X VO Par StepOK Has Ret RetL RetO RetT Src
theorem zff {l:List CH} {fu:Bool} (hz:∀ c ∈ l, TM c.1) (hl:l.length ≤ 9223372036854775807) {e:Int} (he:cE 32 l = e) {v:Value} {w:World} {B:Heap} (hB:B.Le (hp w)) (hv:KS tyM l fu v B) :
  Ret Tryz.prog 124 [v] w B (fun r _ => r = .int .i64 e):=by
 subst he
 refine yg Tryz.func124 rfl Tryz.ntmps124 (Nat.le_of_ble_eq_true rfl) hB ?_
 refine zaz 0 (KS tyM l fu) rfl SlV.mono hv ?_
 by_cases h32:32 < l.length
 ·have:cE 32 l = 3:=if_pos h32
  rw [this]
  refine Z297 ?_; refine Z41 ?_; refine Z348 ?_
  refine yd L (rs:=[.tmp 2]) rfl (fun _ _ h => h) Since.refl fun u H hH hle => ?_
  rfl
 ·refine Z297 ?_; refine Z35 ?_; refine Z177 ?_; refine Z29 ?_; refine Z208 ?_
  refine zal (fun i:Nat => [(0, .sat (KS tyM l fu)), (3, .is (.int .i64 i))]) (fun i => i ≤ l.length ∧ ∀ (j:Nat) c, j < i → l[j]? = some c → tE c.1 = 0) (fun i => l.length - i) 0 ⟨Nat.zero_le _, fun j c h => absurd h (Nat.not_lt_zero _)⟩ ⟨rfl, rfl, trivial⟩ ?_
  rintro i ⟨hi, hok⟩
  by_cases hlt:i < l.length
  ·obtain ⟨c, hc0⟩:=zaf hlt
   have hc:=zi1 hc0
   have hzc:=hz c (List.mem_of_getElem? hc0)
   by_cases h0:tE c.1 = 0
   ·refine Z288 ?_; refine Z43 ?_; refine Z202 ?_; refine z7 (qu L _ rfl rfl rfl rfl rfl rfl rfl (by first | omega | decide) (by assumption)) rfl ?_; refine Z82 ?_; refine z7 (yh L (vs:=[_, _, _, _, _, _]) rfl rfl rfl rfl rfl ⟨_, rfl⟩) rfl ?_; refine z7 (zp L rfl rfl (zk rfl) rfl rfl rfl (fun u H hH _ _ => h0 ▸ zi8 hzc hH)) rfl ?_; refine Z24 ?_; refine Z228 ?_; refine Z333 ?_
    exact yj (x:=i) (i + 1) ⟨hlt, fun j c' hj hc' => by
     rcases Nat.lt_or_ge j i with h | h
     ·exact hok j c' h hc'
     ·have:j = i:=by omega
      subst this; rw [hc0] at hc'; cases hc'; exact h0⟩ (by omega) ⟨rfl, rfl, trivial⟩
   ·have h6:=(zqm c.1).resolve_left h0
    rw [z1u h32 hc0 h0]
    refine Z288 ?_; refine Z43 ?_; refine Z202 ?_; refine z7 (qu L _ rfl rfl rfl rfl rfl rfl rfl (by first | omega | decide) (by assumption)) rfl ?_; refine Z82 ?_; refine z7 (yh L (vs:=[_, _, _, _, _, _]) rfl rfl rfl rfl rfl ⟨_, rfl⟩) rfl ?_; refine z7 (zp L rfl rfl (zk rfl) rfl rfl rfl (fun u H hH _ _ => h6 ▸ zi8 hzc hH)) rfl ?_; refine Z221 ?_; refine Z346 ?_
    refine yd L (rs:=[.tmp 2]) rfl (fun _ _ h => h) Since.refl fun u H hH hle => ?_
    rfl
  ·rw [zwo h32 (fun j c hj => hok j c (by have:=get_lt hj; omega) hj)]
   refine Z226 ?_; refine Z299 ?_; refine Z382 ?_
   refine yd L (rs:=[.tmp 2]) rfl (fun _ _ h => h) Since.refl fun u H hH hle => ?_
   rfl
theorem zmi {l:List CH} {fu:Bool} (hz:∀ c ∈ l, TM c.1) (hl:l.length ≤ 9223372036854775807) {e:Int} (he:cE 32 l = e) {v:Value} {w:World} {B:Heap} (hB:B.Le (hp w)) (hv:KS tyC l fu v B) :
  Ret Tryz.prog 125 [v] w B (fun r _ => r = .int .i64 e):=by
 subst he
 refine yg Tryz.func125 rfl Tryz.ntmps125 (Nat.le_of_ble_eq_true rfl) hB ?_
 refine zaz 0 (KS tyC l fu) rfl SlV.mono hv ?_
 by_cases h32:32 < l.length
 ·have:cE 32 l = 3:=if_pos h32
  rw [this]
  refine Z297 ?_; refine Z41 ?_; refine Z348 ?_
  refine yd L (rs:=[.tmp 2]) rfl (fun _ _ h => h) Since.refl fun u H hH hle => ?_
  rfl
 ·refine Z297 ?_; refine Z35 ?_; refine Z177 ?_; refine Z29 ?_; refine Z208 ?_
  refine zal (fun i:Nat => [(0, .sat (KS tyC l fu)), (3, .is (.int .i64 i))]) (fun i => i ≤ l.length ∧ ∀ (j:Nat) c, j < i → l[j]? = some c → tE c.1 = 0) (fun i => l.length - i) 0 ⟨Nat.zero_le _, fun j c h => absurd h (Nat.not_lt_zero _)⟩ ⟨rfl, rfl, trivial⟩ ?_
  rintro i ⟨hi, hok⟩
  by_cases hlt:i < l.length
  ·obtain ⟨c, hc0⟩:=zaf hlt
   have hc:=zi1 hc0
   have hzc:=hz c (List.mem_of_getElem? hc0)
   by_cases h0:tE c.1 = 0
   ·refine Z288 ?_; refine Z43 ?_; refine Z202 ?_; refine z7 (qu L _ rfl rfl rfl rfl rfl rfl rfl (by first | omega | decide) (by assumption)) rfl ?_; refine Z82 ?_; refine z7 (yh L (vs:=[_, _, _, _, _, _]) rfl rfl rfl rfl rfl ⟨_, rfl⟩) rfl ?_; refine z7 (zp L rfl rfl (zk rfl) rfl rfl rfl (fun u H hH _ _ => h0 ▸ zi8 hzc hH)) rfl ?_; refine Z24 ?_; refine Z228 ?_; refine Z333 ?_
    exact yj (x:=i) (i + 1) ⟨hlt, fun j c' hj hc' => by
     rcases Nat.lt_or_ge j i with h | h
     ·exact hok j c' h hc'
     ·have:j = i:=by omega
      subst this; rw [hc0] at hc'; cases hc'; exact h0⟩ (by omega) ⟨rfl, rfl, trivial⟩
   ·have h6:=(zqm c.1).resolve_left h0
    rw [z1u h32 hc0 h0]
    refine Z288 ?_; refine Z43 ?_; refine Z202 ?_; refine z7 (qu L _ rfl rfl rfl rfl rfl rfl rfl (by first | omega | decide) (by assumption)) rfl ?_; refine Z82 ?_; refine z7 (yh L (vs:=[_, _, _, _, _, _]) rfl rfl rfl rfl rfl ⟨_, rfl⟩) rfl ?_; refine z7 (zp L rfl rfl (zk rfl) rfl rfl rfl (fun u H hH _ _ => h6 ▸ zi8 hzc hH)) rfl ?_; refine Z221 ?_; refine Z346 ?_
    refine yd L (rs:=[.tmp 2]) rfl (fun _ _ h => h) Since.refl fun u H hH hle => ?_
    rfl
  ·rw [zwo h32 (fun j c hj => hok j c (by have:=get_lt hj; omega) hj)]
   refine Z226 ?_; refine Z299 ?_; refine Z382 ?_
   refine yd L (rs:=[.tmp 2]) rfl (fun _ _ h => h) Since.refl fun u H hH hle => ?_
   rfl
theorem zlk {s:List U} {c:CH} {fs:Bool} (ls:s.length ≤ 90000) {b:Int} (hb:(if zfl s c = true then 1 else 0) = b) {v:Value} {w:World} {B:Heap} (hB:B.Le (hp w)) (hv:US s fs v B) :
  Ret Tryz.prog 158 [v, chv c.1 c.2] w B (fun r _ => r = .int .i64 b):=by
 subst hb
 obtain ⟨x, d⟩:=c
 refine yg Tryz.func158 rfl Tryz.ntmps158 (Nat.le_of_ble_eq_true rfl) hB ?_
 refine zaz 0 (US s fs) rfl SlV.mono hv ?_
 obtain ⟨m, hm⟩:∃ m:Int, (if x ∈ s then 1 else 0:Int) = m:=⟨_, rfl⟩
 have hm2:m = 0 ∨ m = 1:=by rw [← hm]; split <;> simp
 cases d
 ·rw [← zs4, hm]
  refine Z349 ?_; refine Z191 ?_; refine Z169 ?_; refine Z29 ?_; refine Z5 ?_; refine Z19 ?_; refine z7 (qd L (vs:=[_, _, _, _, _, _]) (qp rfl) rfl rfl rfl rfl ⟨_, rfl⟩) rfl ?_; refine z7 (zp L rfl rfl (zk rfl) rfl rfl rfl (fun u H hH _ _ v1 h1 => zbo (by omega) hm hH h1)) rfl ?_; refine Z146 ?_
  refine yd L (rs:=[.tmp 4]) rfl (fun _ _ h => h) Since.refl fun u H hH hle => ?_
  rfl
 ·rw [← zv5, hm]
  refine Z349 ?_; refine Z191 ?_; refine Z237 ?_; refine Z5 ?_; refine Z19 ?_; refine z7 (qd L (vs:=[_, _, _, _, _, _]) (qp rfl) rfl rfl rfl rfl ⟨_, rfl⟩) rfl ?_; refine z7 (zp L rfl rfl (zk rfl) rfl rfl rfl (fun u H hH _ _ v1 h1 => zbo (by omega) hm hH h1)) rfl ?_; refine Z73 ?_; refine Z146 ?_
  refine yd L (rs:=[.tmp 4]) rfl (fun _ _ h => h) Since.refl fun u H hH hle => ?_
  rfl
set_option maxHeartbeats 1000000 in
theorem zj3 {s:List U} {l:List CH} {fs fu:Bool} (ls:s.length ≤ 90000) (hz:∀ c ∈ l, TM c.1) (hl:l.length ≤ 9223372036854775807) {r:Nat} {e:Int} (hr:zfa s l = (r, e)) {sv v:Value} {w:World} {B:Heap} (hB:B.Le (hp w)) (hs:US s fs sv B) (hv:KS tyM l fu v B) :
  Ret Tryz.prog 126 [sv, v] w B (fun x _ => x = .tuple #[.int .i64 r, .int .i64 e]):=by
 refine yg Tryz.func126 rfl Tryz.ntmps126 (Nat.le_of_ble_eq_true rfl) hB ?_
 refine zaz 0 (US s fs) rfl SlV.mono hs ?_
 refine zaz 1 (KS tyM l fu) rfl SlV.mono hv ?_
 by_cases h0:cE 32 l = 0
 ·refine Z274 ?_; refine Z163 ?_; refine Z5 ?_; refine z7 (zp L rfl rfl (zk rfl) rfl rfl rfl (fun u H hH _ _ v1 h1 => zff hz hl h0 hH h1)) rfl ?_; refine Z245 ?_; refine Z29 ?_; refine Z208 ?_
  refine zal (fun i:Nat => [(0, .sat (US s fs)), (1, .sat (KS tyM l fu)), (6, .is (.int .i64 i))]) (fun i => i ≤ l.length ∧ ∀ (j:Nat) x, j < i → l[j]? = some x → zfl s x = true) (fun i => l.length - i) 0 ⟨Nat.zero_le _, fun j c h => absurd h (Nat.not_lt_zero _)⟩ ⟨rfl, rfl, rfl, trivial⟩ ?_
  rintro i ⟨hi, hok⟩
  by_cases hlt:i < l.length
  ·obtain ⟨c, hc0⟩:=zaf hlt
   have hc:=zi1 hc0
   cases hh:zfl s c
   ·rw [zov h0 hok hc0 hh] at hr
    cases hr
    refine Z288 ?_; refine Z43 ?_; refine Z409 ?_; refine z7 (qu L _ rfl rfl rfl rfl rfl rfl rfl (by first | omega | decide) (by assumption)) rfl ?_; refine z7 (yh L (vs:=[_, _, _, _, _, _, _]) rfl rfl rfl rfl rfl ⟨_, rfl⟩) rfl ?_; refine z7 (zp L rfl rfl (zk rfl) rfl rfl rfl (fun u H hH hle _ v1 h1 => zlk (c:=c) (b:=0) ls (by rw [hh]; rfl) hH h1)) rfl ?_; refine Z310 ?_; refine Z204 ?_; refine Z195 ?_
    refine yd L (rs:=[.tmp 4, .tmp 5]) rfl (fun _ _ h => h) Since.refl fun u H hH hle => ?_
    rfl
   ·refine Z288 ?_; refine Z43 ?_; refine Z409 ?_; refine z7 (qu L _ rfl rfl rfl rfl rfl rfl rfl (by first | omega | decide) (by assumption)) rfl ?_; refine z7 (yh L (vs:=[_, _, _, _, _, _, _]) rfl rfl rfl rfl rfl ⟨_, rfl⟩) rfl ?_; refine z7 (zp L rfl rfl (zk rfl) rfl rfl rfl (fun u H hH hle _ v1 h1 => zlk (c:=c) (b:=1) ls (by rw [hh]; rfl) hH h1)) rfl ?_; refine Z14 ?_; refine Z228 ?_; refine Z333 ?_
    exact yj (x:=i) (i + 1) ⟨hlt, fun j c' hj hc' => by
     rcases Nat.lt_or_ge j i with h | h
     ·exact hok j c' h hc'
     ·have:j = i:=by omega
      subst this; rw [hc0] at hc'; cases hc'; exact hh⟩ (by omega) ⟨rfl, rfl, rfl, trivial⟩
  ·rw [zly h0 (fun j x hj => hok j x (by have:=get_lt hj; omega) hj)] at hr
   cases hr
   refine Z226 ?_; refine Z299 ?_; refine Z58 ?_; refine Z158 ?_; refine Z195 ?_
   refine yd L (rs:=[.tmp 4, .tmp 5]) rfl (fun _ _ h => h) Since.refl fun u H hH hle => ?_
   rfl
 ·have:zfa s l = (0, cE 32 l):=if_neg h0
  rw [this] at hr
  cases hr
  refine Z274 ?_; refine Z163 ?_; refine Z5 ?_; refine z7 (zp L rfl rfl (zk rfl) rfl rfl rfl (fun u H hH _ _ v1 h1 => zff hz hl rfl hH h1)) rfl ?_; refine Z221 ?_; refine Z32 ?_; refine Z5 ?_; refine z7 (zp L rfl rfl (zk rfl) rfl rfl rfl (fun u H hH _ _ v1 h1 => zff hz hl rfl hH h1)) rfl ?_; refine Z195 ?_
  refine yd L (rs:=[.tmp 4, .tmp 5]) rfl (fun _ _ h => h) Since.refl fun u H hH hle => ?_
  rfl
end Go.V.L8
set_option maxRecDepth 20000
namespace Go.V.L8
open Go.Proofs Go.RowKit Go.V Go.V.L2 Go.V.L3 Go.V.L6
attribute [local irreducible] V N X VO Par StepOK Has Ret RetL RetO RetT Src
end Go.V.L8
set_option maxRecDepth 20000
namespace Go.V.L8
open Go.Proofs Go.RowKit Go.V Go.V.L2 Go.V.L3 Go.V.L6
theorem _root_.Go.V.Z280 {A B:Prop} (h:B) (t:Wr B → A:=by intro h; refine Z77 ?_; refine Z1 ?_; exact h.h):A:=t ⟨h⟩
theorem _root_.Go.V.Z366 {A B:Prop} (h:B) (t:Wr B → A:=by intro h; refine Z155 ?_; refine Z198 ?_; exact h.h):A:=t ⟨h⟩
theorem _root_.Go.V.Z391 {A B:Prop} (h:B) (t:Wr B → A:=by intro h; refine Z5 ?_; refine Z5 ?_; exact h.h):A:=t ⟨h⟩
def RWriteP (t:List U) (made:List CH) (e:Int) (r:Value) (H:Heap):Prop:=∃ tv mv, r = .tuple #[tv, mv, .int .i64 e] ∧ US t false tv H ∧ KS tyC made false mv H
theorem RWriteP.mono {t:List U} {made:List CH} {e:Int}:Kn.mono (.sat (RWriteP t made e)):=fun _ _ _ ⟨tv, mv, h1, h2, h3⟩ hle => ⟨tv, mv, h1, h2.le hle, h3.le hle⟩
attribute [local irreducible] V N X VO Par StepOK Has Ret RetL RetO RetT Src
set_option maxHeartbeats 4000000 in
set_option maxRecDepth 10000 in
theorem zph {s t:List U} {l cs made:List CH} {fs fl fc:Bool} {e:Int} (zl:∀ c ∈ l, TM c.1) (zc:∀ c ∈ cs, TM c.1) (ll:l.length ≤ 9223372036854775807) (lc:cs.length ≤ 9223372036854775807) (hsl:s.length ≤ 4096) (hss:Sst zbh s) (hsz:∀ t ∈ s, TZ t) (hr:zel s l cs = (t, made, e)) {sv lv cv:Value} {w:World} {B:Heap} (hB:B.Le (hp w))
  (hs:US s fs sv B) (hl:KS tyM l fl lv B) (hc:KS tyC cs fc cv B):Ret Tryz.prog 84 [sv, lv, cv] w B (RWriteP t made e):=by
 refine yg Tryz.func84 rfl Tryz.ntmps84 (Nat.le_of_ble_eq_true rfl) hB ?_
 refine zaz 0 (US s false) rfl SlV.mono hs.nofu ?_
 refine zaz 1 (KS tyM l fl) rfl SlV.mono hl ?_
 refine zaz 2 (KS tyC cs fc) rfl SlV.mono hc ?_
 unfold zel at hr
 by_cases h1:cE 32 l = 0
 ·rw [if_pos h1] at hr
  by_cases h2:cE 32 cs = 0
  ·rw [if_pos h2] at hr
   obtain ⟨r, e1, hf⟩:∃ r e1, zfa s l = (r, e1):=⟨_, _, rfl⟩
   rw [hf] at hr
   dsimp only at hr
   by_cases h3:e1 = 0
   ·subst h3
    rw [if_pos rfl] at hr
    obtain ⟨l32, hval⟩:=zz5 h2
    refine Z274 ?_; refine Z2 ?_; refine Z168 ?_; refine Z5 ?_; refine z7 (zp L rfl rfl (zk rfl) rfl rfl rfl (fun u H hH _ _ v1 g1 => zff zl ll h1 hH g1)) rfl ?_; refine Z155 ?_; refine Z182 ?_; refine Z294 ?_; refine Z29 ?_; refine Z5 ?_; refine z7 (zp L rfl rfl (zk rfl) rfl rfl rfl (fun u H hH _ _ v1 g1 => zmi zc lc h2 hH g1)) rfl ?_; refine Z155 ?_; refine Z173 ?_; refine Z294 ?_; refine Z38 ?_; refine Z391 ?_; refine z7 (zp L rfl rfl (zk rfl) rfl rfl rfl (fun u H hH _ _ v1 g1 v2 g2 => zj3 (by omega) zl ll hf hH g1 g2)) rfl ?_; refine Z183 ?_; refine Z366 ?_; refine Z241 ?_; refine Z58 ?_; refine Z155 ?_; refine Z60 ?_; refine Z208 ?_
    refine zek 10 tyC 7 rfl ?_
    refine zal (fun y:Nat × List U × List CH => [(0, .sat (US y.2.1 false)), (2, .sat (KS tyC cs fc)), (10, .own (SlR tyC 7 y.2.2.length (y.2.2.flatMap ccs))), (11, .is (.int .i64 y.1))])
     (fun y => y.1 ≤ cs.length ∧ zft y.2.1 y.2.2 (cs.drop y.1) = (t, made, e) ∧ y.2.1.length ≤ 4096 ∧ y.2.2.length ≤ y.1 ∧ Sst zbh y.2.1 ∧ ∀ t ∈ y.2.1, TZ t) (fun y => cs.length - y.1) (0, s, []) ⟨Nat.zero_le _, hr, hsl, Nat.le_refl _, hss, hsz⟩ ⟨rfl, rfl, rfl, rfl, trivial⟩ ?_
    clear hr hs hsl hss hsz
    rintro ⟨k, s, md⟩ ⟨hk, he, hsl, hmd, hss, hsz⟩
    dsimp only at hk he hsl hmd hss hsz ⊢
    by_cases hlt:k < cs.length
    ·obtain ⟨c, hc0⟩:=zaf hlt
     have hc:=zi1 hc0
     have hv:=hval c (List.mem_of_getElem? hc0)
     have hzt:=zqk hv
     rw [zfr hc0, zft] at he
     obtain ⟨x, d⟩:=c
     dsimp only at hc hv hzt he
     have hdf:=zr4 (l:=s) x d
     have hss':=znh hss x d
     have hsl':=zni hsl x d
     have hsz':∀ z ∈ (zcy s x d).1, TZ z:=fun z hz => by
      rcases zji hz with h | h
      ·exact hsz z h
      ·exact h ▸ hzt
     rcases hw:zcy s x d with ⟨s', e'⟩
     rw [hw] at he hdf hss' hsl' hsz'
     dsimp only at he hdf hss' hsl' hsz'
     have hmo:Kn.mono (.sat (US s' false)):=SlV.mono
     by_cases h0:e' = 0
     ·subst h0
      rw [if_pos rfl] at he
      have hdf:=hdf rfl
      by_cases hsame:s' = s
      ·rw [if_neg (hdf.1 hsame)] at he
       refine Z147 ?_; refine Z292 ?_; refine Z222 ?_; refine Z88 ?_; refine Z409 ?_; refine z7 (qu L _ rfl rfl rfl rfl rfl rfl rfl (by first | omega | decide) (by assumption)) rfl ?_; refine z7 (yh L (vs:=[_, _, _, _, _, _, _]) rfl rfl rfl rfl rfl ⟨_, rfl⟩) rfl ?_; refine z7 (yr (φ:=R6 s' 0) L rfl rfl (zk rfl) rfl rfl rfl (LE2.mono SlV.mono) (fun u H hH _ _ v1 g1 => zjy hw hss (by omega) hzt hsz hH g1)) rfl ?_; refine Z359 ?_; refine Z155 ?_; refine Z324 ?_; refine Z245 ?_; refine Z100 ?_; refine Z391 ?_; refine z7 (zp L rfl rfl (zk rfl) rfl rfl rfl (fun u H hH _ _ v1 g1 v2 g2 => zd8 (e:=1) (by omega) (by omega) (by rw [if_pos hsame]) hH g1 g2)) rfl ?_; refine Z14 ?_; refine Z149 ?_; refine Z150 ?_; refine Z410 ?_; refine Z54 ?_; refine Z248 ?_; refine Z293 ?_; refine Z206 ?_
       exact yj (x:=(k, s, md)) (k + 1, s', md) ⟨hlt, he, hsl', by dsimp only; omega, hss', hsz'⟩ (by dsimp only; omega) ⟨rfl, rfl, rfl, rfl, trivial⟩
      ·have hdd:decide (x ∈ s) = d:=by
        by_cases h:decide (x ∈ s) = d
        ·exact h
        ·exact absurd (hdf.2 h) hsame
       rw [if_pos hdd] at he
       refine Z147 ?_; refine Z292 ?_; refine Z222 ?_; refine Z88 ?_; refine Z409 ?_; refine z7 (qu L _ rfl rfl rfl rfl rfl rfl rfl (by first | omega | decide) (by assumption)) rfl ?_; refine z7 (yh L (vs:=[_, _, _, _, _, _, _]) rfl rfl rfl rfl rfl ⟨_, rfl⟩) rfl ?_; refine z7 (yr (φ:=R6 s' 0) L rfl rfl (zk rfl) rfl rfl rfl (LE2.mono SlV.mono) (fun u H hH _ _ v1 g1 => zjy hw hss (by omega) hzt hsz hH g1)) rfl ?_; refine Z359 ?_; refine Z155 ?_; refine Z324 ?_; refine Z245 ?_; refine Z100 ?_; refine Z391 ?_; refine z7 (zp L rfl rfl (zk rfl) rfl rfl rfl (fun u H hH _ _ v1 g1 v2 g2 => zd8 (e:=0) (by omega) (by omega) (by rw [if_neg hsame]) hH g1 g2)) rfl ?_; refine Z294 ?_; refine Z105 ?_; refine qq (yo (.inl rfl) rfl rfl rfl rfl) ?_; refine Z202 ?_; refine z7 (qu L _ rfl rfl rfl rfl rfl rfl rfl (by first | omega | decide) (by assumption)) rfl ?_; refine z7 (yh L (vs:=[_, _, _, _, _, _, _]) rfl rfl rfl rfl rfl ⟨_, rfl⟩) rfl ?_; refine Z39 ?_; refine Z112 ?_; refine qq (yo (.inr rfl) rfl rfl rfl rfl) ?_; refine Z145 ?_; refine Z410 ?_; refine Z54 ?_; refine Z248 ?_; refine Z293 ?_; refine Z206 ?_
       exact yj (x:=(k, s, md)) (k + 1, s', md ++ [(x, d)]) ⟨hlt, he, hsl', by dsimp only; rw [List.length_append]; show md.length + 1 ≤ k + 1; omega, hss', hsz'⟩ (by dsimp only; omega) ⟨rfl, rfl, zg7 rfl, rfl, trivial⟩
     ·rw [if_neg h0] at he
      cases he
      refine Z147 ?_; refine Z292 ?_; refine Z222 ?_; refine Z88 ?_; refine Z409 ?_; refine z7 (qu L _ rfl rfl rfl rfl rfl rfl rfl (by first | omega | decide) (by assumption)) rfl ?_; refine z7 (yh L (vs:=[_, _, _, _, _, _, _]) rfl rfl rfl rfl rfl ⟨_, rfl⟩) rfl ?_; refine z7 (yr (φ:=R6 s' e) L rfl rfl (zk rfl) rfl rfl rfl (LE2.mono SlV.mono) (fun u H hH _ _ v1 g1 => zjy hw hss (by omega) hzt hsz hH g1)) rfl ?_; refine Z359 ?_; refine Z155 ?_; refine Z324 ?_; refine Z221 ?_; refine Z280 ?_; refine Z2 ?_; refine Z195 ?_
      refine yd L (rs:=[.tmp 6, .tmp 7, .tmp 8]) rfl (fun _ _ h => h) Since.refl fun u H hH hle => ?_
      exact ⟨_, _, rfl, SlV.nil, SlV.nil⟩
    ·obtain rfl:k = cs.length:=by omega
     rw [List.drop_length, zft] at he
     cases he
     refine Z147 ?_; refine Z292 ?_; refine Z299 ?_
     refine zcr 10 rfl ?_
     refine Z106 ?_; refine Z391 ?_; refine Z54 ?_; refine Z54 ?_; refine Z146 ?_
     refine yd L (rs:=[.tmp 6, .tmp 7, .tmp 8]) rfl (fun _ _ h => h) Since.refl fun u H hH hle => ?_
     exact fun tv htv mv hmv => ⟨tv, mv, rfl, htv, hmv⟩
   ·rw [if_neg h3] at hr
    cases hr
    refine Z274 ?_; refine Z2 ?_; refine Z168 ?_; refine Z5 ?_; refine z7 (zp L rfl rfl (zk rfl) rfl rfl rfl (fun u H hH _ _ v1 g1 => zff zl ll h1 hH g1)) rfl ?_; refine Z155 ?_; refine Z182 ?_; refine Z294 ?_; refine Z29 ?_; refine Z5 ?_; refine z7 (zp L rfl rfl (zk rfl) rfl rfl rfl (fun u H hH _ _ v1 g1 => zmi zc lc h2 hH g1)) rfl ?_; refine Z155 ?_; refine Z173 ?_; refine Z294 ?_; refine Z38 ?_; refine Z391 ?_; refine z7 (zp L rfl rfl (zk rfl) rfl rfl rfl (fun u H hH _ _ v1 g1 v2 g2 => zj3 (by omega) zl ll hf hH g1 g2)) rfl ?_; refine Z183 ?_; refine Z366 ?_; refine Z221 ?_; refine Z204 ?_; refine Z2 ?_; refine Z195 ?_
    refine yd L (rs:=[.tmp 6, .tmp 7, .tmp 8]) rfl (fun _ _ h => h) Since.refl fun u H hH hle => ?_
    exact ⟨_, _, rfl, SlV.nil, SlV.nil⟩
  ·rw [if_neg h2] at hr
   cases hr
   refine Z274 ?_; refine Z2 ?_; refine Z168 ?_; refine Z5 ?_; refine z7 (zp L rfl rfl (zk rfl) rfl rfl rfl (fun u H hH _ _ v1 g1 => zff zl ll h1 hH g1)) rfl ?_; refine Z155 ?_; refine Z182 ?_; refine Z294 ?_; refine Z29 ?_; refine Z5 ?_; refine z7 (zp L rfl rfl (zk rfl) rfl rfl rfl (fun u H hH _ _ v1 g1 => zmi zc lc rfl hH g1)) rfl ?_; refine Z155 ?_; refine Z173 ?_; refine Z289 ?_; refine Z198 ?_; refine Z221 ?_; refine Z204 ?_; refine Z2 ?_; refine Z195 ?_
   refine yd L (rs:=[.tmp 6, .tmp 7, .tmp 8]) rfl (fun _ _ h => h) Since.refl fun u H hH hle => ?_
   exact ⟨_, _, rfl, SlV.nil, SlV.nil⟩
 ·rw [if_neg h1] at hr
  cases hr
  refine Z274 ?_; refine Z2 ?_; refine Z168 ?_; refine Z5 ?_; refine z7 (zp L rfl rfl (zk rfl) rfl rfl rfl (fun u H hH _ _ v1 g1 => zff zl ll rfl hH g1)) rfl ?_; refine Z155 ?_; refine Z182 ?_; refine Z289 ?_; refine Z173 ?_; refine Z289 ?_; refine Z198 ?_; refine Z221 ?_; refine Z204 ?_; refine Z2 ?_; refine Z195 ?_
  refine yd L (rs:=[.tmp 6, .tmp 7, .tmp 8]) rfl (fun _ _ h => h) Since.refl fun u H hH hle => ?_
  exact ⟨_, _, rfl, SlV.nil, SlV.nil⟩
end Go.V.L8
set_option maxRecDepth 20000
namespace Go.V.L8
open Go.Proofs Go.RowKit Go.V Go.V.L2 Go.V.L3 Go.V.L6
attribute [local irreducible] V N X VO Par StepOK Has Ret RetL RetO RetT Src
end Go.V.L8
set_option maxRecDepth 20000
namespace Go.V.L8
open Go.Proofs Go.RowKit Go.V Go.V.L2 Go.V.L3 Go.V.L6
theorem _root_.Go.V.Z281 {A B:Prop} (h:B) (t:Wr B → A:=by intro h; refine Z148 ?_; refine Z10 ?_; exact h.h):A:=t ⟨h⟩
def fC (c:C3):CH:=(zux c.1 c.2.1, drB c.2.2)
def dOf (cs:List C3):List CH:=(cs.take 30).map fC
theorem zie (cs:List C3):(dOf cs).length ≤ 30:=by unfold dOf; rw [List.length_map, List.length_take]; omega
attribute [local irreducible] V N X VO Par StepOK Has Ret RetL RetO RetT Src
set_option maxHeartbeats 1000000 in
theorem zp5 {cs:List C3} {fc:Bool} {M:List CH} (hM:dOf cs = M) (hcs:∀ c ∈ cs, c.1 ≤ 255 ∧ c.2.1 ≤ 255 ∧ c.2.2 ≤ 255) (lcs:cs.length ≤ 9223372036854775807)
  {cx:Value} {w:World} {B:Heap} (hB:B.Le (hp w)) (hc:PS3 cs fc cx B):Ret Tryz.prog 38 [.agg #[cx]] w B (KS tyC M false):=by
 refine yg Tryz.func38 rfl Tryz.ntmps38 (Nat.le_of_ble_eq_true rfl) hB ?_
 refine Z291 ?_; refine Z155 ?_; refine Z383 ?_
 refine zek 3 tyC 7 rfl ?_
 refine zal (fun y:Nat × List CH => [(1, .sat (At [cx] 66 0)), (3, .own (SlR tyC 7 y.2.length (y.2.flatMap ccs))), (4, .is (.int .i64 y.1))])
  (fun y => y.1 ≤ (cs.take 30).length ∧ y.2 = (cs.take y.1).map fC) (fun y => (cs.take 30).length - y.1) (0, []) ⟨Nat.zero_le _, rfl⟩ ⟨rfl, rfl, rfl, trivial⟩ ?_
 rintro ⟨i, out⟩ ⟨hi, ho⟩
 dsimp only at hi ho ⊢
 have h30:(cs.take 30).length = min 30 cs.length:=List.length_take
 have hol:out.length = i:=by rw [ho, List.length_map, List.length_take]; omega
 have hfin:i = (cs.take 30).length → out = M:=fun e => by
  rw [← hM, ho, e, h30]
  unfold dOf
  congr 1
  exact (List.take_eq_take_min (l:=cs) (i:=30)).symm
 by_cases h1:i < cs.length
 ·by_cases h2:i < 30
  ·obtain ⟨⟨a, b, c⟩, hn⟩:=zaf h1
   have hcc:=z2r hn
   obtain ⟨ka, kb, kc⟩:=hcs _ (List.mem_of_getElem? hn)
   dsimp only at ka kb kc
   have hnx:out ++ [(zux a b, drB c)] = (cs.take (i + 1)).map fC:=by rw [List.take_add_one, hn, List.map_append, ho]; rfl
   generalize hxx:zux a b = x at hnx
   generalize hdd:drB c = d at hnx
   refine Z266 ?_; refine Z191 ?_; refine zfv 7 (PS3 cs fc) rfl SlV.mono hc ?_; refine Z11 ?_; refine Z332 ?_; refine Z7 ?_; refine Z258 ?_; refine Z243 ?_; refine Z38 ?_; refine qq (yo (.inl rfl) rfl rfl rfl rfl) ?_; refine Z191 ?_; refine zfv 18 (PS3 cs fc) rfl SlV.mono hc ?_; refine Z1 ?_; refine z7 (qu L _ rfl rfl rfl rfl rfl rfl rfl (by first | omega | decide) (by assumption)) rfl ?_; refine z7 (yh L (vs:=[_, _, _]) rfl rfl rfl rfl rfl ⟨_, rfl⟩) rfl ?_; refine z7 (zp L rfl rfl (zk rfl) rfl rfl rfl (fun u H hH _ _ => zyy hxx hdd ka kb kc hH)) rfl ?_; refine Z39 ?_; refine Z112 ?_; refine qq (yo (.inr rfl) rfl rfl rfl rfl) ?_; refine Z248 ?_; refine Z385 ?_
   exact yj (x:=(i, out)) (i + 1, out ++ [(x, d)]) ⟨by dsimp only; omega, hnx⟩ (by dsimp only; omega) ⟨rfl, zg7 rfl, rfl, trivial⟩
  ·obtain he:=hfin (by omega)
   subst he
   refine Z266 ?_; refine Z191 ?_; refine zfv 7 (PS3 cs fc) rfl SlV.mono hc ?_; refine Z11 ?_; refine Z7 ?_; refine Z281 ?_; refine Z8 ?_; refine Z328 ?_
   refine zcr 3 rfl ?_
   refine Z43 ?_; refine Z5 ?_; refine Z275 ?_
   refine yd L (rs:=[.tmp 2]) rfl (fun _ _ h => h) Since.refl fun u H hH hle => ?_
   exact fun v hv => hv
 ·obtain he:=hfin (by omega)
  subst he
  refine Z266 ?_; refine Z191 ?_; refine zfv 7 (PS3 cs fc) rfl SlV.mono hc ?_; refine Z11 ?_; refine Z10 ?_; refine Z193 ?_; refine Z8 ?_; refine Z328 ?_
  refine zcr 3 rfl ?_
  refine Z43 ?_; refine Z5 ?_; refine Z275 ?_
  refine yd L (rs:=[.tmp 2]) rfl (fun _ _ h => h) Since.refl fun u H hH hle => ?_
  exact fun v hv => hv
end Go.V.L8
set_option maxRecDepth 20000
namespace Go.V.L8
open Go.Proofs Go.RowKit Go.V Go.V.L2 Go.V.L3 Go.V.L6
theorem zne:∀ {cs:List CH} {s:List U} {md:List CH}, SOK s → (∀ c ∈ cs, TZ c.1 ∧ tE c.1 = 0) → s.length + cs.length < 4096 → ∃ t made, zft s md cs = (t, made, 0) ∧ SOK t ∧ t.length ≤ s.length + cs.length
 | [], s, md, h, _, _ => ⟨s, md, rfl, h, Nat.le_refl _⟩
 | c :: r, s, md, h, hc, hl => by
  simp only [List.length_cons] at hl
  obtain ⟨hz, h0⟩:=hc c (List.mem_cons_self ..)
  obtain ⟨h1, h2, h3⟩:=zw5 h hz h0 c.2 (by omega)
  obtain ⟨t, made, e, ht, hlt⟩:=zne (cs:=r) (s:=(zcy s c.1 c.2).1) (md:=if decide (c.1 ∈ s) = c.2 then md ++ [c] else md) h1 (fun x hx => hc x (List.mem_cons_of_mem _ hx)) (by omega)
  refine ⟨t, made, by rw [zft, if_pos h2, e], ht, ?_⟩
  simp only [List.length_cons]; omega
theorem writeR_ok {s:List U} {l cs:List CH} (h1:cE 32 l = 0) (h2:cE 32 cs = 0) (h3:(zfa s l).2 = 0):zel s l cs = zft s [] cs:=by
 unfold zel; rw [if_pos h1, if_pos h2, if_pos h3]
end Go.V.L8
set_option maxRecDepth 20000
namespace Go.V.L8
open Go.Proofs Go.RowKit Go.V Go.V.L2 Go.V.L3 Go.V.L6
theorem _root_.Go.V.Z90 {A B:Prop} (h:B) (t:Wr B → A:=by intro h; refine z8 (zog L rfl rfl rfl rfl rfl) rfl ?_; exact h.h):A:=t ⟨h⟩
theorem _root_.Go.V.Z125 {A B:Prop} (h:B) (t:Wr B → A:=by intro h; refine z8 (zlp L rfl rfl rfl rfl) rfl ?_; exact h.h):A:=t ⟨h⟩
theorem _root_.Go.V.Z271 {A B:Prop} (h:B) (t:Wr B → A:=by intro h; refine qs ?_; refine Z175 ?_; exact h.h):A:=t ⟨h⟩
theorem _root_.Go.V.Z392 {A B:Prop} (h:B) (t:Wr B → A:=by intro h; refine Z54 ?_; refine Z199 ?_; exact h.h):A:=t ⟨h⟩
attribute [local irreducible] V N X VO Par StepOK Has Ret RetL RetO RetT Src
set_option maxHeartbeats 2000000 in
theorem zvk {cs:List C3} {fc:Bool} {M:List CH} (hM:dOf cs = M) (hcs:∀ c ∈ cs, c.1 ≤ 255 ∧ c.2.1 ≤ 255 ∧ c.2.2 ≤ 255) (lcs:cs.length ≤ 9223372036854775807)
  {cx:Value} {w:World} {B:Heap} (hB:B.Le (hp w)) (hc:PS3 cs fc cx B):Ret Tryz.prog 37 [.agg #[cx]] w B (KS tyM M false):=by
 have lM:M.length ≤ 30:=hM ▸ zie cs
 refine yg Tryz.func37 rfl Tryz.ntmps37 (Nat.le_of_ble_eq_true rfl) hB ?_
 refine Z291 ?_; refine Z151 ?_; refine Z32 ?_; refine Z19 ?_; refine z7 (qd L (vs:=[_]) (qp rfl) rfl rfl rfl rfl ⟨_, rfl⟩) rfl ?_; refine z7 (yr (φ:=KS tyC M false) L rfl rfl (zk rfl) rfl rfl rfl SlV.mono (fun u H hH hle _ => zp5 hM hcs lcs hH (hc.le hle))) rfl ?_; refine Z392 ?_; refine Z29 ?_; refine Z208 ?_
 refine zek 3 tyM 7 rfl ?_
 refine zal (fun y:Nat × List CH => [(3, .own (SlR tyM 7 y.2.length (y.2.flatMap ccs))), (4, .sat (KS tyC M false)), (5, .is (.int .i64 y.1))])
  (fun y => y.1 ≤ M.length ∧ y.2 = M.take y.1) (fun y => M.length - y.1) (0, []) ⟨Nat.zero_le _, rfl⟩ ⟨rfl, rfl, rfl, trivial⟩ ?_
 rintro ⟨i, out⟩ ⟨hi, ho⟩
 dsimp only at hi ho ⊢
 have hol:out.length = i:=by rw [ho, List.length_take]; omega
 by_cases hlt:i < M.length
 ·obtain ⟨c, hc0⟩:=zaf hlt
  have hcc:=zi1 hc0
  have hnx:out ++ [c] = M.take (i + 1):=by rw [List.take_add_one, hc0, ho]; rfl
  refine Z226 ?_; refine Z209 ?_; refine Z243 ?_; refine qf (id:=6) [(15, [3]), (28, [15]), (3, [28])] mixed (by kernel_rfl) ?_; refine zau (yo (.inl rfl) rfl rfl rfl rfl) rfl rfl ?_; refine Z200 ?_; refine z8 (qu L _ rfl rfl rfl rfl rfl rfl rfl (by first | omega | decide) (by assumption)) rfl ?_; refine Z125 ?_; refine z8 (yh L (vs:=[_, _, _, _, _, _]) rfl rfl rfl rfl rfl ⟨_, rfl⟩) rfl ?_; refine Z200 ?_; refine z8 (qu L _ rfl rfl rfl rfl rfl rfl rfl (by first | omega | decide) (by assumption)) rfl ?_; refine Z125 ?_; refine Z90 ?_; refine z8 (yx (cs:=[_, _, _, _, _, _, _]) rfl rfl z2y rfl rfl) rfl ?_; refine Z128 ?_; refine zau (zcl L rfl rfl rfl (zii rfl) rfl z5p rfl rfl (by omega) (by omega)) rfl rfl ?_; refine zau (yo (.inr rfl) rfl rfl rfl rfl) rfl rfl ?_; refine Z271 ?_; refine Z333 ?_
  exact yj (x:=(i, out)) (i + 1, out ++ [c]) ⟨hlt, hnx⟩ (by dsimp only; omega) ⟨zg7 rfl, rfl, rfl, trivial⟩
 ·have he:out = M:=by rw [ho]; exact List.take_of_length_le (by omega)
  subst he
  refine Z226 ?_; refine Z299 ?_
  refine zcr 3 rfl ?_
  refine Z44 ?_; refine Z5 ?_; refine Z275 ?_
  refine yd L (rs:=[.tmp 2]) rfl (fun _ _ h => h) Since.refl fun u H hH hle => ?_
  exact fun v hv => hv
end Go.V.L8
set_option maxRecDepth 20000
namespace Go.V.L10
open Go.Proofs Go.RowKit Go.V Go.V.L2 Go.V.L8 Go.V.L6
structure OO where
 wh:Nat
 ms:List C3
 cs:List C3
 rv:Nat
 kp:Int
def OO.rev (o:OO):Int:=if o.rv = 255 then 18446744073709551615 else (o.rv:Int)
def doS (S:Sto) (o:OO):Sto :=
 if o.wh % 8 < 4 then (ze0 S (dOf o.ms) (dOf o.cs)).1 else if o.wh % 8 < 6 then (zn9 S o.rev false).1 else if o.wh % 8 = 6 then (zn9 S o.rev true).1 else (zdp S o.kp).1
structure JJ (n:Nat) (S:Sto):Prop where
 last:(kpt S.R S.R.length).isSome = true
 pin:∀ r ∈ S.P, (kpt S.R r).isSome = true
 so:∀ r t, kpt S.R r = some t → SOK t ∧ t.length ≤ 30 * S.R.length
 hR:S.R.length ≤ n + 1
 hP:S.P.length ≤ n
theorem JJ.ne {n:Nat} {S:Sto} (h:JJ n S):S.R.length ≠ 0:=by have:=zeg h.last; omega
theorem JJ.I {n:Nat} {S:Sto} (h:JJ n S) (hn:n ≤ 100):z4f S:=⟨h.last, Nat.le_trans (zco _) (by have:=h.hR; omega), h.pin, fun r t ht => by have:=(h.so r t ht).2; have:=h.hR; omega⟩
theorem JJ.mono {n m:Nat} {S:Sto} (h:JJ n S) (hm:n ≤ m):JJ m S:=⟨h.last, h.pin, h.so, Nat.le_trans h.hR (by omega), Nat.le_trans h.hP hm⟩
theorem JJ.ss {n:Nat} {S:Sto} (h:JJ n S):∀ r t, kpt S.R r = some t → Sst zbh t ∧ ∀ x ∈ t, TZ x:=fun r t ht => ⟨(h.so r t ht).1.sst, (h.so r t ht).1.tz⟩
theorem JJ.pos {n:Nat} {S:Sto} (h:JJ n S):∀ x ∈ S.P, 0 < x:=fun x hx => (zeg (h.pin x hx)).1
theorem zv2:JJ 0 newS:=⟨rfl, fun _ h => (by cases h), fun r t h => by
 have hr:=zeg (R:=newS.R) (r:=r) (by rw [h]; rfl)
 have h1:newS.R.length = 1:=rfl
 have:r = ((0 + 1:Nat):Int):=by omega
 subst this
 have h2:kpt newS.R ((0 + 1:Nat):Int) = some []:=by rw [zdm]; rfl
 rw [h2] at h
 cases h
 exact ⟨⟨Sst.nil, fun _ h => (by cases h), fun _ h => (by cases h)⟩, Nat.zero_le _⟩, Nat.le_refl _, Nat.le_refl _⟩
theorem zzz (cs:List C3):∀ c ∈ dOf cs, TZ c.1 ∧ tE c.1 = 0:=fun c hc => by
 unfold dOf at hc
 obtain ⟨x, _, rfl⟩:=List.mem_map.1 hc
 exact ⟨zuw _ _, z04 _ _⟩
theorem z0j {t:U} (h:TZ t):TM t:=by
 unfold TZ at h; unfold TM; omega
theorem zrp (cs:List C3):∀ c ∈ dOf cs, TM c.1:=fun c hc => z0j (zzz cs c hc).1
theorem writeR_ok {s:List U} {l cs:List CH} {t:List U} {made:List CH} (h:zel s l cs = (t, made, 0)) (hs:SOK s) (hc:∀ c ∈ cs, TZ c.1 ∧ tE c.1 = 0) (hl:s.length + cs.length < 4096):SOK t ∧ t.length ≤ s.length + cs.length:=by
 obtain ⟨t2, m2, h2, h3, h4⟩:=zne (md:=[]) hs hc hl
 unfold zel at h
 split at h
 ·split at h
  ·split at h
   ·rw [h2] at h; cases h; exact ⟨h3, h4⟩
   ·rename_i h1; exact absurd (congrArg (·.2.2) h) h1
  ·rename_i h1; exact absurd (congrArg (·.2.2) h) h1
 ·rename_i h1; exact absurd (congrArg (·.2.2) h) h1
theorem zy3 {S:Sto} {t:List U} (h:kpt S.R S.R.length = some t):atS S 0 = (t, 0):=by unfold atS; rw [if_pos rfl, h]
theorem zre {n:Nat} {S:Sto} (h:JJ n S) (hn:n ≤ 100) {l cs:List CH} (hc:∀ c ∈ cs, TZ c.1 ∧ tE c.1 = 0) (hcl:cs.length ≤ 30):JJ (n + 1) (ze0 S l cs).1:=by
 obtain ⟨t0, ht0⟩:∃ t0, kpt S.R S.R.length = some t0:=Option.isSome_iff_exists.1 h.last
 obtain ⟨⟨t1, made, e1⟩, hwr⟩:∃ x, zel t0 l cs = x:=⟨_, rfl⟩
 unfold ze0
 rw [zy3 ht0, hwr]
 dsimp only
 by_cases he:e1 = 0
 ·subst he
  rw [if_pos rfl]
  split
  ·exact h.mono (Nat.le_succ _)
  ·have h0:=h.so _ _ ht0
   have hR:=h.hR
   have h1:=writeR_ok hwr h0.1 hc (by omega)
   have hln:(S.R ++ [some t1]).length = S.R.length + 1:=by rw [List.length_append]; rfl
   refine ⟨?_, fun r hr => ?_, fun r t ht => ?_, ?_, Nat.le_succ_of_le h.hP⟩
   ·dsimp only; rw [hln, zja, if_pos rfl]; rfl
   ·dsimp only; rw [zja]
    split
    ·rfl
    ·exact h.pin r hr
   ·dsimp only at ht ⊢
    rw [zja] at ht
    rw [hln]
    split at ht
    ·cases ht; exact ⟨h1.1, by omega⟩
    ·have h2:=h.so r t ht; exact ⟨h2.1, by omega⟩
   ·dsimp only; omega
 ·rw [if_neg he]; exact h.mono (Nat.le_succ _)
theorem zv1 {n:Nat} {S:Sto} (h:JJ n S) (r:Int) (un:Bool):JJ (n + 1) (zn9 S r un).1:=by
 unfold zn9
 by_cases hk:(kpt S.R r).isSome = true
 ·rw [if_pos hk]
  cases un with
  | true =>
   rw [if_pos rfl]
   split
   ·refine ⟨h.last, fun x hx => h.pin x ?_, h.so, Nat.le_succ_of_le h.hR, ?_⟩
    ·dsimp only at hx
     unfold zfy at hx
     split at hx
     ·cases hx
     ·exact List.mem_of_mem_erase hx
    ·dsimp only
     unfold zfy
     split
     ·exact Nat.zero_le _
     ·exact Nat.le_trans (List.length_erase_le ..) (Nat.le_succ_of_le h.hP)
   ·exact h.mono (Nat.le_succ _)
  | false =>
   rw [if_neg (by decide)]
   refine ⟨h.last, fun x hx => ?_, h.so, Nat.le_succ_of_le h.hR, ?_⟩
   ·rcases List.mem_append.1 hx with hx | hx
    ·exact h.pin x hx
    ·rw [List.mem_singleton.1 hx]; exact hk
   ·have:=h.hP; dsimp only; rw [List.length_append, List.length_singleton]; omega
 ·rw [if_neg hk]; exact h.mono (Nat.le_succ _)
theorem zsw {S:Sto} {k:Nat} (hk:1 ≤ k):((S.R.length:Nat):Int) ∉ zdn S.P (za1 S.R) k:=fun hm => by
 unfold zdn at hm
 have h1:=(List.mem_filter.1 hm).1
 obtain ⟨i, hi⟩:=List.getElem?_of_mem h1
 have hil:i < (za1 S.R).length - k:=by have:=get_lt hi; rw [List.length_take] at this; omega
 rw [List.getElem?_take_of_lt hil] at hi
 obtain ⟨y, hy⟩:=zaf (show i + 1 < (za1 S.R).length by omega)
 have h3:=List.pairwise_iff_getElem.1 (zjp S.R) i (i + 1) (get_lt hi) (get_lt hy) (Nat.lt_succ_self i)
 rw [zej hi, zej hy, zy1] at h3
 have:=zeg (zcn.1 (List.mem_of_getElem? hy))
 omega
theorem zou {P0:List Int} {R:List (Option (List U))} {k:Nat} {g:Int} (hg:g ∈ zdn P0 (za1 R) k):(kpt R g).isSome = true ∧ g ∉ P0:=by
 unfold zdn at hg
 have h1:=List.mem_filter.1 hg
 exact ⟨zcn.1 (List.mem_of_mem_take h1.1), fun hm => by have:=List.count_pos_iff.2 hm; have h2:=h1.2; simp at h2; omega⟩
theorem zv3 {n:Nat} {S:Sto} (h:JJ n S) (keep:Int):JJ (n + 1) (zdp S keep).1:=by
 unfold zdp
 split
 ·rename_i hk
  have hp:∀ g ∈ zdn S.P (za1 S.R) keep.toNat, 0 < g:=fun g hg => (zeg (zou hg).1).1
  refine ⟨?_, fun r hr => ?_, fun r t ht => ?_, ?_, Nat.le_succ_of_le h.hP⟩
  ·dsimp only; rw [zei, zjb hp, if_neg (zsw (by omega))]; exact h.last
  ·dsimp only; rw [zjb hp, if_neg (fun hm => (zou hm).2 hr)]; exact h.pin r hr
  ·dsimp only at ht ⊢
   rw [zjb hp] at ht
   rw [zei]
   split at ht
   ·cases ht
   ·exact h.so r t ht
  ·dsimp only; rw [zei]; exact Nat.le_succ_of_le h.hR
 ·exact h.mono (Nat.le_succ _)
theorem z5j {n:Nat} {S:Sto} (h:JJ n S) (hn:n ≤ 100) (o:OO):JJ (n + 1) (doS S o):=by
 unfold doS
 split
 ·exact zre h hn (zzz _) (zie _)
 ·split
  ·exact zv1 h _ _
  ·split
   ·exact zv1 h _ _
   ·exact zv3 h _
end Go.V.L10
set_option maxRecDepth 20000
namespace Go.V
open Go.RowKit
def z4u {V:Type} (m:Nat) (kd:IntKind) (vc:V → Value) (l left:List (Int × V)) (p:Int × V):Res where
 P x _ u C:=∃ (i:Nat) (es:Array MapEntry) (ck since:Nat) (seen:Array Nat) (e:MapEntry), x = .pointer (some ⟨i, 0, none⟩) ∧ i ≠ m ∧ u.heap[m]? = some (.map es ck) ∧ MiE kd vc l es.toList ∧ Brn es.toList ck ∧ u.heap[i]? = some (.mapIter (some m) since (seen.push e.born) ck) ∧
  (∀ e ∈ es.toList, e.born < since) ∧ since ≤ ck ∧ MiE kd vc left (leftOf es (seen.push e.born)).toList ∧ e ∈ es.toList ∧ e.key = .int kd p.1 ∧ e.val = vc p.2 ∧ ∀ k, C k ↔ k = m ∨ k = i
 st:=fun ⟨i, es, ck, since, seen, e, h1, h2, h3, h4, h5, h6, h7, h8, h9, h10, h11, h12, hC⟩ _ _ _ hk => ⟨i, es, ck, since, seen, e, h1, h2, (hk m ((hC m).2 (.inl rfl))).trans h3, h4, h5, (hk i ((hC i).2 (.inr rfl))).trans h6, h7, h8, h9, h10, h11, h12, hC⟩
theorem zzp {V:Type} {m:Nat} {kd:IntKind} {vc:V → Value} {l left:List (Int × V)} {p:Int × V} {B:Heap}:∀ v H u C, B.Le H → (z4u m kd vc l left p).P v H u C → (zwt m kd vc l left).P v H u C :=
 fun _ _ _ _ _ ⟨i, es, ck, since, seen, e, h1, h2, h3, h4, h5, h6, h7, h8, h9, _, _, _, hC⟩ => ⟨i, es, ck, since, seen.push e.born, ck, h1, h2, h3, h4, h5, h6, h7, h8, h8, h9, hC⟩
theorem zx5 {es:Array MapEntry} {seen:Array Nat} {j:Nat} {e:MapEntry} (h:(leftOf es seen)[j]? = some e):e ∈ es.toList:=by
 have h1:e ∈ leftOf es seen:=Array.mem_of_getElem? h
 unfold leftOf at h1
 rw [Array.mem_filter] at h1
 exact Array.mem_toList_iff.2 h1.1
theorem zv9 {es:List MapEntry} (hn:(es.map (·.born)).Nodup) {e:MapEntry} (he:e ∈ es):es.find? (fun x => x.born == e.born) = some e:=by
 induction es with
 | nil => cases he
 | cons x es ih =>
  rw [List.map_cons, List.nodup_cons] at hn
  rw [List.find?_cons]
  rcases List.mem_cons.1 he with h | h
  ·subst h; simp
  ·have hne:x.born ≠ e.born:=fun h2 => hn.1 (h2 ▸ List.mem_map_of_mem (f:=(·.born)) h)
   have:(x.born == e.born) = false:=by simpa using hne
   rw [this]
   exact ih hn.2 h
section
variable {P:Program} {F:Fr} {B:Heap} {O:Boxes} {n:Nat} {ops:Array Oper} {κ:Kap} {d:Nat} {ty:TypeId} {pos:String} {aft:Array Edge} {g:Option (Nat × Bool)} {a:Act} {u:World} {H:Heap} {os:List Oper} {Q:Exit → Act → World → Prop}
variable {Y:Type} {kd:IntKind} {vc:Y → Value} {l left:List (Int × Y)}
theorem zqf {q m d:Nat} {o:Oper} (ho:o = ⟨some d, .next (.tmp q) false, ty, pos, aft, g⟩) (hq:κ q = some (.own (zwt m kd vc l left))) (hl:left ≠ []) (hn:Nat.blt d n = true) (hdq:Nat.beq q d = false) (hg:gK ops κ o = some true)
  (h:∀ (j:Nat) (p:Int × Y), left[j]? = some p → VO P F B n O ops (upd (upd κ q (.own (z4u m kd vc l (left.eraseIdx j) p))) d (.is (.tuple #[.bool true, .int kd p.1, vc p.2]))) os Q):VO P F B n O ops κ (o :: os) Q:=fun a u hh => by
 subst ho
 obtain ⟨H, fp, hh⟩:=hh
 obtain ⟨⟨i, es, ck, since, seen, last, h1, h2, h3, h4, h5, h6, h7, h8, h9, h10, hC⟩, hM⟩:=hh.slot q _ hq
 show After P ops _ _ a u
 unfold After
 rw [if_pos (zag hh (fun _ _ => rfl) hg)]
 rcases zny (P:=P) (ty:=ty) h3 h6 h7 h8 with ⟨hz, _⟩ | ⟨j, e, he, u1, hu1, hr⟩
 ·exfalso
  have:=congrArg List.length h10
  simp [hz] at this
  exact hl (List.eq_nil_of_length_eq_zero this.symm)
 ·have hrun:(execOp a.eval ⟨some d, .next (.tmp q) false, ty, pos, aft, g⟩).run P u = .ok (.value (.tuple #[.bool true, e.key, e.val])) (u1.putObj i (.mapIter (some m) since (seen.push e.born) ck)):=by
   simp only [execOp, h1, Sem.run_bind, hr, Result.andThen_ok]
   rfl
  rw [hrun]
  simp only [Upon]
  obtain ⟨p, hp, hk1, hv1⟩:=z3c h10 (by rw [Array.getElem?_toList]; exact he)
  rw [hk1, hv1]
  have him:=hM i ((hC i).2 (.inr rfl))
  have hsub:H.Le (Go.V.hp u1):=by rcases hu1 with rfl | rfl <;> exact hh.sub
  have hgr:Grow (fp q) u H (u1.putObj i (.mapIter (some m) since (seen.push e.born) ck)) H:=by
   have g1:=zko (u:=u1) (L:=fp q) (o:=.mapIter (some m) since (seen.push e.born) ck) hsub ((hC i).2 (.inr rfl)) him.2.1
   rcases hu1 with rfl | rfl
   ·exact g1
   ·exact ⟨⟨g1.keep.os, g1.keep.tape, g1.keep.output, g1.keep.size, g1.keep.block, Nat.le_trans (Nat.le_succ _) g1.keep.dr⟩, g1.sub, g1.le, g1.fresh⟩
  have hmm:u1.heap[m]? = some (.map es ck):=by rcases hu1 with rfl | rfl <;> exact h3
  have hsz:i < u1.heap.size:=by rcases hu1 with rfl | rfl <;> exact him.1
  have h5':=hh.usePut (d:=q) (a':=a) (r':=z4u m kd vc l (left.eraseIdx j) p) (C:=fun k => k = m ∨ k = i) hq hgr rfl rfl (fun _ _ => rfl)
   ⟨i, es, ck, since, seen, e, h1, h2, by rw [World.putObj_heap_other (Ne.symm h2)]; exact hmm, h4, h5, World.putObj_heap_same hsz, h7, h9, by rw [zsu h5 he]; exact zom h10 j, zx5 he, hk1, hv1, fun _ => Iff.rfl⟩
   (fun k hk => by
    have hkC:fp q k:=(hC k).2 hk
    refine ⟨.inl hkC, ?_, (hM k hkC).2.1⟩
    rw [World.putObj_size]
    rcases hu1 with rfl | rfl <;> exact (hM k hkC).1)
  rw [zbe] at h5'
  exact h j p hp _ _ ⟨H, _, h5'.put (k:=.is _) (zk hn) trivial rfl⟩
theorem zoi {q m:Nat} {p:Int × Y} (hq:κ q = some (.own (z4u m kd vc l left p))) (hn:Nat.blt d n = true) (hg:gK ops κ ⟨some d, .entry (.tmp q), ty, pos, aft, g⟩ = some true) :
  StepOK P F B n ops O κ ⟨some d, .entry (.tmp q), ty, pos, aft, g⟩ d (.is (.tuple #[.int kd p.1, vc p.2])) :=
 zax rfl (zk hn) hg trivial fun a u H fp e => by
  obtain ⟨⟨i, es, ck, since, seen, x, h1, h2, h3, h4, h5, h6, h7, h8, h9, h10, h11, h12, hC⟩, hM⟩:=e.own_ q _ (by simp [Op.operands]) hq
  refine ⟨_, ?_, rfl⟩
  have hf:=zv9 h5.nd h10
  have hf2:es.find? (fun y => y.born == x.born) = some x:=by rw [← Array.find?_toList]; exact hf
  simp only [execOp, h1, Instr.entry, getObj, Sem.run_bind, Sem.run, h6, Result.andThen, Array.back?_push, h3, bne_self_eq_false, Bool.false_eq_true, if_false, hf2, h11, h12]
  rfl
theorem zsj {x y z:Operand} {q b:Nat} {t kt et:TypeId} (k:Int) (v:Y) {zv:Value} {l':List (Int × Y)} (ht:P.underlying t = some (.map kt et)) (hkt:P.underlying kt = some (.int kd))
  (hx:evK κ x = some (.map (some b))) (hq:κ q = some (.own (zk3 b kd vc l))) (hy:evK κ y = some (.int kd k)) (hz:evK κ z = some zv) (hzv:vc v = zv) (hg:gK ops κ ⟨none, .insert t x y z, ty, pos, aft, g⟩ = some true)
  (hl':zpv k v l = l') :
  zgf P F B n ops O κ ⟨none, .insert t x y z, ty, pos, aft, g⟩ q (.own (zk3 b kd vc l')):=by
 rintro κ' a u hlk hqk ⟨H, fp, hh⟩
 subst hl' hzv
 unfold After
 rw [if_pos (zag hh hlk hg)]
 have e:=hh.env hlk
 have h1:=e.is_ x _ (by simp [Op.operands]) hx
 have h2:=e.is_ y _ (by simp [Op.operands]) hy
 have h3:=e.is_ z _ (by simp [Op.operands]) hz
 have hqs:=hqk.trans hq
 obtain ⟨⟨⟨es, ck, hb, he, hbn⟩, hC⟩, hM⟩:=hh.slot q _ hqs
 obtain ⟨es', ck', hr, he', hb'⟩:=zgs ht hkt hb he hbn k v
 have hrun:(execOp a.eval ⟨none, .insert t x y z, ty, pos, aft, g⟩).run P u = .ok .skip (u.putObj b (.map es' ck')):=by
  simp only [execOp, h1, h2, h3, Sem.run_bind, hr, Result.andThen_ok]
  rfl
 rw [hrun]
 simp only [Upon, Act.put]
 exact ⟨H, _, hh.turnMap hqs he' hb'⟩
end
end Go.V
set_option maxRecDepth 20000
namespace Go.V.So
open Go.Proofs Go.RowKit Go.V Go.Sort
theorem _root_.Go.V.Z252 {A B:Prop} (h:B) (t:Wr B → A:=by intro h; refine Z153 ?_; refine Z59 ?_; exact h.h):A:=t ⟨h⟩
theorem _root_.Go.V.Z282 {A B:Prop} (h:B) (t:Wr B → A:=by intro h; refine Z211 ?_; refine Z172 ?_; exact h.h):A:=t ⟨h⟩
theorem _root_.Go.V.Z367 {A B:Prop} (h:B) (t:Wr B → A:=by intro h; refine Z281 ?_; refine Z149 ?_; exact h.h):A:=t ⟨h⟩
theorem _root_.Go.V.Z393 {A B:Prop} (h:B) (t:Wr B → A:=by intro h; refine Z194 ?_; refine Z148 ?_; exact h.h):A:=t ⟨h⟩
theorem _root_.Go.V.Z414 {A B:Prop} (h:B) (t:Wr B → A:=by intro h; refine Z1 ?_; refine Z18 ?_; exact h.h):A:=t ⟨h⟩
abbrev lt:Int → Int → Bool:=ltInt
abbrev tyU:TypeId:=49
attribute [local irreducible] V N X VO Par StepOK Has Ret RetL RetO zce zd7 Src
theorem isnanU (a:Int) {w:World} {B:Heap} (hB:B.Le (hp w)):Ret Tryz.prog 153 [.int .u64 a] w B (fun v _ => v = .bool false):=by
 refine yg Tryz.func153 rfl Tryz.ntmps153 (Nat.le_of_ble_eq_true rfl) hB ?_
 refine Z393 ?_; refine Z24 ?_; refine Z146 ?_
 refine yd L (rs:=[.tmp 2]) rfl (fun _ _ h => h) Since.refl fun u H hH hle => ?_
 rfl
theorem z5a (a b:Int) {w:World} {B:Heap} (hB:B.Le (hp w)):Ret Tryz.prog 107 [.int .u64 a, .int .u64 b] w B (fun v _ => v = .bool (lt a b)):=by
 unfold lt ltInt
 refine yg Tryz.func107 rfl Tryz.ntmps107 (Nat.le_of_ble_eq_true rfl) hB ?_
 by_cases h:a < b
 ·rw [decide_eq_true h]
  refine Z309 ?_; refine z7 (zp L rfl rfl (zk rfl) rfl rfl rfl (fun u H hH _ _ => isnanU _ hH)) rfl ?_; refine Z272 ?_; refine Z184 ?_; refine Z7 ?_; refine Z8 ?_; refine Z146 ?_
  refine yd L (rs:=[.tmp 4]) rfl (fun _ _ h => h) Since.refl fun u H hH hle => ?_
  rfl
 ·rw [decide_eq_false h]
  refine Z309 ?_; refine z7 (zp L rfl rfl (zk rfl) rfl rfl rfl (fun u H hH _ _ => isnanU _ hH)) rfl ?_; refine Z272 ?_; refine Z184 ?_; refine Z10 ?_; refine Z8 ?_; refine Z146 ?_
  refine yd L (rs:=[.tmp 4]) rfl (fun _ _ h => h) Since.refl fun u H hH hle => ?_
  rfl
theorem zbg {a b:Int} {f:Bool} (h:lt a b = f) {w:World} {B:Heap} (hB:B.Le (hp w)):Ret Tryz.prog 107 [.int .u64 a, .int .u64 b] w B (fun v _ => v = .bool f):=h ▸ z5a a b hB
set_option maxHeartbeats 1000000 in
set_option maxRecDepth 20000 in
theorem ins_ret {d:Array Int} {rest:List Value} {b m cap a e:Nat} (hab:a ≤ e) (he:e ≤ d.size) (hm:d.size = m) (hm1:m ≤ 100000) {w:World} {B:Heap} {C:Nat → Prop} (hB:B.Le (hp w))
  (hr:(zac b (uC d ++ rest) tyU).P B w C) (hC:∀ k, C k → k < w.heap.size ∧ B k = none) :
  zce Tryz.prog 101 [.slice (some ⟨b, 0, none⟩) m cap, .int .i64 a, .int .i64 e] w B C (zac b (uC (insertionSort lt d a e) ++ rest) tyU):=by
 unfold zce
 refine zat 900 (zac b (uC d ++ rest) tyU) Tryz.func101 rfl Tryz.ntmps101 (Nat.le_of_ble_eq_true rfl) hB hr hC ?_
 rw [za4]
 have hw0:IntKind.i64.wrap ((a:Int) + 1) = ((a + 1:Nat):Int):=zaa (by omega) (by omega)
 refine Z154 ?_; refine Z414 ?_; refine Z208 ?_
 refine zal (fun s:Nat × Array Int => [(0, .is (.slice (some ⟨b, 0, none⟩) m cap)), (1, .is (.int .i64 a)), (2, .is (.int .i64 e)), (6, .is (.int .i64 s.1)), (900, .own (zan b (uC s.2 ++ rest) tyU))]) (fun s => s.1 ≤ e + 1 ∧ a < s.1 ∧ s.2.size = m ∧ insOuter lt a e s.1 s.2 = insertionSort lt d a e) (fun s => e + 1 - s.1) (a + 1, d) ⟨by omega, by omega, hm, rfl⟩ ⟨rfl, rfl, rfl, rfl, rfl, trivial⟩ ?_
 rintro ⟨i, D⟩ ⟨hi, hai, hD, hO⟩
 dsimp only at hi hai hD hO ⊢
 by_cases hlt:i < e
 ·rw [insOuter, if_pos hlt] at hO
  refine Z147 ?_; refine Z20 ?_; refine Z148 ?_; refine Z186 ?_; refine Z178 ?_; refine Z181 ?_; refine Z208 ?_
  refine zal (fun t:Nat × Array Int => [(0, .is (.slice (some ⟨b, 0, none⟩) m cap)), (1, .is (.int .i64 a)), (2, .is (.int .i64 e)), (6, .is (.int .i64 i)), (7, .is (.int .i64 t.1)), (900, .own (zan b (uC t.2 ++ rest) tyU))]) (fun t => t.1 ≤ i ∧ t.2.size = m ∧ insInner lt a t.1 t.2 = insInner lt a i D) (fun t => t.1) (i, D) ⟨Nat.le_refl _, hD, rfl⟩ ⟨rfl, rfl, rfl, rfl, rfl, rfl, trivial⟩ ?_
  rintro ⟨j, E⟩ ⟨hj, hE, hI⟩
  dsimp only at hj hE hI ⊢
  rcases j with _ | j
  ·rw [insInner] at hI
   rw [hI]
   refine Z147 ?_; refine Z102 ?_; refine Z153 ?_; refine Z95 ?_; refine Z311 ?_; refine Z282 ?_; refine Z175 ?_; refine Z182 ?_; refine Z206 ?_
   exact yj (x:=(i, D)) (i + 1, insInner lt a i D) ⟨by dsimp only; omega, by dsimp only; omega, by dsimp only; rw [← hI]; exact hE, hO⟩ (by dsimp only; omega) ⟨rfl, rfl, rfl, rfl, rfl, trivial⟩
  ·by_cases hja:a < j + 1
   ·have hw1:IntKind.i64.wrap (((j + 1:Nat):Int) - 1) = (j:Int):=zaa (by omega) (by omega) |>.trans (by omega)
    obtain ⟨r1, q1⟩:=zdc (rest:=rest) (show j + 1 < E.size by omega) (0 + (j + 1) * 1) rfl
    obtain ⟨r2, q2⟩:=zdc (rest:=rest) (show j < E.size by omega) (0 + j * 1) rfl
    cases hc:lt E[j + 1]! E[j]! with
    | true =>
     rw [insInner, if_pos (by rw [hc]; simp; omega)] at hI
     have s1:=zcf (rest:=rest) E[j]! (show j + 1 < E.size by omega) (0 + (j + 1) * 1) rfl
     have b1:=zcg (rest:=rest) (show j + 1 < E.size by omega) (0 + (j + 1) * 1) rfl
     have hz:j < (E.setIfInBounds (j + 1) E[j]!).size:=by rw [Array.size_setIfInBounds]; omega
     have s2:=zcf (rest:=rest) E[j + 1]! hz (0 + j * 1) rfl
     have b2:=zcg (rest:=rest) hz (0 + j * 1) rfl
     rw [zdh] at s2
     refine Z147 ?_; refine qf (id:=4) [(200023, [900]), (200028, [900])] mixed (by kernel_rfl) ?_; refine Z153 ?_; refine Z92 ?_; refine Z189 ?_; refine z8 (ql L _ rfl rfl rfl rfl rfl rfl rfl (by omega)) rfl ?_; refine qg (qn L (q:=900) rfl rfl rfl rfl rfl q1) rfl rfl ?_; refine Z252 ?_; refine z8 (ql L _ rfl rfl rfl rfl rfl rfl rfl (by omega)) rfl ?_; refine qg (qn L (q:=900) rfl rfl rfl rfl rfl q2) rfl rfl ?_; refine z8 (zp L rfl rfl (zk rfl) rfl rfl rfl (fun u H hH _ _ => zbg hc hH)) rfl ?_; refine Z295 ?_; refine Z243 ?_; refine qf (id:=6) [(200042, [900]), (200046, [900]), (100047, [900]), (100048, [900])] mixed (by kernel_rfl) ?_; refine Z153 ?_; refine Z252 ?_; refine Z252 ?_; refine z8 (ql L _ rfl rfl rfl rfl rfl rfl rfl (by omega)) rfl ?_; refine qg (qn L (q:=900) rfl rfl rfl rfl rfl q2) rfl rfl ?_; refine Z153 ?_; refine z8 (ql L _ rfl rfl rfl rfl rfl rfl rfl (by omega)) rfl ?_; refine qg (qn L (q:=900) rfl rfl rfl rfl rfl q1) rfl rfl ?_; refine z8 (ql L _ rfl rfl rfl rfl rfl rfl rfl (by omega)) rfl ?_; refine x5 (yz L (q:=900) rfl rfl rfl rfl rfl rfl b1 rfl s1) rfl ?_; refine z8 (ql L _ rfl rfl rfl rfl rfl rfl rfl (by omega)) rfl ?_; refine x5 (yz L (q:=900) rfl rfl rfl rfl rfl rfl b2 rfl s2) rfl ?_; refine Z271 ?_; refine Z188 ?_; refine Z27 ?_; refine Z162 ?_
     exact yj (x:=(j + 1, E)) (j, swp E (j + 1) j) ⟨by dsimp only; omega, by dsimp only; rw [zbs]; exact hE, hI⟩ (by dsimp only; omega) ⟨rfl, rfl, rfl, rfl, rfl, rfl, trivial⟩
    | false =>
     rw [insInner, if_neg (by rw [hc]; simp)] at hI
     refine Z147 ?_; refine qf (id:=4) [(200023, [900]), (200028, [900])] mixed (by kernel_rfl) ?_; refine Z153 ?_; refine Z92 ?_; refine Z189 ?_; refine z8 (ql L _ rfl rfl rfl rfl rfl rfl rfl (by omega)) rfl ?_; refine qg (qn L (q:=900) rfl rfl rfl rfl rfl q1) rfl rfl ?_; refine Z252 ?_; refine z8 (ql L _ rfl rfl rfl rfl rfl rfl rfl (by omega)) rfl ?_; refine qg (qn L (q:=900) rfl rfl rfl rfl rfl q2) rfl rfl ?_; refine z8 (zp L rfl rfl (zk rfl) rfl rfl rfl (fun u H hH _ _ => zbg hc hH)) rfl ?_; refine Z282 ?_; refine Z175 ?_
     rw [hI]
     refine Z182 ?_; refine Z206 ?_
     exact yj (x:=(i, D)) (i + 1, insInner lt a i D) ⟨by dsimp only; omega, by dsimp only; omega, by dsimp only; rw [← hI]; exact hE, hO⟩ (by dsimp only; omega) ⟨rfl, rfl, rfl, rfl, rfl, trivial⟩
   ·rw [insInner, if_neg (by simp; omega)] at hI
    rw [hI]
    refine Z147 ?_; refine Z102 ?_; refine Z153 ?_; refine Z95 ?_; refine Z311 ?_; refine Z282 ?_; refine Z175 ?_; refine Z182 ?_; refine Z206 ?_
    exact yj (x:=(i, D)) (i + 1, insInner lt a i D) ⟨by dsimp only; omega, by dsimp only; omega, by dsimp only; rw [← hI]; exact hE, hO⟩ (by dsimp only; omega) ⟨rfl, rfl, rfl, rfl, rfl, trivial⟩
 ·rw [insOuter, if_neg hlt] at hO
  subst hO
  refine Z147 ?_; refine Z20 ?_; refine Z367 ?_; refine Z172 ?_
  exact zbd L 900 (r:=zac b _ tyU) rfl (fun _ _ h => h) Since.refl rfl rfl
end Go.V.So
set_option maxRecDepth 20000
namespace Go.V.So
open Go.Proofs Go.RowKit Go.V Go.Sort
theorem _root_.Go.V.Z53 {A B:Prop} (h:B) (t:Wr B → A:=by intro h; refine z7 (zqz rfl rfl rfl rfl (zaa (by omega) (by omega))) rfl ?_; exact h.h):A:=t ⟨h⟩
theorem _root_.Go.V.Z118 {A B:Prop} (h:B) (t:Wr B → A:=by intro h; refine qf (id:=5) [(200044, [900]), (200050, [900])] mixed (by kernel_rfl) ?_; exact h.h):A:=t ⟨h⟩
theorem _root_.Go.V.Z132 {A B:Prop} (h:B) (t:Wr B → A:=by intro h; refine qf (id:=6) [(200066, [900]), (200072, [900]), (100073, [900]), (100074, [900])] mixed (by kernel_rfl) ?_; exact h.h):A:=t ⟨h⟩
theorem _root_.Go.V.Z137 {A B:Prop} (h:B) (t:Wr B → A:=by intro h; refine qf (id:=3) [(200027, [900]), (200034, [900])] mixed (by kernel_rfl) ?_; exact h.h):A:=t ⟨h⟩
theorem _root_.Go.V.Z214 {A B:Prop} (h:B) (t:Wr B → A:=by intro h; refine Z189 ?_; refine Z33 ?_; exact h.h):A:=t ⟨h⟩
theorem _root_.Go.V.Z216 {A B:Prop} (h:B) (t:Wr B → A:=by intro h; refine Z148 ?_; refine Z27 ?_; exact h.h):A:=t ⟨h⟩
theorem _root_.Go.V.Z236 {A B:Prop} (h:B) (t:Wr B → A:=by intro h; refine Z53 ?_; refine Z18 ?_; exact h.h):A:=t ⟨h⟩
theorem _root_.Go.V.Z238 {A B:Prop} (h:B) (t:Wr B → A:=by intro h; refine Z1 ?_; refine Z27 ?_; exact h.h):A:=t ⟨h⟩
theorem _root_.Go.V.Z306 {A B:Prop} (h:B) (t:Wr B → A:=by intro h; refine Z157 ?_; refine zh ?_; exact h.h):A:=t ⟨h⟩
theorem _root_.Go.V.Z316 {A B:Prop} (h:B) (t:Wr B → A:=by intro h; refine Z153 ?_; refine Z153 ?_; exact h.h):A:=t ⟨h⟩
theorem _root_.Go.V.Z339 {A B:Prop} (h:B) (t:Wr B → A:=by intro h; refine Z3 ?_; refine Z33 ?_; exact h.h):A:=t ⟨h⟩
theorem _root_.Go.V.Z340 {A B:Prop} (h:B) (t:Wr B → A:=by intro h; refine Z155 ?_; refine Z181 ?_; exact h.h):A:=t ⟨h⟩
theorem _root_.Go.V.Z368 {A B:Prop} (h:B) (t:Wr B → A:=by intro h; refine Z160 ?_; refine Z313 ?_; exact h.h):A:=t ⟨h⟩
theorem _root_.Go.V.Z415 {A B:Prop} (h:B) (t:Wr B → A:=by intro h; refine Z186 ?_; refine Z235 ?_; exact h.h):A:=t ⟨h⟩
attribute [local irreducible] V N X VO Par StepOK Has Ret RetL RetO zce zd7 Src
set_option maxHeartbeats 1000000 in
set_option maxRecDepth 20000 in
theorem rev_ret {d:Array Int} {rest:List Value} {b m cap a e:Nat} (hab:a < e) (he:e ≤ d.size) (hm:d.size = m) (hm1:m ≤ 100000) {w:World} {B:Heap} {C:Nat → Prop} (hB:B.Le (hp w))
  (hr:(zac b (uC d ++ rest) tyU).P B w C) (hC:∀ k, C k → k < w.heap.size ∧ B k = none) :
  zce Tryz.prog 105 [.slice (some ⟨b, 0, none⟩) m cap, .int .i64 a, .int .i64 e] w B C (zac b (uC (reverseRange d a e) ++ rest) tyU):=by
 unfold zce
 refine zat 900 (zac b (uC d ++ rest) tyU) Tryz.func105 rfl Tryz.ntmps105 (Nat.le_of_ble_eq_true rfl) hB hr hC ?_
 rw [za4]
 have hw0:IntKind.i64.wrap ((e:Int) - 1) = ((e - 1:Nat):Int):=zaa (by omega) (by omega) |>.trans (by omega)
 refine Z154 ?_; refine Z1 ?_; refine Z168 ?_; refine Z238 ?_; refine Z208 ?_
 refine zal (fun s:(Nat × Nat) × Array Int => [(0, .is (.slice (some ⟨b, 0, none⟩) m cap)), (6, .is (.int .i64 s.1.1)), (7, .is (.int .i64 s.1.2)), (900, .own (zan b (uC s.2 ++ rest) tyU))]) (fun s => s.1.1 ≤ m ∧ s.1.2 < m ∧ s.2.size = m ∧ reverseLoop s.1.1 s.1.2 s.2 = reverseRange d a e) (fun s => s.1.2 - s.1.1) ((a, e - 1), d) ⟨by dsimp only; omega, by dsimp only; omega, hm, rfl⟩ ⟨rfl, rfl, rfl, rfl, trivial⟩ ?_
 rintro ⟨⟨i, j⟩, E⟩ ⟨hi, hj, hE, hO⟩
 dsimp only at hi hj hE hO ⊢
 by_cases hlt:i < j
 ·rw [reverseLoop, if_pos hlt] at hO
  have hw1:IntKind.i64.wrap ((i:Int) + 1) = ((i + 1:Nat):Int):=zaa (by omega) (by omega)
  have hw2:IntKind.i64.wrap ((j:Int) - 1) = ((j - 1:Nat):Int):=zaa (by omega) (by omega) |>.trans (by omega)
  obtain ⟨_, qj⟩:=zdc (rest:=rest) (show j < E.size by omega) (0 + (j) * 1) rfl
  obtain ⟨_, qi⟩:=zdc (rest:=rest) (show i < E.size by omega) (0 + (i) * 1) rfl
  have s1:=zcf (rest:=rest) E[j]! (show i < E.size by omega) (0 + (i) * 1) rfl
  have b1:=zcg (rest:=rest) (show i < E.size by omega) (0 + (i) * 1) rfl
  have hz:j < (E.setIfInBounds (i) E[j]!).size:=by rw [Array.size_setIfInBounds]; omega
  have s2:=zcf (rest:=rest) E[i]! hz (0 + (j) * 1) rfl
  have b2:=zcg (rest:=rest) hz (0 + (j) * 1) rfl
  rw [zdh] at s2
  refine Z323 ?_; refine Z415 ?_; refine qf (id:=3) [(200021, [900]), (200025, [900]), (100026, [900]), (100027, [900])] mixed (by kernel_rfl) ?_; refine Z316 ?_; refine Z153 ?_; refine z8 (ql L _ rfl rfl rfl rfl rfl rfl rfl (by omega)) rfl ?_; refine qg (qn L (q:=900) rfl rfl rfl rfl rfl qj) rfl rfl ?_; refine Z153 ?_; refine z8 (ql L _ rfl rfl rfl rfl rfl rfl rfl (by omega)) rfl ?_; refine qg (qn L (q:=900) rfl rfl rfl rfl rfl qi) rfl rfl ?_; refine z8 (ql L _ rfl rfl rfl rfl rfl rfl rfl (by omega)) rfl ?_; refine x5 (yz L (q:=900) rfl rfl rfl rfl rfl rfl b1 rfl s1) rfl ?_; refine z8 (ql L _ rfl rfl rfl rfl rfl rfl rfl (by omega)) rfl ?_; refine x5 (yz L (q:=900) rfl rfl rfl rfl rfl rfl b2 rfl s2) rfl ?_; refine Z306 ?_; refine Z173 ?_; refine Z18 ?_; refine Z146 ?_; refine Z188 ?_; refine Z27 ?_; refine Z255 ?_
  exact yj (x:=((i, j), E)) ((i + 1, j - 1), swp E i j) ⟨by dsimp only; omega, by dsimp only; omega, by dsimp only; rw [zbs]; exact hE, hO⟩ (by dsimp only; omega) ⟨rfl, rfl, rfl, rfl, trivial⟩
 ·rw [reverseLoop, if_neg hlt] at hO
  subst hO
  refine Z323 ?_; refine Z10 ?_; refine Z149 ?_; refine Z172 ?_
  exact zbd L 900 (r:=zac b _ tyU) rfl (fun _ _ h => h) Since.refl rfl rfl
set_option maxHeartbeats 1000000 in
set_option maxRecDepth 20000 in
theorem zqs {d:Array Int} {rest:List Value} {b m cap lo hi first:Nat} (hlo:lo ≤ hi) (hf:first + hi ≤ d.size) (hm:d.size = m) (hm1:m ≤ 100000) {w:World} {B:Heap} {C:Nat → Prop} (hB:B.Le (hp w))
  (hr:(zac b (uC d ++ rest) tyU).P B w C) (hC:∀ k, C k → k < w.heap.size ∧ B k = none) :
  zce Tryz.prog 148 [.slice (some ⟨b, 0, none⟩) m cap, .int .i64 lo, .int .i64 hi, .int .i64 first] w B C (zac b (uC (siftDown lt hi first lo d) ++ rest) tyU):=by
 unfold zce
 refine zat 900 (zac b (uC d ++ rest) tyU) Tryz.func148 rfl Tryz.ntmps148 (Nat.le_of_ble_eq_true rfl) hB hr hC ?_
 rw [za4]
 refine Z154 ?_; refine Z1 ?_; refine Z208 ?_
 refine zal (fun s:Nat × Array Int => [(0, .is (.slice (some ⟨b, 0, none⟩) m cap)), (2, .is (.int .i64 hi)), (3, .is (.int .i64 first)), (8, .is (.int .i64 s.1)), (900, .own (zan b (uC s.2 ++ rest) tyU))]) (fun s => s.1 ≤ hi ∧ s.2.size = m ∧ siftDown lt hi first s.1 s.2 = siftDown lt hi first lo d) (fun s => hi - s.1) (lo, d) ⟨hlo, hm, rfl⟩ ⟨rfl, rfl, rfl, rfl, rfl, trivial⟩ ?_
 rintro ⟨r, E⟩ ⟨hr0, hE, hO⟩
 dsimp only at hr0 hE hO ⊢
 have hw1:IntKind.i64.wrap (2 * (r:Int)) = ((2 * r:Nat):Int):=zaa (by omega) (by omega) |>.trans (by omega)
 have hw2:IntKind.i64.wrap (((2 * r:Nat):Int) + 1) = ((2 * r + 1:Nat):Int):=zaa (by omega) (by omega)
 by_cases hend:hi ≤ 2 * r + 1
 ·rw [siftDown, dif_pos (by omega)] at hO
  subst hO
  refine Z368 ?_; refine Z236 ?_; refine Z155 ?_; refine Z244 ?_; refine Z267 ?_; refine Z170 ?_; refine zk1 rfl ?_; refine y8 ?_; refine yu ?_
  exact zbd L 900 (r:=zac b _ tyU) rfl (fun _ _ h => h) Since.refl rfl rfl
 ·rw [siftDown, dif_neg (by omega)] at hO
  have hw3:IntKind.i64.wrap (((2 * r + 1:Nat):Int) + 1) = ((2 * r + 2:Nat):Int):=zaa (by omega) (by omega)
  have hw4:IntKind.i64.wrap ((first:Int) + ((2 * r + 1:Nat):Int)) = ((first + (2 * r + 1):Nat):Int):=zaa (by omega) (by omega)
  have hw5:IntKind.i64.wrap (((first + (2 * r + 1):Nat):Int) + 1) = ((first + (2 * r + 2):Nat):Int):=zaa (by omega) (by omega)
  have hw6:IntKind.i64.wrap ((first:Int) + (r:Int)) = ((first + r:Nat):Int):=zaa (by omega) (by omega)
  have hw7:IntKind.i64.wrap ((first:Int) + ((2 * r + 2:Nat):Int)) = ((first + (2 * r + 2):Nat):Int):=zaa (by omega) (by omega)
  obtain ⟨_, qr⟩:=zdc (rest:=rest) (show first + r < E.size by omega) (0 + (first + r) * 1) rfl
  by_cases h2:2 * r + 2 < hi
  ·obtain ⟨_, q1⟩:=zdc (rest:=rest) (show first + (2 * r + 1) < E.size by omega) (0 + (first + (2 * r + 1)) * 1) rfl
   obtain ⟨_, q2⟩:=zdc (rest:=rest) (show first + (2 * r + 2) < E.size by omega) (0 + (first + (2 * r + 2)) * 1) rfl
   have e2:first + (2 * r + 1) + 1 = first + (2 * r + 2):=by omega
   rw [e2] at hO
   cases hc:lt E[first + (2 * r + 1)]! E[first + (2 * r + 2)]! with
   | true =>
    rw [if_pos (by rw [hc]; simp; omega)] at hO
    have qc:=q2
    cases hc2:lt E[first + r]! E[first + (2 * r + 2)]! with
    | false =>
     rw [hc2] at hO
     simp only [Bool.not_false, if_true] at hO
     subst hO
     refine Z368 ?_; refine Z236 ?_; refine Z155 ?_; refine Z244 ?_; refine Z46 ?_; refine Z177 ?_; refine Z137 ?_; refine Z339 ?_; refine Z3 ?_; refine Z75 ?_; refine Z316 ?_; refine Z33 ?_; refine z8 (ql L _ rfl rfl rfl rfl rfl rfl rfl (by omega)) rfl ?_; refine qg (qn L (q:=900) rfl rfl rfl rfl rfl q1) rfl rfl ?_; refine Z214 ?_; refine Z33 ?_; refine z8 (ql L _ rfl rfl rfl rfl rfl rfl rfl (by omega)) rfl ?_; refine qg (qn L (q:=900) rfl rfl rfl rfl rfl q2) rfl rfl ?_; refine z8 (zp L rfl rfl (zk rfl) rfl rfl rfl (fun u H hH _ _ => zbg hc hH)) rfl ?_; refine Z295 ?_; refine Z173 ?_; refine Z18 ?_; refine Z155 ?_; refine Z118 ?_; refine Z214 ?_; refine z8 (ql L _ rfl rfl rfl rfl rfl rfl rfl (by omega)) rfl ?_; refine qg (qn L (q:=900) rfl rfl rfl rfl rfl qr) rfl rfl ?_; refine Z214 ?_; refine z8 (ql L _ rfl rfl rfl rfl rfl rfl rfl (by omega)) rfl ?_; refine qg (qn L (q:=900) rfl rfl rfl rfl rfl qc) rfl rfl ?_; refine z8 (zp L rfl rfl (zk rfl) rfl rfl rfl (fun u H hH _ _ => zbg hc2 hH)) rfl ?_; refine Z62 ?_; refine Z157 ?_; refine Z13 ?_
     exact zbk L 900 (r:=zac b _ tyU) rfl (fun _ _ h => h) Since.refl rfl rfl
    | true =>
     rw [hc2] at hO
     simp only [Bool.not_true, Bool.false_eq_true, if_false] at hO
     rw [dif_pos (by omega)] at hO
     obtain ⟨_, qj⟩:=zdc (rest:=rest) (show first + (2 * r + 2) < E.size by omega) (0 + (first + (2 * r + 2)) * 1) rfl
     obtain ⟨_, qi⟩:=zdc (rest:=rest) (show first + r < E.size by omega) (0 + (first + r) * 1) rfl
     have s1:=zcf (rest:=rest) E[first + (2 * r + 2)]! (show first + r < E.size by omega) (0 + (first + r) * 1) rfl
     have b1:=zcg (rest:=rest) (show first + r < E.size by omega) (0 + (first + r) * 1) rfl
     have hz:first + (2 * r + 2) < (E.setIfInBounds (first + r) E[first + (2 * r + 2)]!).size:=by rw [Array.size_setIfInBounds]; omega
     have s2:=zcf (rest:=rest) E[first + r]! hz (0 + (first + (2 * r + 2)) * 1) rfl
     have b2:=zcg (rest:=rest) hz (0 + (first + (2 * r + 2)) * 1) rfl
     rw [zdh] at s2
     refine Z368 ?_; refine Z236 ?_; refine Z155 ?_; refine Z244 ?_; refine Z46 ?_; refine Z177 ?_; refine Z137 ?_; refine Z339 ?_; refine Z3 ?_; refine Z75 ?_; refine Z316 ?_; refine Z33 ?_; refine z8 (ql L _ rfl rfl rfl rfl rfl rfl rfl (by omega)) rfl ?_; refine qg (qn L (q:=900) rfl rfl rfl rfl rfl q1) rfl rfl ?_; refine Z214 ?_; refine Z33 ?_; refine z8 (ql L _ rfl rfl rfl rfl rfl rfl rfl (by omega)) rfl ?_; refine qg (qn L (q:=900) rfl rfl rfl rfl rfl q2) rfl rfl ?_; refine z8 (zp L rfl rfl (zk rfl) rfl rfl rfl (fun u H hH _ _ => zbg hc hH)) rfl ?_; refine Z295 ?_; refine Z173 ?_; refine Z18 ?_; refine Z155 ?_; refine Z118 ?_; refine Z214 ?_; refine z8 (ql L _ rfl rfl rfl rfl rfl rfl rfl (by omega)) rfl ?_; refine qg (qn L (q:=900) rfl rfl rfl rfl rfl qr) rfl rfl ?_; refine Z214 ?_; refine z8 (ql L _ rfl rfl rfl rfl rfl rfl rfl (by omega)) rfl ?_; refine qg (qn L (q:=900) rfl rfl rfl rfl rfl qc) rfl rfl ?_; refine z8 (zp L rfl rfl (zk rfl) rfl rfl rfl (fun u H hH _ _ => zbg hc2 hH)) rfl ?_; refine Z62 ?_; refine Z265 ?_; refine Z156 ?_; refine Z132 ?_; refine Z214 ?_; refine Z214 ?_; refine Z214 ?_; refine z8 (ql L _ rfl rfl rfl rfl rfl rfl rfl (by omega)) rfl ?_; refine qg (qn L (q:=900) rfl rfl rfl rfl rfl qj) rfl rfl ?_; refine Z214 ?_; refine z8 (ql L _ rfl rfl rfl rfl rfl rfl rfl (by omega)) rfl ?_; refine qg (qn L (q:=900) rfl rfl rfl rfl rfl qi) rfl rfl ?_; refine z8 (ql L _ rfl rfl rfl rfl rfl rfl rfl (by omega)) rfl ?_; refine x5 (yz L (q:=900) rfl rfl rfl rfl rfl rfl b1 rfl s1) rfl ?_; refine z8 (ql L _ rfl rfl rfl rfl rfl rfl rfl (by omega)) rfl ?_; refine x5 (yz L (q:=900) rfl rfl rfl rfl rfl rfl b2 rfl s2) rfl ?_; refine Z157 ?_; refine Z204 ?_; refine Z255 ?_
     exact yj (x:=(r, E)) (2 * r + 2, swp E (first + r) (first + (2 * r + 2))) ⟨by dsimp only; omega, by dsimp only; rw [zbs]; exact hE, hO⟩ (by dsimp only; omega) ⟨rfl, rfl, rfl, rfl, rfl, trivial⟩
   | false =>
    rw [if_neg (by rw [hc]; simp)] at hO
    have qc:=q1
    cases hc2:lt E[first + r]! E[first + (2 * r + 1)]! with
    | false =>
     rw [hc2] at hO
     simp only [Bool.not_false, if_true] at hO
     subst hO
     refine Z368 ?_; refine Z236 ?_; refine Z155 ?_; refine Z244 ?_; refine Z46 ?_; refine Z177 ?_; refine Z137 ?_; refine Z339 ?_; refine Z3 ?_; refine Z75 ?_; refine Z316 ?_; refine Z33 ?_; refine z8 (ql L _ rfl rfl rfl rfl rfl rfl rfl (by omega)) rfl ?_; refine qg (qn L (q:=900) rfl rfl rfl rfl rfl q1) rfl rfl ?_; refine Z214 ?_; refine Z33 ?_; refine z8 (ql L _ rfl rfl rfl rfl rfl rfl rfl (by omega)) rfl ?_; refine qg (qn L (q:=900) rfl rfl rfl rfl rfl q2) rfl rfl ?_; refine z8 (zp L rfl rfl (zk rfl) rfl rfl rfl (fun u H hH _ _ => zbg hc hH)) rfl ?_; refine Z211 ?_; refine Z174 ?_; refine Z118 ?_; refine Z214 ?_; refine z8 (ql L _ rfl rfl rfl rfl rfl rfl rfl (by omega)) rfl ?_; refine qg (qn L (q:=900) rfl rfl rfl rfl rfl qr) rfl rfl ?_; refine Z214 ?_; refine z8 (ql L _ rfl rfl rfl rfl rfl rfl rfl (by omega)) rfl ?_; refine qg (qn L (q:=900) rfl rfl rfl rfl rfl qc) rfl rfl ?_; refine z8 (zp L rfl rfl (zk rfl) rfl rfl rfl (fun u H hH _ _ => zbg hc2 hH)) rfl ?_; refine Z62 ?_; refine Z157 ?_; refine Z13 ?_
     exact zbk L 900 (r:=zac b _ tyU) rfl (fun _ _ h => h) Since.refl rfl rfl
    | true =>
     rw [hc2] at hO
     simp only [Bool.not_true, Bool.false_eq_true, if_false] at hO
     obtain ⟨_, qj⟩:=zdc (rest:=rest) (show first + (2 * r + 1) < E.size by omega) (0 + (first + (2 * r + 1)) * 1) rfl
     obtain ⟨_, qi⟩:=zdc (rest:=rest) (show first + r < E.size by omega) (0 + (first + r) * 1) rfl
     have s1:=zcf (rest:=rest) E[first + (2 * r + 1)]! (show first + r < E.size by omega) (0 + (first + r) * 1) rfl
     have b1:=zcg (rest:=rest) (show first + r < E.size by omega) (0 + (first + r) * 1) rfl
     have hz:first + (2 * r + 1) < (E.setIfInBounds (first + r) E[first + (2 * r + 1)]!).size:=by rw [Array.size_setIfInBounds]; omega
     have s2:=zcf (rest:=rest) E[first + r]! hz (0 + (first + (2 * r + 1)) * 1) rfl
     have b2:=zcg (rest:=rest) hz (0 + (first + (2 * r + 1)) * 1) rfl
     rw [zdh] at s2
     refine Z368 ?_; refine Z236 ?_; refine Z155 ?_; refine Z244 ?_; refine Z46 ?_; refine Z177 ?_; refine Z137 ?_; refine Z339 ?_; refine Z3 ?_; refine Z75 ?_; refine Z316 ?_; refine Z33 ?_; refine z8 (ql L _ rfl rfl rfl rfl rfl rfl rfl (by omega)) rfl ?_; refine qg (qn L (q:=900) rfl rfl rfl rfl rfl q1) rfl rfl ?_; refine Z214 ?_; refine Z33 ?_; refine z8 (ql L _ rfl rfl rfl rfl rfl rfl rfl (by omega)) rfl ?_; refine qg (qn L (q:=900) rfl rfl rfl rfl rfl q2) rfl rfl ?_; refine z8 (zp L rfl rfl (zk rfl) rfl rfl rfl (fun u H hH _ _ => zbg hc hH)) rfl ?_; refine Z211 ?_; refine Z174 ?_; refine Z118 ?_; refine Z214 ?_; refine z8 (ql L _ rfl rfl rfl rfl rfl rfl rfl (by omega)) rfl ?_; refine qg (qn L (q:=900) rfl rfl rfl rfl rfl qr) rfl rfl ?_; refine Z214 ?_; refine z8 (ql L _ rfl rfl rfl rfl rfl rfl rfl (by omega)) rfl ?_; refine qg (qn L (q:=900) rfl rfl rfl rfl rfl qc) rfl rfl ?_; refine z8 (zp L rfl rfl (zk rfl) rfl rfl rfl (fun u H hH _ _ => zbg hc2 hH)) rfl ?_; refine Z62 ?_; refine Z265 ?_; refine Z156 ?_; refine Z132 ?_; refine Z214 ?_; refine Z214 ?_; refine Z214 ?_; refine z8 (ql L _ rfl rfl rfl rfl rfl rfl rfl (by omega)) rfl ?_; refine qg (qn L (q:=900) rfl rfl rfl rfl rfl qj) rfl rfl ?_; refine Z214 ?_; refine z8 (ql L _ rfl rfl rfl rfl rfl rfl rfl (by omega)) rfl ?_; refine qg (qn L (q:=900) rfl rfl rfl rfl rfl qi) rfl rfl ?_; refine z8 (ql L _ rfl rfl rfl rfl rfl rfl rfl (by omega)) rfl ?_; refine x5 (yz L (q:=900) rfl rfl rfl rfl rfl rfl b1 rfl s1) rfl ?_; refine z8 (ql L _ rfl rfl rfl rfl rfl rfl rfl (by omega)) rfl ?_; refine x5 (yz L (q:=900) rfl rfl rfl rfl rfl rfl b2 rfl s2) rfl ?_; refine Z157 ?_; refine Z204 ?_; refine Z255 ?_
     exact yj (x:=(r, E)) (2 * r + 1, swp E (first + r) (first + (2 * r + 1))) ⟨by dsimp only; omega, by dsimp only; rw [zbs]; exact hE, hO⟩ (by dsimp only; omega) ⟨rfl, rfl, rfl, rfl, rfl, trivial⟩
  ·rw [if_neg (by simp; omega)] at hO
   obtain ⟨_, qc⟩:=zdc (rest:=rest) (show first + (2 * r + 1) < E.size by omega) (0 + (first + (2 * r + 1)) * 1) rfl
   cases hc2:lt E[first + r]! E[first + (2 * r + 1)]! with
   | false =>
    rw [hc2] at hO
    simp only [Bool.not_false, if_true] at hO
    subst hO
    refine Z368 ?_; refine Z236 ?_; refine Z155 ?_; refine Z244 ?_; refine Z46 ?_; refine Z177 ?_; refine Z87 ?_; refine Z339 ?_; refine Z3 ?_; refine Z91 ?_; refine Z240 ?_; refine Z187 ?_; refine Z159 ?_; refine Z211 ?_; refine Z174 ?_; refine Z118 ?_; refine Z214 ?_; refine z8 (ql L _ rfl rfl rfl rfl rfl rfl rfl (by omega)) rfl ?_; refine qg (qn L (q:=900) rfl rfl rfl rfl rfl qr) rfl rfl ?_; refine Z214 ?_; refine z8 (ql L _ rfl rfl rfl rfl rfl rfl rfl (by omega)) rfl ?_; refine qg (qn L (q:=900) rfl rfl rfl rfl rfl qc) rfl rfl ?_; refine z8 (zp L rfl rfl (zk rfl) rfl rfl rfl (fun u H hH _ _ => zbg hc2 hH)) rfl ?_; refine Z62 ?_; refine Z157 ?_; refine Z13 ?_
    exact zbk L 900 (r:=zac b _ tyU) rfl (fun _ _ h => h) Since.refl rfl rfl
   | true =>
    rw [hc2] at hO
    simp only [Bool.not_true, Bool.false_eq_true, if_false] at hO
    obtain ⟨_, qj⟩:=zdc (rest:=rest) (show first + (2 * r + 1) < E.size by omega) (0 + (first + (2 * r + 1)) * 1) rfl
    obtain ⟨_, qi⟩:=zdc (rest:=rest) (show first + r < E.size by omega) (0 + (first + r) * 1) rfl
    have s1:=zcf (rest:=rest) E[first + (2 * r + 1)]! (show first + r < E.size by omega) (0 + (first + r) * 1) rfl
    have b1:=zcg (rest:=rest) (show first + r < E.size by omega) (0 + (first + r) * 1) rfl
    have hz:first + (2 * r + 1) < (E.setIfInBounds (first + r) E[first + (2 * r + 1)]!).size:=by rw [Array.size_setIfInBounds]; omega
    have s2:=zcf (rest:=rest) E[first + r]! hz (0 + (first + (2 * r + 1)) * 1) rfl
    have b2:=zcg (rest:=rest) hz (0 + (first + (2 * r + 1)) * 1) rfl
    rw [zdh] at s2
    refine Z368 ?_; refine Z236 ?_; refine Z155 ?_; refine Z244 ?_; refine Z46 ?_; refine Z177 ?_; refine Z87 ?_; refine Z339 ?_; refine Z3 ?_; refine Z91 ?_; refine Z240 ?_; refine Z187 ?_; refine Z159 ?_; refine Z211 ?_; refine Z174 ?_; refine Z118 ?_; refine Z214 ?_; refine z8 (ql L _ rfl rfl rfl rfl rfl rfl rfl (by omega)) rfl ?_; refine qg (qn L (q:=900) rfl rfl rfl rfl rfl qr) rfl rfl ?_; refine Z214 ?_; refine z8 (ql L _ rfl rfl rfl rfl rfl rfl rfl (by omega)) rfl ?_; refine qg (qn L (q:=900) rfl rfl rfl rfl rfl qc) rfl rfl ?_; refine z8 (zp L rfl rfl (zk rfl) rfl rfl rfl (fun u H hH _ _ => zbg hc2 hH)) rfl ?_; refine Z62 ?_; refine Z265 ?_; refine Z156 ?_; refine Z132 ?_; refine Z214 ?_; refine Z214 ?_; refine Z214 ?_; refine z8 (ql L _ rfl rfl rfl rfl rfl rfl rfl (by omega)) rfl ?_; refine qg (qn L (q:=900) rfl rfl rfl rfl rfl qj) rfl rfl ?_; refine Z214 ?_; refine z8 (ql L _ rfl rfl rfl rfl rfl rfl rfl (by omega)) rfl ?_; refine qg (qn L (q:=900) rfl rfl rfl rfl rfl qi) rfl rfl ?_; refine z8 (ql L _ rfl rfl rfl rfl rfl rfl rfl (by omega)) rfl ?_; refine x5 (yz L (q:=900) rfl rfl rfl rfl rfl rfl b1 rfl s1) rfl ?_; refine z8 (ql L _ rfl rfl rfl rfl rfl rfl rfl (by omega)) rfl ?_; refine x5 (yz L (q:=900) rfl rfl rfl rfl rfl rfl b2 rfl s2) rfl ?_; refine Z157 ?_; refine Z204 ?_; refine Z255 ?_
    exact yj (x:=(r, E)) (2 * r + 1, swp E (first + r) (first + (2 * r + 1))) ⟨by dsimp only; omega, by dsimp only; rw [zbs]; exact hE, hO⟩ (by dsimp only; omega) ⟨rfl, rfl, rfl, rfl, rfl, trivial⟩
theorem zns (hi first:Nat):∀ (n root:Nat) (d:Array Int), hi - root ≤ n → (siftDown lt hi first root d).size = d.size:=by
 intro n
 induction n with
 | zero =>
  intro root d h
  rw [siftDown, dif_pos (by omega)]
 | succ n ih =>
  intro root d h
  rw [siftDown]
  split
  ·rfl
  ·split
   ·split
    ·rfl
    ·split
     ·rw [ih _ _ (by omega), zbs]
     ·rfl
   ·split
    ·rfl
    ·rw [ih _ _ (by omega), zbs]
set_option maxHeartbeats 1000000 in
set_option maxRecDepth 20000 in
theorem zye {d:Array Int} {rest:List Value} {b m cap a e:Nat} (hab:a < e) (he:e ≤ d.size) (hm:d.size = m) (hm1:m ≤ 100000) {w:World} {B:Heap} {C:Nat → Prop} (hB:B.Le (hp w))
  (hr:(zac b (uC d ++ rest) tyU).P B w C) (hC:∀ k, C k → k < w.heap.size ∧ B k = none) :
  zce Tryz.prog 102 [.slice (some ⟨b, 0, none⟩) m cap, .int .i64 a, .int .i64 e] w B C (zac b (uC (heapSort lt d a e) ++ rest) tyU):=by
 unfold zce
 refine zat 900 (zac b (uC d ++ rest) tyU) Tryz.func102 rfl Tryz.ntmps102 (Nat.le_of_ble_eq_true rfl) hB hr hC ?_
 rw [za4]
 have hw0:IntKind.i64.wrap ((e:Int) - (a:Int)) = ((e - a:Nat):Int):=zaa (by omega) (by omega) |>.trans (by omega)
 have hw1:IntKind.i64.wrap (((e - a:Nat):Int) - 1) = ((e - a - 1:Nat):Int):=zaa (by omega) (by omega) |>.trans (by omega)
 have et:((e - a - 1:Nat):Int).tdiv 2 = (((e - a - 1) / 2 + 1:Nat):Int) - 1:=by
  rw [Int.tdiv_eq_ediv_of_nonneg (by omega)]
  omega
 have hw2:IntKind.i64.wrap (((e - a - 1:Nat):Int).tdiv 2) = (((e - a - 1) / 2 + 1:Nat):Int) - 1:=by rw [et]; exact zaa (by omega) (by omega)
 refine Z154 ?_; refine Z1 ?_; refine Z168 ?_; refine Z151 ?_; refine Z32 ?_; refine Z216 ?_; refine Z340 ?_; refine Z27 ?_; refine Z50 ?_; refine Z208 ?_
 refine zal (fun s:Nat × Array Int => [(0, .is (.slice (some ⟨b, 0, none⟩) m cap)), (6, .is (.int .i64 a)), (7, .is (.int .i64 0)), (8, .is (.int .i64 (e - a:Nat))), (9, .is (.int .i64 ((s.1:Int) - 1))), (900, .own (zan b (uC s.2 ++ rest) tyU))]) (fun s => s.1 ≤ (e - a - 1) / 2 + 1 ∧ s.2.size = m ∧ heapBuild lt (e - a) a s.1 s.2 = heapBuild lt (e - a) a ((e - a - 1) / 2 + 1) d) (fun s => s.1) ((e - a - 1) / 2 + 1, d) ⟨Nat.le_refl _, hm, rfl⟩ ⟨rfl, rfl, rfl, rfl, rfl, rfl, trivial⟩ ?_
 rintro ⟨k, E⟩ ⟨hk, hE, hO⟩
 dsimp only at hk hE hO ⊢
 rcases k with _ | k
 ·have e9:(((0:Nat):Int) - 1) = -1:=rfl
  rw [e9]
  refine Z226 ?_; refine Z46 ?_; refine Z328 ?_
  rw [heapBuild] at hO
  have e10:((e - a - 1:Nat):Int) = ((e - a:Nat):Int) - 1:=by omega
  rw [e10] at hw1
  refine Z204 ?_; refine Z27 ?_; refine Z208 ?_
  refine zal (fun s:Nat × Array Int => [(0, .is (.slice (some ⟨b, 0, none⟩) m cap)), (6, .is (.int .i64 a)), (7, .is (.int .i64 0)), (10, .is (.int .i64 ((s.1:Int) - 1))), (900, .own (zan b (uC s.2 ++ rest) tyU))]) (fun s => s.1 ≤ e - a ∧ s.2.size = m ∧ heapPop lt a s.1 s.2 = heapPop lt a (e - a) E) (fun s => s.1) (e - a, E) ⟨Nat.le_refl _, hE, rfl⟩ ⟨rfl, rfl, rfl, rfl, rfl, trivial⟩ ?_
  rintro ⟨j, G⟩ ⟨hj, hG, hP⟩
  dsimp only at hj hG hP ⊢
  rcases j with _ | j
  ·rw [e9]
   rw [heapPop] at hP
   have:G = heapSort lt d a e:=by unfold heapSort; rw [← hO, hP]
   subst this
   refine Z330 ?_; refine Z46 ?_; refine Z149 ?_; refine Z172 ?_
   exact zbd L 900 (r:=zac b _ tyU) rfl (fun _ _ h => h) Since.refl rfl rfl
  ·have e8:(((j + 1:Nat):Int) - 1) = (j:Int):=by omega
   rw [heapPop] at hP
   rw [e8]
   have hw3:IntKind.i64.wrap ((a:Int) + (j:Int)) = ((a + j:Nat):Int):=zaa (by omega) (by omega)
   have hw4:IntKind.i64.wrap ((j:Int) - 1) = (j:Int) - 1:=zaa (by omega) (by omega)
   have hsz:=zbs G a (a + j)
   have hss:=zns j a j 0 (swp G a (a + j)) (by omega)
   obtain ⟨_, qj⟩:=zdc (rest:=rest) (show a + j < G.size by omega) (0 + (a + j) * 1) rfl
   obtain ⟨_, qi⟩:=zdc (rest:=rest) (show a < G.size by omega) (0 + (a) * 1) rfl
   have s1:=zcf (rest:=rest) G[a + j]! (show a < G.size by omega) (0 + (a) * 1) rfl
   have b1:=zcg (rest:=rest) (show a < G.size by omega) (0 + (a) * 1) rfl
   have hz:a + j < (G.setIfInBounds (a) G[a + j]!).size:=by rw [Array.size_setIfInBounds]; omega
   have s2:=zcf (rest:=rest) G[a]! hz (0 + (a + j) * 1) rfl
   have b2:=zcg (rest:=rest) hz (0 + (a + j) * 1) rfl
   rw [zdh] at s2
   refine Z330 ?_; refine Z267 ?_; refine Z178 ?_; refine qf (id:=10) [(200044, [900]), (200048, [900]), (100049, [900]), (100050, [900])] mixed (by kernel_rfl) ?_; refine Z153 ?_; refine Z214 ?_; refine Z214 ?_; refine z8 (ql L _ rfl rfl rfl rfl rfl rfl rfl (by omega)) rfl ?_; refine qg (qn L (q:=900) rfl rfl rfl rfl rfl qj) rfl rfl ?_; refine Z153 ?_; refine z8 (ql L _ rfl rfl rfl rfl rfl rfl rfl (by omega)) rfl ?_; refine qg (qn L (q:=900) rfl rfl rfl rfl rfl qi) rfl rfl ?_; refine z8 (ql L _ rfl rfl rfl rfl rfl rfl rfl (by omega)) rfl ?_; refine x5 (yz L (q:=900) rfl rfl rfl rfl rfl rfl b1 rfl s1) rfl ?_; refine z8 (ql L _ rfl rfl rfl rfl rfl rfl rfl (by omega)) rfl ?_; refine x5 (yz L (q:=900) rfl rfl rfl rfl rfl rfl b2 rfl s2) rfl ?_; refine Z157 ?_; refine Z67 ?_; refine Z232 ?_; refine qq (za3 L 900 (zac b (uC (siftDown lt j a 0 (swp G a (a + j))) ++ rest) tyU) (r:=zac b (uC (swp G a (a + j)) ++ rest) tyU) rfl rfl rfl rfl rfl (fun u H C hH _ hr hC => zqs (Nat.zero_le _) (by omega) (by omega) hm1 hH hr hC)) ?_; refine Z248 ?_; refine Z60 ?_; refine Z238 ?_; refine Z162 ?_
   exact yj (x:=(j + 1, G)) (j, siftDown lt j a 0 (swp G a (a + j))) ⟨by dsimp only; omega, by dsimp only; omega, hP⟩ (by dsimp only; omega) ⟨rfl, rfl, rfl, rfl, rfl, trivial⟩
 ·have e8:(((k + 1:Nat):Int) - 1) = (k:Int):=by omega
  rw [heapBuild] at hO
  rw [e8]
  have hw4:IntKind.i64.wrap ((k:Int) - 1) = (k:Int) - 1:=zaa (by omega) (by omega)
  have hss:=zns (e - a) a (e - a) k E (by omega)
  refine Z226 ?_; refine Z267 ?_; refine Z243 ?_; refine Z43 ?_; refine Z232 ?_; refine qq (za3 L 900 (zac b (uC (siftDown lt (e - a) a k E) ++ rest) tyU) (r:=zac b (uC E ++ rest) tyU) rfl rfl rfl rfl rfl (fun u H C hH _ hr hC => zqs (by omega) (by omega) (by omega) hm1 hH hr hC)) ?_; refine Z248 ?_; refine Z188 ?_; refine Z27 ?_; refine Z162 ?_
  exact yj (x:=(k + 1, E)) (k, siftDown lt (e - a) a k E) ⟨by dsimp only; omega, by dsimp only; omega, hO⟩ (by dsimp only; omega) ⟨rfl, rfl, rfl, rfl, rfl, rfl, trivial⟩
end Go.V.So
set_option maxRecDepth 20000
namespace Go.V.So
open Go.Proofs Go.RowKit Go.V Go.Sort
theorem _root_.Go.V.Z138 {A B:Prop} (h:B) (t:Wr B → A:=by intro h; refine qf (id:=5) [(200053, [900]), (200057, [900])] mixed (by kernel_rfl) ?_; exact h.h):A:=t ⟨h⟩
theorem _root_.Go.V.Z217 {A B:Prop} (h:B) (t:Wr B → A:=by intro h; refine Z18 ?_; refine Z162 ?_; exact h.h):A:=t ⟨h⟩
theorem _root_.Go.V.Z369 {A B:Prop} (h:B) (t:Wr B → A:=by intro h; refine Z153 ?_; refine Z83 ?_; exact h.h):A:=t ⟨h⟩
theorem _root_.Go.V.Z370 {A B:Prop} (h:B) (t:Wr B → A:=by intro h; refine Z369 ?_; refine Z189 ?_; exact h.h):A:=t ⟨h⟩
theorem _root_.Go.V.Z371 {A B:Prop} (h:B) (t:Wr B → A:=by intro h; refine Z173 ?_; refine Z217 ?_; exact h.h):A:=t ⟨h⟩
attribute [local irreducible] V N X VO Par StepOK Has Ret RetL RetO zce zd7 Src
theorem zdk {p:Int → Bool} {d:Array Int} {j i:Nat} (h:¬ (i ≤ j ∧ p d[i]! = true)):scanUp p d j i = i:=by
 rw [scanUp, if_neg]
 simpa using h
theorem zjx {p:Int → Bool} {d:Array Int} {j i:Nat} (h1:i ≤ j) (h2:p d[i]! = true):scanUp p d j i = scanUp p d j (i + 1):=by
 rw [scanUp, if_pos (by simp [h1, h2])]
theorem zcs {p:Int → Bool} {d:Array Int} {i j:Nat} (h:¬ (i ≤ j ∧ p d[j]! = true)):scanDown p d i j = j:=by
 cases j with
 | zero => rfl
 | succ j => rw [scanDown, if_neg]; simpa using h
theorem zgy {p:Int → Bool} {d:Array Int} {i j:Nat} (h1:i ≤ j + 1) (h2:p d[j + 1]! = true):scanDown p d i (j + 1) = scanDown p d i j:=by
 rw [scanDown, if_pos (by simp [h1, h2])]
set_option maxHeartbeats 2000000 in
set_option maxRecDepth 20000 in
theorem zep {d:Array Int} {rest:List Value} {b m cap a e p:Nat} (hap:a ≤ p) (hpe:p < e) (he:e ≤ d.size) (hm:d.size = m) (hm1:m ≤ 100000) {w:World} {B:Heap} {C:Nat → Prop} (hB:B.Le (hp w))
  (hr:(zac b (uC d ++ rest) tyU).P B w C) (hC:∀ k, C k → k < w.heap.size ∧ B k = none) :
  zd7 Tryz.prog 109 [.slice (some ⟨b, 0, none⟩) m cap, .int .i64 a, .int .i64 e, .int .i64 p] w B C (zac b (uC (Go.Sort.partition lt d a e p).2.2 ++ rest) tyU) (.tuple #[.int .i64 (Go.Sort.partition lt d a e p).1, .bool (Go.Sort.partition lt d a e p).2.1]):=by
 unfold zd7
 refine zat 900 (zac b (uC d ++ rest) tyU) Tryz.func109 rfl Tryz.ntmps109 (Nat.le_of_ble_eq_true rfl) hB hr hC ?_
 rw [za4]
 obtain ⟨_, qj⟩:=zdc (rest:=rest) (show p < d.size by omega) (0 + (p) * 1) rfl
 obtain ⟨_, qi⟩:=zdc (rest:=rest) (show a < d.size by omega) (0 + (a) * 1) rfl
 have s1:=zcf (rest:=rest) d[p]! (show a < d.size by omega) (0 + (a) * 1) rfl
 have b1:=zcg (rest:=rest) (show a < d.size by omega) (0 + (a) * 1) rfl
 have hz:p < (d.setIfInBounds (a) d[p]!).size:=by rw [Array.size_setIfInBounds]; omega
 have s2:=zcf (rest:=rest) d[a]! hz (0 + (p) * 1) rfl
 have b2:=zcg (rest:=rest) hz (0 + (p) * 1) rfl
 rw [zdh] at s2
 have hw1:IntKind.i64.wrap ((a:Int) + 1) = ((a + 1:Nat):Int):=zaa (by omega) (by omega)
 obtain ⟨e1, rfl⟩:∃ e1, e = e1 + 1:=⟨e - 1, by omega⟩
 have hw2:IntKind.i64.wrap (((e1 + 1:Nat):Int) - 1) = (e1:Int):=zaa (by omega) (by omega) |>.trans (by omega)
 obtain ⟨R, hR⟩:∃ R, R = Go.Sort.partition lt d a (e1 + 1) p:=⟨_, rfl⟩
 rw [← hR]
 have hR':=hR
 unfold Go.Sort.partition at hR'
 have hDs:=zbs d a p
 refine Z154 ?_; refine Z207 ?_; refine qf (id:=1) [(200019, [900]), (200023, [900]), (100024, [900]), (100025, [900])] mixed (by kernel_rfl) ?_; refine Z316 ?_; refine Z153 ?_; refine z8 (ql L _ rfl rfl rfl rfl rfl rfl rfl (by omega)) rfl ?_; refine qg (qn L (q:=900) rfl rfl rfl rfl rfl qj) rfl rfl ?_; refine Z153 ?_; refine z8 (ql L _ rfl rfl rfl rfl rfl rfl rfl (by omega)) rfl ?_; refine qg (qn L (q:=900) rfl rfl rfl rfl rfl qi) rfl rfl ?_; refine z8 (ql L _ rfl rfl rfl rfl rfl rfl rfl (by omega)) rfl ?_; refine x5 (yz L (q:=900) rfl rfl rfl rfl rfl rfl b1 rfl s1) rfl ?_; refine z8 (ql L _ rfl rfl rfl rfl rfl rfl rfl (by omega)) rfl ?_; refine x5 (yz L (q:=900) rfl rfl rfl rfl rfl rfl b2 rfl s2) rfl ?_; refine Z306 ?_; refine Z182 ?_; refine Z18 ?_; refine Z238 ?_; refine Z207 ?_; refine qm ?_
 generalize swp d a p = D at *
 rw [Nat.add_sub_cancel] at hR'
 dsimp only at hR'
 refine zhq (zd3 (fun i:Nat => [(0, .is (.slice (some ⟨b, 0, none⟩) m cap)), (1, .is (.int .i64 a)), (10, .is (.int .i64 i)), (11, .is (.int .i64 e1)), (900, .own (zan b (uC D ++ rest) tyU))]) (fun i => (a + 1) ≤ i ∧ i ≤ max (a + 1) (e1 + 1) ∧ i = scanUp (fun x => lt x D[a]!) D e1 (a + 1)) (fun _ => []) ?_) ?_
 rotate_left
 ·refine zal (fun i:Nat => [(0, .is (.slice (some ⟨b, 0, none⟩) m cap)), (1, .is (.int .i64 a)), (10, .is (.int .i64 i)), (11, .is (.int .i64 e1)), (900, .own (zan b (uC D ++ rest) tyU))]) (fun i => (a + 1) ≤ i ∧ i ≤ max (a + 1) (e1 + 1) ∧ scanUp (fun x => lt x D[a]!) D e1 i = scanUp (fun x => lt x D[a]!) D e1 (a + 1)) (fun i => e1 + 1 - i) (a + 1) ⟨Nat.le_refl _, by omega, rfl⟩ ⟨rfl, rfl, rfl, rfl, rfl, trivial⟩ ?_
  rintro i ⟨hi1, hi2, hi3⟩
  by_cases hle:i ≤ e1
  ·obtain ⟨_, qx⟩:=zdc (rest:=rest) (show i < D.size by omega) (0 + (i) * 1) rfl
   obtain ⟨_, qa⟩:=zdc (rest:=rest) (show a < D.size by omega) (0 + (a) * 1) rfl
   cases hc:lt D[i]! D[a]! with
   | true =>
    have hw:IntKind.i64.wrap ((i:Int) + 1) = ((i + 1:Nat):Int):=zaa (by omega) (by omega)
    refine Z147 ?_; refine qf (id:=3) [(200037, [900]), (200041, [900])] mixed (by kernel_rfl) ?_; refine Z370 ?_; refine z8 (ql L _ rfl rfl rfl rfl rfl rfl rfl (by omega)) rfl ?_; refine qg (qn L (q:=900) rfl rfl rfl rfl rfl qx) rfl rfl ?_; refine Z153 ?_; refine z8 (ql L _ rfl rfl rfl rfl rfl rfl rfl (by omega)) rfl ?_; refine qg (qn L (q:=900) rfl rfl rfl rfl rfl qa) rfl rfl ?_; refine z8 (zp L rfl rfl (zk rfl) rfl rfl rfl (fun u H hH _ _ => zbg hc hH)) rfl ?_; refine Z295 ?_; refine Z150 ?_; refine qm ?_; refine Z371 ?_; refine yc ?_
    exact yj (x:=i) (i + 1) ⟨by omega, by omega, by rw [← hi3]; exact (zjx hle (by simp [hc])).symm⟩ (by omega) ⟨rfl, rfl, rfl, rfl, rfl, trivial⟩
   | false =>
    refine Z147 ?_; refine qf (id:=3) [(200037, [900]), (200041, [900])] mixed (by kernel_rfl) ?_; refine Z370 ?_; refine z8 (ql L _ rfl rfl rfl rfl rfl rfl rfl (by omega)) rfl ?_; refine qg (qn L (q:=900) rfl rfl rfl rfl rfl qx) rfl rfl ?_; refine Z153 ?_; refine z8 (ql L _ rfl rfl rfl rfl rfl rfl rfl (by omega)) rfl ?_; refine qg (qn L (q:=900) rfl rfl rfl rfl rfl qa) rfl rfl ?_; refine z8 (zp L rfl rfl (zk rfl) rfl rfl rfl (fun u H hH _ _ => zbg hc hH)) rfl ?_; refine Z282 ?_
    exact za5 i Since.refl ⟨hi1, hi2, by rw [← hi3]; exact (zdk (by rintro ⟨_, h⟩; simp [hc] at h)).symm⟩ rfl ⟨rfl, rfl, rfl, rfl, rfl, trivial⟩
  ·refine Z147 ?_; refine Z87 ?_; refine Z153 ?_; refine Z110 ?_; refine Z240 ?_; refine Z4 ?_; refine Z282 ?_
   exact za5 i Since.refl ⟨hi1, hi2, by rw [← hi3]; exact (zdk (by rintro ⟨h, _⟩; exact hle h)).symm⟩ rfl ⟨rfl, rfl, rfl, rfl, rfl, trivial⟩
 rintro I ⟨hI1, hI2, hI3⟩
 refine zh (qm ?_)
 refine zhq (zd3 (fun i:Nat => [(0, .is (.slice (some ⟨b, 0, none⟩) m cap)), (1, .is (.int .i64 a)), (10, .is (.int .i64 I)), (11, .is (.int .i64 i)), (900, .own (zan b (uC D ++ rest) tyU))]) (fun i => i ≤ e1 ∧ min (I - 1) e1 ≤ i ∧ i = scanDown (fun x => !lt x D[a]!) D I e1) (fun _ => []) ?_) ?_
 rotate_left
 ·refine zal (fun i:Nat => [(0, .is (.slice (some ⟨b, 0, none⟩) m cap)), (1, .is (.int .i64 a)), (10, .is (.int .i64 I)), (11, .is (.int .i64 i)), (900, .own (zan b (uC D ++ rest) tyU))]) (fun i => i ≤ e1 ∧ min (I - 1) e1 ≤ i ∧ scanDown (fun x => !lt x D[a]!) D I i = scanDown (fun x => !lt x D[a]!) D I e1) (fun i => i) e1 ⟨Nat.le_refl _, by omega, rfl⟩ ⟨rfl, rfl, rfl, rfl, rfl, trivial⟩ ?_
  rintro i ⟨hi1, hi2, hi3⟩
  by_cases hle:I ≤ i
  ·obtain ⟨_, qx⟩:=zdc (rest:=rest) (show i < D.size by omega) (0 + (i) * 1) rfl
   obtain ⟨_, qa⟩:=zdc (rest:=rest) (show a < D.size by omega) (0 + (a) * 1) rfl
   cases hc:lt D[i]! D[a]! with
   | false =>
    obtain ⟨i, rfl⟩:∃ k, i = k + 1:=⟨i - 1, by omega⟩
    have hw:IntKind.i64.wrap (((i + 1:Nat):Int) - 1) = (i:Int):=zaa (by omega) (by omega) |>.trans (by omega)
    refine Z147 ?_; refine Z138 ?_; refine Z370 ?_; refine z8 (ql L _ rfl rfl rfl rfl rfl rfl rfl (by omega)) rfl ?_; refine qg (qn L (q:=900) rfl rfl rfl rfl rfl qx) rfl rfl ?_; refine Z153 ?_; refine z8 (ql L _ rfl rfl rfl rfl rfl rfl rfl (by omega)) rfl ?_; refine qg (qn L (q:=900) rfl rfl rfl rfl rfl qa) rfl rfl ?_; refine z8 (zp L rfl rfl (zk rfl) rfl rfl rfl (fun u H hH _ _ => zbg hc hH)) rfl ?_; refine Z62 ?_; refine Z295 ?_; refine Z150 ?_; refine qm ?_; refine Z198 ?_; refine Z27 ?_; refine Z255 ?_
    exact yj (x:=i + 1) i ⟨by omega, by omega, by rw [← hi3]; exact (zgy hle (by simp [hc])).symm⟩ (by omega) ⟨rfl, rfl, rfl, rfl, rfl, trivial⟩
   | true =>
    refine Z147 ?_; refine Z138 ?_; refine Z370 ?_; refine z8 (ql L _ rfl rfl rfl rfl rfl rfl rfl (by omega)) rfl ?_; refine qg (qn L (q:=900) rfl rfl rfl rfl rfl qx) rfl rfl ?_; refine Z153 ?_; refine z8 (ql L _ rfl rfl rfl rfl rfl rfl rfl (by omega)) rfl ?_; refine qg (qn L (q:=900) rfl rfl rfl rfl rfl qa) rfl rfl ?_; refine z8 (zp L rfl rfl (zk rfl) rfl rfl rfl (fun u H hH _ _ => zbg hc hH)) rfl ?_; refine Z62 ?_; refine Z282 ?_
    exact za5 i Since.refl ⟨hi1, hi2, by rw [← hi3]; exact (zcs (by rintro ⟨_, h⟩; simp [hc] at h)).symm⟩ rfl ⟨rfl, rfl, rfl, rfl, rfl, trivial⟩
  ·refine Z147 ?_; refine Z133 ?_; refine Z153 ?_; refine Z110 ?_; refine Z311 ?_; refine Z282 ?_
   exact za5 i Since.refl ⟨hi1, hi2, by rw [← hi3]; exact (zcs (by rintro ⟨h, _⟩; exact hle h)).symm⟩ rfl ⟨rfl, rfl, rfl, rfl, rfl, trivial⟩
 rintro J ⟨hJ1, hJ2, hJ3⟩
 rw [← hI3, ← hJ3] at hR'
 by_cases hIJ:J < I
 ·rw [if_pos hIJ] at hR'
  subst hR'
  obtain ⟨_, qj⟩:=zdc (rest:=rest) (show a < D.size by omega) (0 + (a) * 1) rfl
  obtain ⟨_, qi⟩:=zdc (rest:=rest) (show J < D.size by omega) (0 + (J) * 1) rfl
  have s1:=zcf (rest:=rest) D[a]! (show J < D.size by omega) (0 + (J) * 1) rfl
  have b1:=zcg (rest:=rest) (show J < D.size by omega) (0 + (J) * 1) rfl
  have hz:a < (D.setIfInBounds (J) D[a]!).size:=by rw [Array.size_setIfInBounds]; omega
  have s2:=zcf (rest:=rest) D[J]! hz (0 + (a) * 1) rfl
  have b2:=zcg (rest:=rest) hz (0 + (a) * 1) rfl
  rw [zdh] at s2
  refine Z147 ?_; refine Z337 ?_; refine Z41 ?_; refine Z164 ?_; refine qf (id:=8) [(200073, [900]), (200077, [900]), (100078, [900]), (100079, [900])] mixed (by kernel_rfl) ?_; refine Z316 ?_; refine Z153 ?_; refine z8 (ql L _ rfl rfl rfl rfl rfl rfl rfl (by omega)) rfl ?_; refine qg (qn L (q:=900) rfl rfl rfl rfl rfl qj) rfl rfl ?_; refine Z153 ?_; refine z8 (ql L _ rfl rfl rfl rfl rfl rfl rfl (by omega)) rfl ?_; refine qg (qn L (q:=900) rfl rfl rfl rfl rfl qi) rfl rfl ?_; refine z8 (ql L _ rfl rfl rfl rfl rfl rfl rfl (by omega)) rfl ?_; refine x5 (yz L (q:=900) rfl rfl rfl rfl rfl rfl b1 rfl s1) rfl ?_; refine z8 (ql L _ rfl rfl rfl rfl rfl rfl rfl (by omega)) rfl ?_; refine x5 (yz L (q:=900) rfl rfl rfl rfl rfl rfl b2 rfl s2) rfl ?_; refine Z306 ?_; refine Z60 ?_; refine Z1 ?_; refine Z195 ?_
  exact zge L 900 (r:=zac b _ tyU) (rs:=[.tmp 8, .tmp 9]) rfl (fun _ _ h => h) Since.refl rfl rfl (fun _ => rfl)
 ·rw [if_neg hIJ] at hR'
  have hw3:IntKind.i64.wrap ((I:Int) + 1) = ((I + 1:Nat):Int):=zaa (by omega) (by omega)
  have hw4:IntKind.i64.wrap ((J:Int) - 1) = ((J - 1:Nat):Int):=zaa (by omega) (by omega) |>.trans (by omega)
  obtain ⟨_, qj⟩:=zdc (rest:=rest) (show J < D.size by omega) (0 + (J) * 1) rfl
  obtain ⟨_, qi⟩:=zdc (rest:=rest) (show I < D.size by omega) (0 + (I) * 1) rfl
  have s1:=zcf (rest:=rest) D[J]! (show I < D.size by omega) (0 + (I) * 1) rfl
  have b1:=zcg (rest:=rest) (show I < D.size by omega) (0 + (I) * 1) rfl
  have hz:J < (D.setIfInBounds (I) D[J]!).size:=by rw [Array.size_setIfInBounds]; omega
  have s2:=zcf (rest:=rest) D[I]! hz (0 + (J) * 1) rfl
  have b2:=zcg (rest:=rest) hz (0 + (J) * 1) rfl
  rw [zdh] at s2
  have hEs:=zbs D I J
  refine Z147 ?_; refine Z337 ?_; refine Z35 ?_; refine Z169 ?_; refine qf (id:=10) [(200088, [900]), (200092, [900]), (100093, [900]), (100094, [900])] mixed (by kernel_rfl) ?_; refine Z316 ?_; refine Z153 ?_; refine z8 (ql L _ rfl rfl rfl rfl rfl rfl rfl (by omega)) rfl ?_; refine qg (qn L (q:=900) rfl rfl rfl rfl rfl qj) rfl rfl ?_; refine Z153 ?_; refine z8 (ql L _ rfl rfl rfl rfl rfl rfl rfl (by omega)) rfl ?_; refine qg (qn L (q:=900) rfl rfl rfl rfl rfl qi) rfl rfl ?_; refine z8 (ql L _ rfl rfl rfl rfl rfl rfl rfl (by omega)) rfl ?_; refine x5 (yz L (q:=900) rfl rfl rfl rfl rfl rfl b1 rfl s1) rfl ?_; refine z8 (ql L _ rfl rfl rfl rfl rfl rfl rfl (by omega)) rfl ?_; refine x5 (yz L (q:=900) rfl rfl rfl rfl rfl rfl b2 rfl s2) rfl ?_; refine Z306 ?_; refine Z293 ?_; refine Z18 ?_; refine Z151 ?_; refine Z88 ?_; refine Z238 ?_; refine Z151 ?_; refine qm ?_
  generalize swp D I J = E at *
  obtain ⟨X, hX⟩:∃ X, X = partLoop lt a (I + 1) (J - 1) E:=⟨_, rfl⟩
  rw [← hX] at hR'
  refine zhq (zd3 (fun s:Nat × Array Int => [(0, .is (.slice (some ⟨b, 0, none⟩) m cap)), (1, .is (.int .i64 a)), (11, .is (.int .i64 s.1)), (900, .own (zan b (uC s.2 ++ rest) tyU))]) (fun s => s.2.size = m ∧ a ≤ s.1 ∧ s.1 ≤ e1 ∧ s = X) (fun _ => []) ?_) ?_
  rotate_left
  ·refine zal (fun s:(Nat × Nat) × Array Int => [(0, .is (.slice (some ⟨b, 0, none⟩) m cap)), (1, .is (.int .i64 a)), (10, .is (.int .i64 s.1.1)), (11, .is (.int .i64 s.1.2)), (900, .own (zan b (uC s.2 ++ rest) tyU))]) (fun s => s.2.size = m ∧ a + 1 ≤ s.1.1 ∧ s.1.1 ≤ e1 + 1 ∧ a ≤ s.1.2 ∧ s.1.2 ≤ e1 ∧ partLoop lt a s.1.1 s.1.2 s.2 = X) (fun s => s.1.2 + 1 - s.1.1) ((I + 1, J - 1), E) ⟨by dsimp only; omega, by dsimp only; omega, by dsimp only; omega, by dsimp only; omega, by dsimp only; omega, hX.symm⟩ ⟨rfl, rfl, rfl, rfl, rfl, trivial⟩ ?_
   rintro ⟨⟨i0, j0⟩, G⟩ ⟨hG, hi1, hi2, hj1, hj2, hL⟩
   dsimp only at hG hi1 hi2 hj1 hj2 hL ⊢
   rw [partLoop] at hL
   clear hX hR' hEs hIJ hI3 hJ3
   refine qm (zh (qm ?_))
   refine zhq (zd3 (fun i:Nat => [(0, .is (.slice (some ⟨b, 0, none⟩) m cap)), (1, .is (.int .i64 a)), (10, .is (.int .i64 i)), (11, .is (.int .i64 j0)), (900, .own (zan b (uC G ++ rest) tyU))]) (fun i => i0 ≤ i ∧ i ≤ max i0 (j0 + 1) ∧ i = scanUp (fun x => lt x G[a]!) G j0 i0) (fun _ => []) ?_) ?_
   rotate_left
   ·refine zal (fun i:Nat => [(0, .is (.slice (some ⟨b, 0, none⟩) m cap)), (1, .is (.int .i64 a)), (10, .is (.int .i64 i)), (11, .is (.int .i64 j0)), (900, .own (zan b (uC G ++ rest) tyU))]) (fun i => i0 ≤ i ∧ i ≤ max i0 (j0 + 1) ∧ scanUp (fun x => lt x G[a]!) G j0 i = scanUp (fun x => lt x G[a]!) G j0 i0) (fun i => j0 + 1 - i) i0 ⟨Nat.le_refl _, by omega, rfl⟩ ⟨rfl, rfl, rfl, rfl, rfl, trivial⟩ ?_
    rintro i ⟨hi1, hi2, hi3⟩
    by_cases hle:i ≤ j0
    ·obtain ⟨_, qx⟩:=zdc (rest:=rest) (show i < G.size by omega) (0 + (i) * 1) rfl
     obtain ⟨_, qa⟩:=zdc (rest:=rest) (show a < G.size by omega) (0 + (a) * 1) rfl
     cases hc:lt G[i]! G[a]! with
     | true =>
      have hw:IntKind.i64.wrap ((i:Int) + 1) = ((i + 1:Nat):Int):=zaa (by omega) (by omega)
      refine Z147 ?_; refine qf (id:=13) [(200106, [900]), (200110, [900])] mixed (by kernel_rfl) ?_; refine Z370 ?_; refine z8 (ql L _ rfl rfl rfl rfl rfl rfl rfl (by omega)) rfl ?_; refine qg (qn L (q:=900) rfl rfl rfl rfl rfl qx) rfl rfl ?_; refine Z153 ?_; refine z8 (ql L _ rfl rfl rfl rfl rfl rfl rfl (by omega)) rfl ?_; refine qg (qn L (q:=900) rfl rfl rfl rfl rfl qa) rfl rfl ?_; refine z8 (zp L rfl rfl (zk rfl) rfl rfl rfl (fun u H hH _ _ => zbg hc hH)) rfl ?_; refine Z295 ?_; refine Z150 ?_; refine qm ?_; refine Z280 ?_; refine Z217 ?_; refine yc ?_
      exact yj (x:=i) (i + 1) ⟨by omega, by omega, by rw [← hi3]; exact (zjx hle (by simp [hc])).symm⟩ (by omega) ⟨rfl, rfl, rfl, rfl, rfl, trivial⟩
     | false =>
      refine Z147 ?_; refine qf (id:=13) [(200106, [900]), (200110, [900])] mixed (by kernel_rfl) ?_; refine Z370 ?_; refine z8 (ql L _ rfl rfl rfl rfl rfl rfl rfl (by omega)) rfl ?_; refine qg (qn L (q:=900) rfl rfl rfl rfl rfl qx) rfl rfl ?_; refine Z153 ?_; refine z8 (ql L _ rfl rfl rfl rfl rfl rfl rfl (by omega)) rfl ?_; refine qg (qn L (q:=900) rfl rfl rfl rfl rfl qa) rfl rfl ?_; refine z8 (zp L rfl rfl (zk rfl) rfl rfl rfl (fun u H hH _ _ => zbg hc hH)) rfl ?_; refine Z282 ?_
      exact za5 i Since.refl ⟨hi1, hi2, by rw [← hi3]; exact (zdk (by rintro ⟨_, h⟩; simp [hc] at h)).symm⟩ rfl ⟨rfl, rfl, rfl, rfl, rfl, trivial⟩
    ·refine Z147 ?_; refine Z130 ?_; refine Z153 ?_; refine Z110 ?_; refine Z240 ?_; refine Z4 ?_; refine Z282 ?_
     exact za5 i Since.refl ⟨hi1, hi2, by rw [← hi3]; exact (zdk (by rintro ⟨h, _⟩; exact hle h)).symm⟩ rfl ⟨rfl, rfl, rfl, rfl, rfl, trivial⟩
   rintro K ⟨hK1, hK2, hK3⟩
   refine zh (qm ?_)
   refine zhq (zd3 (fun i:Nat => [(0, .is (.slice (some ⟨b, 0, none⟩) m cap)), (1, .is (.int .i64 a)), (10, .is (.int .i64 K)), (11, .is (.int .i64 i)), (900, .own (zan b (uC G ++ rest) tyU))]) (fun i => i ≤ j0 ∧ min (K - 1) j0 ≤ i ∧ i = scanDown (fun x => !lt x G[a]!) G K j0) (fun _ => []) ?_) ?_
   rotate_left
   ·refine zal (fun i:Nat => [(0, .is (.slice (some ⟨b, 0, none⟩) m cap)), (1, .is (.int .i64 a)), (10, .is (.int .i64 K)), (11, .is (.int .i64 i)), (900, .own (zan b (uC G ++ rest) tyU))]) (fun i => i ≤ j0 ∧ min (K - 1) j0 ≤ i ∧ scanDown (fun x => !lt x G[a]!) G K i = scanDown (fun x => !lt x G[a]!) G K j0) (fun i => i) j0 ⟨Nat.le_refl _, by omega, rfl⟩ ⟨rfl, rfl, rfl, rfl, rfl, trivial⟩ ?_
    rintro i ⟨hi1, hi2, hi3⟩
    by_cases hle:K ≤ i
    ·obtain ⟨_, qx⟩:=zdc (rest:=rest) (show i < G.size by omega) (0 + (i) * 1) rfl
     obtain ⟨_, qa⟩:=zdc (rest:=rest) (show a < G.size by omega) (0 + (a) * 1) rfl
     cases hc:lt G[i]! G[a]! with
     | false =>
      obtain ⟨i, rfl⟩:∃ k, i = k + 1:=⟨i - 1, by omega⟩
      have hw:IntKind.i64.wrap (((i + 1:Nat):Int) - 1) = (i:Int):=zaa (by omega) (by omega) |>.trans (by omega)
      refine Z147 ?_; refine qf (id:=15) [(200122, [900]), (200126, [900])] mixed (by kernel_rfl) ?_; refine Z370 ?_; refine z8 (ql L _ rfl rfl rfl rfl rfl rfl rfl (by omega)) rfl ?_; refine qg (qn L (q:=900) rfl rfl rfl rfl rfl qx) rfl rfl ?_; refine Z153 ?_; refine z8 (ql L _ rfl rfl rfl rfl rfl rfl rfl (by omega)) rfl ?_; refine qg (qn L (q:=900) rfl rfl rfl rfl rfl qa) rfl rfl ?_; refine z8 (zp L rfl rfl (zk rfl) rfl rfl rfl (fun u H hH _ _ => zbg hc hH)) rfl ?_; refine Z62 ?_; refine Z295 ?_; refine Z150 ?_; refine qm ?_; refine Z105 ?_; refine Z238 ?_; refine Z255 ?_
      exact yj (x:=i + 1) i ⟨by omega, by omega, by rw [← hi3]; exact (zgy hle (by simp [hc])).symm⟩ (by omega) ⟨rfl, rfl, rfl, rfl, rfl, trivial⟩
     | true =>
      refine Z147 ?_; refine qf (id:=15) [(200122, [900]), (200126, [900])] mixed (by kernel_rfl) ?_; refine Z370 ?_; refine z8 (ql L _ rfl rfl rfl rfl rfl rfl rfl (by omega)) rfl ?_; refine qg (qn L (q:=900) rfl rfl rfl rfl rfl qx) rfl rfl ?_; refine Z153 ?_; refine z8 (ql L _ rfl rfl rfl rfl rfl rfl rfl (by omega)) rfl ?_; refine qg (qn L (q:=900) rfl rfl rfl rfl rfl qa) rfl rfl ?_; refine z8 (zp L rfl rfl (zk rfl) rfl rfl rfl (fun u H hH _ _ => zbg hc hH)) rfl ?_; refine Z62 ?_; refine Z282 ?_
      exact za5 i Since.refl ⟨hi1, hi2, by rw [← hi3]; exact (zcs (by rintro ⟨_, h⟩; simp [hc] at h)).symm⟩ rfl ⟨rfl, rfl, rfl, rfl, rfl, trivial⟩
    ·refine Z147 ?_; refine qf (id:=15) [] mixed (by kernel_rfl) ?_; refine Z153 ?_; refine Z110 ?_; refine Z311 ?_; refine Z282 ?_
     exact za5 i Since.refl ⟨hi1, hi2, by rw [← hi3]; exact (zcs (by rintro ⟨h, _⟩; exact hle h)).symm⟩ rfl ⟨rfl, rfl, rfl, rfl, rfl, trivial⟩
   rintro M ⟨hM1, hM2, hM3⟩
   rw [← hK3, ← hM3] at hL
   by_cases hKM:M < K
   ·rw [if_pos hKM] at hL
    refine Z147 ?_; refine Z115 ?_; refine Z148 ?_; refine Z41 ?_; refine Z152 ?_; refine Z170 ?_; refine zk1 rfl ?_; refine y8 ?_; refine yu ?_
    exact za5 (M, G) Since.refl ⟨hG, by dsimp only; omega, by dsimp only; omega, hL⟩ rfl ⟨rfl, rfl, rfl, rfl, trivial⟩
   ·rw [if_neg hKM, dif_pos (by omega)] at hL
    have hw5:IntKind.i64.wrap ((K:Int) + 1) = ((K + 1:Nat):Int):=zaa (by omega) (by omega)
    have hw6:IntKind.i64.wrap ((M:Int) - 1) = ((M - 1:Nat):Int):=zaa (by omega) (by omega) |>.trans (by omega)
    have hGs:=zbs G K M
    obtain ⟨_, qj⟩:=zdc (rest:=rest) (show M < G.size by omega) (0 + (M) * 1) rfl
    obtain ⟨_, qi⟩:=zdc (rest:=rest) (show K < G.size by omega) (0 + (K) * 1) rfl
    have s1:=zcf (rest:=rest) G[M]! (show K < G.size by omega) (0 + (K) * 1) rfl
    have b1:=zcg (rest:=rest) (show K < G.size by omega) (0 + (K) * 1) rfl
    have hz:M < (G.setIfInBounds (K) G[M]!).size:=by rw [Array.size_setIfInBounds]; omega
    have s2:=zcf (rest:=rest) G[K]! hz (0 + (M) * 1) rfl
    have b2:=zcg (rest:=rest) hz (0 + (M) * 1) rfl
    rw [zdh] at s2
    refine Z147 ?_; refine Z115 ?_; refine Z148 ?_; refine Z35 ?_; refine Z169 ?_; refine qf (id:=18) [(200142, [900]), (200146, [900]), (100147, [900]), (100148, [900])] mixed (by kernel_rfl) ?_; refine Z316 ?_; refine Z153 ?_; refine z8 (ql L _ rfl rfl rfl rfl rfl rfl rfl (by omega)) rfl ?_; refine qg (qn L (q:=900) rfl rfl rfl rfl rfl qj) rfl rfl ?_; refine Z153 ?_; refine z8 (ql L _ rfl rfl rfl rfl rfl rfl rfl (by omega)) rfl ?_; refine qg (qn L (q:=900) rfl rfl rfl rfl rfl qi) rfl rfl ?_; refine z8 (ql L _ rfl rfl rfl rfl rfl rfl rfl (by omega)) rfl ?_; refine x5 (yz L (q:=900) rfl rfl rfl rfl rfl rfl b1 rfl s1) rfl ?_; refine z8 (ql L _ rfl rfl rfl rfl rfl rfl rfl (by omega)) rfl ?_; refine x5 (yz L (q:=900) rfl rfl rfl rfl rfl rfl b2 rfl s2) rfl ?_; refine Z306 ?_; refine Z127 ?_; refine Z414 ?_; refine Z146 ?_; refine Z101 ?_; refine Z238 ?_; refine Z255 ?_
    exact yj (x:=((i0, j0), G)) ((K + 1, M - 1), swp G K M) ⟨by dsimp only; omega, by dsimp only; omega, by dsimp only; omega, by dsimp only; omega, by dsimp only; omega, hL⟩ (by dsimp only; omega) ⟨rfl, rfl, rfl, rfl, rfl, trivial⟩
  ·rintro ⟨J2, G⟩ ⟨hG, hj1, hj2, hL⟩
   dsimp only at hG hj1 hj2 ⊢
   rw [← hL] at hR'
   dsimp only at hR'
   subst hR'
   obtain ⟨_, qj⟩:=zdc (rest:=rest) (show a < G.size by omega) (0 + (a) * 1) rfl
   obtain ⟨_, qi⟩:=zdc (rest:=rest) (show J2 < G.size by omega) (0 + (J2) * 1) rfl
   have s1:=zcf (rest:=rest) G[a]! (show J2 < G.size by omega) (0 + (J2) * 1) rfl
   have b1:=zcg (rest:=rest) (show J2 < G.size by omega) (0 + (J2) * 1) rfl
   have hz:a < (G.setIfInBounds (J2) G[a]!).size:=by rw [Array.size_setIfInBounds]; omega
   have s2:=zcf (rest:=rest) G[J2]! hz (0 + (a) * 1) rfl
   have b2:=zcg (rest:=rest) hz (0 + (a) * 1) rfl
   rw [zdh] at s2
   refine zh ?_; refine qf (id:=21) [(200160, [900]), (200164, [900]), (100165, [900]), (100166, [900])] mixed (by kernel_rfl) ?_; refine Z316 ?_; refine Z153 ?_; refine z8 (ql L _ rfl rfl rfl rfl rfl rfl rfl (by omega)) rfl ?_; refine qg (qn L (q:=900) rfl rfl rfl rfl rfl qj) rfl rfl ?_; refine Z153 ?_; refine z8 (ql L _ rfl rfl rfl rfl rfl rfl rfl (by omega)) rfl ?_; refine qg (qn L (q:=900) rfl rfl rfl rfl rfl qi) rfl rfl ?_; refine z8 (ql L _ rfl rfl rfl rfl rfl rfl rfl (by omega)) rfl ?_; refine x5 (yz L (q:=900) rfl rfl rfl rfl rfl rfl b1 rfl s1) rfl ?_; refine z8 (ql L _ rfl rfl rfl rfl rfl rfl rfl (by omega)) rfl ?_; refine x5 (yz L (q:=900) rfl rfl rfl rfl rfl rfl b2 rfl s2) rfl ?_; refine Z306 ?_; refine zf (id:=22) ?_; refine Z1 ?_; refine Z195 ?_
   exact zge L 900 (r:=zac b _ tyU) (rs:=[.tmp 8, .tmp 9]) rfl (fun _ _ h => h) Since.refl rfl rfl (fun _ => rfl)
end Go.V.So
set_option maxRecDepth 20000
namespace Go.V.So
open Go.Proofs Go.RowKit Go.V Go.Sort
attribute [local irreducible] V N X VO Par StepOK Has Ret RetL RetO zce zd7 Src
set_option maxHeartbeats 2000000 in
set_option maxRecDepth 20000 in
theorem z0y {d:Array Int} {rest:List Value} {b m cap a e p:Nat} (hap:a ≤ p) (hpe:p < e) (he:e ≤ d.size) (hm:d.size = m) (hm1:m ≤ 100000) {w:World} {B:Heap} {C:Nat → Prop} (hB:B.Le (hp w))
  (hr:(zac b (uC d ++ rest) tyU).P B w C) (hC:∀ k, C k → k < w.heap.size ∧ B k = none) :
  zd7 Tryz.prog 108 [.slice (some ⟨b, 0, none⟩) m cap, .int .i64 a, .int .i64 e, .int .i64 p] w B C (zac b (uC (partitionEqual lt d a e p).2 ++ rest) tyU) (.int .i64 (partitionEqual lt d a e p).1):=by
 unfold zd7
 refine zat 900 (zac b (uC d ++ rest) tyU) Tryz.func108 rfl Tryz.ntmps108 (Nat.le_of_ble_eq_true rfl) hB hr hC ?_
 rw [za4]
 obtain ⟨_, qj⟩:=zdc (rest:=rest) (show p < d.size by omega) (0 + (p) * 1) rfl
 obtain ⟨_, qi⟩:=zdc (rest:=rest) (show a < d.size by omega) (0 + (a) * 1) rfl
 have s1:=zcf (rest:=rest) d[p]! (show a < d.size by omega) (0 + (a) * 1) rfl
 have b1:=zcg (rest:=rest) (show a < d.size by omega) (0 + (a) * 1) rfl
 have hz:p < (d.setIfInBounds (a) d[p]!).size:=by rw [Array.size_setIfInBounds]; omega
 have s2:=zcf (rest:=rest) d[a]! hz (0 + (p) * 1) rfl
 have b2:=zcg (rest:=rest) hz (0 + (p) * 1) rfl
 rw [zdh] at s2
 have hw1:IntKind.i64.wrap ((a:Int) + 1) = ((a + 1:Nat):Int):=zaa (by omega) (by omega)
 obtain ⟨e1, rfl⟩:∃ e1, e = e1 + 1:=⟨e - 1, by omega⟩
 have hw2:IntKind.i64.wrap (((e1 + 1:Nat):Int) - 1) = (e1:Int):=zaa (by omega) (by omega) |>.trans (by omega)
 obtain ⟨X, hX⟩:∃ X, X = partitionEqual lt d a (e1 + 1) p:=⟨_, rfl⟩
 rw [← hX]
 have hR':=hX
 unfold partitionEqual at hR'
 rw [Nat.add_sub_cancel] at hR'
 have hDs:=zbs d a p
 refine Z154 ?_; refine Z151 ?_; refine qf (id:=1) [(200018, [900]), (200022, [900]), (100023, [900]), (100024, [900])] mixed (by kernel_rfl) ?_; refine Z316 ?_; refine Z153 ?_; refine z8 (ql L _ rfl rfl rfl rfl rfl rfl rfl (by omega)) rfl ?_; refine qg (qn L (q:=900) rfl rfl rfl rfl rfl qj) rfl rfl ?_; refine Z153 ?_; refine z8 (ql L _ rfl rfl rfl rfl rfl rfl rfl (by omega)) rfl ?_; refine qg (qn L (q:=900) rfl rfl rfl rfl rfl qi) rfl rfl ?_; refine z8 (ql L _ rfl rfl rfl rfl rfl rfl rfl (by omega)) rfl ?_; refine x5 (yz L (q:=900) rfl rfl rfl rfl rfl rfl b1 rfl s1) rfl ?_; refine z8 (ql L _ rfl rfl rfl rfl rfl rfl rfl (by omega)) rfl ?_; refine x5 (yz L (q:=900) rfl rfl rfl rfl rfl rfl b2 rfl s2) rfl ?_; refine Z306 ?_; refine Z182 ?_; refine Z18 ?_; refine Z238 ?_; refine Z207 ?_; refine qm ?_
 generalize swp d a p = D at *
 refine zhq (zd3 (fun s:Nat × Array Int => [(9, .is (.int .i64 s.1)), (900, .own (zan b (uC s.2 ++ rest) tyU))]) (fun s => s.2.size = m ∧ s = X) (fun _ => []) ?_) ?_
 rotate_left
 ·refine zal (fun s:(Nat × Nat) × Array Int => [(0, .is (.slice (some ⟨b, 0, none⟩) m cap)), (1, .is (.int .i64 a)), (9, .is (.int .i64 s.1.1)), (10, .is (.int .i64 s.1.2)), (900, .own (zan b (uC s.2 ++ rest) tyU))]) (fun s => s.2.size = m ∧ a + 1 ≤ s.1.1 ∧ s.1.1 ≤ e1 + 1 ∧ a ≤ s.1.2 ∧ s.1.2 ≤ e1 ∧ partEqLoop lt a s.1.1 s.1.2 s.2 = X) (fun s => s.1.2 + 1 - s.1.1) ((a + 1, e1), D) ⟨by dsimp only; omega, by dsimp only; omega, by dsimp only; omega, by dsimp only; omega, by dsimp only; omega, hR'.symm⟩ ⟨rfl, rfl, rfl, rfl, rfl, trivial⟩ ?_
  rintro ⟨⟨i0, j0⟩, G⟩ ⟨hG, hi1, hi2, hj1, hj2, hL⟩
  dsimp only at hG hi1 hi2 hj1 hj2 hL ⊢
  rw [partEqLoop] at hL
  clear hX hR' hDs
  refine qm (zh (qm ?_))
  refine zhq (zd3 (fun i:Nat => [(0, .is (.slice (some ⟨b, 0, none⟩) m cap)), (1, .is (.int .i64 a)), (9, .is (.int .i64 i)), (10, .is (.int .i64 j0)), (900, .own (zan b (uC G ++ rest) tyU))]) (fun i => i0 ≤ i ∧ i ≤ max i0 (j0 + 1) ∧ i = scanUp (fun x => !lt G[a]! x) G j0 i0) (fun _ => []) ?_) ?_
  rotate_left
  ·refine zal (fun i:Nat => [(0, .is (.slice (some ⟨b, 0, none⟩) m cap)), (1, .is (.int .i64 a)), (9, .is (.int .i64 i)), (10, .is (.int .i64 j0)), (900, .own (zan b (uC G ++ rest) tyU))]) (fun i => i0 ≤ i ∧ i ≤ max i0 (j0 + 1) ∧ scanUp (fun x => !lt G[a]! x) G j0 i = scanUp (fun x => !lt G[a]! x) G j0 i0) (fun i => j0 + 1 - i) i0 ⟨Nat.le_refl _, by omega, rfl⟩ ⟨rfl, rfl, rfl, rfl, rfl, trivial⟩ ?_
   rintro i ⟨hi1, hi2, hi3⟩
   by_cases hle:i ≤ j0
   ·obtain ⟨_, qx⟩:=zdc (rest:=rest) (show i < G.size by omega) (0 + (i) * 1) rfl
    obtain ⟨_, qa⟩:=zdc (rest:=rest) (show a < G.size by omega) (0 + (a) * 1) rfl
    cases hc:lt G[a]! G[i]! with
    | false =>
     have hw:IntKind.i64.wrap ((i:Int) + 1) = ((i + 1:Nat):Int):=zaa (by omega) (by omega)
     refine Z147 ?_; refine qf (id:=3) [(200036, [900]), (200040, [900])] mixed (by kernel_rfl) ?_; refine Z370 ?_; refine z8 (ql L _ rfl rfl rfl rfl rfl rfl rfl (by omega)) rfl ?_; refine qg (qn L (q:=900) rfl rfl rfl rfl rfl qa) rfl rfl ?_; refine Z153 ?_; refine z8 (ql L _ rfl rfl rfl rfl rfl rfl rfl (by omega)) rfl ?_; refine qg (qn L (q:=900) rfl rfl rfl rfl rfl qx) rfl rfl ?_; refine z8 (zp L rfl rfl (zk rfl) rfl rfl rfl (fun u H hH _ _ => zbg hc hH)) rfl ?_; refine Z62 ?_; refine Z295 ?_; refine Z150 ?_; refine qm ?_; refine Z371 ?_; refine yc ?_
     exact yj (x:=i) (i + 1) ⟨by omega, by omega, by rw [← hi3]; exact (zjx hle (by simp [hc])).symm⟩ (by omega) ⟨rfl, rfl, rfl, rfl, rfl, trivial⟩
    | true =>
     refine Z147 ?_; refine qf (id:=3) [(200036, [900]), (200040, [900])] mixed (by kernel_rfl) ?_; refine Z370 ?_; refine z8 (ql L _ rfl rfl rfl rfl rfl rfl rfl (by omega)) rfl ?_; refine qg (qn L (q:=900) rfl rfl rfl rfl rfl qa) rfl rfl ?_; refine Z153 ?_; refine z8 (ql L _ rfl rfl rfl rfl rfl rfl rfl (by omega)) rfl ?_; refine qg (qn L (q:=900) rfl rfl rfl rfl rfl qx) rfl rfl ?_; refine z8 (zp L rfl rfl (zk rfl) rfl rfl rfl (fun u H hH _ _ => zbg hc hH)) rfl ?_; refine Z62 ?_; refine Z282 ?_
     exact za5 i Since.refl ⟨hi1, hi2, by rw [← hi3]; exact (zdk (by rintro ⟨_, h⟩; simp [hc] at h)).symm⟩ rfl ⟨rfl, rfl, rfl, rfl, rfl, trivial⟩
   ·refine Z147 ?_; refine Z87 ?_; refine Z153 ?_; refine Z110 ?_; refine Z311 ?_; refine Z282 ?_
    exact za5 i Since.refl ⟨hi1, hi2, by rw [← hi3]; exact (zdk (by rintro ⟨h, _⟩; exact hle h)).symm⟩ rfl ⟨rfl, rfl, rfl, rfl, rfl, trivial⟩
  rintro K ⟨hK1, hK2, hK3⟩
  refine zh (qm ?_)
  refine zhq (zd3 (fun i:Nat => [(0, .is (.slice (some ⟨b, 0, none⟩) m cap)), (1, .is (.int .i64 a)), (9, .is (.int .i64 K)), (10, .is (.int .i64 i)), (900, .own (zan b (uC G ++ rest) tyU))]) (fun i => i ≤ j0 ∧ min (K - 1) j0 ≤ i ∧ i = scanDown (fun x => lt G[a]! x) G K j0) (fun _ => []) ?_) ?_
  rotate_left
  ·refine zal (fun i:Nat => [(0, .is (.slice (some ⟨b, 0, none⟩) m cap)), (1, .is (.int .i64 a)), (9, .is (.int .i64 K)), (10, .is (.int .i64 i)), (900, .own (zan b (uC G ++ rest) tyU))]) (fun i => i ≤ j0 ∧ min (K - 1) j0 ≤ i ∧ scanDown (fun x => lt G[a]! x) G K i = scanDown (fun x => lt G[a]! x) G K j0) (fun i => i) j0 ⟨Nat.le_refl _, by omega, rfl⟩ ⟨rfl, rfl, rfl, rfl, rfl, trivial⟩ ?_
   rintro i ⟨hi1, hi2, hi3⟩
   by_cases hle:K ≤ i
   ·obtain ⟨_, qx⟩:=zdc (rest:=rest) (show i < G.size by omega) (0 + (i) * 1) rfl
    obtain ⟨_, qa⟩:=zdc (rest:=rest) (show a < G.size by omega) (0 + (a) * 1) rfl
    cases hc:lt G[a]! G[i]! with
    | true =>
     obtain ⟨i, rfl⟩:∃ k, i = k + 1:=⟨i - 1, by omega⟩
     have hw:IntKind.i64.wrap (((i + 1:Nat):Int) - 1) = (i:Int):=zaa (by omega) (by omega) |>.trans (by omega)
     refine Z147 ?_; refine Z138 ?_; refine Z370 ?_; refine z8 (ql L _ rfl rfl rfl rfl rfl rfl rfl (by omega)) rfl ?_; refine qg (qn L (q:=900) rfl rfl rfl rfl rfl qa) rfl rfl ?_; refine Z153 ?_; refine z8 (ql L _ rfl rfl rfl rfl rfl rfl rfl (by omega)) rfl ?_; refine qg (qn L (q:=900) rfl rfl rfl rfl rfl qx) rfl rfl ?_; refine z8 (zp L rfl rfl (zk rfl) rfl rfl rfl (fun u H hH _ _ => zbg hc hH)) rfl ?_; refine Z295 ?_; refine Z150 ?_; refine qm ?_; refine Z198 ?_; refine Z27 ?_; refine Z255 ?_
     exact yj (x:=i + 1) i ⟨by omega, by omega, by rw [← hi3]; exact (zgy hle (by simp [hc])).symm⟩ (by omega) ⟨rfl, rfl, rfl, rfl, rfl, trivial⟩
    | false =>
     refine Z147 ?_; refine Z138 ?_; refine Z370 ?_; refine z8 (ql L _ rfl rfl rfl rfl rfl rfl rfl (by omega)) rfl ?_; refine qg (qn L (q:=900) rfl rfl rfl rfl rfl qa) rfl rfl ?_; refine Z153 ?_; refine z8 (ql L _ rfl rfl rfl rfl rfl rfl rfl (by omega)) rfl ?_; refine qg (qn L (q:=900) rfl rfl rfl rfl rfl qx) rfl rfl ?_; refine z8 (zp L rfl rfl (zk rfl) rfl rfl rfl (fun u H hH _ _ => zbg hc hH)) rfl ?_; refine Z282 ?_
     exact za5 i Since.refl ⟨hi1, hi2, by rw [← hi3]; exact (zcs (by rintro ⟨_, h⟩; simp [hc] at h)).symm⟩ rfl ⟨rfl, rfl, rfl, rfl, rfl, trivial⟩
   ·refine Z147 ?_; refine Z133 ?_; refine Z153 ?_; refine Z110 ?_; refine Z240 ?_; refine Z4 ?_; refine Z282 ?_
    exact za5 i Since.refl ⟨hi1, hi2, by rw [← hi3]; exact (zcs (by rintro ⟨h, _⟩; exact hle h)).symm⟩ rfl ⟨rfl, rfl, rfl, rfl, rfl, trivial⟩
  rintro M ⟨hM1, hM2, hM3⟩
  rw [← hK3, ← hM3] at hL
  by_cases hKM:M < K
  ·rw [if_pos hKM] at hL
   refine Z147 ?_; refine Z337 ?_; refine Z41 ?_; refine Z152 ?_; refine Z170 ?_; refine zk1 rfl ?_; refine y8 ?_; refine yu ?_
   exact za5 (K, G) Since.refl ⟨hG, hL⟩ rfl ⟨rfl, rfl, trivial⟩
  ·rw [if_neg hKM, dif_pos (by omega)] at hL
   have hw5:IntKind.i64.wrap ((K:Int) + 1) = ((K + 1:Nat):Int):=zaa (by omega) (by omega)
   have hw6:IntKind.i64.wrap ((M:Int) - 1) = ((M - 1:Nat):Int):=zaa (by omega) (by omega) |>.trans (by omega)
   have hGs:=zbs G K M
   obtain ⟨_, qj⟩:=zdc (rest:=rest) (show M < G.size by omega) (0 + (M) * 1) rfl
   obtain ⟨_, qi⟩:=zdc (rest:=rest) (show K < G.size by omega) (0 + (K) * 1) rfl
   have s1:=zcf (rest:=rest) G[M]! (show K < G.size by omega) (0 + (K) * 1) rfl
   have b1:=zcg (rest:=rest) (show K < G.size by omega) (0 + (K) * 1) rfl
   have hz:M < (G.setIfInBounds (K) G[M]!).size:=by rw [Array.size_setIfInBounds]; omega
   have s2:=zcf (rest:=rest) G[K]! hz (0 + (M) * 1) rfl
   have b2:=zcg (rest:=rest) hz (0 + (M) * 1) rfl
   rw [zdh] at s2
   refine Z147 ?_; refine Z337 ?_; refine Z35 ?_; refine Z169 ?_; refine qf (id:=8) [(200072, [900]), (200076, [900]), (100077, [900]), (100078, [900])] mixed (by kernel_rfl) ?_; refine Z316 ?_; refine Z153 ?_; refine z8 (ql L _ rfl rfl rfl rfl rfl rfl rfl (by omega)) rfl ?_; refine qg (qn L (q:=900) rfl rfl rfl rfl rfl qj) rfl rfl ?_; refine Z153 ?_; refine z8 (ql L _ rfl rfl rfl rfl rfl rfl rfl (by omega)) rfl ?_; refine qg (qn L (q:=900) rfl rfl rfl rfl rfl qi) rfl rfl ?_; refine z8 (ql L _ rfl rfl rfl rfl rfl rfl rfl (by omega)) rfl ?_; refine x5 (yz L (q:=900) rfl rfl rfl rfl rfl rfl b1 rfl s1) rfl ?_; refine z8 (ql L _ rfl rfl rfl rfl rfl rfl rfl (by omega)) rfl ?_; refine x5 (yz L (q:=900) rfl rfl rfl rfl rfl rfl b2 rfl s2) rfl ?_; refine Z306 ?_; refine Z60 ?_; refine Z414 ?_; refine Z146 ?_; refine Z69 ?_; refine Z238 ?_; refine Z255 ?_
   exact yj (x:=((i0, j0), G)) ((K + 1, M - 1), swp G K M) ⟨by dsimp only; omega, by dsimp only; omega, by dsimp only; omega, by dsimp only; omega, by dsimp only; omega, hL⟩ (by dsimp only; omega) ⟨rfl, rfl, rfl, rfl, rfl, trivial⟩
 ·rintro ⟨K, G⟩ ⟨hG, hL⟩
  dsimp only at hG ⊢
  rw [← hL]
  refine zh ?_; refine Z293 ?_; refine Z146 ?_
  exact zge L 900 (r:=zac b _ tyU) (rs:=[.tmp 8]) rfl (fun _ _ h => h) Since.refl rfl rfl (fun _ => rfl)
end Go.V.So
set_option maxRecDepth 20000
namespace Go.V.So
open Go.Proofs Go.RowKit Go.V Go.Sort
theorem _root_.Go.V.Z122 {A B:Prop} (h:B) (t:Wr B → A:=by intro h; refine zf (id:=21) ?_; exact h.h):A:=t ⟨h⟩
theorem _root_.Go.V.Z372 {A B:Prop} (h:B) (t:Wr B → A:=by intro h; refine Z101 ?_; refine Z148 ?_; exact h.h):A:=t ⟨h⟩
theorem _root_.Go.V.Z416 {A B:Prop} (h:B) (t:Wr B → A:=by intro h; refine Z122 ?_; refine Z1 ?_; exact h.h):A:=t ⟨h⟩
attribute [local irreducible] V N X VO Par StepOK Has Ret RetL RetO zce zd7 Src
theorem zf2 {d:Array Int} {e i:Nat} (h:¬ (i < e ∧ lt d[i]! d[i - 1]! = false)):scanSorted lt d e i = i:=by
 rw [scanSorted, if_neg]
 simpa using h
theorem zmb {d:Array Int} {e i:Nat} (h1:i < e) (h2:lt d[i]! d[i - 1]! = false):scanSorted lt d e i = scanSorted lt d e (i + 1):=by
 rw [scanSorted, if_pos (by simp [h1, h2])]
set_option maxHeartbeats 2000000 in
set_option maxRecDepth 20000 in
theorem pins_ret {d:Array Int} {rest:List Value} {b m cap a e:Nat} (hab:a < e) (he:e ≤ d.size) (hm:d.size = m) (hm1:m ≤ 100000) {w:World} {B:Heap} {C:Nat → Prop} (hB:B.Le (hp w))
  (hr:(zac b (uC d ++ rest) tyU).P B w C) (hC:∀ k, C k → k < w.heap.size ∧ B k = none) :
  zd7 Tryz.prog 106 [.slice (some ⟨b, 0, none⟩) m cap, .int .i64 a, .int .i64 e] w B C (zac b (uC (partialInsertionSort lt d a e).1 ++ rest) tyU) (.bool (partialInsertionSort lt d a e).2):=by
 unfold zd7
 refine zat 900 (zac b (uC d ++ rest) tyU) Tryz.func106 rfl Tryz.ntmps106 (Nat.le_of_ble_eq_true rfl) hB hr hC ?_
 rw [za4]
 have hw1:IntKind.i64.wrap ((a:Int) + 1) = ((a + 1:Nat):Int):=zaa (by omega) (by omega)
 have hw2:IntKind.i64.wrap ((e:Int) - (a:Int)) = ((e - a:Nat):Int):=zaa (by omega) (by omega) |>.trans (by omega)
 obtain ⟨X, hX⟩:∃ X, X = partialInsertionSort lt d a e:=⟨_, rfl⟩
 rw [← hX]
 unfold partialInsertionSort at hX
 refine Z309 ?_; refine Z18 ?_; refine Z155 ?_; refine Z383 ?_
 refine zal (fun s:(Nat × Nat) × Array Int => [(0, .is (.slice (some ⟨b, 0, none⟩) m cap)), (1, .is (.int .i64 a)), (2, .is (.int .i64 e)), (7, .is (.int .i64 s.1.2)), (8, .is (.int .i64 s.1.1)), (900, .own (zan b (uC s.2 ++ rest) tyU))]) (fun s => s.1.1 ≤ 5 ∧ a + 1 ≤ s.1.2 ∧ s.1.2 ≤ e ∧ s.2.size = m ∧ partialIns lt a e (5 - s.1.1) s.1.2 s.2 = X) (fun s => 5 - s.1.1) ((0, a + 1), d) ⟨by dsimp only; omega, by dsimp only; omega, by dsimp only; omega, hm, hX.symm⟩ ⟨rfl, rfl, rfl, rfl, rfl, rfl, trivial⟩ ?_
 rintro ⟨⟨k, i0⟩, D⟩ ⟨hk, hi1, hi2, hD, hL⟩
 dsimp only at hk hi1 hi2 hD hL ⊢
 clear hX
 by_cases hk5:k < 5
 ·obtain ⟨s, hs⟩:∃ s, 5 - k = s + 1:=⟨5 - k - 1, by omega⟩
  have hs':5 - (k + 1) = s:=by omega
  rw [hs, partialIns] at hL
  dsimp only at hL
  refine Z266 ?_; refine Z186 ?_; refine Z178 ?_; refine qm ?_
  refine zhq (zd3 (fun i:Nat => [(0, .is (.slice (some ⟨b, 0, none⟩) m cap)), (1, .is (.int .i64 a)), (2, .is (.int .i64 e)), (7, .is (.int .i64 i)), (8, .is (.int .i64 k)), (900, .own (zan b (uC D ++ rest) tyU))]) (fun i => a + 1 ≤ i ∧ i ≤ e ∧ i = scanSorted lt D e i0) (fun _ => []) ?_) ?_
  rotate_left
  ·refine zal (fun i:Nat => [(0, .is (.slice (some ⟨b, 0, none⟩) m cap)), (1, .is (.int .i64 a)), (2, .is (.int .i64 e)), (7, .is (.int .i64 i)), (8, .is (.int .i64 k)), (900, .own (zan b (uC D ++ rest) tyU))]) (fun i => a + 1 ≤ i ∧ i ≤ e ∧ scanSorted lt D e i = scanSorted lt D e i0) (fun i => e - i) i0 ⟨hi1, hi2, rfl⟩ ⟨rfl, rfl, rfl, rfl, rfl, rfl, trivial⟩ ?_
   rintro i ⟨h1, h2, h3⟩
   by_cases hle:i < e
   ·obtain ⟨_, q1⟩:=zdc (rest:=rest) (show i < D.size by omega) (0 + (i) * 1) rfl
    obtain ⟨_, q2⟩:=zdc (rest:=rest) (show i - 1 < D.size by omega) (0 + (i - 1) * 1) rfl
    have hw3:IntKind.i64.wrap ((i:Int) - 1) = ((i - 1:Nat):Int):=zaa (by omega) (by omega) |>.trans (by omega)
    cases hc:lt D[i]! D[i - 1]! with
    | false =>
     have hw4:IntKind.i64.wrap ((i:Int) + 1) = ((i + 1:Nat):Int):=zaa (by omega) (by omega)
     refine Z147 ?_; refine qf (id:=5) [(200024, [900]), (200029, [900])] mixed (by kernel_rfl) ?_; refine Z153 ?_; refine Z75 ?_; refine Z189 ?_; refine z8 (ql L _ rfl rfl rfl rfl rfl rfl rfl (by omega)) rfl ?_; refine qg (qn L (q:=900) rfl rfl rfl rfl rfl q1) rfl rfl ?_; refine Z252 ?_; refine z8 (ql L _ rfl rfl rfl rfl rfl rfl rfl (by omega)) rfl ?_; refine qg (qn L (q:=900) rfl rfl rfl rfl rfl q2) rfl rfl ?_; refine z8 (zp L rfl rfl (zk rfl) rfl rfl rfl (fun u H hH _ _ => zbg hc hH)) rfl ?_; refine Z62 ?_; refine Z295 ?_; refine Z150 ?_; refine qm ?_; refine Z198 ?_; refine Z217 ?_; refine yc ?_
     exact yj (x:=i) (i + 1) ⟨by omega, by omega, by rw [← h3]; exact (zmb hle hc).symm⟩ (by omega) ⟨rfl, rfl, rfl, rfl, rfl, rfl, trivial⟩
    | true =>
     refine Z147 ?_; refine qf (id:=5) [(200024, [900]), (200029, [900])] mixed (by kernel_rfl) ?_; refine Z153 ?_; refine Z75 ?_; refine Z189 ?_; refine z8 (ql L _ rfl rfl rfl rfl rfl rfl rfl (by omega)) rfl ?_; refine qg (qn L (q:=900) rfl rfl rfl rfl rfl q1) rfl rfl ?_; refine Z252 ?_; refine z8 (ql L _ rfl rfl rfl rfl rfl rfl rfl (by omega)) rfl ?_; refine qg (qn L (q:=900) rfl rfl rfl rfl rfl q2) rfl rfl ?_; refine z8 (zp L rfl rfl (zk rfl) rfl rfl rfl (fun u H hH _ _ => zbg hc hH)) rfl ?_; refine Z62 ?_; refine Z282 ?_
     exact za5 i Since.refl ⟨h1, h2, by rw [← h3]; exact (zf2 (by rintro ⟨_, h⟩; simp [hc] at h)).symm⟩ rfl ⟨rfl, rfl, rfl, rfl, rfl, rfl, trivial⟩
   ·refine Z147 ?_; refine Z133 ?_; refine Z153 ?_; refine Z91 ?_; refine Z311 ?_; refine Z4 ?_; refine Z282 ?_
    exact za5 i Since.refl ⟨h1, h2, by rw [← h3]; exact (zf2 (by rintro ⟨h, _⟩; exact hle h)).symm⟩ rfl ⟨rfl, rfl, rfl, rfl, rfl, rfl, trivial⟩
  ·rintro i ⟨h1, h2, h3⟩
   rw [← h3] at hL
   by_cases hie:i = e
   ·rw [if_pos hie] at hL
    subst hie
    rw [← hL]
    refine Z147 ?_; refine Z337 ?_; refine Z310 ?_; refine Z382 ?_
    exact zge L 900 (r:=zac b _ tyU) (rs:=[.tmp 6]) rfl (fun _ _ h => h) Since.refl rfl rfl (fun _ => rfl)
   ·rw [if_neg hie] at hL
    by_cases h50:e - a < 50
    ·rw [if_pos h50] at hL
     rw [← hL]
     refine Z147 ?_; refine Z337 ?_; refine Z289 ?_; refine Z60 ?_; refine Z216 ?_; refine Z7 ?_; refine Z164 ?_; refine Z69 ?_; refine Z146 ?_
     exact zge L 900 (r:=zac b _ tyU) (rs:=[.tmp 6]) rfl (fun _ _ h => h) Since.refl rfl rfl (fun _ => rfl)
    ·rw [if_neg h50] at hL
     have hw3:IntKind.i64.wrap ((i:Int) - 1) = ((i - 1:Nat):Int):=zaa (by omega) (by omega) |>.trans (by omega)
     have hw4:IntKind.i64.wrap ((i:Int) - (a:Int)) = ((i - a:Nat):Int):=zaa (by omega) (by omega) |>.trans (by omega)
     have hw5:IntKind.i64.wrap ((e:Int) - (i:Int)) = ((e - i:Nat):Int):=zaa (by omega) (by omega) |>.trans (by omega)
     have hw6:IntKind.i64.wrap ((i:Int) + 1) = ((i + 1:Nat):Int):=zaa (by omega) (by omega)
     have hw7:IntKind.i64.wrap ((k:Int) + 1) = ((k + 1:Nat):Int):=zaa (by omega) (by omega)
     have hDs:=zbs D i (i - 1)
     obtain ⟨_, qj⟩:=zdc (rest:=rest) (show i - 1 < D.size by omega) (0 + (i - 1) * 1) rfl
     obtain ⟨_, qi⟩:=zdc (rest:=rest) (show i < D.size by omega) (0 + (i) * 1) rfl
     have s1:=zcf (rest:=rest) D[i - 1]! (show i < D.size by omega) (0 + (i) * 1) rfl
     have b1:=zcg (rest:=rest) (show i < D.size by omega) (0 + (i) * 1) rfl
     have hz:i - 1 < (D.setIfInBounds (i) D[i - 1]!).size:=by rw [Array.size_setIfInBounds]; omega
     have s2:=zcf (rest:=rest) D[i]! hz (0 + (i - 1) * 1) rfl
     have b2:=zcg (rest:=rest) hz (0 + (i - 1) * 1) rfl
     rw [zdh] at s2
     refine Z147 ?_; refine Z337 ?_; refine Z289 ?_; refine Z60 ?_; refine Z216 ?_; refine Z10 ?_; refine Z169 ?_; refine qf (id:=11) [(200051, [900]), (200055, [900]), (100056, [900]), (100057, [900])] mixed (by kernel_rfl) ?_; refine Z153 ?_; refine Z252 ?_; refine Z252 ?_; refine z8 (ql L _ rfl rfl rfl rfl rfl rfl rfl (by omega)) rfl ?_; refine qg (qn L (q:=900) rfl rfl rfl rfl rfl qj) rfl rfl ?_; refine Z153 ?_; refine z8 (ql L _ rfl rfl rfl rfl rfl rfl rfl (by omega)) rfl ?_; refine qg (qn L (q:=900) rfl rfl rfl rfl rfl qi) rfl rfl ?_; refine z8 (ql L _ rfl rfl rfl rfl rfl rfl rfl (by omega)) rfl ?_; refine x5 (yz L (q:=900) rfl rfl rfl rfl rfl rfl b1 rfl s1) rfl ?_; refine z8 (ql L _ rfl rfl rfl rfl rfl rfl rfl (by omega)) rfl ?_; refine x5 (yz L (q:=900) rfl rfl rfl rfl rfl rfl b2 rfl s2) rfl ?_; refine Z157 ?_; refine Z147 ?_
     generalize swp D i (i - 1) = D1 at *
     obtain ⟨D2, hD2⟩:∃ D2, D2 = (if i - a ≥ 2 then shiftDown lt (i - 1) D1 else D1):=⟨_, rfl⟩
     rw [← hD2] at hL
     refine zfn (fun E:Array Int => [(0, .is (.slice (some ⟨b, 0, none⟩) m cap)), (1, .is (.int .i64 a)), (2, .is (.int .i64 e)), (7, .is (.int .i64 i)), (8, .is (.int .i64 k)), (900, .own (zan b (uC E ++ rest) tyU))]) (fun E => E.size = m ∧ E = D2) (fun _ => []) ?_ ?_
     rotate_left
     ·by_cases h2a:i - a ≥ 2
      ·rw [if_pos h2a] at hD2
       refine Z88 ?_; refine Z216 ?_; refine Z42 ?_; refine Z164 ?_; refine Z89 ?_; refine Z238 ?_; refine Z208 ?_
       refine zal (fun t:Nat × Array Int => [(0, .is (.slice (some ⟨b, 0, none⟩) m cap)), (1, .is (.int .i64 a)), (2, .is (.int .i64 e)), (7, .is (.int .i64 i)), (8, .is (.int .i64 k)), (9, .is (.int .i64 t.1)), (900, .own (zan b (uC t.2 ++ rest) tyU))]) (fun t => t.1 ≤ i - 1 ∧ t.2.size = m ∧ shiftDown lt t.1 t.2 = D2) (fun t => t.1) (i - 1, D1) ⟨Nat.le_refl _, by dsimp only; omega, hD2.symm⟩ ⟨rfl, rfl, rfl, rfl, rfl, rfl, rfl, trivial⟩ ?_
       rintro ⟨j, E⟩ ⟨hj, hE, hS⟩
       dsimp only at hj hE hS ⊢
       clear hD2
       rcases j with _ | j
       ·rw [shiftDown] at hS
        refine Z147 ?_; refine Z280 ?_; refine Z46 ?_; refine Z149 ?_; refine Z172 ?_
        exact za5 E Since.refl ⟨hE, hS⟩ rfl ⟨rfl, rfl, rfl, rfl, rfl, rfl, trivial⟩
       ·rw [shiftDown] at hS
        have hw8:IntKind.i64.wrap (((j + 1:Nat):Int) - 1) = (j:Int):=zaa (by omega) (by omega) |>.trans (by omega)
        obtain ⟨_, q1⟩:=zdc (rest:=rest) (show j + 1 < E.size by omega) (0 + (j + 1) * 1) rfl
        obtain ⟨_, q2⟩:=zdc (rest:=rest) (show j < E.size by omega) (0 + (j) * 1) rfl
        cases hc:lt E[j + 1]! E[j]! with
        | false =>
         rw [if_pos (by rw [hc]; rfl)] at hS
         refine Z147 ?_; refine Z280 ?_; refine Z267 ?_; refine Z352 ?_; refine qf (id:=16) [(200071, [900]), (200076, [900])] mixed (by kernel_rfl) ?_; refine Z153 ?_; refine z8 (ql L _ rfl rfl rfl rfl rfl rfl rfl (by omega)) rfl ?_; refine qg (qn L (q:=900) rfl rfl rfl rfl rfl q1) rfl rfl ?_; refine Z252 ?_; refine z8 (ql L _ rfl rfl rfl rfl rfl rfl rfl (by omega)) rfl ?_; refine qg (qn L (q:=900) rfl rfl rfl rfl rfl q2) rfl rfl ?_; refine z8 (zp L rfl rfl (zk rfl) rfl rfl rfl (fun u H hH _ _ => zbg hc hH)) rfl ?_; refine Z62 ?_; refine Z157 ?_; refine Z13 ?_; refine Z170 ?_; refine zk1 rfl ?_; refine y8 ?_; refine y8 ?_; refine yu ?_
         exact za5 E Since.refl ⟨hE, hS⟩ rfl ⟨rfl, rfl, rfl, rfl, rfl, rfl, trivial⟩
        | true =>
         rw [if_neg (by rw [hc]; simp)] at hS
         obtain ⟨_, qj⟩:=zdc (rest:=rest) (show j < E.size by omega) (0 + (j) * 1) rfl
         obtain ⟨_, qi⟩:=zdc (rest:=rest) (show j + 1 < E.size by omega) (0 + (j + 1) * 1) rfl
         have s1:=zcf (rest:=rest) E[j]! (show j + 1 < E.size by omega) (0 + (j + 1) * 1) rfl
         have b1:=zcg (rest:=rest) (show j + 1 < E.size by omega) (0 + (j + 1) * 1) rfl
         have hz:j < (E.setIfInBounds (j + 1) E[j]!).size:=by rw [Array.size_setIfInBounds]; omega
         have s2:=zcf (rest:=rest) E[j + 1]! hz (0 + (j) * 1) rfl
         have b2:=zcg (rest:=rest) hz (0 + (j) * 1) rfl
         rw [zdh] at s2
         refine Z147 ?_; refine Z280 ?_; refine Z267 ?_; refine Z352 ?_; refine qf (id:=16) [(200071, [900]), (200076, [900])] mixed (by kernel_rfl) ?_; refine Z153 ?_; refine z8 (ql L _ rfl rfl rfl rfl rfl rfl rfl (by omega)) rfl ?_; refine qg (qn L (q:=900) rfl rfl rfl rfl rfl q1) rfl rfl ?_; refine Z252 ?_; refine z8 (ql L _ rfl rfl rfl rfl rfl rfl rfl (by omega)) rfl ?_; refine qg (qn L (q:=900) rfl rfl rfl rfl rfl q2) rfl rfl ?_; refine z8 (zp L rfl rfl (zk rfl) rfl rfl rfl (fun u H hH _ _ => zbg hc hH)) rfl ?_; refine Z62 ?_; refine Z265 ?_; refine Z150 ?_; refine qf (id:=17) [(200088, [900]), (200092, [900]), (100093, [900]), (100094, [900])] mixed (by kernel_rfl) ?_; refine Z153 ?_; refine Z252 ?_; refine Z252 ?_; refine z8 (ql L _ rfl rfl rfl rfl rfl rfl rfl (by omega)) rfl ?_; refine qg (qn L (q:=900) rfl rfl rfl rfl rfl qj) rfl rfl ?_; refine Z153 ?_; refine z8 (ql L _ rfl rfl rfl rfl rfl rfl rfl (by omega)) rfl ?_; refine qg (qn L (q:=900) rfl rfl rfl rfl rfl qi) rfl rfl ?_; refine z8 (ql L _ rfl rfl rfl rfl rfl rfl rfl (by omega)) rfl ?_; refine x5 (yz L (q:=900) rfl rfl rfl rfl rfl rfl b1 rfl s1) rfl ?_; refine z8 (ql L _ rfl rfl rfl rfl rfl rfl rfl (by omega)) rfl ?_; refine x5 (yz L (q:=900) rfl rfl rfl rfl rfl rfl b2 rfl s2) rfl ?_; refine Z271 ?_; refine Z100 ?_; refine Z238 ?_; refine Z162 ?_
         exact yj (x:=(j + 1, E)) (j, swp E (j + 1) j) ⟨by dsimp only; omega, by dsimp only; rw [zbs]; exact hE, hS⟩ (by dsimp only; omega) ⟨rfl, rfl, rfl, rfl, rfl, rfl, rfl, trivial⟩
      ·rw [if_neg h2a] at hD2
       refine Z88 ?_; refine Z216 ?_; refine Z46 ?_; refine Z201 ?_
       exact za5 D1 Since.refl ⟨by omega, hD2.symm⟩ rfl ⟨rfl, rfl, rfl, rfl, rfl, rfl, trivial⟩
     ·rintro G ⟨hG, hGe⟩
      rw [← hGe] at hL
      clear hD2 hGe
      by_cases h2b:e - i ≥ 2
      ·rw [if_pos h2b] at hL
       obtain ⟨D3, hD3⟩:∃ D3, D3 = shiftUp lt e (i + 1) G:=⟨_, rfl⟩
       rw [← hD3] at hL
       refine zh ?_; refine Z106 ?_; refine Z216 ?_; refine Z42 ?_; refine Z164 ?_; refine Z127 ?_; refine Z414 ?_; refine Z208 ?_
       ·refine zal (fun t:Nat × Array Int => [(0, .is (.slice (some ⟨b, 0, none⟩) m cap)), (1, .is (.int .i64 a)), (2, .is (.int .i64 e)), (7, .is (.int .i64 i)), (8, .is (.int .i64 k)), (10, .is (.int .i64 t.1)), (900, .own (zan b (uC t.2 ++ rest) tyU))]) (fun t => i + 1 ≤ t.1 ∧ t.1 ≤ e ∧ t.2.size = m ∧ shiftUp lt e t.1 t.2 = D3) (fun t => e - t.1) (i + 1, G) ⟨Nat.le_refl _, by dsimp only; omega, hG, hD3.symm⟩ ⟨rfl, rfl, rfl, rfl, rfl, rfl, rfl, trivial⟩ ?_
        rintro ⟨j, E⟩ ⟨hj1, hj2, hE, hS⟩
        dsimp only at hj1 hj2 hE hS ⊢
        clear hD3
        rw [shiftUp] at hS
        by_cases hje:j < e
        ·rw [if_pos hje] at hS
         have hw8:IntKind.i64.wrap ((j:Int) - 1) = ((j - 1:Nat):Int):=zaa (by omega) (by omega) |>.trans (by omega)
         have hw9:IntKind.i64.wrap ((j:Int) + 1) = ((j + 1:Nat):Int):=zaa (by omega) (by omega)
         obtain ⟨_, q1⟩:=zdc (rest:=rest) (show j < E.size by omega) (0 + (j) * 1) rfl
         obtain ⟨_, q2⟩:=zdc (rest:=rest) (show j - 1 < E.size by omega) (0 + (j - 1) * 1) rfl
         cases hc:lt E[j]! E[j - 1]! with
         | false =>
          rw [if_pos (by rw [hc]; rfl)] at hS
          refine Z147 ?_; refine Z372 ?_; refine Z186 ?_; refine Z352 ?_; refine qf (id:=22) [(200109, [900]), (200114, [900])] mixed (by kernel_rfl) ?_; refine Z153 ?_; refine z8 (ql L _ rfl rfl rfl rfl rfl rfl rfl (by omega)) rfl ?_; refine qg (qn L (q:=900) rfl rfl rfl rfl rfl q1) rfl rfl ?_; refine Z252 ?_; refine z8 (ql L _ rfl rfl rfl rfl rfl rfl rfl (by omega)) rfl ?_; refine qg (qn L (q:=900) rfl rfl rfl rfl rfl q2) rfl rfl ?_; refine z8 (zp L rfl rfl (zk rfl) rfl rfl rfl (fun u H hH _ _ => zbg hc hH)) rfl ?_; refine Z62 ?_; refine Z157 ?_; refine Z13 ?_; refine Z170 ?_; refine zk1 rfl ?_; refine y8 ?_; refine y8 ?_; refine yu ?_; refine Z175 ?_; refine Z371 ?_
          exact yj (x:=((k, i0), D)) ((k + 1, i), E) ⟨by dsimp only; omega, by dsimp only; omega, by dsimp only; omega, hE, by dsimp only; rw [hs', hS]; exact hL⟩ (by dsimp only; omega) ⟨rfl, rfl, rfl, rfl, rfl, rfl, trivial⟩
         | true =>
          rw [if_neg (by rw [hc]; simp)] at hS
          obtain ⟨_, qj⟩:=zdc (rest:=rest) (show j - 1 < E.size by omega) (0 + (j - 1) * 1) rfl
          obtain ⟨_, qi⟩:=zdc (rest:=rest) (show j < E.size by omega) (0 + (j) * 1) rfl
          have s1:=zcf (rest:=rest) E[j - 1]! (show j < E.size by omega) (0 + (j) * 1) rfl
          have b1:=zcg (rest:=rest) (show j < E.size by omega) (0 + (j) * 1) rfl
          have hz:j - 1 < (E.setIfInBounds (j) E[j - 1]!).size:=by rw [Array.size_setIfInBounds]; omega
          have s2:=zcf (rest:=rest) E[j]! hz (0 + (j - 1) * 1) rfl
          have b2:=zcg (rest:=rest) hz (0 + (j - 1) * 1) rfl
          rw [zdh] at s2
          refine Z147 ?_; refine Z372 ?_; refine Z186 ?_; refine Z352 ?_; refine qf (id:=22) [(200109, [900]), (200114, [900])] mixed (by kernel_rfl) ?_; refine Z153 ?_; refine z8 (ql L _ rfl rfl rfl rfl rfl rfl rfl (by omega)) rfl ?_; refine qg (qn L (q:=900) rfl rfl rfl rfl rfl q1) rfl rfl ?_; refine Z252 ?_; refine z8 (ql L _ rfl rfl rfl rfl rfl rfl rfl (by omega)) rfl ?_; refine qg (qn L (q:=900) rfl rfl rfl rfl rfl q2) rfl rfl ?_; refine z8 (zp L rfl rfl (zk rfl) rfl rfl rfl (fun u H hH _ _ => zbg hc hH)) rfl ?_; refine Z62 ?_; refine Z265 ?_; refine Z150 ?_; refine qf (id:=23) [(200126, [900]), (200130, [900]), (100131, [900]), (100132, [900])] mixed (by kernel_rfl) ?_; refine Z153 ?_; refine Z252 ?_; refine Z252 ?_; refine z8 (ql L _ rfl rfl rfl rfl rfl rfl rfl (by omega)) rfl ?_; refine qg (qn L (q:=900) rfl rfl rfl rfl rfl qj) rfl rfl ?_; refine Z153 ?_; refine z8 (ql L _ rfl rfl rfl rfl rfl rfl rfl (by omega)) rfl ?_; refine qg (qn L (q:=900) rfl rfl rfl rfl rfl qi) rfl rfl ?_; refine z8 (ql L _ rfl rfl rfl rfl rfl rfl rfl (by omega)) rfl ?_; refine x5 (yz L (q:=900) rfl rfl rfl rfl rfl rfl b1 rfl s1) rfl ?_; refine z8 (ql L _ rfl rfl rfl rfl rfl rfl rfl (by omega)) rfl ?_; refine x5 (yz L (q:=900) rfl rfl rfl rfl rfl rfl b2 rfl s2) rfl ?_; refine Z271 ?_; refine Z416 ?_; refine Z217 ?_
          exact yj (x:=(j, E)) (j + 1, swp E j (j - 1)) ⟨by dsimp only; omega, by dsimp only; omega, by dsimp only; rw [zbs]; exact hE, hS⟩ (by dsimp only; omega) ⟨rfl, rfl, rfl, rfl, rfl, rfl, rfl, trivial⟩
        ·rw [if_neg hje] at hS
         refine Z147 ?_; refine Z101 ?_; refine Z367 ?_; refine Z172 ?_; refine Z175 ?_; refine Z371 ?_
         exact yj (x:=((k, i0), D)) ((k + 1, i), E) ⟨by dsimp only; omega, by dsimp only; omega, by dsimp only; omega, hE, by dsimp only; rw [hs', hS]; exact hL⟩ (by dsimp only; omega) ⟨rfl, rfl, rfl, rfl, rfl, rfl, trivial⟩
      ·rw [if_neg h2b] at hL
       refine zh ?_; refine Z106 ?_; refine Z216 ?_; refine Z46 ?_; refine Z228 ?_; refine Z371 ?_
       exact yj (x:=((k, i0), D)) ((k + 1, i), G) ⟨by dsimp only; omega, by dsimp only; omega, by dsimp only; omega, hG, by dsimp only; rw [hs']; exact hL⟩ (by dsimp only; omega) ⟨rfl, rfl, rfl, rfl, rfl, rfl, trivial⟩
 ·obtain rfl:k = 5:=by omega
  have hL':(D, false) = X:=hL
  rw [← hL']
  refine Z266 ?_; refine Z269 ?_; refine zf (id:=24) ?_; refine Z146 ?_
  exact zge L 900 (r:=zac b _ tyU) (rs:=[.tmp 6]) rfl (fun _ _ h => h) Since.refl rfl rfl (fun _ => rfl)
end Go.V.So
set_option maxRecDepth 20000
namespace Go.V.So
open Go.Proofs Go.RowKit Go.V Go.Sort
theorem _root_.Go.V.Z51 {A B:Prop} (h:B) (t:Wr B → A:=by intro h; refine qg (qn L (q:=900) rfl rfl rfl rfl rfl rfl) rfl rfl ?_; exact h.h):A:=t ⟨h⟩
theorem _root_.Go.V.Z65 {A B:Prop} (h:B) (t:Wr B → A:=by intro h; refine yt (qn L (q:=900) rfl rfl rfl rfl rfl rfl) ?_; exact h.h):A:=t ⟨h⟩
theorem _root_.Go.V.Z402 {A B:Prop} (h:B) (t:Wr B → A:=by intro h; refine Z23 ?_; refine x5 (yz L (q:=900) rfl rfl rfl rfl rfl rfl rfl rfl rfl) rfl ?_; exact h.h):A:=t ⟨h⟩
abbrev tyX:TypeId:=233
attribute [local irreducible] V N X VO Par StepOK Has Ret RetL RetO zce zd7 Src
set_option maxRecDepth 20000 in
theorem zq4 {x b:Nat} (hx:x < 18446744073709551616) {w:World} {B:Heap} {C:Nat → Prop} (hB:B.Le (hp w))
  (hr:(zac b [.int .u64 x] tyX).P B w C) (hC:∀ k, C k → k < w.heap.size ∧ B k = none) :
  zd7 Tryz.prog 150 [.pointer (some ⟨b, 0, none⟩)] w B C (zac b [.int .u64 (xorNextN x:Nat)] tyX) (.int .u64 (xorNextN x:Nat)):=by
 obtain ⟨X1, h1⟩:∃ X1:Nat, X1 = x ^^^ (x * 8192 % 18446744073709551616):=⟨_, rfl⟩
 obtain ⟨X2, h2⟩:∃ X2:Nat, X2 = X1 ^^^ (X1 / 128):=⟨_, rfl⟩
 obtain ⟨X3, h3⟩:∃ X3:Nat, X3 = X2 ^^^ (X2 * 131072 % 18446744073709551616):=⟨_, rfl⟩
 have l1:X1 < 18446744073709551616:=by rw [h1]; exact Nat.xor_lt_two_pow (n:=64) (by omega) (by omega)
 have l2:X2 < 18446744073709551616:=by rw [h2]; exact Nat.xor_lt_two_pow (n:=64) (by omega) (by omega)
 have l3:X3 < 18446744073709551616:=by rw [h3]; exact Nat.xor_lt_two_pow (n:=64) (by omega) (by omega)
 have hv:xorNextN x = X3:=by unfold xorNextN; simp only []; rw [← h1, ← h2, ← h3]
 have s1:IntKind.u64.wrap ((x:Int) * 2 ^ min (13:Int).toNat IntKind.u64.bits) = ((x * 8192 % 18446744073709551616:Nat):Int):=by
  rw [IntKind.wrap_u64, show ((2:Int) ^ min (13:Int).toNat IntKind.u64.bits) = 8192 from by decide]; omega
 have s2:(X1:Int).fdiv (2 ^ min (7:Int).toNat IntKind.u64.bits) = ((X1 / 128:Nat):Int):=by
  rw [show ((2:Int) ^ min (7:Int).toNat IntKind.u64.bits) = 128 from by decide, Int.fdiv_eq_ediv_of_nonneg _ (by omega)]; omega
 have s3:IntKind.u64.wrap ((X2:Int) * 2 ^ min (17:Int).toNat IntKind.u64.bits) = ((X2 * 131072 % 18446744073709551616:Nat):Int):=by
  rw [IntKind.wrap_u64, show ((2:Int) ^ min (17:Int).toNat IntKind.u64.bits) = 131072 from by decide]; omega
 have x1:bits .xor .u64 (x:Int) ((x * 8192 % 18446744073709551616:Nat):Int) = (X1:Int):=by rw [bits_xor_u64_nat _ _ hx (by omega), h1]
 have x2:bits .xor .u64 (X1:Int) ((X1 / 128:Nat):Int) = (X2:Int):=by rw [bits_xor_u64_nat _ _ l1 (by omega), h2]
 have x3:bits .xor .u64 (X2:Int) ((X2 * 131072 % 18446744073709551616:Nat):Int) = (X3:Int):=by rw [bits_xor_u64_nat _ _ l2 (by omega), h3]
 rw [hv]
 clear hv h1 h2 h3
 unfold zd7
 refine zat 900 (zac b [.int .u64 x] tyX) Tryz.func150 rfl Tryz.ntmps150 (Nat.le_of_ble_eq_true rfl) hB hr hC ?_
 rw [za4]
 refine Z154 ?_; refine Z151 ?_; refine qf (id:=1) [(200005, [900]), (200008, [900]), (100011, [900])] mixed (by kernel_rfl) ?_; refine Z3 ?_; refine Z23 ?_; refine Z51 ?_; refine Z3 ?_; refine Z23 ?_; refine Z51 ?_; refine z8 (zu0 rfl rfl rfl rfl (by decide) s1) rfl ?_; refine z8 (zuy rfl rfl rfl rfl x1) rfl ?_; refine Z402 ?_; refine Z306 ?_; refine qf (id:=2) [(200014, [900]), (200017, [900]), (100020, [900])] mixed (by kernel_rfl) ?_; refine Z3 ?_; refine Z23 ?_; refine Z51 ?_; refine Z3 ?_; refine Z23 ?_; refine Z51 ?_; refine z8 (zzt rfl rfl rfl rfl (by decide) s2) rfl ?_; refine z8 (zuy rfl rfl rfl rfl x2) rfl ?_; refine Z402 ?_; refine Z306 ?_; refine qf (id:=3) [(200023, [900]), (200026, [900]), (100029, [900])] mixed (by kernel_rfl) ?_; refine Z3 ?_; refine Z23 ?_; refine Z51 ?_; refine Z3 ?_; refine Z23 ?_; refine Z51 ?_; refine z8 (zu0 rfl rfl rfl rfl (by decide) s3) rfl ?_; refine z8 (zuy rfl rfl rfl rfl x3) rfl ?_; refine Z402 ?_; refine Z306 ?_; refine Z173 ?_; refine Z61 ?_; refine Z65 ?_; refine Z146 ?_
 exact zge L 900 (r:=zac b _ tyX) (rs:=[.tmp 2]) rfl (fun _ _ h => h) Since.refl rfl rfl (fun _ => rfl)
end Go.V.So
set_option maxRecDepth 20000
namespace Go.V.So
open Go.Proofs Go.RowKit Go.V Go.Sort
theorem _root_.Go.V.Z261 {A B:Prop} (h:B) (t:Wr B → A:=by intro h; refine Z50 ?_; refine Z236 ?_; exact h.h):A:=t ⟨h⟩
theorem _root_.Go.V.Z341 {A B:Prop} (h:B) (t:Wr B → A:=by intro h; refine Z31 ?_; refine Z148 ?_; exact h.h):A:=t ⟨h⟩
attribute [local irreducible] V N X VO Par StepOK Has Ret RetL RetO zce zd7 Src
set_option maxRecDepth 20000 in
theorem zky {n:Nat} (hn:n < 18446744073709551616) {w:World} {B:Heap} (hB:B.Le (hp w)):Ret Tryz.prog 73 [.int .u64 n] w B (fun v _ => v = .int .i64 (bitsLen n)):=by
 refine yg Tryz.func73 rfl Tryz.ntmps73 (Nat.le_of_ble_eq_true rfl) hB ?_
 refine Z154 ?_; refine Z151 ?_; refine Z9 ?_; refine Z156 ?_; refine Z182 ?_; refine z7 (zp L rfl rfl (zk rfl) rfl rfl rfl (fun u H hH _ _ => Ret.of_same hH (Tryz.bits_Len64 (n:Int) u (by omega) (by omega)))) rfl ?_; refine Z146 ?_
 refine yd L (rs:=[.tmp 2]) rfl (fun _ _ h => h) Since.refl fun u H hH hle => ?_
 rw [Int.toNat_natCast, bitLen_eq n hn]
 rfl
theorem zxy {n:Nat} (hn:n ≤ 100000) {w:World} {B:Heap} (hB:B.Le (hp w)):Ret Tryz.prog 149 [.int .i64 n] w B (fun v _ => v = .int .u64 (1 <<< bitsLen n:Nat)):=by
 have hb:bitsLen n ≤ 17:=(bitsLen_le_iff n 17).2 (by omega)
 have hp2:(2:Nat) ^ bitsLen n ≤ 2 ^ 17:=Nat.pow_le_pow_right (by omega) hb
 have hmin:min ((bitsLen n:Nat):Int).toNat IntKind.u64.bits = bitsLen n:=by
  rw [Int.toNat_natCast]
  have:IntKind.u64.bits = 64:=by decide
  omega
 have s1:IntKind.u64.wrap ((1:Int) * 2 ^ min ((bitsLen n:Nat):Int).toNat IntKind.u64.bits) = ((1 <<< bitsLen n:Nat):Int):=by
  rw [hmin, Nat.shiftLeft_eq, Nat.one_mul, Int.one_mul, Int.natCast_pow]
  have e2:((2:Nat):Int) ^ bitsLen n = ((2 ^ bitsLen n:Nat):Int):=(Int.natCast_pow 2 _).symm
  rw [show ((2:Int) ^ bitsLen n) = ((2:Nat):Int) ^ bitsLen n from rfl, e2]
  have hp3:2 ^ bitsLen n ≤ 131072:=hp2
  clear hp2 hmin e2
  generalize 2 ^ bitsLen n = M at *
  exact wrap_u64 (by omega) (by omega)
 have hc:IntKind.u64.wrap (n:Int) = (n:Int):=wrap_u64 (by omega) (by omega)
 refine yg Tryz.func149 rfl Tryz.ntmps149 (Nat.le_of_ble_eq_true rfl) hB ?_
 refine Z309 ?_; refine z7 (zav rfl rfl rfl zbu.1 zbu.2 (wrap_u64 (by omega) (by omega))) rfl ?_; refine z7 (zp L rfl rfl (zk rfl) rfl rfl rfl (fun u H hH _ _ => zky (by omega) hH)) rfl ?_; refine z7 (zu0 rfl rfl rfl rfl (by omega) s1) rfl ?_; refine Z146 ?_
 refine yd L (rs:=[.tmp 2]) rfl (fun _ _ h => h) Since.refl fun u H hH hle => ?_
 rfl
set_option maxHeartbeats 2000000 in
set_option maxRecDepth 20000 in
theorem z1w {d:Array Int} {rest:List Value} {b m cap a e:Nat} (hab:a ≤ e) (he:e ≤ d.size) (hm:d.size = m) (hm1:m ≤ 100000) {w:World} {B:Heap} {C:Nat → Prop} (hB:B.Le (hp w))
  (hr:(zac b (uC d ++ rest) tyU).P B w C) (hC:∀ k, C k → k < w.heap.size ∧ B k = none) :
  zce Tryz.prog 103 [.slice (some ⟨b, 0, none⟩) m cap, .int .i64 a, .int .i64 e] w B C (zac b (uC (breakPatterns d a e) ++ rest) tyU):=by
 unfold zce
 refine zat 900 (zac b (uC d ++ rest) tyU) Tryz.func103 rfl Tryz.ntmps103 (Nat.le_of_ble_eq_true rfl) hB hr hC ?_
 rw [za4]
 obtain ⟨Ln, rfl⟩:∃ Ln, e = a + Ln:=⟨e - a, by omega⟩
 have hw0:IntKind.i64.wrap (((a + Ln:Nat):Int) - (a:Int)) = (Ln:Int):=zaa (by omega) (by omega) |>.trans (by omega)
 by_cases h8:8 ≤ Ln
 ·have hX:=breakPatterns_eq d a Ln h8
  obtain ⟨M, hM⟩:∃ M, M = 1 <<< bitsLen Ln:=⟨_, rfl⟩
  have hb17:bitsLen Ln ≤ 17:=(bitsLen_le_iff Ln 17).2 (by omega)
  have hMp:1 ≤ M ∧ M ≤ 131072:=by
   rw [hM, Nat.shiftLeft_eq, Nat.one_mul]
   exact ⟨Nat.one_le_two_pow, Nat.pow_le_pow_right (by omega) hb17⟩
  have hM2:M ≤ 2 * Ln:=by
   rw [hM, Nat.shiftLeft_eq, Nat.one_mul]
   exact two_pow_bitsLen_le (by omega)
  obtain ⟨I0, hI0⟩:∃ I0, I0 = a + Ln / 4 * 2 - 1:=⟨_, rfl⟩
  rw [← hM, ← hI0] at hX
  have hc1:IntKind.u64.wrap (Ln:Int) = (Ln:Int):=wrap_u64 (by omega) (by omega)
  have et:((Ln:Nat):Int).tdiv 4 = ((Ln / 4:Nat):Int):=by
   rw [Int.tdiv_eq_ediv_of_nonneg (by omega)]
   omega
  have hq:IntKind.i64.wrap (((Ln:Nat):Int).tdiv 4) = ((Ln / 4:Nat):Int):=by rw [et]; exact zaa (by omega) (by omega)
  have hw1:IntKind.i64.wrap (((Ln / 4:Nat):Int) * 2) = ((Ln / 4 * 2:Nat):Int):=zaa (by omega) (by omega) |>.trans (by omega)
  have hw2:IntKind.i64.wrap ((a:Int) + ((Ln / 4 * 2:Nat):Int)) = ((a + Ln / 4 * 2:Nat):Int):=zaa (by omega) (by omega) |>.trans (by omega)
  have hw3:IntKind.i64.wrap (((a + Ln / 4 * 2:Nat):Int) - 1) = (I0:Int):=zaa (by omega) (by omega) |>.trans (by omega)
  have hw4:IntKind.i64.wrap (((a + Ln / 4 * 2:Nat):Int) + 1) = ((I0 + 2:Nat):Int):=zaa (by omega) (by omega) |>.trans (by omega)
  have hM1:IntKind.u64.wrap ((M:Int) - 1) = ((M - 1:Nat):Int):=wrap_u64 (by omega) (by omega) |>.trans (by omega)
  have hln:(UInt64.ofNat Ln).toNat = Ln:=by
   rw [UInt64.toNat_ofNat']
   exact Nat.mod_eq_of_lt (by omega)
  refine Z154 ?_; refine Z216 ?_; refine Z168 ?_; refine Z1 ?_; refine Z42 ?_; refine Z164 ?_; refine Z182 ?_; refine z7 (zav rfl rfl rfl zwe.1 zwe.2 (wrap_u64 (by omega) (by omega))) rfl ?_; refine Z210 ?_; refine Z166 ?_
  refine zr0 7 901 rfl fun br => ?_
  refine Z181 ?_; refine z7 (zp L rfl rfl (zk rfl) rfl rfl rfl (fun u H hH _ _ => hM ▸ zxy (n:=Ln) (by omega) hH)) rfl ?_; refine Z151 ?_; refine Z341 ?_; refine Z261 ?_; refine Z27 ?_; refine Z208 ?_
  refine zal (fun s:Nat × (UInt64 × Array Int) => [(0, .is (.slice (some ⟨b, 0, none⟩) m cap)), (1, .is (.int .i64 a)), (6, .is (.int .i64 Ln)), (7, .is (.pointer (some ⟨br, 0, none⟩))), (8, .is (.int .u64 M)), (9, .is (.int .i64 (I0 + s.1:Nat))), (900, .own (zan b (uC s.2.2 ++ rest) tyU)), (901, .own (zan br [.int .u64 s.2.1.toNat] tyX))]) (fun s => s.1 ≤ 3 ∧ s.2.2.size = m ∧ bpRest a Ln M I0 (3 - s.1) s.1 s.2 = breakPatterns d a (a + Ln)) (fun s => 3 - s.1) (0, (UInt64.ofNat Ln, d)) ⟨by dsimp only; omega, hm, hX.symm⟩ ⟨rfl, rfl, rfl, rfl, rfl, rfl, rfl, by dsimp only; rw [hln]; rfl, trivial⟩ ?_
  rintro ⟨t, ⟨r, D⟩⟩ ⟨ht3, hD, hst⟩
  dsimp only at ht3 hD hst ⊢
  have hrl:r.toNat < 18446744073709551616:=UInt64.toNat_lt r
  by_cases ht:t < 3
  ·obtain ⟨o1, ho1⟩:∃ o1, o1 = xorNextN r.toNat &&& (M - 1):=⟨_, rfl⟩
   have ho1l:o1 ≤ M - 1:=by rw [ho1]; exact Nat.and_le_right
   have hand:bits .and .u64 ((xorNextN r.toNat:Nat):Int) ((M - 1:Nat):Int) = (o1:Int):=by rw [bits_and_u64_nat _ _ (xorNextN_lt _ hrl) (by omega), ho1]
   have hcv:IntKind.i64.wrap (o1:Int) = (o1:Int):=zaa (by omega) (by omega)
   have hwt:IntKind.i64.wrap (((I0 + t:Nat):Int) + 1) = ((I0 + (t + 1):Nat):Int):=zaa (by omega) (by omega) |>.trans (by omega)
   by_cases hoL:Ln ≤ o1
   ·have hw5:IntKind.i64.wrap ((o1:Int) - (Ln:Int)) = ((o1 - Ln:Nat):Int):=zaa (by omega) (by omega) |>.trans (by omega)
    have hw6:IntKind.i64.wrap ((a:Int) + ((o1 - Ln:Nat):Int)) = ((a + (o1 - Ln):Nat):Int):=zaa (by omega) (by omega)
    have ho:(if (xorNext r).toNat &&& (M - 1) ≥ Ln then ((xorNext r).toNat &&& (M - 1)) - Ln else (xorNext r).toNat &&& (M - 1)) = o1 - Ln:=by rw [xorNext_toNat, ← ho1, if_pos hoL]
    obtain ⟨_, qj⟩:=zdc (rest:=rest) (show a + (o1 - Ln) < D.size by omega) (0 + (a + (o1 - Ln)) * 1) rfl
    obtain ⟨_, qi⟩:=zdc (rest:=rest) (show I0 + t < D.size by omega) (0 + (I0 + t) * 1) rfl
    have s1:=zcf (rest:=rest) D[a + (o1 - Ln)]! (show I0 + t < D.size by omega) (0 + (I0 + t) * 1) rfl
    have b1:=zcg (rest:=rest) (show I0 + t < D.size by omega) (0 + (I0 + t) * 1) rfl
    have hz:a + (o1 - Ln) < (D.setIfInBounds (I0 + t) D[a + (o1 - Ln)]!).size:=by rw [Array.size_setIfInBounds]; omega
    have s2:=zcf (rest:=rest) D[I0 + t]! hz (0 + (a + (o1 - Ln)) * 1) rfl
    have b2:=zcg (rest:=rest) hz (0 + (a + (o1 - Ln)) * 1) rfl
    rw [zdh] at s2
    refine Z147 ?_; refine Z38 ?_; refine Z184 ?_; refine Z261 ?_; refine Z18 ?_; refine Z76 ?_; refine Z152 ?_; refine Z178 ?_; refine Z44 ?_; refine qq (zai L 901 (zac br [.int .u64 (xorNextN r.toNat:Nat)] tyX) (.int .u64 (xorNextN r.toNat:Nat)) (r:=zac br [.int .u64 r.toNat] tyX) rfl rfl rfl rfl rfl (fun u H C hH _ hr hC => zq4 hrl hH hr hC)) ?_; refine Z238 ?_; refine z7 (zzw rfl rfl rfl rfl hand) rfl ?_; refine z7 (zav rfl rfl rfl zbv.1 zbv.2 (zaa (by omega) (by omega))) rfl ?_; refine Z155 ?_; refine Z58 ?_; refine Z148 ?_; refine Z267 ?_; refine Z60 ?_; refine Z216 ?_; refine Z146 ?_; refine qf (id:=10) [(200058, [900]), (200062, [900]), (100063, [900]), (100064, [900])] mixed (by kernel_rfl) ?_; refine Z153 ?_; refine Z214 ?_; refine Z214 ?_; refine z8 (ql L _ rfl rfl rfl rfl rfl rfl rfl (by omega)) rfl ?_; refine qg (qn L (q:=900) rfl rfl rfl rfl rfl qj) rfl rfl ?_; refine Z153 ?_; refine z8 (ql L _ rfl rfl rfl rfl rfl rfl rfl (by omega)) rfl ?_; refine qg (qn L (q:=900) rfl rfl rfl rfl rfl qi) rfl rfl ?_; refine z8 (ql L _ rfl rfl rfl rfl rfl rfl rfl (by omega)) rfl ?_; refine x5 (yz L (q:=900) rfl rfl rfl rfl rfl rfl b1 rfl s1) rfl ?_; refine z8 (ql L _ rfl rfl rfl rfl rfl rfl rfl (by omega)) rfl ?_; refine x5 (yz L (q:=900) rfl rfl rfl rfl rfl rfl b2 rfl s2) rfl ?_; refine Z271 ?_; refine Z198 ?_; refine Z217 ?_
    exact yj (x:=(t, (r, D))) (t + 1, (xorNext r, swp D (I0 + t) (a + (o1 - Ln)))) ⟨by dsimp only; omega, by dsimp only; rw [zbs]; exact hD, by dsimp only; rw [← hst, bp_step a Ln M I0 t r D ((o1 - Ln)) ht ho]⟩ (by dsimp only; omega) ⟨rfl, rfl, rfl, rfl, rfl, rfl, rfl, by dsimp only; rw [xorNext_toNat]; rfl, trivial⟩
   ·have hw6:IntKind.i64.wrap ((a:Int) + (o1:Int)) = ((a + o1:Nat):Int):=zaa (by omega) (by omega)
    have ho:(if (xorNext r).toNat &&& (M - 1) ≥ Ln then ((xorNext r).toNat &&& (M - 1)) - Ln else (xorNext r).toNat &&& (M - 1)) = o1:=by rw [xorNext_toNat, ← ho1, if_neg (by omega)]
    obtain ⟨_, qj⟩:=zdc (rest:=rest) (show a + o1 < D.size by omega) (0 + (a + o1) * 1) rfl
    obtain ⟨_, qi⟩:=zdc (rest:=rest) (show I0 + t < D.size by omega) (0 + (I0 + t) * 1) rfl
    have s1:=zcf (rest:=rest) D[a + o1]! (show I0 + t < D.size by omega) (0 + (I0 + t) * 1) rfl
    have b1:=zcg (rest:=rest) (show I0 + t < D.size by omega) (0 + (I0 + t) * 1) rfl
    have hz:a + o1 < (D.setIfInBounds (I0 + t) D[a + o1]!).size:=by rw [Array.size_setIfInBounds]; omega
    have s2:=zcf (rest:=rest) D[I0 + t]! hz (0 + (a + o1) * 1) rfl
    have b2:=zcg (rest:=rest) hz (0 + (a + o1) * 1) rfl
    rw [zdh] at s2
    refine Z147 ?_; refine Z38 ?_; refine Z184 ?_; refine Z261 ?_; refine Z18 ?_; refine Z76 ?_; refine Z152 ?_; refine Z178 ?_; refine Z44 ?_; refine qq (zai L 901 (zac br [.int .u64 (xorNextN r.toNat:Nat)] tyX) (.int .u64 (xorNextN r.toNat:Nat)) (r:=zac br [.int .u64 r.toNat] tyX) rfl rfl rfl rfl rfl (fun u H C hH _ hr hC => zq4 hrl hH hr hC)) ?_; refine Z238 ?_; refine z7 (zzw rfl rfl rfl rfl hand) rfl ?_; refine z7 (zav rfl rfl rfl zbv.1 zbv.2 (zaa (by omega) (by omega))) rfl ?_; refine Z155 ?_; refine Z58 ?_; refine Z148 ?_; refine Z46 ?_; refine Z149 ?_; refine Z150 ?_; refine qf (id:=10) [(200058, [900]), (200062, [900]), (100063, [900]), (100064, [900])] mixed (by kernel_rfl) ?_; refine Z153 ?_; refine Z214 ?_; refine Z214 ?_; refine z8 (ql L _ rfl rfl rfl rfl rfl rfl rfl (by omega)) rfl ?_; refine qg (qn L (q:=900) rfl rfl rfl rfl rfl qj) rfl rfl ?_; refine Z153 ?_; refine z8 (ql L _ rfl rfl rfl rfl rfl rfl rfl (by omega)) rfl ?_; refine qg (qn L (q:=900) rfl rfl rfl rfl rfl qi) rfl rfl ?_; refine z8 (ql L _ rfl rfl rfl rfl rfl rfl rfl (by omega)) rfl ?_; refine x5 (yz L (q:=900) rfl rfl rfl rfl rfl rfl b1 rfl s1) rfl ?_; refine z8 (ql L _ rfl rfl rfl rfl rfl rfl rfl (by omega)) rfl ?_; refine x5 (yz L (q:=900) rfl rfl rfl rfl rfl rfl b2 rfl s2) rfl ?_; refine Z271 ?_; refine Z198 ?_; refine Z217 ?_
    exact yj (x:=(t, (r, D))) (t + 1, (xorNext r, swp D (I0 + t) (a + o1))) ⟨by dsimp only; omega, by dsimp only; rw [zbs]; exact hD, by dsimp only; rw [← hst, bp_step a Ln M I0 t r D (o1) ht ho]⟩ (by dsimp only; omega) ⟨rfl, rfl, rfl, rfl, rfl, rfl, rfl, by dsimp only; rw [xorNext_toNat]; rfl, trivial⟩
  ·obtain rfl:t = 3:=by omega
   have hst':D = breakPatterns d a (a + Ln):=hst
   rw [hst']
   refine Z147 ?_; refine Z38 ?_; refine Z184 ?_; refine Z261 ?_; refine Z18 ?_; refine Z72 ?_; refine Z149 ?_; refine Z172 ?_
   exact zbd L 900 (r:=zac b _ tyU) rfl (fun _ _ h => h) Since.refl rfl rfl
 ·have:breakPatterns d a (a + Ln) = d:=by unfold breakPatterns; simp only [Nat.add_sub_cancel_left]; rw [if_neg (by omega)]
  rw [this]
  refine Z154 ?_; refine Z216 ?_; refine Z168 ?_; refine Z1 ?_; refine Z46 ?_; refine Z201 ?_
  exact zbd L 900 (r:=zac b _ tyU) rfl (fun _ _ h => h) Since.refl rfl rfl
end Go.V.So
set_option maxRecDepth 20000
namespace Go.V.So
open Go.Proofs Go.RowKit Go.V Go.Sort
theorem _root_.Go.V.Z135 {A B:Prop} (h:B) (t:Wr B → A:=by intro h; refine z8 (zu8 L (y9 rfl (by assumption)) rfl rfl rfl (by assumption)) rfl ?_; exact h.h):A:=t ⟨h⟩
abbrev tyI:TypeId:=3
theorem z2h {d:Array Int} {rest:List Value} {j:Nat} (h:j < d.size):(uC d ++ rest)[0 + j * 1]? = some (.int .u64 d[j]!):=by
 rw [Nat.zero_add, Nat.mul_one, List.getElem?_append_left (by rw [zjk]; exact h)]
 exact zzh h
attribute [local irreducible] V N X VO Par StepOK Has Ret RetL RetO zce zd7 Src
set_option maxRecDepth 20000 in
theorem zmn {d:Array Int} {rest:List Value} {b m cap a e bs k:Nat} (ha:a < m) (he:e < m) (hm:d.size = m) (hm1:m ≤ 100000) (hk:k ≤ 1000) {w:World} {B:Heap} {C:Nat → Prop} (hB:B.Le (hp w)) (hb:B b = some (.cells (uC d ++ rest).toArray tyU))
  (hr:(zac bs [.int .i64 k] tyI).P B w C) (hC:∀ k, C k → k < w.heap.size ∧ B k = none) :
  zd7 Tryz.prog 169 [.slice (some ⟨b, 0, none⟩) m cap, .int .i64 a, .int .i64 e, .pointer (some ⟨bs, 0, none⟩)] w B C (zac bs [.int .i64 (order2 lt d a e k).2.2] tyI) (.tuple #[.int .i64 (order2 lt d a e k).1, .int .i64 (order2 lt d a e k).2.1]):=by
 unfold zd7
 refine zat 900 (zac bs [.int .i64 k] tyI) Tryz.func169 rfl Tryz.ntmps169 (Nat.le_of_ble_eq_true rfl) hB hr hC ?_
 rw [za4]
 have g1:=z2h (rest:=rest) (show a < d.size by omega)
 have g2:=z2h (rest:=rest) (show e < d.size by omega)
 have hw:IntKind.i64.wrap ((k:Int) + 1) = ((k + 1:Nat):Int):=zaa (by omega) (by omega)
 unfold order2
 cases hc:lt d[e]! d[a]! with
 | true =>
  refine Z154 ?_; refine Z234 ?_; refine Z78 ?_; refine Z153 ?_; refine z8 (ql L _ rfl rfl rfl rfl rfl rfl rfl (by omega)) rfl ?_; refine Z135 ?_; refine Z153 ?_; refine z8 (ql L _ rfl rfl rfl rfl rfl rfl rfl (by omega)) rfl ?_; refine Z135 ?_; refine z8 (zp L rfl rfl (zk rfl) rfl rfl rfl (fun u H hH _ _ => zbg hc hH)) rfl ?_; refine Z406 ?_; refine Z182 ?_; refine Z61 ?_; refine Z65 ?_; refine Z18 ?_; refine Z61 ?_; refine zc1 (yz L (q:=900) rfl rfl rfl rfl rfl rfl rfl rfl rfl) ?_; refine Z166 ?_; refine Z212 ?_; refine Z195 ?_
  exact zge L 900 (r:=zac bs _ tyI) (rs:=[.tmp 8, .tmp 9]) rfl (fun _ _ h => h) Since.refl rfl rfl (fun _ => rfl)
 | false =>
  refine Z154 ?_; refine Z234 ?_; refine Z78 ?_; refine Z153 ?_; refine z8 (ql L _ rfl rfl rfl rfl rfl rfl rfl (by omega)) rfl ?_; refine Z135 ?_; refine Z153 ?_; refine z8 (ql L _ rfl rfl rfl rfl rfl rfl rfl (by omega)) rfl ?_; refine Z135 ?_; refine z8 (zp L rfl rfl (zk rfl) rfl rfl rfl (fun u H hH _ _ => zbg hc hH)) rfl ?_; refine Z265 ?_; refine Z156 ?_; refine Z341 ?_; refine Z195 ?_
  exact zge L 900 (r:=zac bs _ tyI) (rs:=[.tmp 8, .tmp 9]) rfl (fun _ _ h => h) Since.refl rfl rfl (fun _ => rfl)
theorem zkb (d:Array Int) {a e m k:Nat} (ha:a < m) (he:e < m):(order2 lt d a e k).1 < m ∧ (order2 lt d a e k).2.1 < m ∧ (order2 lt d a e k).2.2 ≤ k + 1:=by
 unfold order2
 split
 ·exact ⟨he, ha, Nat.le_refl _⟩
 ·exact ⟨ha, he, Nat.le_succ _⟩
set_option maxRecDepth 20000 in
theorem zg4 {d:Array Int} {rest:List Value} {b m cap x y z bs k:Nat} (hx:x < m) (hy:y < m) (hz:z < m) (hm:d.size = m) (hm1:m ≤ 100000) (hk:k ≤ 900) {w:World} {B:Heap} {C:Nat → Prop} (hB:B.Le (hp w)) (hb:B b = some (.cells (uC d ++ rest).toArray tyU))
  (hr:(zac bs [.int .i64 k] tyI).P B w C) (hC:∀ k, C k → k < w.heap.size ∧ B k = none) :
  zd7 Tryz.prog 152 [.slice (some ⟨b, 0, none⟩) m cap, .int .i64 x, .int .i64 y, .int .i64 z, .pointer (some ⟨bs, 0, none⟩)] w B C (zac bs [.int .i64 (median lt d x y z k).2] tyI) (.int .i64 (median lt d x y z k).1):=by
 unfold zd7
 refine zat 900 (zac bs [.int .i64 k] tyI) Tryz.func152 rfl Tryz.ntmps152 (Nat.le_of_ble_eq_true rfl) hB hr hC ?_
 rw [za4]
 unfold median
 dsimp only
 obtain ⟨r1, hr1⟩:∃ r, r = order2 lt d x y k:=⟨_, rfl⟩
 rw [← hr1]
 obtain ⟨r2, hr2⟩:∃ r, r = order2 lt d r1.2.1 z r1.2.2:=⟨_, rfl⟩
 rw [← hr2]
 obtain ⟨r3, hr3⟩:∃ r, r = order2 lt d r1.1 r2.1 r2.2.2:=⟨_, rfl⟩
 rw [← hr3]
 obtain ⟨a1, a2, a3⟩:=hr1 ▸ zkb d (k:=k) hx hy
 obtain ⟨b1, b2, b3⟩:=hr2 ▸ zkb d (k:=r1.2.2) a2 hz
 refine Z194 ?_; refine Z232 ?_; refine qq (zai L 900 (zac bs [.int .i64 r1.2.2] tyI) (.tuple #[.int .i64 r1.1, .int .i64 r1.2.1]) (r:=zac bs [.int .i64 k] tyI) rfl rfl rfl rfl rfl (fun u H C hH hle hr hC => by have h:=zmn (rest:=rest) (cap:=cap) hx hy hm hm1 (k:=k) (by omega) hH (hle _ _ hb) hr hC; rw [← hr1] at h; exact h)) ?_; refine Z250 ?_; refine Z32 ?_; refine Z232 ?_; refine qq (zai L 900 (zac bs [.int .i64 r2.2.2] tyI) (.tuple #[.int .i64 r2.1, .int .i64 r2.2.1]) (r:=zac bs [.int .i64 r1.2.2] tyI) rfl rfl rfl rfl rfl (fun u H C hH hle hr hC => by have h:=zmn (rest:=rest) (cap:=cap) a2 hz hm hm1 (k:=r1.2.2) (by omega) hH (hle _ _ hb) hr hC; rw [← hr2] at h; exact h)) ?_; refine Z250 ?_; refine Z212 ?_; refine Z148 ?_; refine qq (zai L 900 (zac bs [.int .i64 r3.2.2] tyI) (.tuple #[.int .i64 r3.1, .int .i64 r3.2.1]) (r:=zac bs [.int .i64 r2.2.2] tyI) rfl rfl rfl rfl rfl (fun u H C hH hle hr hC => by have h:=zmn (rest:=rest) (cap:=cap) a1 b1 hm hm1 (k:=r2.2.2) (by omega) hH (hle _ _ hb) hr hC; rw [← hr3] at h; exact h)) ?_; refine Z250 ?_; refine Z173 ?_; refine Z146 ?_
 exact zge L 900 (r:=zac bs _ tyI) (rs:=[.tmp 10]) rfl (fun _ _ h => h) Since.refl rfl rfl (fun _ => rfl)
theorem zvn (d:Array Int) {x y z m k:Nat} (hx:x < m) (hy:y < m) (hz:z < m):(median lt d x y z k).1 < m ∧ (median lt d x y z k).2 ≤ k + 3:=by
 unfold median
 dsimp only
 obtain ⟨a1, a2, a3⟩:=zkb d (k:=k) hx hy
 obtain ⟨b1, b2, b3⟩:=zkb d (k:=(order2 lt d x y k).2.2) a2 hz
 obtain ⟨c1, c2, c3⟩:=zkb d (k:=(order2 lt d (order2 lt d x y k).2.1 z (order2 lt d x y k).2.2).2.2) a1 b1
 exact ⟨c2, by omega⟩
set_option maxRecDepth 20000 in
theorem zd5 {d:Array Int} {rest:List Value} {b m cap x bs k:Nat} (h1:1 ≤ x) (hx:x + 1 < m) (hm:d.size = m) (hm1:m ≤ 100000) (hk:k ≤ 900) {w:World} {B:Heap} {C:Nat → Prop} (hB:B.Le (hp w)) (hb:B b = some (.cells (uC d ++ rest).toArray tyU))
  (hr:(zac bs [.int .i64 k] tyI).P B w C) (hC:∀ k, C k → k < w.heap.size ∧ B k = none) :
  zd7 Tryz.prog 151 [.slice (some ⟨b, 0, none⟩) m cap, .int .i64 x, .pointer (some ⟨bs, 0, none⟩)] w B C (zac bs [.int .i64 (medianAdjacent lt d x k).2] tyI) (.int .i64 (medianAdjacent lt d x k).1):=by
 unfold zd7
 refine zat 900 (zac bs [.int .i64 k] tyI) Tryz.func151 rfl Tryz.ntmps151 (Nat.le_of_ble_eq_true rfl) hB hr hC ?_
 rw [za4]
 unfold medianAdjacent
 have hw1:IntKind.i64.wrap ((x:Int) - 1) = ((x - 1:Nat):Int):=zaa (by omega) (by omega) |>.trans (by omega)
 have hw2:IntKind.i64.wrap ((x:Int) + 1) = ((x + 1:Nat):Int):=zaa (by omega) (by omega)
 refine Z194 ?_; refine Z216 ?_; refine Z300 ?_; refine Z1 ?_; refine qq (zai L 900 (zac bs [.int .i64 (median lt d (x - 1) x (x + 1) k).2] tyI) (.int .i64 (median lt d (x - 1) x (x + 1) k).1) (r:=zac bs [.int .i64 k] tyI) rfl rfl rfl rfl rfl (fun u H C hH hle hr hC => zg4 (rest:=rest) (cap:=cap) (by omega) (by omega) (by omega) hm hm1 hk hH (hle _ _ hb) hr hC)) ?_; refine Z146 ?_
 exact zge L 900 (r:=zac bs _ tyI) (rs:=[.tmp 6]) rfl (fun _ _ h => h) Since.refl rfl rfl (fun _ => rfl)
end Go.V.So
set_option maxRecDepth 20000
namespace Go.V.So
open Go.Proofs Go.RowKit Go.V Go.Sort
theorem _root_.Go.V.Z136 {A B:Prop} (h:B) (t:Wr B → A:=by intro h; refine yt (qn L (q:=901) rfl rfl rfl rfl rfl rfl) ?_; exact h.h):A:=t ⟨h⟩
theorem _root_.Go.V.Z253 {A B:Prop} (h:B) (t:Wr B → A:=by intro h; refine Z14 ?_; refine Z218 ?_; exact h.h):A:=t ⟨h⟩
theorem _root_.Go.V.Z373 {A B:Prop} (h:B) (t:Wr B → A:=by intro h; refine Z261 ?_; refine Z151 ?_; exact h.h):A:=t ⟨h⟩
def zm1:Hint → Int
 | .unknown => 0
 | .increasing => 1
 | .decreasing => 2
attribute [local irreducible] V N X VO Par StepOK Has Ret RetL RetO zce zd7 Src
set_option maxHeartbeats 1000000 in
set_option maxRecDepth 20000 in
theorem z0v {d:Array Int} {rest:List Value} {b m cap a e:Nat} (h12:12 < e - a) (he:e ≤ m) (hm:d.size = m) (hm1:m ≤ 100000) {w:World} {B:Heap} (hB:B.Le (hp w)) (hb:B b = some (.cells (uC d ++ rest).toArray tyU)) :
  Ret Tryz.prog 104 [.slice (some ⟨b, 0, none⟩) m cap, .int .i64 a, .int .i64 e] w B (fun v _ => v = .tuple #[.int .i64 (choosePivot lt d a e).1, .int .i64 (zm1 (choosePivot lt d a e).2)]):=by
 obtain ⟨Ln, rfl⟩:∃ Ln, e = a + Ln:=⟨e - a, by omega⟩
 rw [Nat.add_sub_cancel_left] at h12
 unfold choosePivot
 rw [Nat.add_sub_cancel_left]
 dsimp only
 obtain ⟨q, hq⟩:∃ q, q = Ln / 4:=⟨_, rfl⟩
 rw [← hq, if_pos (by omega)]
 have hw0:IntKind.i64.wrap (((a + Ln:Nat):Int) - (a:Int)) = (Ln:Int):=zaa (by omega) (by omega) |>.trans (by omega)
 have et:((Ln:Nat):Int).tdiv 4 = (q:Int):=by
  rw [Int.tdiv_eq_ediv_of_nonneg (by omega)]
  omega
 have hq1:IntKind.i64.wrap (((Ln:Nat):Int).tdiv 4) = (q:Int):=by rw [et]; exact zaa (by omega) (by omega)
 have m1:IntKind.i64.wrap ((q:Int) * 1) = ((q * 1:Nat):Int):=zaa (by omega) (by omega) |>.trans (by omega)
 have m2:IntKind.i64.wrap ((q:Int) * 2) = ((q * 2:Nat):Int):=zaa (by omega) (by omega) |>.trans (by omega)
 have m3:IntKind.i64.wrap ((q:Int) * 3) = ((q * 3:Nat):Int):=zaa (by omega) (by omega) |>.trans (by omega)
 have p1:IntKind.i64.wrap ((a:Int) + ((q * 1:Nat):Int)) = ((a + q * 1:Nat):Int):=zaa (by omega) (by omega) |>.trans (by omega)
 have p2:IntKind.i64.wrap ((a:Int) + ((q * 2:Nat):Int)) = ((a + q * 2:Nat):Int):=zaa (by omega) (by omega) |>.trans (by omega)
 have p3:IntKind.i64.wrap ((a:Int) + ((q * 3:Nat):Int)) = ((a + q * 3:Nat):Int):=zaa (by omega) (by omega) |>.trans (by omega)
 refine yg Tryz.func104 rfl Tryz.ntmps104 (Nat.le_of_ble_eq_true rfl) hB ?_
 refine Z274 ?_; refine Z168 ?_; refine Z216 ?_; refine Z151 ?_; refine Z32 ?_; refine Z26 ?_; refine Z166 ?_
 refine zr0 9 901 rfl fun bs => ?_
 by_cases h50:Ln ≥ 50
 ·rw [if_pos h50]
  obtain ⟨r1, hr1⟩:∃ r, r = medianAdjacent lt d (a + q * 1) 0:=⟨_, rfl⟩
  rw [← hr1]
  obtain ⟨r2, hr2⟩:∃ r, r = medianAdjacent lt d (a + q * 2) r1.2:=⟨_, rfl⟩
  rw [← hr2]
  obtain ⟨r3, hr3⟩:∃ r, r = medianAdjacent lt d (a + q * 3) r2.2:=⟨_, rfl⟩
  rw [← hr3]
  obtain ⟨r4, hr4⟩:∃ r, r = median lt d r1.1 r2.1 r3.1 r3.2:=⟨_, rfl⟩
  rw [← hr4]
  obtain ⟨l1, s1⟩:r1.1 < m ∧ r1.2 ≤ 0 + 3:=hr1 ▸ zvn d (by omega) (by omega) (by omega)
  obtain ⟨l2, s2⟩:r2.1 < m ∧ r2.2 ≤ r1.2 + 3:=hr2 ▸ zvn d (by omega) (by omega) (by omega)
  obtain ⟨l3, s3⟩:r3.1 < m ∧ r3.2 ≤ r2.2 + 3:=hr3 ▸ zvn d (by omega) (by omega) (by omega)
  by_cases z0:r4.2 = 0
  ·rw [if_pos z0]
   refine Z212 ?_; refine Z373 ?_; refine Z341 ?_; refine Z373 ?_; refine Z256 ?_; refine Z261 ?_; refine Z366 ?_; refine Z267 ?_; refine Z147 ?_; refine Z204 ?_; refine Z42 ?_; refine Z164 ?_; refine Z58 ?_; refine Z148 ?_; refine qq (zai L 901 (zac bs [.int .i64 r1.2] tyI) (.int .i64 r1.1) (r:=zac bs [.int .i64 0] tyI) rfl rfl rfl rfl rfl (fun u H C hH hle hr hC => by have h:=zd5 (rest:=rest) (cap:=cap) (d:=d) (x:=a + q * 1) (k:=0) (by omega) (by omega) hm hm1 (by omega) hH (hle _ _ hb) hr hC; rw [← hr1] at h; exact h)) ?_; refine Z151 ?_; refine Z60 ?_; refine Z148 ?_; refine qq (zai L 901 (zac bs [.int .i64 r2.2] tyI) (.int .i64 r2.1) (r:=zac bs [.int .i64 r1.2] tyI) rfl rfl rfl rfl rfl (fun u H C hH hle hr hC => by have h:=zd5 (rest:=rest) (cap:=cap) (d:=d) (x:=a + q * 2) (k:=r1.2) (by omega) (by omega) hm hm1 (by omega) hH (hle _ _ hb) hr hC; rw [← hr2] at h; exact h)) ?_; refine Z146 ?_; refine Z408 ?_; refine qq (zai L 901 (zac bs [.int .i64 r3.2] tyI) (.int .i64 r3.1) (r:=zac bs [.int .i64 r2.2] tyI) rfl rfl rfl rfl rfl (fun u H C hH hle hr hC => by have h:=zd5 (rest:=rest) (cap:=cap) (d:=d) (x:=a + q * 3) (k:=r2.2) (by omega) (by omega) hm hm1 (by omega) hH (hle _ _ hb) hr hC; rw [← hr3] at h; exact h)) ?_; refine Z146 ?_; refine Z67 ?_; refine Z232 ?_; refine qq (zai L 901 (zac bs [.int .i64 r4.2] tyI) (.int .i64 r4.1) (r:=zac bs [.int .i64 r3.2] tyI) rfl rfl rfl rfl rfl (fun u H C hH hle hr hC => by have h:=zg4 (rest:=rest) (cap:=cap) (d:=d) (x:=r1.1) (y:=r2.1) (z:=r3.1) (k:=r3.2) (by omega) (by omega) (by omega) hm hm1 (by omega) hH (hle _ _ hb) hr hC; rw [← hr4] at h; exact h)) ?_; refine Z151 ?_; refine Z88 ?_; refine Z136 ?_; refine Z145 ?_; refine Z160 ?_; refine Z77 ?_; refine Z28 ?_; refine Z327 ?_; refine Z100 ?_; refine Z1 ?_; refine Z195 ?_
   refine yd L (rs:=[.tmp 6, .tmp 7]) rfl (fun _ _ h => h) Since.refl fun u H hH hle => ?_
   rfl
  ·rw [if_neg z0]
   by_cases z12:r4.2 = 12
   ·rw [if_pos z12]
    refine Z212 ?_; refine Z373 ?_; refine Z341 ?_; refine Z373 ?_; refine Z256 ?_; refine Z261 ?_; refine Z366 ?_; refine Z267 ?_; refine Z147 ?_; refine Z204 ?_; refine Z42 ?_; refine Z164 ?_; refine Z58 ?_; refine Z148 ?_; refine qq (zai L 901 (zac bs [.int .i64 r1.2] tyI) (.int .i64 r1.1) (r:=zac bs [.int .i64 0] tyI) rfl rfl rfl rfl rfl (fun u H C hH hle hr hC => by have h:=zd5 (rest:=rest) (cap:=cap) (d:=d) (x:=a + q * 1) (k:=0) (by omega) (by omega) hm hm1 (by omega) hH (hle _ _ hb) hr hC; rw [← hr1] at h; exact h)) ?_; refine Z151 ?_; refine Z60 ?_; refine Z148 ?_; refine qq (zai L 901 (zac bs [.int .i64 r2.2] tyI) (.int .i64 r2.1) (r:=zac bs [.int .i64 r1.2] tyI) rfl rfl rfl rfl rfl (fun u H C hH hle hr hC => by have h:=zd5 (rest:=rest) (cap:=cap) (d:=d) (x:=a + q * 2) (k:=r1.2) (by omega) (by omega) hm hm1 (by omega) hH (hle _ _ hb) hr hC; rw [← hr2] at h; exact h)) ?_; refine Z146 ?_; refine Z408 ?_; refine qq (zai L 901 (zac bs [.int .i64 r3.2] tyI) (.int .i64 r3.1) (r:=zac bs [.int .i64 r2.2] tyI) rfl rfl rfl rfl rfl (fun u H C hH hle hr hC => by have h:=zd5 (rest:=rest) (cap:=cap) (d:=d) (x:=a + q * 3) (k:=r2.2) (by omega) (by omega) hm hm1 (by omega) hH (hle _ _ hb) hr hC; rw [← hr3] at h; exact h)) ?_; refine Z146 ?_; refine Z67 ?_; refine Z232 ?_; refine qq (zai L 901 (zac bs [.int .i64 r4.2] tyI) (.int .i64 r4.1) (r:=zac bs [.int .i64 r3.2] tyI) rfl rfl rfl rfl rfl (fun u H C hH hle hr hC => by have h:=zg4 (rest:=rest) (cap:=cap) (d:=d) (x:=r1.1) (y:=r2.1) (z:=r3.1) (k:=r3.2) (by omega) (by omega) (by omega) hm hm1 (by omega) hH (hle _ _ hb) hr hC; rw [← hr4] at h; exact h)) ?_; refine Z151 ?_; refine Z88 ?_; refine Z136 ?_; refine Z145 ?_; refine Z160 ?_; refine Z77 ?_; refine Z253 ?_; refine Z105 ?_; refine Z28 ?_; refine Z327 ?_; refine Z115 ?_; refine Z1 ?_; refine Z195 ?_
    refine yd L (rs:=[.tmp 6, .tmp 7]) rfl (fun _ _ h => h) Since.refl fun u H hH hle => ?_
    rfl
   ·rw [if_neg z12]
    refine Z212 ?_; refine Z373 ?_; refine Z341 ?_; refine Z373 ?_; refine Z256 ?_; refine Z261 ?_; refine Z366 ?_; refine Z267 ?_; refine Z147 ?_; refine Z204 ?_; refine Z42 ?_; refine Z164 ?_; refine Z58 ?_; refine Z148 ?_; refine qq (zai L 901 (zac bs [.int .i64 r1.2] tyI) (.int .i64 r1.1) (r:=zac bs [.int .i64 0] tyI) rfl rfl rfl rfl rfl (fun u H C hH hle hr hC => by have h:=zd5 (rest:=rest) (cap:=cap) (d:=d) (x:=a + q * 1) (k:=0) (by omega) (by omega) hm hm1 (by omega) hH (hle _ _ hb) hr hC; rw [← hr1] at h; exact h)) ?_; refine Z151 ?_; refine Z60 ?_; refine Z148 ?_; refine qq (zai L 901 (zac bs [.int .i64 r2.2] tyI) (.int .i64 r2.1) (r:=zac bs [.int .i64 r1.2] tyI) rfl rfl rfl rfl rfl (fun u H C hH hle hr hC => by have h:=zd5 (rest:=rest) (cap:=cap) (d:=d) (x:=a + q * 2) (k:=r1.2) (by omega) (by omega) hm hm1 (by omega) hH (hle _ _ hb) hr hC; rw [← hr2] at h; exact h)) ?_; refine Z146 ?_; refine Z408 ?_; refine qq (zai L 901 (zac bs [.int .i64 r3.2] tyI) (.int .i64 r3.1) (r:=zac bs [.int .i64 r2.2] tyI) rfl rfl rfl rfl rfl (fun u H C hH hle hr hC => by have h:=zd5 (rest:=rest) (cap:=cap) (d:=d) (x:=a + q * 3) (k:=r2.2) (by omega) (by omega) hm hm1 (by omega) hH (hle _ _ hb) hr hC; rw [← hr3] at h; exact h)) ?_; refine Z146 ?_; refine Z67 ?_; refine Z232 ?_; refine qq (zai L 901 (zac bs [.int .i64 r4.2] tyI) (.int .i64 r4.1) (r:=zac bs [.int .i64 r3.2] tyI) rfl rfl rfl rfl rfl (fun u H C hH hle hr hC => by have h:=zg4 (rest:=rest) (cap:=cap) (d:=d) (x:=r1.1) (y:=r2.1) (z:=r3.1) (k:=r3.2) (by omega) (by omega) (by omega) hm hm1 (by omega) hH (hle _ _ hb) hr hC; rw [← hr4] at h; exact h)) ?_; refine Z151 ?_; refine Z88 ?_; refine Z136 ?_; refine Z145 ?_; refine Z160 ?_; refine Z77 ?_; refine Z253 ?_; refine Z105 ?_; refine Z253 ?_; refine Z324 ?_; refine Z195 ?_
    refine yd L (rs:=[.tmp 6, .tmp 7]) rfl (fun _ _ h => h) Since.refl fun u H hH hle => ?_
    rfl
 ·rw [if_neg h50]
  obtain ⟨r4, hr4⟩:∃ r, r = median lt d (a + q * 1) (a + q * 2) (a + q * 3) 0:=⟨_, rfl⟩
  rw [← hr4]
  by_cases z0:r4.2 = 0
  ·rw [if_pos z0]
   refine Z212 ?_; refine Z373 ?_; refine Z341 ?_; refine Z373 ?_; refine Z256 ?_; refine Z261 ?_; refine Z366 ?_; refine Z267 ?_; refine Z147 ?_; refine Z204 ?_; refine Z46 ?_; refine Z149 ?_; refine Z150 ?_; refine Z67 ?_; refine Z232 ?_; refine qq (zai L 901 (zac bs [.int .i64 r4.2] tyI) (.int .i64 r4.1) (r:=zac bs [.int .i64 0] tyI) rfl rfl rfl rfl rfl (fun u H C hH hle hr hC => by have h:=zg4 (rest:=rest) (cap:=cap) (d:=d) (x:=a + q * 1) (y:=a + q * 2) (z:=a + q * 3) (k:=0) (by omega) (by omega) (by omega) hm hm1 (by omega) hH (hle _ _ hb) hr hC; rw [← hr4] at h; exact h)) ?_; refine Z151 ?_; refine Z88 ?_; refine Z136 ?_; refine Z145 ?_; refine Z160 ?_; refine Z77 ?_; refine Z28 ?_; refine Z327 ?_; refine Z100 ?_; refine Z1 ?_; refine Z195 ?_
   refine yd L (rs:=[.tmp 6, .tmp 7]) rfl (fun _ _ h => h) Since.refl fun u H hH hle => ?_
   rfl
  ·rw [if_neg z0]
   by_cases z12:r4.2 = 12
   ·rw [if_pos z12]
    refine Z212 ?_; refine Z373 ?_; refine Z341 ?_; refine Z373 ?_; refine Z256 ?_; refine Z261 ?_; refine Z366 ?_; refine Z267 ?_; refine Z147 ?_; refine Z204 ?_; refine Z46 ?_; refine Z149 ?_; refine Z150 ?_; refine Z67 ?_; refine Z232 ?_; refine qq (zai L 901 (zac bs [.int .i64 r4.2] tyI) (.int .i64 r4.1) (r:=zac bs [.int .i64 0] tyI) rfl rfl rfl rfl rfl (fun u H C hH hle hr hC => by have h:=zg4 (rest:=rest) (cap:=cap) (d:=d) (x:=a + q * 1) (y:=a + q * 2) (z:=a + q * 3) (k:=0) (by omega) (by omega) (by omega) hm hm1 (by omega) hH (hle _ _ hb) hr hC; rw [← hr4] at h; exact h)) ?_; refine Z151 ?_; refine Z88 ?_; refine Z136 ?_; refine Z145 ?_; refine Z160 ?_; refine Z77 ?_; refine Z253 ?_; refine Z105 ?_; refine Z28 ?_; refine Z327 ?_; refine Z115 ?_; refine Z1 ?_; refine Z195 ?_
    refine yd L (rs:=[.tmp 6, .tmp 7]) rfl (fun _ _ h => h) Since.refl fun u H hH hle => ?_
    rfl
   ·rw [if_neg z12]
    refine Z212 ?_; refine Z373 ?_; refine Z341 ?_; refine Z373 ?_; refine Z256 ?_; refine Z261 ?_; refine Z366 ?_; refine Z267 ?_; refine Z147 ?_; refine Z204 ?_; refine Z46 ?_; refine Z149 ?_; refine Z150 ?_; refine Z67 ?_; refine Z232 ?_; refine qq (zai L 901 (zac bs [.int .i64 r4.2] tyI) (.int .i64 r4.1) (r:=zac bs [.int .i64 0] tyI) rfl rfl rfl rfl rfl (fun u H C hH hle hr hC => by have h:=zg4 (rest:=rest) (cap:=cap) (d:=d) (x:=a + q * 1) (y:=a + q * 2) (z:=a + q * 3) (k:=0) (by omega) (by omega) (by omega) hm hm1 (by omega) hH (hle _ _ hb) hr hC; rw [← hr4] at h; exact h)) ?_; refine Z151 ?_; refine Z88 ?_; refine Z136 ?_; refine Z145 ?_; refine Z160 ?_; refine Z77 ?_; refine Z253 ?_; refine Z105 ?_; refine Z253 ?_; refine Z324 ?_; refine Z195 ?_
    refine yd L (rs:=[.tmp 6, .tmp 7]) rfl (fun _ _ h => h) Since.refl fun u H hH hle => ?_
    rfl
end Go.V.So
