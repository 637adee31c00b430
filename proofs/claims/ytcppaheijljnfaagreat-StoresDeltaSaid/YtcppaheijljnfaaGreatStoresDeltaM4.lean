/- Texts on the way to StoresDelta, part 4: one behind another. -/
import Derived.Test.YtcppaheijljnfaaGreatStoresDeltaM3
import Derived.Lib.IndexAny
import Derived.Sort.LotD5
set_option linter.unusedVariables false
set_option linter.unusedSimpArgs false
set_option maxRecDepth 20000
namespace Go.V.L2
open Go.Proofs Go.RowKit Go.V
theorem _root_.Go.V.Z71 {A B : Prop} (h : B) (t : Wr B → A := by intro h; refine z8 (yb rfl rfl rfl rfl (decide_eq_false (by omega))) rfl ?_; exact h.h) : A := t ⟨h⟩
theorem _root_.Go.V.Z76 {A B : Prop} (h : B) (t : Wr B → A := by intro h; refine z8 (yb rfl rfl rfl rfl (decide_eq_true (by omega))) rfl ?_; exact h.h) : A := t ⟨h⟩
theorem _root_.Go.V.Z217 {A B : Prop} (h : B) (t : Wr B → A := by intro h; refine Z7 ?_; refine Z138 ?_; exact h.h) : A := t ⟨h⟩
theorem _root_.Go.V.Z221 {A B : Prop} (h : B) (t : Wr B → A := by intro h; refine Z138 ?_; refine Z138 ?_; exact h.h) : A := t ⟨h⟩
theorem _root_.Go.V.Z234 {A B : Prop} (h : B) (t : Wr B → A := by intro h; refine Z31 ?_; refine Z178 ?_; exact h.h) : A := t ⟨h⟩
theorem _root_.Go.V.Z306 {A B : Prop} (h : B) (t : Wr B → A := by intro h; refine Z36 ?_; refine Z238 ?_; exact h.h) : A := t ⟨h⟩
theorem _root_.Go.V.Z307 {A B : Prop} (h : B) (t : Wr B → A := by intro h; refine Z40 ?_; refine Z138 ?_; exact h.h) : A := t ⟨h⟩
theorem _root_.Go.V.Z345 {A B : Prop} (h : B) (t : Wr B → A := by intro h; refine Z277 ?_; refine Z234 ?_; exact h.h) : A := t ⟨h⟩
theorem zfi : ∀ (l : List U), (l.flatMap ucs).length = l.length * 6
 | [] => rfl
 | y :: l => by rw [List.flatMap_cons, List.length_append, zfi l, zlq, List.length_cons]; omega
theorem zd4 : ∀ (l : List U), (l.flatMap ucs).all zbo = true
 | [] => rfl
 | g :: l => by rw [List.flatMap_cons, List.all_append, zd4 l]; rfl
theorem zo0 {κ : Kap} {s : Nat} {x y : List U} (h : κ s = some (.own (SlR tyU 6 (x.length + y.length) (x.flatMap ucs ++ y.flatMap ucs)))) : κ s = some (.own (SlR tyU 6 (x ++ y).length ((x ++ y).flatMap ucs))) := by
 rw [h, List.flatMap_append, List.length_append]
theorem zgt {p : U → Bool} {l r : List U} {k : Nat} {t : U} (h : l[k]? = some t) (hr : r = (l.take k).filter p) : (l.take (k + 1)).filter p = if p t = true then r ++ [t] else r := by
 rw [zth h, List.filter_append, hr, List.filter_cons, List.filter_nil]
 split <;> simp
attribute [local irreducible] V N X VO Par StepOK Has Ret RetL Src
set_option maxHeartbeats 4000000 in
theorem ztp {x y : List U} {fx fy : Bool} (hx : x.length ≤ 100000) (hy : y.length ≤ 100000) (zx : ∀ t ∈ x, TZ t) (zy : ∀ t ∈ y, TZ t) {vx vy : Value} {w : World} {B : Heap} (hB : B.Le (hp w)) (hvx : US x fx vx B) (hvy : US y fy vy B) :
  Ret Tryz.prog 62 [vx, vy, .bool true, .bool true, .bool true] w B (US (zes x y true true true) false) := by
 have lx := zfi x
 have ly := zfi y
 have px := zd4 x
 have py := zd4 y
 refine yi Tryz.func62 rfl Tryz.ntmps62 (Nat.le_of_ble_eq_true rfl) hB ?_
 refine zaq 0 (US x fx) rfl SlV.mono hvx ?_
 refine zaq 1 (US y fy) rfl SlV.mono hvy ?_
 refine Z184 ?_; refine Z142 ?_
 refine zdp 11 tyU 6 rfl ?_
 refine Z29 ?_; refine Z4 ?_; refine z7 (zck L rfl rfl rfl (zgu rfl) rfl zms lx px (by omega) (by omega)) rfl ?_; refine Z4 ?_; refine qo (zbr L rfl rfl rfl (zgu rfl) rfl zms ly py (by omega) (by omega)) ?_; refine qo (yn (.inr rfl) rfl rfl rfl rfl) ?_; refine Z194 ?_
 refine zb1 12 (zo0 rfl) ?_
 have hal : (x ++ y).length ≤ 200000 := by rw [List.length_append]; omega
 have hza : ∀ t ∈ x ++ y, TZ t := fun t ht => (List.mem_append.1 ht).elim (zx t) (zy t)
 unfold zes
 generalize hall : x ++ y = l at hal hza
 refine Z373 ?_
 refine zai (fun s : Nat × List U => [(0, .sat (US x fx)), (1, .sat (US y fy)), (2, .is (.bool true)), (3, .is (.bool true)), (4, .is (.bool true)), (11, .own (SlR tyU 6 s.2.length (s.2.flatMap ucs))), (12, .sat (US l false)), (13, .is (.int .i64 s.1))])
  (fun s => s.1 ≤ l.length ∧ s.2.length ≤ s.1 ∧ s.2 = (l.take s.1).filter (zct x y true true true)) (fun s => l.length - s.1) (0, []) ⟨Nat.zero_le _, Nat.le_refl _, rfl⟩ ⟨rfl, rfl, rfl, rfl, rfl, rfl, rfl, rfl, trivial⟩ ?_
 rintro ⟨i, r⟩ ⟨hi, hrl, hr⟩
 dsimp only at hi hrl hr ⊢
 by_cases hlt : i < l.length
 ·obtain ⟨t, ht⟩ := zae hlt
  have hc := zfh ht
  have hf := zgt ht hr
  by_cases h1 : t ∈ x
  ·have e1 : (if t ∈ x then 1 else 0 : Int) = 1 := if_pos h1
   by_cases h2 : t ∈ y
   ·have e2 : (if t ∈ y then 1 else 0 : Int) = 1 := if_pos h2
    have hp : (zct x y true true true) t = true := by simp [zct, h1, h2]
    rw [hp, if_pos rfl] at hf
    refine Z345 ?_; refine z8 (qs L _ rfl rfl rfl rfl rfl rfl rfl (by first | omega | decide) (by assumption)) rfl ?_; refine z8 (yd L (vs := [_, _, _, _, _, _]) rfl rfl rfl rfl rfl ⟨_, rfl⟩) rfl ?_; refine z8 (zw L rfl rfl (zk rfl) rfl rfl rfl (fun u H hH _ _ v1 h3 => za3 (l := x) (by omega) e1 hH h3)) rfl ?_; refine Z76 ?_; refine Z234 ?_; refine z8 (qs L _ rfl rfl rfl rfl rfl rfl rfl (by first | omega | decide) (by assumption)) rfl ?_; refine z8 (yd L (vs := [_, _, _, _, _, _]) rfl rfl rfl rfl rfl ⟨_, rfl⟩) rfl ?_; refine z8 (zw L rfl rfl (zk rfl) rfl rfl rfl (fun u H hH _ _ v1 h3 => za3 (l := y) (by omega) e2 hH h3)) rfl ?_; refine Z76 ?_; refine Z306 ?_; refine Z40 ?_; refine Z172 ?_; refine Z302 ?_; refine Z236 ?_; refine Z221 ?_; refine Z217 ?_; refine Z391 ?_; refine Z313 ?_; refine Z212 ?_; refine Z141 ?_; refine Z56 ?_; refine qo (yn (.inl rfl) rfl rfl rfl rfl) ?_; refine Z196 ?_; refine z7 (qs L _ rfl rfl rfl rfl rfl rfl rfl (by first | omega | decide) (by assumption)) rfl ?_; refine z7 (yd L (vs := [_, _, _, _, _, _]) rfl rfl rfl rfl rfl ⟨_, rfl⟩) rfl ?_; refine Z290 ?_; refine qo (yn (.inr rfl) rfl rfl rfl rfl) ?_; refine Z233 ?_; refine Z257 ?_
    exact yk (x := (i, r)) (i + 1, r ++ [t]) ⟨hlt, by dsimp only; rw [List.length_append, List.length_singleton]; omega, hf.symm⟩ (by dsimp only; omega) ⟨rfl, rfl, rfl, rfl, rfl, zdt rfl, rfl, rfl, trivial⟩
   ·have e2 : (if t ∈ y then 1 else 0 : Int) = 0 := if_neg h2
    have hp : (zct x y true true true) t = true := by simp [zct, h1, h2]
    rw [hp, if_pos rfl] at hf
    refine Z345 ?_; refine z8 (qs L _ rfl rfl rfl rfl rfl rfl rfl (by first | omega | decide) (by assumption)) rfl ?_; refine z8 (yd L (vs := [_, _, _, _, _, _]) rfl rfl rfl rfl rfl ⟨_, rfl⟩) rfl ?_; refine z8 (zw L rfl rfl (zk rfl) rfl rfl rfl (fun u H hH _ _ v1 h3 => za3 (l := x) (by omega) e1 hH h3)) rfl ?_; refine Z76 ?_; refine Z234 ?_; refine z8 (qs L _ rfl rfl rfl rfl rfl rfl rfl (by first | omega | decide) (by assumption)) rfl ?_; refine z8 (yd L (vs := [_, _, _, _, _, _]) rfl rfl rfl rfl rfl ⟨_, rfl⟩) rfl ?_; refine z8 (zw L rfl rfl (zk rfl) rfl rfl rfl (fun u H hH _ _ v1 h3 => za3 (l := y) (by omega) e2 hH h3)) rfl ?_; refine Z71 ?_; refine Z306 ?_; refine Z40 ?_; refine Z172 ?_; refine Z49 ?_; refine Z217 ?_; refine Z7 ?_; refine Z313 ?_; refine Z185 ?_; refine Z313 ?_; refine Z212 ?_; refine Z141 ?_; refine Z56 ?_; refine qo (yn (.inl rfl) rfl rfl rfl rfl) ?_; refine Z196 ?_; refine z7 (qs L _ rfl rfl rfl rfl rfl rfl rfl (by first | omega | decide) (by assumption)) rfl ?_; refine z7 (yd L (vs := [_, _, _, _, _, _]) rfl rfl rfl rfl rfl ⟨_, rfl⟩) rfl ?_; refine Z290 ?_; refine qo (yn (.inr rfl) rfl rfl rfl rfl) ?_; refine Z233 ?_; refine Z257 ?_
    exact yk (x := (i, r)) (i + 1, r ++ [t]) ⟨hlt, by dsimp only; rw [List.length_append, List.length_singleton]; omega, hf.symm⟩ (by dsimp only; omega) ⟨rfl, rfl, rfl, rfl, rfl, zdt rfl, rfl, rfl, trivial⟩
  ·have e1 : (if t ∈ x then 1 else 0 : Int) = 0 := if_neg h1
   by_cases h2 : t ∈ y
   ·have e2 : (if t ∈ y then 1 else 0 : Int) = 1 := if_pos h2
    have hp : (zct x y true true true) t = true := by simp [zct, h1, h2]
    rw [hp, if_pos rfl] at hf
    refine Z345 ?_; refine z8 (qs L _ rfl rfl rfl rfl rfl rfl rfl (by first | omega | decide) (by assumption)) rfl ?_; refine z8 (yd L (vs := [_, _, _, _, _, _]) rfl rfl rfl rfl rfl ⟨_, rfl⟩) rfl ?_; refine z8 (zw L rfl rfl (zk rfl) rfl rfl rfl (fun u H hH _ _ v1 h3 => za3 (l := x) (by omega) e1 hH h3)) rfl ?_; refine Z71 ?_; refine Z234 ?_; refine z8 (qs L _ rfl rfl rfl rfl rfl rfl rfl (by first | omega | decide) (by assumption)) rfl ?_; refine z8 (yd L (vs := [_, _, _, _, _, _]) rfl rfl rfl rfl rfl ⟨_, rfl⟩) rfl ?_; refine z8 (zw L rfl rfl (zk rfl) rfl rfl rfl (fun u H hH _ _ v1 h3 => za3 (l := y) (by omega) e2 hH h3)) rfl ?_; refine Z76 ?_; refine Z306 ?_; refine Z307 ?_; refine Z212 ?_; refine Z236 ?_; refine Z172 ?_; refine Z185 ?_; refine Z236 ?_; refine Z217 ?_; refine Z49 ?_; refine Z138 ?_; refine Z217 ?_; refine Z7 ?_; refine Z249 ?_; refine Z56 ?_; refine qo (yn (.inl rfl) rfl rfl rfl rfl) ?_; refine Z196 ?_; refine z7 (qs L _ rfl rfl rfl rfl rfl rfl rfl (by first | omega | decide) (by assumption)) rfl ?_; refine z7 (yd L (vs := [_, _, _, _, _, _]) rfl rfl rfl rfl rfl ⟨_, rfl⟩) rfl ?_; refine Z290 ?_; refine qo (yn (.inr rfl) rfl rfl rfl rfl) ?_; refine Z233 ?_; refine Z257 ?_
    exact yk (x := (i, r)) (i + 1, r ++ [t]) ⟨hlt, by dsimp only; rw [List.length_append, List.length_singleton]; omega, hf.symm⟩ (by dsimp only; omega) ⟨rfl, rfl, rfl, rfl, rfl, zdt rfl, rfl, rfl, trivial⟩
   ·have e2 : (if t ∈ y then 1 else 0 : Int) = 0 := if_neg h2
    have hp : (zct x y true true true) t = false := by simp [zct, h1, h2]
    rw [hp, if_neg (by decide)] at hf
    refine Z345 ?_; refine z8 (qs L _ rfl rfl rfl rfl rfl rfl rfl (by first | omega | decide) (by assumption)) rfl ?_; refine z8 (yd L (vs := [_, _, _, _, _, _]) rfl rfl rfl rfl rfl ⟨_, rfl⟩) rfl ?_; refine z8 (zw L rfl rfl (zk rfl) rfl rfl rfl (fun u H hH _ _ v1 h3 => za3 (l := x) (by omega) e1 hH h3)) rfl ?_; refine Z71 ?_; refine Z234 ?_; refine z8 (qs L _ rfl rfl rfl rfl rfl rfl rfl (by first | omega | decide) (by assumption)) rfl ?_; refine z8 (yd L (vs := [_, _, _, _, _, _]) rfl rfl rfl rfl rfl ⟨_, rfl⟩) rfl ?_; refine z8 (zw L rfl rfl (zk rfl) rfl rfl rfl (fun u H hH _ _ v1 h3 => za3 (l := y) (by omega) e2 hH h3)) rfl ?_; refine Z71 ?_; refine Z306 ?_; refine Z307 ?_; refine Z212 ?_; refine Z236 ?_; refine Z172 ?_; refine Z185 ?_; refine Z236 ?_; refine Z217 ?_; refine Z49 ?_; refine Z138 ?_; refine Z7 ?_; refine Z236 ?_; refine Z7 ?_; refine Z215 ?_; refine Z257 ?_
    exact yk (x := (i, r)) (i + 1, r) ⟨hlt, by dsimp only; omega, hf.symm⟩ (by dsimp only; omega) ⟨rfl, rfl, rfl, rfl, rfl, rfl, rfl, rfl, trivial⟩
 ·obtain rfl : i = l.length := by omega
  rw [List.take_length] at hr
  have hzr : ∀ t ∈ r, TZ t := fun t h => hza t (List.mem_filter.1 (by rw [← hr]; exact h)).1
  rw [← hr]
  refine zb1 11 rfl ?_
  refine Z374 ?_; refine Z60 ?_; refine Z4 ?_; refine z7 (yt L rfl rfl (zk rfl) rfl rfl rfl SlV.mono (fun u H hH _ _ v1 h3 => zgi (by omega) hzr hH h3)) rfl ?_; refine Z260 ?_
  refine yf L (rs := [.tmp 10]) rfl (fun _ _ h => h) Since.refl fun u H hH hle => ?_
  exact fun v hv => hv
set_option maxHeartbeats 4000000 in
theorem ztr {x y : List U} {fx fy : Bool} (hx : x.length ≤ 100000) (hy : y.length ≤ 100000) (zx : ∀ t ∈ x, TZ t) (zy : ∀ t ∈ y, TZ t) {vx vy : Value} {w : World} {B : Heap} (hB : B.Le (hp w)) (hvx : US x fx vx B) (hvy : US y fy vy B) :
  Ret Tryz.prog 62 [vx, vy, .bool true, .bool false, .bool false] w B (US (zes x y true false false) false) := by
 have lx := zfi x
 have ly := zfi y
 have px := zd4 x
 have py := zd4 y
 refine yi Tryz.func62 rfl Tryz.ntmps62 (Nat.le_of_ble_eq_true rfl) hB ?_
 refine zaq 0 (US x fx) rfl SlV.mono hvx ?_
 refine zaq 1 (US y fy) rfl SlV.mono hvy ?_
 refine Z184 ?_; refine Z142 ?_
 refine zdp 11 tyU 6 rfl ?_
 refine Z29 ?_; refine Z4 ?_; refine z7 (zck L rfl rfl rfl (zgu rfl) rfl zms lx px (by omega) (by omega)) rfl ?_; refine Z4 ?_; refine qo (zbr L rfl rfl rfl (zgu rfl) rfl zms ly py (by omega) (by omega)) ?_; refine qo (yn (.inr rfl) rfl rfl rfl rfl) ?_; refine Z194 ?_
 refine zb1 12 (zo0 rfl) ?_
 have hal : (x ++ y).length ≤ 200000 := by rw [List.length_append]; omega
 have hza : ∀ t ∈ x ++ y, TZ t := fun t ht => (List.mem_append.1 ht).elim (zx t) (zy t)
 unfold zes
 generalize hall : x ++ y = l at hal hza
 refine Z373 ?_
 refine zai (fun s : Nat × List U => [(0, .sat (US x fx)), (1, .sat (US y fy)), (2, .is (.bool true)), (3, .is (.bool false)), (4, .is (.bool false)), (11, .own (SlR tyU 6 s.2.length (s.2.flatMap ucs))), (12, .sat (US l false)), (13, .is (.int .i64 s.1))])
  (fun s => s.1 ≤ l.length ∧ s.2.length ≤ s.1 ∧ s.2 = (l.take s.1).filter (zct x y true false false)) (fun s => l.length - s.1) (0, []) ⟨Nat.zero_le _, Nat.le_refl _, rfl⟩ ⟨rfl, rfl, rfl, rfl, rfl, rfl, rfl, rfl, trivial⟩ ?_
 rintro ⟨i, r⟩ ⟨hi, hrl, hr⟩
 dsimp only at hi hrl hr ⊢
 by_cases hlt : i < l.length
 ·obtain ⟨t, ht⟩ := zae hlt
  have hc := zfh ht
  have hf := zgt ht hr
  by_cases h1 : t ∈ x
  ·have e1 : (if t ∈ x then 1 else 0 : Int) = 1 := if_pos h1
   by_cases h2 : t ∈ y
   ·have e2 : (if t ∈ y then 1 else 0 : Int) = 1 := if_pos h2
    have hp : (zct x y true false false) t = false := by simp [zct, h1, h2]
    rw [hp, if_neg (by decide)] at hf
    refine Z345 ?_; refine z8 (qs L _ rfl rfl rfl rfl rfl rfl rfl (by first | omega | decide) (by assumption)) rfl ?_; refine z8 (yd L (vs := [_, _, _, _, _, _]) rfl rfl rfl rfl rfl ⟨_, rfl⟩) rfl ?_; refine z8 (zw L rfl rfl (zk rfl) rfl rfl rfl (fun u H hH _ _ v1 h3 => za3 (l := x) (by omega) e1 hH h3)) rfl ?_; refine Z76 ?_; refine Z234 ?_; refine z8 (qs L _ rfl rfl rfl rfl rfl rfl rfl (by first | omega | decide) (by assumption)) rfl ?_; refine z8 (yd L (vs := [_, _, _, _, _, _]) rfl rfl rfl rfl rfl ⟨_, rfl⟩) rfl ?_; refine z8 (zw L rfl rfl (zk rfl) rfl rfl rfl (fun u H hH _ _ v1 h3 => za3 (l := y) (by omega) e2 hH h3)) rfl ?_; refine Z76 ?_; refine Z306 ?_; refine Z40 ?_; refine Z172 ?_; refine Z302 ?_; refine Z236 ?_; refine Z221 ?_; refine Z217 ?_; refine Z7 ?_; refine Z217 ?_; refine Z49 ?_; refine Z236 ?_; refine Z236 ?_; refine Z7 ?_; refine Z215 ?_; refine Z257 ?_
    exact yk (x := (i, r)) (i + 1, r) ⟨hlt, by dsimp only; omega, hf.symm⟩ (by dsimp only; omega) ⟨rfl, rfl, rfl, rfl, rfl, rfl, rfl, rfl, trivial⟩
   ·have e2 : (if t ∈ y then 1 else 0 : Int) = 0 := if_neg h2
    have hp : (zct x y true false false) t = true := by simp [zct, h1, h2]
    rw [hp, if_pos rfl] at hf
    refine Z345 ?_; refine z8 (qs L _ rfl rfl rfl rfl rfl rfl rfl (by first | omega | decide) (by assumption)) rfl ?_; refine z8 (yd L (vs := [_, _, _, _, _, _]) rfl rfl rfl rfl rfl ⟨_, rfl⟩) rfl ?_; refine z8 (zw L rfl rfl (zk rfl) rfl rfl rfl (fun u H hH _ _ v1 h3 => za3 (l := x) (by omega) e1 hH h3)) rfl ?_; refine Z76 ?_; refine Z234 ?_; refine z8 (qs L _ rfl rfl rfl rfl rfl rfl rfl (by first | omega | decide) (by assumption)) rfl ?_; refine z8 (yd L (vs := [_, _, _, _, _, _]) rfl rfl rfl rfl rfl ⟨_, rfl⟩) rfl ?_; refine z8 (zw L rfl rfl (zk rfl) rfl rfl rfl (fun u H hH _ _ v1 h3 => za3 (l := y) (by omega) e2 hH h3)) rfl ?_; refine Z71 ?_; refine Z306 ?_; refine Z40 ?_; refine Z172 ?_; refine Z49 ?_; refine Z217 ?_; refine Z7 ?_; refine Z313 ?_; refine Z185 ?_; refine Z313 ?_; refine Z212 ?_; refine Z141 ?_; refine Z56 ?_; refine qo (yn (.inl rfl) rfl rfl rfl rfl) ?_; refine Z196 ?_; refine z7 (qs L _ rfl rfl rfl rfl rfl rfl rfl (by first | omega | decide) (by assumption)) rfl ?_; refine z7 (yd L (vs := [_, _, _, _, _, _]) rfl rfl rfl rfl rfl ⟨_, rfl⟩) rfl ?_; refine Z290 ?_; refine qo (yn (.inr rfl) rfl rfl rfl rfl) ?_; refine Z233 ?_; refine Z257 ?_
    exact yk (x := (i, r)) (i + 1, r ++ [t]) ⟨hlt, by dsimp only; rw [List.length_append, List.length_singleton]; omega, hf.symm⟩ (by dsimp only; omega) ⟨rfl, rfl, rfl, rfl, rfl, zdt rfl, rfl, rfl, trivial⟩
  ·have e1 : (if t ∈ x then 1 else 0 : Int) = 0 := if_neg h1
   by_cases h2 : t ∈ y
   ·have e2 : (if t ∈ y then 1 else 0 : Int) = 1 := if_pos h2
    have hp : (zct x y true false false) t = false := by simp [zct, h1, h2]
    rw [hp, if_neg (by decide)] at hf
    refine Z345 ?_; refine z8 (qs L _ rfl rfl rfl rfl rfl rfl rfl (by first | omega | decide) (by assumption)) rfl ?_; refine z8 (yd L (vs := [_, _, _, _, _, _]) rfl rfl rfl rfl rfl ⟨_, rfl⟩) rfl ?_; refine z8 (zw L rfl rfl (zk rfl) rfl rfl rfl (fun u H hH _ _ v1 h3 => za3 (l := x) (by omega) e1 hH h3)) rfl ?_; refine Z71 ?_; refine Z234 ?_; refine z8 (qs L _ rfl rfl rfl rfl rfl rfl rfl (by first | omega | decide) (by assumption)) rfl ?_; refine z8 (yd L (vs := [_, _, _, _, _, _]) rfl rfl rfl rfl rfl ⟨_, rfl⟩) rfl ?_; refine z8 (zw L rfl rfl (zk rfl) rfl rfl rfl (fun u H hH _ _ v1 h3 => za3 (l := y) (by omega) e2 hH h3)) rfl ?_; refine Z76 ?_; refine Z306 ?_; refine Z307 ?_; refine Z212 ?_; refine Z236 ?_; refine Z172 ?_; refine Z185 ?_; refine Z236 ?_; refine Z217 ?_; refine Z49 ?_; refine Z138 ?_; refine Z217 ?_; refine Z391 ?_; refine Z215 ?_; refine Z257 ?_
    exact yk (x := (i, r)) (i + 1, r) ⟨hlt, by dsimp only; omega, hf.symm⟩ (by dsimp only; omega) ⟨rfl, rfl, rfl, rfl, rfl, rfl, rfl, rfl, trivial⟩
   ·have e2 : (if t ∈ y then 1 else 0 : Int) = 0 := if_neg h2
    have hp : (zct x y true false false) t = false := by simp [zct, h1, h2]
    rw [hp, if_neg (by decide)] at hf
    refine Z345 ?_; refine z8 (qs L _ rfl rfl rfl rfl rfl rfl rfl (by first | omega | decide) (by assumption)) rfl ?_; refine z8 (yd L (vs := [_, _, _, _, _, _]) rfl rfl rfl rfl rfl ⟨_, rfl⟩) rfl ?_; refine z8 (zw L rfl rfl (zk rfl) rfl rfl rfl (fun u H hH _ _ v1 h3 => za3 (l := x) (by omega) e1 hH h3)) rfl ?_; refine Z71 ?_; refine Z234 ?_; refine z8 (qs L _ rfl rfl rfl rfl rfl rfl rfl (by first | omega | decide) (by assumption)) rfl ?_; refine z8 (yd L (vs := [_, _, _, _, _, _]) rfl rfl rfl rfl rfl ⟨_, rfl⟩) rfl ?_; refine z8 (zw L rfl rfl (zk rfl) rfl rfl rfl (fun u H hH _ _ v1 h3 => za3 (l := y) (by omega) e2 hH h3)) rfl ?_; refine Z71 ?_; refine Z306 ?_; refine Z307 ?_; refine Z212 ?_; refine Z236 ?_; refine Z172 ?_; refine Z185 ?_; refine Z236 ?_; refine Z217 ?_; refine Z49 ?_; refine Z138 ?_; refine Z7 ?_; refine Z236 ?_; refine Z7 ?_; refine Z215 ?_; refine Z257 ?_
    exact yk (x := (i, r)) (i + 1, r) ⟨hlt, by dsimp only; omega, hf.symm⟩ (by dsimp only; omega) ⟨rfl, rfl, rfl, rfl, rfl, rfl, rfl, rfl, trivial⟩
 ·obtain rfl : i = l.length := by omega
  rw [List.take_length] at hr
  have hzr : ∀ t ∈ r, TZ t := fun t h => hza t (List.mem_filter.1 (by rw [← hr]; exact h)).1
  rw [← hr]
  refine zb1 11 rfl ?_
  refine Z374 ?_; refine Z60 ?_; refine Z4 ?_; refine z7 (yt L rfl rfl (zk rfl) rfl rfl rfl SlV.mono (fun u H hH _ _ v1 h3 => zgi (by omega) hzr hH h3)) rfl ?_; refine Z260 ?_
  refine yf L (rs := [.tmp 10]) rfl (fun _ _ h => h) Since.refl fun u H hH hle => ?_
  exact fun v hv => hv
end Go.V.L2
set_option maxRecDepth 20000
namespace Go.V.L6
open Go.Proofs Go.RowKit Go.V Go.V.L2 Go.V.L3
theorem _root_.Go.V.Z81 {A B : Prop} (h : B) (t : Wr B → A := by intro h; refine z7 (zh2 L rfl rfl rfl rfl) rfl ?_; exact h.h) : A := t ⟨h⟩
theorem zvl (N : List (U × Unit)) : UT.flat N = (kS N).flatMap ucs := by
 unfold UT.flat kS
 rw [List.flatMap_map]
 rfl
theorem zry {t : Tr U Unit} {r k : Nat} (hk : k ≤ t.size) : kS (UT.rangeL t (r : Int) (k : Int)) = ((kS t.list).take k).drop r := by
 unfold UT.rangeL
 have h0 : max (r : Int) 0 = (r : Int) := by omega
 have h1 : min (k : Int) (t.size : Int) = (k : Int) := by omega
 rw [h0, h1]
 by_cases h : (r : Int) ≥ k
 ·rw [if_pos h, List.drop_eq_nil_of_le (by rw [List.length_take]; omega)]
  rfl
 ·rw [if_neg h, Tr.prs_list]
  have := zq6 r k t.list 0
  rw [show ((0 : Nat) : Int) = 0 from rfl] at this
  rw [this, Nat.sub_zero, Nat.sub_zero]
  unfold kS
  rw [List.map_drop, List.map_take]
attribute [local irreducible] V N X VO Par StepOK Has Ret RetL RetO Src
set_option maxHeartbeats 1000000 in
theorem zsl {fv : Value} {p : Option Addr} {t : Tr U Unit} {f e : Int} {M : List U} (hM : kS (UT.rangeL t f e) = M) (hs : t.size ≤ 100000) {w : World} {B : Heap} (hB : B.Le (hp w)) (ht : UT.TA t (.pointer p) B) :
  RetO Tryz.prog 45 [.agg #[fv, .pointer p], .int .i64 f, .int .i64 e] w B (SlE tyU 6 M.length (M.flatMap ucs)) := by
 obtain ⟨N, hN⟩ : ∃ N, UT.rangeL t f e = N := ⟨_, rfl⟩
 rw [hN] at hM
 have hfl := zvl N
 have hNM : N.length = M.length := by rw [← hM]; simp
 have hlen : M.length ≤ 100000 := by
  rw [← hNM, ← hN]
  unfold UT.rangeL
  split
  ·exact Nat.zero_le _
  ·exact Nat.le_trans (Tr.prs_length_le _ _ _ _) hs
 have hat : ∀ {k : Nat} {g : U}, M[k]? = some g → ((UT.flat N).drop (k * 6)).take 6 = [.string g.1.1.1, .string g.1.1.2, .string g.1.2, .string g.2.1.1, .string g.2.1.2, .string g.2.2] := fun {k g} h => by
  rw [hfl, hM]; exact zfh h
 clear hM hfl
 refine zek Tryz.func45 rfl Tryz.ntmps45 (Nat.le_of_ble_eq_true rfl) hB ?_
 refine Z299 ?_; refine Z18 ?_; refine z7 (qb L (vs := [_, _]) (qn rfl) rfl rfl rfl rfl ⟨_, rfl⟩) rfl ?_; refine Z138 ?_; refine z7 (yt (φ := UT.PS N true) L rfl rfl (zk rfl) rfl rfl rfl UT.PS.mono (fun u H hH hle _ => UT.range_m _ _ hH (⟨_, rfl, ht.le hle⟩) (by omega) hN)) rfl ?_; refine Z377 ?_; refine Z29 ?_; refine Z148 ?_; refine z7 (zw0 L _ rfl rfl rfl zms rfl rfl rfl rfl (by omega) (by simp only [maxLen]; omega)) rfl ?_; refine qo (yn (.inr rfl) rfl rfl rfl rfl) ?_; refine Z194 ?_; refine Z28 ?_; refine Z368 ?_
 have hzl := zkx (P := Tryz.prog) (k := N.length * 6) zms
 generalize zsL Tryz.prog tyU (N.length * 6) = zs0 at hzl
 rw [hNM] at hzl ⊢
 refine zai (fun s : Nat × List Value => [(7, .sat (UT.PS N true)), (8, .own (SlE tyU 6 M.length ((M.take s.1).flatMap ucs ++ s.2))), (19, .is (.int .i64 M.length)), (20, .is (.int .i64 s.1))])
  (fun s => s.1 ≤ M.length ∧ s.2.length = (M.length - s.1) * 6) (fun s => M.length - s.1) (0, zs0) ⟨Nat.zero_le _, hzl⟩ ⟨rfl, rfl, rfl, rfl, trivial⟩ ?_
 rintro ⟨k, zs⟩ ⟨hk, hz⟩
 dsimp only at hk hz ⊢
 by_cases hlt : k < M.length
 ·obtain ⟨g, hg⟩ := zae hlt
  have hc := hat hg
  have hlN : k < N.length := by omega
  have ht1 : M.take (k + 1) = M.take k ++ [g] := by rw [List.take_add_one, hg]; rfl
  have hr : List.take (0 + k * 6) ((M.take k).flatMap ucs ++ zs) ++ (ucs g ++ List.drop (0 + k * 6 + 6) ((M.take k).flatMap ucs ++ zs)) = (M.take (k + 1)).flatMap ucs ++ zs.drop 6 := by
   rw [ht1, Nat.zero_add]
   exact z1r zlq (M.take k) k M.length zs g (by rw [List.length_take]; omega) hz hlt
  have hlen' : ((M.take (k + 1)).flatMap ucs ++ zs.drop 6).length = M.length * 6 := by
   rw [List.length_append, zfi, List.length_take, List.length_drop, hz]; omega
  refine z3l 8 (by omega) rfl fun b hb => ?_
  have hle1 : 0 + k * 6 + 6 ≤ ((M.take k).flatMap ucs ++ zs).length := by rw [hb.1]; omega
  refine Z389 ?_; refine Z176 ?_; refine Z136 ?_; refine Z280 ?_; refine Z196 ?_; refine z7 (qs L _ rfl rfl rfl rfl rfl rfl rfl (by first | omega | decide) (by assumption)) rfl ?_; refine Z81 ?_; refine z7 (yd L (vs := [_, _, _, _, _, _]) rfl rfl rfl rfl rfl ⟨_, rfl⟩) rfl ?_; refine z7 (qh L _ rfl rfl rfl rfl rfl rfl rfl (by omega)) rfl ?_; refine zoq L (O1 := []) (cs' := (M.take (k + 1)).flatMap ucs ++ zs.drop 6) rfl rfl rfl rfl rfl rfl (Nat.ble_eq_true_of_le hle1) rfl hr ?_; refine Z233 ?_
  refine zyc (s := 6) 8 [] rfl rfl hlen' hb.2 ?_
  refine Z40 ?_; refine Z297 ?_
  exact yk (x := (k, zs)) (k + 1, zs.drop 6) ⟨hlt, by dsimp only; rw [List.length_drop, hz]; omega⟩ (by dsimp only; omega) ⟨rfl, rfl, rfl, rfl, trivial⟩
 ·obtain rfl : k = M.length := by omega
  have hzn : zs = [] := List.eq_nil_of_length_eq_zero (by rw [hz]; omega)
  rw [hzn, List.append_nil, List.take_length]
  refine Z294 ?_; refine Z321 ?_; refine Z56 ?_; refine qo (yn (.inl rfl) rfl rfl rfl rfl) ?_; refine qo (yn (.inr rfl) rfl rfl rfl rfl) ?_; refine Z135 ?_
  exact zik rfl (fun _ _ h => h) Since.refl rfl
end Go.V.L6
set_option maxRecDepth 20000
namespace Go.V.L6
open Go.Proofs Go.RowKit Go.V Go.V.L2 Go.V.L3
attribute [local irreducible] V N X VO Par StepOK Has Ret RetL RetO Src
theorem SetV.trees {l : List U} {v : Value} {B : Heap} (hv : SetV l v B) : ∃ f p k q t u, v = .agg #[f, .pointer p, k, .pointer q] ∧ TS l t u ∧ UT.TA t (.pointer p) B ∧ UT.TA u (.pointer q) B := by
 obtain ⟨p, q, t, u, hT, ht, hu, rfl | ⟨rfl, rfl, rfl, rfl⟩⟩ := hv
 ·exact ⟨_, _, _, _, t, u, rfl, hT, ht, hu⟩
 ·exact ⟨_, _, _, _, t, u, rfl, hT, ht, hu⟩
theorem z1p {l : List U} (hl : l.length ≤ 100000) {v : Value} {w : World} {B : Heap} (hB : B.Le (hp w)) (hv : SetV l v B) : RetO Tryz.prog 14 [v] w B (SlE tyU 6 l.length (l.flatMap ucs)) := by
 obtain ⟨f, p, k, q, t, u, rfl, hT, ht, hu⟩ := hv.trees
 have hts := hT.size
 have hr : kS (UT.rangeL t 0 (l.length : Int)) = l := by
  have := zry (t := t) (r := 0) (k := l.length) (by omega)
  rw [show ((0 : Nat) : Int) = 0 from rfl] at this
  rw [this, hT.kt, List.drop_zero, List.take_length]
 refine zek Tryz.func14 rfl Tryz.ntmps14 (Nat.le_of_ble_eq_true rfl) hB ?_
 refine Z155 ?_; refine Z142 ?_; refine qg (id := 1) [(2, [7])] mixed (by kernel_rfl) ?_; refine Z47 ?_; refine z8 (qb L (vs := [_, _]) (qn rfl) rfl rfl rfl rfl ⟨_, rfl⟩) rfl ?_; refine z8 (qb L (vs := [_, _, _, _]) (qn rfl) rfl rfl rfl rfl ⟨_, rfl⟩) rfl ?_; refine z8 (zw L rfl rfl (zk rfl) rfl rfl rfl (fun u H hH hle _ => zdu rfl hH (hv.le hle))) rfl ?_; refine z8 (zei L rfl rfl (zk rfl) rfl rfl rfl (fun u H hH hle _ => zsl hr (by omega) hH (ht.le hle))) rfl ?_; refine zar (yn (.inr rfl) rfl rfl rfl rfl) rfl rfl ?_; refine Z147 ?_
 exact zik rfl (fun _ _ h => h) Since.refl rfl
end Go.V.L6
set_option maxRecDepth 20000
namespace Go.V.L6
open Go.Proofs Go.RowKit Go.V Go.V.L2 Go.V.L3
attribute [local irreducible] V N X VO Par StepOK Has Ret RetL RetO RetT Src
end Go.V.L6
set_option maxRecDepth 20000
namespace Go.V.L6
open Go.Proofs Go.RowKit Go.V Go.V.L2
attribute [local irreducible] V N X VO Par StepOK Has Ret RetL RetO Src
end Go.V.L6
set_option maxRecDepth 20000
namespace Go.V.L6
open Go.Proofs Go.RowKit Go.V Go.V.L2 Go.V.L3
theorem LE2.out {φ : Value → Heap → Prop} {a v : Value} {H : Heap} (h : TupS [φ, fun v _ => v = a] v H) : ∃ tv, v = .tuple #[tv, a] ∧ φ tv H := by
 obtain ⟨vs, rfl, hl, h⟩ := h
 match vs, hl with
 | [x, y], _ =>
  have h1 := h 0 _ x rfl rfl
  have h2 := h 1 _ y rfl rfl
  subst h2
  exact ⟨x, rfl, h1⟩
def WithP (l : List U) (e : Int) (r : Value) (H : Heap) : Prop := ∃ tv, r = .tuple #[tv, .int .i64 e] ∧ SetV l tv H
theorem WithP.mono {l : List U} {e : Int} : Kn.mono (.sat (WithP l e)) := fun _ _ _ ⟨tv, h1, h2⟩ hle => ⟨tv, h1, h2.le hle⟩
theorem zjm {l : List U} (hl : l.length ≤ 100000) {v : Value} {w : World} {B : Heap} (hB : B.Le (hp w)) (hv : SetV l v B) : Ret Tryz.prog 14 [v] w B (US l true) := (z1p hl hB hv).toRet zmi
theorem zi9 {l m : List U} {x : U} {d : Bool} {e : Int} (hr : zb2 l x d = (m, e)) (hl : l.length ≤ 4096) (hz : TZ x) {v : Value} {w : World} {B : Heap} (hB : B.Le (hp w)) (hv : SetV l v B) :
  Ret Tryz.prog 61 [v, chv x d] w B (WithP m e) := (zwd hr hl hz hB hv).mono fun _ _ _ h => LE2.out h
attribute [local irreducible] V N X VO Par StepOK Has Ret RetL RetO RetT Src
end Go.V.L6
set_option maxRecDepth 20000
namespace Go.V.L3
open Go.Proofs Go.RowKit Go.V Go.V.L2
attribute [local irreducible] V N X VO Par StepOK Has Ret RetL RetO RetT Src
end Go.V.L3
set_option maxRecDepth 20000
namespace Go.V.L3
open Go.Proofs Go.RowKit Go.V Go.V.L2
attribute [local irreducible] V N X VO Par StepOK Has Ret RetL RetO RetT Src
end Go.V.L3
set_option maxRecDepth 20000
namespace Go.V.L6
open Go.Proofs Go.RowKit Go.V Go.V.L2 Go.V.L3
theorem _root_.Go.V.Z328 {A B : Prop} (h : B) (t : Wr B → A := by intro h; refine Z155 ?_; refine Z2 ?_; exact h.h) : A := t ⟨h⟩
abbrev R6 (l : List U) (e : Int) : Value → Heap → Prop := TupS [US l false, fun v _ => v = .int .i64 e]
theorem zwq {l : List U} (hs : Sst za7 l) (x : U) : zes l [x] true false false = l.filter fun z => decide (z ≠ x) := by
 refine zel cmpT_ord (zfl cmpT_ord Sst.nil) (hs.sublist List.filter_sublist) fun z => ?_
 unfold zes zim
 rw [zfp, List.mem_filter, List.mem_filter]
 unfold zct
 simp only [List.mem_append, List.mem_singleton, List.not_mem_nil, false_or, Bool.and_true, Bool.and_false, Bool.or_false, Bool.and_eq_true, decide_eq_true_eq, Bool.not_eq_true', decide_eq_false_iff_not, ne_eq]
 constructor
 ·rintro ⟨_, h1, h2⟩; exact ⟨h1, h2⟩
 ·rintro ⟨h1, h2⟩; exact ⟨.inl h1, h1, h2⟩
theorem zzr {l : List U} (hs : Sst za7 l) {x : U} (hx : x ∉ l) : zes l [x] true true true = zhr za7 x l := by
 refine zel cmpT_ord (zfl cmpT_ord Sst.nil) (ze3 cmpT_ord hs hx) fun z => ?_
 unfold zes zim
 rw [zfp, List.mem_filter, zdi]
 unfold zct
 simp only [List.mem_append, List.mem_singleton, List.not_mem_nil, false_or, Bool.and_true, Bool.or_eq_true, Bool.and_eq_true, decide_eq_true_eq, Bool.not_eq_true', decide_eq_false_iff_not]
 constructor
 ·rintro ⟨h, _⟩; exact h.symm
 ·rintro (rfl | h)
  ·exact ⟨.inr rfl, .inr ⟨hx, rfl⟩⟩
  ·refine ⟨.inl h, .inl (.inl ⟨h, fun e => ?_⟩)⟩
   subst e; exact hx h
theorem zm8 (t : U) : tE t = 0 ∨ tE t = 6 := by
 unfold tE
 split
 ·exact zm9 _ _ _
 ·rename_i h; exact .inr ((zi7 _).resolve_left h)
theorem zja {l : List U} {x z : U} {d : Bool} (h : z ∈ (zb2 l x d).1) : z ∈ l ∨ z = x := by
 unfold zb2 at h
 split at h
 ·split at h
  ·exact .inl (List.mem_filter.1 h).1
  ·split at h
   ·exact .inl h
   ·split at h
    ·cases h
    ·exact (zdi.1 h).symm
 ·cases h
attribute [local irreducible] V N X VO Par StepOK Has Ret RetL RetO RetT Src
set_option maxHeartbeats 1000000 in
theorem zjq {l m : List U} {x : U} {d fu : Bool} {e : Int} (hr : zb2 l x d = (m, e)) (hs : Sst za7 l) (hl : l.length ≤ 90000) (hz : TZ x) (zl : ∀ t ∈ l, TZ t) {v : Value} {w : World} {B : Heap} (hB : B.Le (hp w)) (hv : US l fu v B) :
  Ret Tryz.prog 127 [v, chv x d] w B (R6 m e) := by
 have z1 : ∀ t ∈ [x], TZ t := fun t ht => by rw [List.mem_singleton] at ht; subst ht; exact hz
 have zx1 : ([x] : List U).length ≤ 100000 := show 1 ≤ 100000 by decide
 have key : ∀ {a b c : Bool} (u : World) (H : Heap) (v1 v2 : Value), H.Le (hp u) → US l fu v1 H → SlB (ucs x) tyU 1 v2 H → (a = true ∧ b = false ∧ c = false ∨ a = true ∧ b = true ∧ c = true) → Ret Tryz.prog 62 [v1, v2, .bool a, .bool b, .bool c] u H (US (zes l [x] a b c) false) := by
  rintro a b c u H v1 v2 hH h1 h2 (⟨rfl, rfl, rfl⟩ | ⟨rfl, rfl, rfl⟩)
  ·exact ztr (y := [x]) (by omega) zx1 zl z1 hH h1 (h2.toV rfl)
  ·exact ztp (y := [x]) (by omega) zx1 zl z1 hH h1 (h2.toV rfl)
 refine yi Tryz.func127 rfl Tryz.ntmps127 (Nat.le_of_ble_eq_true rfl) hB ?_
 refine zaq 0 (US l fu) rfl SlV.mono hv ?_
 unfold zb2 at hr
 by_cases he : tE x = 0
 ·rw [if_pos he] at hr
  cases d
  ·rw [if_neg (by decide)] at hr
   by_cases hx : x ∈ l
   ·rw [if_pos hx] at hr
    cases hr
    have hin : (if x ∈ l then 1 else 0 : Int) = 1 := if_pos hx
    refine Z328 ?_; refine Z256 ?_; refine z7 (qb L (vs := [_, _, _, _, _, _]) (qn rfl) rfl rfl rfl rfl ⟨_, rfl⟩) rfl ?_; refine z7 (zw L rfl rfl (zk rfl) rfl rfl rfl (fun u H hH _ _ => he ▸ zd6 hz hH)) rfl ?_; refine Z230 ?_; refine Z326 ?_; refine Z165 ?_; refine Z37 ?_; refine Z4 ?_; refine Z18 ?_; refine z7 (qb L (vs := [_, _, _, _, _, _]) (qn rfl) rfl rfl rfl rfl ⟨_, rfl⟩) rfl ?_; refine z7 (zw L rfl rfl (zk rfl) rfl rfl rfl (fun u H hH _ _ v1 h1 => za3 (by omega) hin hH h1)) rfl ?_; refine Z300 ?_; refine Z43 ?_; refine Z4 ?_; refine Z51 ?_; refine Z136 ?_
    refine yf L (rs := [.tmp 4, .tmp 5]) rfl (fun _ _ h => h) Since.refl fun u H hH hle => ?_
    exact fun v hv => LE2.mk hv.nofu
   ·rw [if_neg hx] at hr
    have hin : (if x ∈ l then 1 else 0 : Int) = 0 := if_neg hx
    by_cases hf : l.length ≥ 4096
    ·rw [if_pos hf] at hr
     cases hr
     refine Z328 ?_; refine Z256 ?_; refine z7 (qb L (vs := [_, _, _, _, _, _]) (qn rfl) rfl rfl rfl rfl ⟨_, rfl⟩) rfl ?_; refine z7 (zw L rfl rfl (zk rfl) rfl rfl rfl (fun u H hH _ _ => he ▸ zd6 hz hH)) rfl ?_; refine Z230 ?_; refine Z326 ?_; refine Z165 ?_; refine Z37 ?_; refine Z4 ?_; refine Z18 ?_; refine z7 (qb L (vs := [_, _, _, _, _, _]) (qn rfl) rfl rfl rfl rfl ⟨_, rfl⟩) rfl ?_; refine z7 (zw L rfl rfl (zk rfl) rfl rfl rfl (fun u H hH _ _ v1 h1 => za3 (by omega) hin hH h1)) rfl ?_; refine Z269 ?_; refine Z40 ?_; refine Z148 ?_; refine Z41 ?_; refine Z152 ?_; refine Z56 ?_; refine Z182 ?_
     refine yf L (rs := [.tmp 4, .tmp 5]) rfl (fun _ _ h => h) Since.refl fun u H hH hle => ?_
     exact LE2.mk SlV.nil
    ·rw [if_neg hf] at hr
     cases hr
     rw [← zzr hs hx]
     refine Z328 ?_; refine Z256 ?_; refine z7 (qb L (vs := [_, _, _, _, _, _]) (qn rfl) rfl rfl rfl rfl ⟨_, rfl⟩) rfl ?_; refine z7 (zw L rfl rfl (zk rfl) rfl rfl rfl (fun u H hH _ _ => he ▸ zd6 hz hH)) rfl ?_; refine Z230 ?_; refine Z326 ?_; refine Z165 ?_; refine Z37 ?_; refine Z4 ?_; refine Z18 ?_; refine z7 (qb L (vs := [_, _, _, _, _, _]) (qn rfl) rfl rfl rfl rfl ⟨_, rfl⟩) rfl ?_; refine z7 (zw L rfl rfl (zk rfl) rfl rfl rfl (fun u H hH _ _ v1 h1 => za3 (by omega) hin hH h1)) rfl ?_; refine Z269 ?_; refine Z40 ?_; refine Z148 ?_; refine Z46 ?_; refine Z158 ?_; refine Z60 ?_; refine Z4 ?_; refine Z18 ?_; refine z7 (qb L (vs := [_, _, _, _, _, _]) (qn rfl) rfl rfl rfl rfl ⟨_, rfl⟩) rfl ?_; refine Z34 ?_; refine z7 (yt (φ := US (zes l [x] true true true) false) L rfl rfl (zk rfl) rfl rfl rfl SlV.mono (fun u H hH _ _ v1 h1 v2 h2 => key u H v1 v2 hH h1 h2 (.inr ⟨rfl, rfl, rfl⟩))) rfl ?_; refine Z51 ?_; refine Z136 ?_
     refine yf L (rs := [.tmp 4, .tmp 5]) rfl (fun _ _ h => h) Since.refl fun u H hH hle => ?_
     exact fun v hv => LE2.mk hv
  ·rw [if_pos rfl] at hr
   cases hr
   rw [← zwq hs x]
   refine Z328 ?_; refine Z256 ?_; refine z7 (qb L (vs := [_, _, _, _, _, _]) (qn rfl) rfl rfl rfl rfl ⟨_, rfl⟩) rfl ?_; refine z7 (zw L rfl rfl (zk rfl) rfl rfl rfl (fun u H hH _ _ => he ▸ zd6 hz hH)) rfl ?_; refine Z230 ?_; refine Z326 ?_; refine Z327 ?_; refine Z4 ?_; refine Z18 ?_; refine z7 (qb L (vs := [_, _, _, _, _, _]) (qn rfl) rfl rfl rfl rfl ⟨_, rfl⟩) rfl ?_; refine Z34 ?_; refine z7 (yt (φ := US (zes l [x] true false false) false) L rfl rfl (zk rfl) rfl rfl rfl SlV.mono (fun u H hH _ _ v1 h1 v2 h2 => key u H v1 v2 hH h1 h2 (.inl ⟨rfl, rfl, rfl⟩))) rfl ?_; refine Z51 ?_; refine Z136 ?_
   refine yf L (rs := [.tmp 4, .tmp 5]) rfl (fun _ _ h => h) Since.refl fun u H hH hle => ?_
   exact fun v hv => LE2.mk hv
 ·have h6 := (zm8 x).resolve_left he
  rw [if_neg he, h6] at hr
  cases hr
  refine Z328 ?_; refine Z256 ?_; refine z7 (qb L (vs := [_, _, _, _, _, _]) (qn rfl) rfl rfl rfl rfl ⟨_, rfl⟩) rfl ?_; refine z7 (zw L rfl rfl (zk rfl) rfl rfl rfl (fun u H hH _ _ => h6 ▸ zd6 hz hH)) rfl ?_; refine Z205 ?_; refine Z29 ?_; refine Z182 ?_
  refine yf L (rs := [.tmp 4, .tmp 5]) rfl (fun _ _ h => h) Since.refl fun u H hH hle => ?_
  exact LE2.mk SlV.nil
end Go.V.L6
set_option maxRecDepth 20000
namespace Go.V.L3
open Go.Proofs Go.RowKit Go.V Go.V.L2
attribute [local irreducible] V N X VO Par StepOK Has Ret RetL RetO RetT Src
end Go.V.L3
set_option maxRecDepth 20000
namespace Go.V.L3
open Go.Proofs Go.RowKit Go.V Go.V.L2
attribute [local irreducible] V N X VO Par StepOK Has Ret RetL RetO RetT Src
end Go.V.L3
set_option maxRecDepth 20000
namespace Go.V.L3
open Go.Proofs Go.RowKit Go.V Go.V.L2
abbrev tyI : TypeId := 3
attribute [local irreducible] V N X VO Par StepOK Has Ret RetL RetO RetT Src
end Go.V.L3
set_option maxRecDepth 20000
namespace Go.V.L3
open Go.Proofs Go.RowKit Go.V Go.V.L2
attribute [local irreducible] V N X VO Par StepOK Has Ret RetL RetO RetT Src
end Go.V.L3
set_option maxRecDepth 20000
namespace Go.V
open Go.Proofs Go.RowKit
def zjl (n : Nat) : ByteArray := match n % 3 with
 | 0 => ⟨#[100, 111, 99]⟩
 | 1 => ⟨#[102, 111, 108, 100, 101, 114]⟩
 | _ => ⟨#[103, 114, 111, 117, 112]⟩
def idS (n : Nat) : ByteArray := match n % 5 with
 | 0 => ⟨#[97]⟩
 | 1 => ⟨#[98]⟩
 | 2 => ⟨#[99, 49]⟩
 | 3 => ⟨#[100]⟩
 | _ => ⟨#[114, 111, 111, 116]⟩
def zzt (n : Nat) : ByteArray := match n % 4 with
 | 0 => ⟨#[118, 105, 101, 119, 101, 114]⟩
 | 1 => ⟨#[101, 100, 105, 116, 111, 114]⟩
 | 2 => ⟨#[109, 101, 109, 98, 101, 114]⟩
 | _ => ⟨#[112, 97, 114, 101, 110, 116]⟩
theorem zer (n : Nat) : chk (zjl n) = 0 ∧ (zjl n).size ≤ 16 := by
 unfold zjl
 split <;> decide +kernel
theorem zlg (n : Nat) : chk (idS n) = 0 ∧ (idS n).size ≤ 16 := by
 unfold idS
 split <;> decide +kernel
theorem zl5 (n : Nat) : chk (zzt n) = 0 ∧ (zzt n).size ≤ 16 := by
 unfold zzt
 split <;> decide +kernel
def zmq (n : Nat) : (ByteArray × ByteArray) × ByteArray := ((zjl n, idS (n / 3)), zzt (n / 15))
theorem zxm (n : Nat) : zcx [(zmq n).1.1, (zmq n).1.2, (zmq n).2] = 0 := by
 simp only [zcx, zmq, (zer _).1, (zlg _).1, (zl5 _).1, if_pos]
theorem zso (n : Nat) : (zmq n).1.1.size ≤ 16 ∧ (zmq n).1.2.size ≤ 16 ∧ (zmq n).2.size ≤ 16 := ⟨(zer _).2, (zlg _).2, (zl5 _).2⟩
end Go.V
set_option maxRecDepth 20000
namespace Go.V
open Go.Proofs Go.RowKit
theorem _root_.Go.V.Z84 {A B : Prop} (h : B) (t : Wr B → A := by intro h; refine z7 (zyy rfl rfl rfl rfl (by omega) (by assumption)) rfl ?_; exact h.h) : A := t ⟨h⟩
theorem _root_.Go.V.Z346 {A B : Prop} (h : B) (t : Wr B → A := by intro h; refine Z184 ?_; refine Z34 ?_; exact h.h) : A := t ⟨h⟩
theorem _root_.Go.V.Z347 {A B : Prop} (h : B) (t : Wr B → A := by intro h; refine Z346 ?_; refine Z1 ?_; exact h.h) : A := t ⟨h⟩
theorem _root_.Go.V.Z348 {A B : Prop} (h : B) (t : Wr B → A := by intro h; refine Z347 ?_; refine Z84 ?_; exact h.h) : A := t ⟨h⟩
theorem _root_.Go.V.Z349 {A B : Prop} (h : B) (t : Wr B → A := by intro h; refine Z35 ?_; refine Z136 ?_; exact h.h) : A := t ⟨h⟩
theorem _root_.Go.V.Z382 {A B : Prop} (h : B) (t : Wr B → A := by intro h; refine Z348 ?_; refine z7 (zd1 L 0 rfl rfl rfl rfl rfl rfl rfl (by omega)) rfl ?_; exact h.h) : A := t ⟨h⟩
theorem _root_.Go.V.Z383 {A B : Prop} (h : B) (t : Wr B → A := by intro h; refine Z348 ?_; refine z7 (zd1 L 1 rfl rfl rfl rfl rfl rfl rfl (by omega)) rfl ?_; exact h.h) : A := t ⟨h⟩
theorem _root_.Go.V.Z384 {A B : Prop} (h : B) (t : Wr B → A := by intro h; refine Z348 ?_; refine z7 (zd1 L 2 rfl rfl rfl rfl rfl rfl rfl (by omega)) rfl ?_; exact h.h) : A := t ⟨h⟩
attribute [local irreducible] V N X VO Par StepOK Has Ret RetL Src
theorem zna (n : Nat) {w : World} {B : Heap} (hB : B.Le (hp w)) : Ret Tryz.prog 145 [.int .i64 n] w B (fun v _ => v = .string (zjl n)) := by
 unfold zjl
 have e : Int.tmod (n : Int) 3 = ((n % 3 : Nat) : Int) := rfl
 refine yi Tryz.func145 rfl Tryz.ntmps145 (Nat.le_of_ble_eq_true rfl) hB ?_
 have hlt := Nat.mod_lt n (show 0 < 3 by decide)
 rcases (by omega : n % 3 = 0 ∨ n % 3 = 1 ∨ n % 3 = 2) with h | h | h
 ·have e0 : Int.tmod (n : Int) 3 = 0 := by rw [e, h]; rfl
  rw [h]
  refine Z382 ?_; refine Z349 ?_
  refine yf L (rs := [.tmp 2]) rfl (fun _ _ h => h) Since.refl fun u H hH hle => ?_
  rfl
 ·have e0 : Int.tmod (n : Int) 3 = 1 := by rw [e, h]; rfl
  rw [h]
  refine Z383 ?_; refine Z349 ?_
  refine yf L (rs := [.tmp 2]) rfl (fun _ _ h => h) Since.refl fun u H hH hle => ?_
  rfl
 ·have e0 : Int.tmod (n : Int) 3 = 2 := by rw [e, h]; rfl
  rw [h]
  refine Z384 ?_; refine Z349 ?_
  refine yf L (rs := [.tmp 2]) rfl (fun _ _ h => h) Since.refl fun u H hH hle => ?_
  rfl
theorem zy1 (n : Nat) {w : World} {B : Heap} (hB : B.Le (hp w)) : Ret Tryz.prog 146 [.int .i64 n] w B (fun v _ => v = .string (idS n)) := by
 unfold idS
 have e : Int.tmod (n : Int) 5 = ((n % 5 : Nat) : Int) := rfl
 refine yi Tryz.func146 rfl Tryz.ntmps146 (Nat.le_of_ble_eq_true rfl) hB ?_
 have hlt := Nat.mod_lt n (show 0 < 5 by decide)
 rcases (by omega : n % 5 = 0 ∨ n % 5 = 1 ∨ n % 5 = 2 ∨ n % 5 = 3 ∨ n % 5 = 4) with h | h | h | h | h
 ·have e0 : Int.tmod (n : Int) 5 = 0 := by rw [e, h]; rfl
  rw [h]
  refine Z382 ?_; refine Z349 ?_
  refine yf L (rs := [.tmp 2]) rfl (fun _ _ h => h) Since.refl fun u H hH hle => ?_
  rfl
 ·have e0 : Int.tmod (n : Int) 5 = 1 := by rw [e, h]; rfl
  rw [h]
  refine Z383 ?_; refine Z349 ?_
  refine yf L (rs := [.tmp 2]) rfl (fun _ _ h => h) Since.refl fun u H hH hle => ?_
  rfl
 ·have e0 : Int.tmod (n : Int) 5 = 2 := by rw [e, h]; rfl
  rw [h]
  refine Z384 ?_; refine Z349 ?_
  refine yf L (rs := [.tmp 2]) rfl (fun _ _ h => h) Since.refl fun u H hH hle => ?_
  rfl
 ·have e0 : Int.tmod (n : Int) 5 = 3 := by rw [e, h]; rfl
  rw [h]
  refine Z348 ?_; refine z7 (zd1 L 3 rfl rfl rfl rfl rfl rfl rfl (by omega)) rfl ?_; refine Z349 ?_
  refine yf L (rs := [.tmp 2]) rfl (fun _ _ h => h) Since.refl fun u H hH hle => ?_
  rfl
 ·have e0 : Int.tmod (n : Int) 5 = 4 := by rw [e, h]; rfl
  rw [h]
  refine Z348 ?_; refine z7 (zd1 L 4 rfl rfl rfl rfl rfl rfl rfl (by omega)) rfl ?_; refine Z349 ?_
  refine yf L (rs := [.tmp 2]) rfl (fun _ _ h => h) Since.refl fun u H hH hle => ?_
  rfl
theorem ztu (n : Nat) {w : World} {B : Heap} (hB : B.Le (hp w)) : Ret Tryz.prog 147 [.int .i64 n] w B (fun v _ => v = .string (zzt n)) := by
 unfold zzt
 have e : Int.tmod (n : Int) 4 = ((n % 4 : Nat) : Int) := rfl
 refine yi Tryz.func147 rfl Tryz.ntmps147 (Nat.le_of_ble_eq_true rfl) hB ?_
 have hlt := Nat.mod_lt n (show 0 < 4 by decide)
 rcases (by omega : n % 4 = 0 ∨ n % 4 = 1 ∨ n % 4 = 2 ∨ n % 4 = 3) with h | h | h | h
 ·have e0 : Int.tmod (n : Int) 4 = 0 := by rw [e, h]; rfl
  rw [h]
  refine Z382 ?_; refine Z349 ?_
  refine yf L (rs := [.tmp 2]) rfl (fun _ _ h => h) Since.refl fun u H hH hle => ?_
  rfl
 ·have e0 : Int.tmod (n : Int) 4 = 1 := by rw [e, h]; rfl
  rw [h]
  refine Z383 ?_; refine Z349 ?_
  refine yf L (rs := [.tmp 2]) rfl (fun _ _ h => h) Since.refl fun u H hH hle => ?_
  rfl
 ·have e0 : Int.tmod (n : Int) 4 = 2 := by rw [e, h]; rfl
  rw [h]
  refine Z384 ?_; refine Z349 ?_
  refine yf L (rs := [.tmp 2]) rfl (fun _ _ h => h) Since.refl fun u H hH hle => ?_
  rfl
 ·have e0 : Int.tmod (n : Int) 4 = 3 := by rw [e, h]; rfl
  rw [h]
  refine Z348 ?_; refine z7 (zd1 L 3 rfl rfl rfl rfl rfl rfl rfl (by omega)) rfl ?_; refine Z349 ?_
  refine yf L (rs := [.tmp 2]) rfl (fun _ _ h => h) Since.refl fun u H hH hle => ?_
  rfl
end Go.V
set_option maxRecDepth 20000
namespace Go.V.L2
open Go.Proofs Go.RowKit Go.V
theorem _root_.Go.V.Z26 {A B : Prop} (h : B) (t : Wr B → A := by intro h; refine z7 (yo rfl rfl rfl rfl (by assumption)) rfl ?_; exact h.h) : A := t ⟨h⟩
theorem _root_.Go.V.Z52 {A B : Prop} (h : B) (t : Wr B → A := by intro h; refine z7 (z18 rfl rfl rfl rfl (by omega) (by assumption)) rfl ?_; exact h.h) : A := t ⟨h⟩
theorem _root_.Go.V.Z133 {A B : Prop} (h : B) (t : Wr B → A := by intro h; refine z8 (zyy rfl rfl rfl rfl (by omega) (by assumption)) rfl ?_; exact h.h) : A := t ⟨h⟩
theorem _root_.Go.V.Z350 {A B : Prop} (h : B) (t : Wr B → A := by intro h; refine Z155 ?_; refine Z24 ?_; exact h.h) : A := t ⟨h⟩
theorem _root_.Go.V.Z378 {A B : Prop} (h : B) (t : Wr B → A := by intro h; refine Z199 ?_; refine Z194 ?_; exact h.h) : A := t ⟨h⟩
def zzn (s : Nat) : zyh := ((zjl s, idS (s / 3)), if 15 ≤ s then zzt (s / 15 - 1) else ⟨#[]⟩)
def zub (a b : Nat) : U := (zmq (a % 60), zzn (b % 75))
def tl (ps : List (Nat × Nat)) : List U := (ps.take 20).map fun p => zub p.1 p.2
theorem ztj (s : Nat) : (zzn s).1.1.size ≤ 16 ∧ (zzn s).1.2.size ≤ 16 ∧ (zzn s).2.size ≤ 16 := by
 refine ⟨(zer _).2, (zlg _).2, ?_⟩
 unfold zzn
 dsimp only
 split
 ·exact (zl5 _).2
 ·decide
theorem zua (a b : Nat) : TZ (zub a b) := by
 have h1 := zso (a % 60)
 have h2 := ztj (b % 75)
 unfold TZ zub
 dsimp only
 refine ⟨⟨?_, ?_, ?_⟩, ?_, ?_, ?_⟩ <;> omega
theorem zz6 (a b : Nat) : tE (zub a b) = 0 := by
 unfold tE zub
 dsimp only
 rw [if_pos (zxm _)]
 unfold zzn zgf
 dsimp only
 by_cases h : 15 ≤ b % 75
 ·rw [if_pos h]
  split
  ·simp only [zcx, (zer _).1, (zlg _).1, if_pos]
  ·simp only [zcx, (zer _).1, (zlg _).1, (zl5 _).1, if_pos]
 ·rw [if_neg h, if_pos rfl]
  simp only [zcx, (zer _).1, (zlg _).1, if_pos]
attribute [local irreducible] V N X VO Par StepOK Has Ret RetL Src
set_option maxHeartbeats 1000000 in
theorem znu (a b : Nat) (ha : a ≤ 255) (hb : b ≤ 255) {w : World} {B : Heap} (hB : B.Le (hp w)) : Ret Tryz.prog 98 [.agg #[.int .u8 a, .int .u8 b]] w B (fun v _ => v = uv (zub a b)) := by
 have e60 : Int.tmod (a : Int) 60 = ((a % 60 : Nat) : Int) := rfl
 have e75 : Int.tmod (b : Int) 75 = ((b % 75 : Nat) : Int) := rfl
 have hlt := Nat.mod_lt a (show 0 < 60 by decide)
 have hlt2 := Nat.mod_lt b (show 0 < 75 by decide)
 unfold zub
 generalize a % 60 = m at e60 hlt
 generalize b % 75 = s at e75 hlt2
 have q1 : (m : Int).tdiv 3 = ((m / 3 : Nat) : Int) := rfl
 have q2 : (m : Int).tdiv 15 = ((m / 15 : Nat) : Int) := rfl
 have q3 : (s : Int).tdiv 3 = ((s / 3 : Nat) : Int) := rfl
 have q4 : (s : Int).tdiv 15 = ((s / 15 : Nat) : Int) := rfl
 have d1 : IntKind.i64.wrap ((m : Int).tdiv 3) = ((m / 3 : Nat) : Int) := zaa (by omega) (by omega)
 have d2 : IntKind.i64.wrap ((m : Int).tdiv 15) = ((m / 15 : Nat) : Int) := zaa (by omega) (by omega)
 have d3 : IntKind.i64.wrap ((s : Int).tdiv 3) = ((s / 3 : Nat) : Int) := zaa (by omega) (by omega)
 have d4 : IntKind.i64.wrap ((s : Int).tdiv 15) = ((s / 15 : Nat) : Int) := zaa (by omega) (by omega)
 unfold zmq zzn
 refine yi Tryz.func98 rfl Tryz.ntmps98 (Nat.le_of_ble_eq_true rfl) hB ?_
 refine Z350 ?_; refine Z157 ?_; refine Z79 ?_; refine z8 (zcd L _ rfl rfl rfl rfl z3f rfl rfl (by first | omega | decide)) rfl ?_; refine Z57 ?_; refine Z133 ?_; refine z8 (zax rfl rfl rfl zxt.1 zxt.2 (zaa (by omega) (by omega))) rfl ?_; refine z8 (zcd L _ rfl rfl rfl rfl z3f rfl rfl (by first | omega | decide)) rfl ?_; refine Z57 ?_; refine Z133 ?_; refine z8 (zax rfl rfl rfl zxt.1 zxt.2 (zaa (by omega) (by omega))) rfl ?_; refine Z306 ?_; refine Z169 ?_; refine z7 (zw L rfl rfl (zk rfl) rfl rfl rfl (fun u H hH _ _ => zna _ hH)) rfl ?_; refine Z1 ?_; refine Z52 ?_; refine z7 (zw L rfl rfl (zk rfl) rfl rfl rfl (fun u H hH _ _ => zy1 _ hH)) rfl ?_; refine z7 (yu (cs := [_, _]) rfl rfl zpc rfl rfl) rfl ?_; refine Z1 ?_; refine Z52 ?_; refine z7 (zw L rfl rfl (zk rfl) rfl rfl rfl (fun u H hH _ _ => ztu _ hH)) rfl ?_; refine z7 (yu (cs := [_, _, _]) rfl rfl z16 rfl rfl) rfl ?_; refine Z1 ?_; refine z7 (zw L rfl rfl (zk rfl) rfl rfl rfl (fun u H hH _ _ => zna _ hH)) rfl ?_; refine Z1 ?_; refine Z52 ?_; refine z7 (zw L rfl rfl (zk rfl) rfl rfl rfl (fun u H hH _ _ => zy1 _ hH)) rfl ?_; refine z7 (yu (cs := [_, _]) rfl rfl zpc rfl rfl) rfl ?_; refine z7 (yu (cs := [_, _, _]) rfl rfl z15 rfl rfl) rfl ?_; refine z7 (yu (cs := [_, _, _, _, _, _]) rfl rfl zfd rfl rfl) rfl ?_; refine Z378 ?_
 by_cases h : 15 ≤ s
 ·rw [if_pos h]
  have hs1 : IntKind.i64.wrap (((s / 15 : Nat) : Int) - 1) = ((s / 15 - 1 : Nat) : Int) := (zaa (by omega) (by omega)).trans (by omega)
  refine zis 5 rfl fun b5 hb5 => ?_
  refine Z173 ?_; refine Z253 ?_; refine Z156 ?_; refine Z52 ?_; refine Z26 ?_; refine z7 (zw L rfl rfl (zk rfl) rfl rfl rfl (fun u H hH _ _ => ztu _ hH)) rfl ?_; refine Z44 ?_; refine Z44 ?_; refine Z116 ?_; refine Z157 ?_; refine Z37 ?_; refine z7 (qb L (vs := [_, _, _, _, _, _]) (zaw rfl (List.Mem.head _)) rfl rfl rfl rfl ⟨_, rfl⟩) rfl ?_; refine Z261 ?_
  refine yf L (rs := [.cell 2 114]) rfl (fun _ _ h => h) Since.refl fun u H hH hle => ?_
  refine Z114 ?_
  rfl
 ·rw [if_neg h]
  refine Z173 ?_; refine Z46 ?_; refine Z158 ?_; refine Z37 ?_; refine z7 (qb L (vs := [_, _, _, _, _, _]) (yl rfl) rfl rfl rfl rfl ⟨_, rfl⟩) rfl ?_; refine Z261 ?_
  refine yf L (rs := [.cell 2 114]) rfl (fun _ _ h => h) Since.refl fun u H hH hle => ?_
  refine Z114 ?_
  rfl
end Go.V.L2
set_option maxRecDepth 20000
namespace Go.V
open Go.Proofs Go.RowKit
section
variable {P : Program} {F : Fr} {B : Heap} {O : Boxes} {n : Nat} {ops : Array Oper} {κ : Kap} {d : Nat} {ty : TypeId} {pos : String} {aft : Array Edge} {g : Option (Nat × Bool)}
theorem zy0 {t t' : TypeId} {x y : Operand} {k : IntKind} {p q r : Int} (hn : Nat.blt d n = true) (hg : gK ops κ ⟨some d, .binOp .and t x y t', ty, pos, aft, g⟩ = some true) (hx : evK κ x = some (.int k p)) (hy : evK κ y = some (.int k q)) (hb : bits .and k p q = r) :
  StepOK P F B n ops O κ ⟨some d, .binOp .and t x y t', ty, pos, aft, g⟩ d (.is (.int k r)) := zce hn hg hx hy fun u => by subst hb; simp [eqGuard_and, binOp_and, intBits_and]
end
end Go.V
set_option maxRecDepth 20000
namespace Go.V.L3
open Go.Proofs Go.RowKit Go.V Go.V.L2
attribute [local irreducible] V N X VO Par StepOK Has Ret RetL RetO RetT Src
end Go.V.L3
set_option maxRecDepth 20000
namespace Go.V.L3
open Go.Proofs Go.RowKit Go.V Go.V.L2
attribute [local irreducible] V N X VO Par StepOK Has Ret RetL RetO RetT Src
end Go.V.L3
set_option maxRecDepth 20000
namespace Go.V.L3
open Go.Proofs Go.RowKit Go.V Go.V.L2
attribute [local irreducible] V N X VO Par StepOK Has Ret RetL RetO RetT Src
end Go.V.L3
set_option maxRecDepth 20000
namespace Go.V.L3
open Go.Proofs Go.RowKit Go.V Go.V.L2
attribute [local irreducible] V N X VO Par StepOK Has Ret RetL RetO RetT Src
end Go.V.L3
set_option maxRecDepth 20000
namespace Go.V.L6
open Go.Proofs Go.RowKit Go.V Go.V.L2 Go.V.L3
abbrev d0 : U := (((⟨#[100, 111, 99]⟩, ⟨#[97]⟩), ⟨#[118, 105, 101, 119, 101, 114]⟩), ((⟨#[117, 115, 101, 114]⟩, ⟨#[120]⟩), ⟨#[]⟩))
abbrev d1 : U := (((⟨#[100, 111, 99]⟩, ⟨#[97]⟩), ⟨#[118, 105, 101, 119, 101, 114]⟩), ((⟨#[103, 114, 111, 117, 112]⟩, ⟨#[103]⟩), ⟨#[109, 101, 109, 98, 101, 114]⟩))
abbrev d2 : U := (((⟨#[100, 111, 99]⟩, ⟨#[98]⟩), ⟨#[118, 105, 101, 119, 101, 114]⟩), ((⟨#[117, 115, 101, 114]⟩, ⟨#[120]⟩), ⟨#[]⟩))
def tzB (t : U) : Bool := decide (t.1.1.1.size ≤ 1000) && decide (t.1.1.2.size ≤ 1000) && decide (t.1.2.size ≤ 1000) && decide (t.2.1.1.size ≤ 1000) && decide (t.2.1.2.size ≤ 1000) && decide (t.2.2.size ≤ 1000)
theorem zyp {t : U} (h : tzB t = true) : TZ t := by
 unfold tzB at h
 simp only [Bool.and_eq_true, decide_eq_true_eq] at h
 unfold TZ; omega
attribute [local irreducible] V N X VO Par StepOK Has Ret RetL RetO RetT Src
end Go.V.L6
set_option maxRecDepth 20000
namespace Go.V.L6
open Go.Proofs Go.RowKit Go.V Go.V.L2 Go.V.L3
abbrev ty3 : TypeId := 148
abbrev C3 := Nat × Nat × Nat
def qcs (p : C3) : List Value := [.int .u8 p.1, .int .u8 p.2.1, .int .u8 p.2.2]
theorem zzu (p : C3) : (qcs p).length = 3 := rfl
abbrev PS3 (cs : List C3) (fu : Bool) : Value → Heap → Prop := SlV ty3 3 (cs.flatMap qcs) cs.length fu
theorem z1w {cs : List C3} {j : Nat} {a b c : Nat} (h : cs[j]? = some (a, b, c)) : ((cs.flatMap qcs).drop (j * 3)).take 3 = [.int .u8 a, .int .u8 b, .int .u8 c] := zde zzu cs j _ h
def drB (c : Nat) : Bool := decide (c % 2 = 1)
structure SOK (l : List U) : Prop where
 sst : Sst za7 l
 tz : ∀ t ∈ l, TZ t
 ok : ∀ t ∈ l, tE t = 0
theorem zpz {l : List U} (h : SOK l) {x : U} (hz : TZ x) (hx : tE x = 0) (d : Bool) (hl : l.length < 4096) : SOK (zb2 l x d).1 ∧ (zb2 l x d).2 = 0 ∧ (zb2 l x d).1.length ≤ l.length + 1 := by
 refine ⟨⟨zm4 h.sst x d, fun t ht => ?_, fun t ht => ?_⟩, ?_⟩
 ·rcases zja ht with ht | rfl
  ·exact h.tz t ht
  ·exact hz
 ·rcases zja ht with ht | rfl
  ·exact h.ok t ht
  ·exact hx
 ·unfold zb2
  rw [if_pos hx]
  split
  ·exact ⟨rfl, Nat.le_succ_of_le (List.length_filter_le _ _)⟩
  ·split
   ·exact ⟨rfl, Nat.le_succ _⟩
   ·rw [if_neg (by omega), zcf]; exact ⟨rfl, Nat.le_refl _⟩
attribute [local irreducible] V N X VO Par StepOK Has Ret RetL RetO RetT Src
theorem z1u (c : Nat) : Int.tmod (c : Int) 2 = ((c % 2 : Nat) : Int) := rfl
theorem zxz {a b c : Nat} {x : U} {d : Bool} (hx : zub a b = x) (hd : drB c = d) (ha : a ≤ 255) (hb : b ≤ 255) (hc : c ≤ 255) {w : World} {B : Heap} (hB : B.Le (hp w)) : Ret Tryz.prog 68 [.agg #[.int .u8 a, .int .u8 b, .int .u8 c]] w B (fun v _ => v = chv x d) := by
 subst hx hd
 have hr := z1u c
 refine yi Tryz.func68 rfl Tryz.ntmps68 (Nat.le_of_ble_eq_true rfl) hB ?_
 by_cases h1 : c % 2 = 1
 ·have e1 : drB c = true := decide_eq_true h1
  rw [e1]
  refine Z350 ?_; refine Z157 ?_; refine Z79 ?_; refine z8 (zcd L _ rfl rfl rfl rfl zs1 rfl rfl (by first | omega | decide)) rfl ?_; refine Z57 ?_; refine z8 (zcd L _ rfl rfl rfl rfl zs1 rfl rfl (by first | omega | decide)) rfl ?_; refine Z57 ?_; refine z8 (yu (cs := [_, _]) rfl rfl z10 rfl rfl) rfl ?_; refine z8 (zw L rfl rfl (zk rfl) rfl rfl rfl (fun u H hH _ _ => znu a b ha hb hH)) rfl ?_; refine z8 (zcd L _ rfl rfl rfl rfl zs1 rfl rfl (by first | omega | decide)) rfl ?_; refine Z57 ?_; refine Z133 ?_; refine Z76 ?_; refine z8 (yu (cs := [_, _, _, _, _, _, _]) rfl rfl zma rfl rfl) rfl ?_; refine Z109 ?_; refine Z147 ?_
  refine yf L (rs := [.cell 2 120]) rfl (fun _ _ h => h) Since.refl fun u H hH hle => ?_
  refine Z114 ?_
  rfl
 ·have e1 : drB c = false := decide_eq_false h1
  rw [e1]
  refine Z350 ?_; refine Z157 ?_; refine Z79 ?_; refine z8 (zcd L _ rfl rfl rfl rfl zs1 rfl rfl (by first | omega | decide)) rfl ?_; refine Z57 ?_; refine z8 (zcd L _ rfl rfl rfl rfl zs1 rfl rfl (by first | omega | decide)) rfl ?_; refine Z57 ?_; refine z8 (yu (cs := [_, _]) rfl rfl z10 rfl rfl) rfl ?_; refine z8 (zw L rfl rfl (zk rfl) rfl rfl rfl (fun u H hH _ _ => znu a b ha hb hH)) rfl ?_; refine z8 (zcd L _ rfl rfl rfl rfl zs1 rfl rfl (by first | omega | decide)) rfl ?_; refine Z57 ?_; refine Z133 ?_; refine Z71 ?_; refine z8 (yu (cs := [_, _, _, _, _, _, _]) rfl rfl zma rfl rfl) rfl ?_; refine Z109 ?_; refine Z147 ?_
  refine yf L (rs := [.cell 2 120]) rfl (fun _ _ h => h) Since.refl fun u H hH hle => ?_
  refine Z114 ?_
  rfl
end Go.V.L6
set_option maxRecDepth 20000
namespace Go.V.L6
open Go.Proofs Go.RowKit Go.V Go.V.L2 Go.V.L3
end Go.V.L6
set_option maxRecDepth 20000
namespace Go.V.L2
open Go.Proofs Go.RowKit Go.V
def TM (t : U) : Prop := (t.1.1.1.size ≤ 9223372036854775807 ∧ t.1.1.2.size ≤ 9223372036854775807 ∧ t.1.2.size ≤ 9223372036854775807) ∧ t.2.1.1.size ≤ 9223372036854775807 ∧ t.2.1.2.size ≤ 9223372036854775807 ∧ t.2.2.size ≤ 9223372036854775807
attribute [local irreducible] V N X VO Par StepOK Has Ret RetL Src
end Go.V.L2
set_option maxRecDepth 20000
namespace Go.V.L8
open Go.Proofs Go.RowKit Go.V Go.V.L2 Go.V.L3 Go.V.L6
abbrev tyM : TypeId := 118
abbrev tyC : TypeId := 120
abbrev z5l : TypeId := 96
abbrev z5m : TypeId := 79
def ccs (c : CH) : List Value := [.string c.1.1.1.1, .string c.1.1.1.2, .string c.1.1.2, .string c.1.2.1.1, .string c.1.2.1.2, .string c.1.2.2, .bool c.2]
theorem zvw (c : CH) : (ccs c).length = 7 := rfl
abbrev KS (ty : TypeId) (l : List CH) (fu : Bool) : Value → Heap → Prop := SlV ty 7 (l.flatMap ccs) l.length fu
theorem zf9 {l : List CH} {i : Nat} {c : CH} (h : l[i]? = some c) : ((l.flatMap ccs).drop (i * 7)).take 7 = [.string c.1.1.1.1, .string c.1.1.1.2, .string c.1.1.2, .string c.1.2.1.1, .string c.1.2.1.2, .string c.1.2.2, .bool c.2] := zde zvw l i c h
theorem ze6 {ty : TypeId} {κ : Kap} {s : Nat} {r : List CH} {c : CH} (h : κ s = some (.own (SlR ty 7 (r.length + 1) (r.flatMap ccs ++ [.string c.1.1.1.1, .string c.1.1.1.2, .string c.1.1.2, .string c.1.2.1.1, .string c.1.2.1.2, .string c.1.2.2, .bool c.2])))) : κ s = some (.own (SlR ty 7 (r ++ [c]).length ((r ++ [c]).flatMap ccs))) := by
 rw [h, List.flatMap_append, List.length_append]; rfl
theorem zx4 {n : Nat} {l : List CH} (hl : ¬ n < l.length) {i : Nat} {c : CH} (hc : l[i]? = some c) (h : ¬ tE c.1 = 0) : cE n l = 6 := by
 unfold cE
 rw [if_neg hl, if_pos]
 rw [List.any_eq_true]
 exact ⟨c, List.mem_of_getElem? hc, by simp [h]⟩
theorem zq9 {n : Nat} {l : List CH} (hl : ¬ n < l.length) (h : ∀ (j : Nat) c, l[j]? = some c → tE c.1 = 0) : cE n l = 0 := by
 unfold cE
 rw [if_neg hl, if_neg]
 rw [List.any_eq_true]
 rintro ⟨c, hc, h1⟩
 obtain ⟨j, hj⟩ := List.getElem?_of_mem hc
 rw [decide_eq_true (h j c hj)] at h1
 cases h1
attribute [local irreducible] V N X VO Par StepOK Has Ret RetL RetO RetT Src
theorem zls {t : U} (hz : TM t) {w : World} {B : Heap} (hB : B.Le (hp w)) : Ret Tryz.prog 91 [uv t] w B (fun v _ => v = .int .i64 (tE t)) := by
 obtain ⟨⟨z1, z2, z3⟩, z4, z5, z6⟩ := hz
 unfold tE
 refine yi Tryz.func91 rfl Tryz.ntmps91 (Nat.le_of_ble_eq_true rfl) hB ?_
 by_cases h : zcx [t.1.1.1, t.1.1.2, t.1.2] = 0
 ·rw [if_pos h]
  refine Z155 ?_; refine Z256 ?_; refine z7 (qb L (vs := [_, _, _]) (qn rfl) rfl rfl rfl rfl ⟨_, rfl⟩) rfl ?_; refine z7 (zw L rfl rfl (zk rfl) rfl rfl rfl (fun u H hH _ _ => zhe (by first | assumption | omega | decide) (by first | assumption | omega | decide) (by first | assumption | omega | decide) hH)) rfl ?_; refine Z239 ?_; refine Z228 ?_; refine Z27 ?_; refine Z18 ?_; refine z7 (qb L (vs := [_, _, _]) (qn rfl) rfl rfl rfl rfl ⟨_, rfl⟩) rfl ?_; refine z7 (zw L rfl rfl (zk rfl) rfl rfl rfl (fun u H hH _ _ => zjg (by first | assumption | omega | decide) (by first | assumption | omega | decide) (by first | assumption | omega | decide) hH)) rfl ?_; refine Z136 ?_
  refine yf L (rs := [.tmp 2]) rfl (fun _ _ h => h) Since.refl fun u H hH hle => ?_
  rfl
 ·rw [if_neg h]
  refine Z155 ?_; refine Z256 ?_; refine z7 (qb L (vs := [_, _, _]) (qn rfl) rfl rfl rfl rfl ⟨_, rfl⟩) rfl ?_; refine z7 (zw L rfl rfl (zk rfl) rfl rfl rfl (fun u H hH _ _ => zhe (by first | assumption | omega | decide) (by first | assumption | omega | decide) (by first | assumption | omega | decide) hH)) rfl ?_; refine Z239 ?_; refine Z205 ?_; refine Z173 ?_; refine Z136 ?_
  refine yf L (rs := [.tmp 2]) rfl (fun _ _ h => h) Since.refl fun u H hH hle => ?_
  rfl
theorem zix {t : U} (hz : TM t) {w : World} {B : Heap} (hB : B.Le (hp w)) : Ret Tryz.prog 157 [uv t] w B (fun v _ => v = .int .i64 (tE t)) := by
 obtain ⟨⟨z1, z2, z3⟩, z4, z5, z6⟩ := hz
 have hm := zyr t
 refine yi Tryz.func157 rfl Tryz.ntmps157 (Nat.le_of_ble_eq_true rfl) hB ?_
 refine Z155 ?_; refine Z369 ?_; refine Z47 ?_; refine z8 (qb L (vs := [_, _, _]) (qn rfl) rfl rfl rfl rfl ⟨_, rfl⟩) rfl ?_; refine z8 (zw L rfl rfl (zk rfl) rfl rfl rfl (fun u H hH _ _ => znn (by first | assumption | omega | decide) (by first | assumption | omega | decide) (by first | assumption | omega | decide) hH)) rfl ?_; refine Z47 ?_; refine z8 (qb L (vs := [_, _, _]) (qn rfl) rfl rfl rfl rfl ⟨_, rfl⟩) rfl ?_; refine z8 (zw L rfl rfl (zk rfl) rfl rfl rfl (fun u H hH _ _ => zig (by first | assumption | omega | decide) (by first | assumption | omega | decide) (by first | assumption | omega | decide) hH)) rfl ?_; refine z8 (zgc rfl rfl rfl rfl (by assumption)) rfl ?_; refine Z175 ?_
 refine yf L (rs := [.tmp 2]) rfl (fun _ _ h => h) Since.refl fun u H hH hle => ?_
 rfl
theorem z0b {l : List CH} {fu : Bool} {b i : Nat} {c : CH} (hc0 : l[i]? = some c) {v : Value} {w : World} {B : Heap} (hB : B.Le (hp w)) (hb : B b = some (.cells #[v] z5l)) (hv : KS tyM l fu v B) :
  Ret Tryz.prog 120 ([.int .i64 i] ++ [.pointer (some ⟨b, 0, none⟩)]) w B (fun r _ => r = uv c.1) := by
 have hc := zf9 hc0
 have hil := get_lt hc0
 refine yi Tryz.func120 rfl Tryz.ntmps120 (Nat.le_of_ble_eq_true rfl) hB ?_
 refine Z343 ?_; refine Z157 ?_; refine Z19 ?_; refine Z63 ?_; refine zfg 4 (KS tyM l fu) rfl SlV.mono hv ?_; refine Z1 ?_; refine z7 (qs L _ rfl rfl rfl rfl rfl rfl rfl (by first | omega | decide) (by assumption)) rfl ?_; refine Z81 ?_; refine z7 (yd L (vs := [_, _, _, _, _, _]) rfl rfl rfl rfl rfl ⟨_, rfl⟩) rfl ?_; refine Z261 ?_
 refine yf L (rs := [.cell 3 114]) rfl (fun _ _ h => h) Since.refl fun u H hH hle => ?_
 refine Z114 ?_
 rfl
theorem z0u {l : List CH} {fu : Bool} {b i : Nat} {c : CH} (hc0 : l[i]? = some c) {v : Value} {w : World} {B : Heap} (hB : B.Le (hp w)) (hb : B b = some (.cells #[v] z5m)) (hv : KS tyC l fu v B) :
  Ret Tryz.prog 121 ([.int .i64 i] ++ [.pointer (some ⟨b, 0, none⟩)]) w B (fun r _ => r = uv c.1) := by
 have hc := zf9 hc0
 have hil := get_lt hc0
 refine yi Tryz.func121 rfl Tryz.ntmps121 (Nat.le_of_ble_eq_true rfl) hB ?_
 refine Z343 ?_; refine Z157 ?_; refine Z19 ?_; refine Z63 ?_; refine zfg 4 (KS tyC l fu) rfl SlV.mono hv ?_; refine Z1 ?_; refine z7 (qs L _ rfl rfl rfl rfl rfl rfl rfl (by first | omega | decide) (by assumption)) rfl ?_; refine Z81 ?_; refine z7 (yd L (vs := [_, _, _, _, _, _]) rfl rfl rfl rfl rfl ⟨_, rfl⟩) rfl ?_; refine Z261 ?_
 refine yf L (rs := [.cell 3 114]) rfl (fun _ _ h => h) Since.refl fun u H hH hle => ?_
 refine Z114 ?_
 rfl
theorem zlb {l : List CH} {cf : Nat} {caps : List Value} (hz : ∀ c ∈ l, TM c.1) (hl : l.length ≤ 9223372036854775807) (hfn : L.fn cf = some ()) {e : Int} (he : cE 32 l = e) {w : World} {B : Heap} (hB : B.Le (hp w))
  (hcl : ∀ (i : Nat) (c : CH), l[i]? = some c → ∀ (u : World) (H : Heap), H.Le (hp u) → B.Le H → Ret Tryz.prog cf ([.int .i64 i] ++ caps) u H (fun r _ => r = uv c.1)) :
  Ret Tryz.prog 119 [.int .i64 l.length, .func (.func cf) #[] caps.toArray] w B (fun v _ => v = .int .i64 e) := by
 subst he
 refine yi Tryz.func119 rfl Tryz.ntmps119 (Nat.le_of_ble_eq_true rfl) hB ?_
 by_cases h32 : 32 < l.length
 ·have : cE 32 l = 3 := if_pos h32
  rw [this]
  refine Z284 ?_; refine Z38 ?_; refine Z323 ?_
  refine yf L (rs := [.tmp 4]) rfl (fun _ _ h => h) Since.refl fun u H hH hle => ?_
  rfl
 ·refine Z284 ?_; refine Z32 ?_; refine Z165 ?_; refine Z202 ?_; refine Z274 ?_
  refine zai (fun i : Nat => [(1, .is (.func (.func cf) #[] caps.toArray)), (9, .is (.int .i64 l.length)), (10, .is (.int .i64 i))]) (fun i => i ≤ l.length ∧ ∀ (j : Nat) c, j < i → l[j]? = some c → tE c.1 = 0) (fun i => l.length - i) 0 ⟨Nat.zero_le _, fun j c h => absurd h (Nat.not_lt_zero _)⟩ ⟨rfl, rfl, rfl, trivial⟩ ?_
  rintro i ⟨hi, hok⟩
  by_cases hlt : i < l.length
  ·obtain ⟨c, hc⟩ := zae hlt
   have hzc := hz c (List.mem_of_getElem? hc)
   by_cases h0 : tE c.1 = 0
   ·refine Z389 ?_; refine Z176 ?_; refine Z142 ?_; refine Z280 ?_; refine z7 (zw L rfl rfl (zk rfl) rfl rfl hfn (fun u H hH hle _ => hcl i c hc u H hH hle)) rfl ?_; refine z7 (zw L rfl rfl (zk rfl) rfl rfl rfl (fun u H hH _ _ => h0 ▸ zls hzc hH)) rfl ?_; refine Z142 ?_; refine Z195 ?_; refine Z22 ?_; refine Z215 ?_; refine Z60 ?_; refine Z297 ?_
    exact yk (x := i) (i + 1) ⟨hlt, fun j c' hj hc' => by
     rcases Nat.lt_or_ge j i with h | h
     ·exact hok j c' h hc'
     ·have : j = i := by omega
      subst this; rw [hc] at hc'; cases hc'; exact h0⟩ (by omega) ⟨rfl, rfl, rfl, trivial⟩
   ·have h6 := (zm8 c.1).resolve_left h0
    rw [zx4 h32 hc h0]
    refine Z389 ?_; refine Z176 ?_; refine Z142 ?_; refine Z280 ?_; refine z7 (zw L rfl rfl (zk rfl) rfl rfl hfn (fun u H hH hle _ => hcl i c hc u H hH hle)) rfl ?_; refine z7 (zw L rfl rfl (zk rfl) rfl rfl rfl (fun u H hH _ _ => h6 ▸ zls hzc hH)) rfl ?_; refine Z142 ?_; refine Z195 ?_; refine Z205 ?_; refine Z216 ?_; refine Z136 ?_
    refine yf L (rs := [.tmp 4]) rfl (fun _ _ h => h) Since.refl fun u H hH hle => ?_
    rfl
  ·rw [zq9 h32 (fun j c hj => hok j c (by have := get_lt hj; omega) hj)]
   refine Z294 ?_; refine Z321 ?_; refine Z67 ?_; refine Z136 ?_
   refine yf L (rs := [.tmp 4]) rfl (fun _ _ h => h) Since.refl fun u H hH hle => ?_
   rfl
theorem znd {e : TypeId} {s n : Nat} {xs : List Value} {fu : Bool} {v : Value} {H : Heap} (h : SlV e s xs n fu v H) : ∃ p m c, v = .slice p m c := by
 rcases h.2 with ⟨_, _, h⟩ | ⟨b, off, cap, cs, ty0, fr, h, _⟩
 ·exact ⟨_, _, _, h⟩
 ·exact ⟨_, _, _, h⟩
theorem zf3 {l : List CH} {fu : Bool} (hz : ∀ c ∈ l, TM c.1) (hl : l.length ≤ 9223372036854775807) {e : Int} (he : cE 32 l = e) {v : Value} {w : World} {B : Heap} (hB : B.Le (hp w)) (hv : KS tyM l fu v B) :
  Ret Tryz.prog 78 [v] w B (fun r _ => r = .int .i64 e) := by
 obtain ⟨p, m, c, rfl⟩ := znd hv
 refine yi Tryz.func78 rfl Tryz.ntmps78 (Nat.le_of_ble_eq_true rfl) hB ?_
 refine Z155 ?_; refine Z142 ?_
 refine zmx 1 rfl fun q H1 hs1 ⟨b, hpb, hb1⟩ => ?_
 subst hpb
 refine Z19 ?_; refine Z63 ?_; refine zfg 3 (KS tyM l fu) rfl SlV.mono (hv.le hs1.le) ?_; refine Z10 ?_; refine z7 (zgm rfl rfl rfl rfl) rfl ?_; refine z7 (zw L rfl rfl (zk rfl) rfl rfl rfl (fun u H hH hle _ => zlb (caps := [.pointer (some ⟨b, 0, none⟩)]) hz hl rfl he hH (fun i c hc u' H' hH' hle' => z0b hc hH' (hle' _ _ (hle _ _ hb1)) ((hv.le hs1.le).le (Heap.Le.trans hle hle'))))) rfl ?_; refine Z136 ?_
 refine yf L (rs := [.tmp 2]) rfl (fun _ _ h => h) hs1 fun u H hH hle => ?_
 rfl
end Go.V.L8
set_option maxRecDepth 20000
namespace Go.V.L8
open Go.Proofs Go.RowKit Go.V Go.V.L2 Go.V.L3 Go.V.L6
theorem _root_.Go.V.Z399 {A B : Prop} (h : B) (t : Wr B → A := by intro h; refine Z154 ?_; refine Z4 ?_; exact h.h) : A := t ⟨h⟩
theorem zoh {s : List U} {l : List CH} (h0 : cE 32 l = 0) {i : Nat} {c : CH} (h : ∀ (j : Nat) x, j < i → l[j]? = some x → ze9 s x = true) (hc : l[i]? = some c) (hh : ze9 s c = false) : zey s l = (i, 13) := by
 unfold zey; rw [if_pos h0]; exact zsp h hc hh
theorem zlh {s : List U} {l : List CH} (h0 : cE 32 l = 0) (h : ∀ (j : Nat) x, l[j]? = some x → ze9 s x = true) : zey s l = (l.length, 0) := by
 unfold zey; rw [if_pos h0]; exact zsq fun x hx => let ⟨j, hj⟩ := List.getElem?_of_mem hx; h j x hj
attribute [local irreducible] V N X VO Par StepOK Has Ret RetL RetO RetT Src
theorem zmw {l : List CH} {fu : Bool} (hz : ∀ c ∈ l, TM c.1) (hl : l.length ≤ 9223372036854775807) {e : Int} (he : cE 32 l = e) {v : Value} {w : World} {B : Heap} (hB : B.Le (hp w)) (hv : KS tyC l fu v B) :
  Ret Tryz.prog 79 [v] w B (fun r _ => r = .int .i64 e) := by
 obtain ⟨p, m, c, rfl⟩ := znd hv
 refine yi Tryz.func79 rfl Tryz.ntmps79 (Nat.le_of_ble_eq_true rfl) hB ?_
 refine Z155 ?_; refine Z142 ?_
 refine zmx 1 rfl fun q H1 hs1 ⟨b, hpb, hb1⟩ => ?_
 subst hpb
 refine Z19 ?_; refine Z63 ?_; refine zfg 3 (KS tyC l fu) rfl SlV.mono (hv.le hs1.le) ?_; refine Z10 ?_; refine z7 (zgm rfl rfl rfl rfl) rfl ?_; refine z7 (zw L rfl rfl (zk rfl) rfl rfl rfl (fun u H hH hle _ => zlb (caps := [.pointer (some ⟨b, 0, none⟩)]) hz hl rfl he hH (fun i c hc u' H' hH' hle' => z0u hc hH' (hle' _ _ (hle _ _ hb1)) ((hv.le hs1.le).le (Heap.Le.trans hle hle'))))) rfl ?_; refine Z136 ?_
 refine yf L (rs := [.tmp 2]) rfl (fun _ _ h => h) hs1 fun u H hH hle => ?_
 rfl
theorem zoe {s : List U} {c : CH} {b : Bool} (hb : ze9 s c = b) {v : Value} {w : World} {B : Heap} (hB : B.Le (hp w)) (hv : SetV s v B) : Ret Tryz.prog 122 [v, chv c.1 c.2] w B (fun r _ => r = .bool b) := by
 subst hb
 obtain ⟨x, d⟩ := c
 obtain ⟨f1, p1, f2, q1, rfl, hpl⟩ := hv.shape
 obtain ⟨h, hh⟩ : ∃ h, decide (x ∈ s) = h := ⟨_, rfl⟩
 unfold ze9
 dsimp only
 rw [hh]
 refine yi Tryz.func122 rfl Tryz.ntmps122 (Nat.le_of_ble_eq_true rfl) hB ?_
 refine Z210 ?_; refine Z369 ?_; refine z8 (qb L (vs := [_, _, _, _]) (qn rfl) rfl rfl rfl rfl ⟨_, rfl⟩) rfl ?_; refine Z47 ?_; refine z8 (qb L (vs := [_, _, _, _, _, _]) (qn rfl) rfl rfl rfl rfl ⟨_, rfl⟩) rfl ?_; refine z8 (zw L rfl rfl (zk rfl) rfl rfl rfl (fun u H hH hle _ => zcq hh hH (hv.le hle))) rfl ?_; refine Z364 ?_; refine Z175 ?_
 refine yf L (rs := [.tmp 4]) rfl (fun _ _ h => h) Since.refl fun u H hH hle => ?_
 cases h <;> cases d <;> rfl
set_option maxHeartbeats 1000000 in
theorem first_ret {s : List U} {l : List CH} {fu : Bool} (hz : ∀ c ∈ l, TM c.1) (hl : l.length ≤ 9223372036854775807) {r : Nat} {e : Int} (hr : zey s l = (r, e)) {sv v : Value} {w : World} {B : Heap} (hB : B.Le (hp w)) (hs : SetV s sv B) (hv : KS tyM l fu v B) :
  Ret Tryz.prog 80 [sv, v] w B (fun x _ => x = .tuple #[.int .i64 r, .int .i64 e]) := by
 obtain ⟨f1, p1, f2, q1, rfl, hpl⟩ := hs.shape
 refine yi Tryz.func80 rfl Tryz.ntmps80 (Nat.le_of_ble_eq_true rfl) hB ?_
 refine zaq 1 (KS tyM l fu) rfl SlV.mono hv ?_
 by_cases h0 : cE 32 l = 0
 ·refine Z328 ?_; refine Z399 ?_; refine z7 (zw L rfl rfl (zk rfl) rfl rfl rfl (fun u H hH _ _ v1 h1 => zf3 hz hl h0 hH h1)) rfl ?_; refine Z239 ?_; refine Z230 ?_; refine Z27 ?_; refine Z368 ?_
  refine zai (fun i : Nat => [(1, .sat (KS tyM l fu)), (2, .sat (At [f1, .pointer p1, f2, .pointer q1] zil 0)), (14, .sat (KS tyM l fu)), (15, .is (.int .i64 l.length)), (16, .is (.int .i64 i))]) (fun i => i ≤ l.length ∧ ∀ (j : Nat) x, j < i → l[j]? = some x → ze9 s x = true) (fun i => l.length - i) 0 ⟨Nat.zero_le _, fun j c h => absurd h (Nat.not_lt_zero _)⟩ ⟨rfl, rfl, rfl, rfl, rfl, trivial⟩ ?_
  rintro i ⟨hi, hok⟩
  by_cases hlt : i < l.length
  ·obtain ⟨c, hc0⟩ := zae hlt
   have hc := zf9 hc0
   cases hh : ze9 s c
   ·rw [zoh h0 hok hc0 hh] at hr
    cases hr
    refine Z365 ?_; refine Z220 ?_; refine Z187 ?_; refine z7 (qs L _ rfl rfl rfl rfl rfl rfl rfl (by first | omega | decide) (by assumption)) rfl ?_; refine z7 (yd L (vs := [_, _, _, _, _, _, _]) rfl rfl rfl rfl rfl ⟨_, rfl⟩) rfl ?_; refine Z278 ?_; refine Z16 ?_; refine Z157 ?_; refine Z40 ?_; refine z7 (qb L (vs := [_, _, _, _]) (qn rfl) rfl rfl rfl rfl ⟨_, rfl⟩) rfl ?_; refine z7 (qb L (vs := [_, _, _, _, _, _, _]) (yl rfl) rfl rfl rfl rfl ⟨_, rfl⟩) rfl ?_; refine z7 (zw L rfl rfl (zk rfl) rfl rfl rfl (fun u H hH hle _ => zoe hh hH (hs.le hle))) rfl ?_; refine Z49 ?_; refine Z152 ?_; refine Z216 ?_; refine Z182 ?_
    refine yf L (rs := [.tmp 4, .tmp 5]) rfl (fun _ _ h => h) Since.refl fun u H hH hle => ?_
    rfl
   ·refine Z365 ?_; refine Z220 ?_; refine Z187 ?_; refine z7 (qs L _ rfl rfl rfl rfl rfl rfl rfl (by first | omega | decide) (by assumption)) rfl ?_; refine z7 (yd L (vs := [_, _, _, _, _, _, _]) rfl rfl rfl rfl rfl ⟨_, rfl⟩) rfl ?_; refine Z278 ?_; refine Z16 ?_; refine Z157 ?_; refine Z40 ?_; refine z7 (qb L (vs := [_, _, _, _]) (qn rfl) rfl rfl rfl rfl ⟨_, rfl⟩) rfl ?_; refine z7 (qb L (vs := [_, _, _, _, _, _, _]) (yl rfl) rfl rfl rfl rfl ⟨_, rfl⟩) rfl ?_; refine z7 (zw L rfl rfl (zk rfl) rfl rfl rfl (fun u H hH hle _ => zoe hh hH (hs.le hle))) rfl ?_; refine Z49 ?_; refine Z215 ?_; refine Z60 ?_; refine Z297 ?_
    exact yk (x := i) (i + 1) ⟨hlt, fun j c' hj hc' => by
     rcases Nat.lt_or_ge j i with h | h
     ·exact hok j c' h hc'
     ·have : j = i := by omega
      subst this; rw [hc0] at hc'; cases hc'; exact hh⟩ (by omega) ⟨rfl, rfl, rfl, rfl, rfl, trivial⟩
  ·rw [zlh h0 (fun j x hj => hok j x (by have := get_lt hj; omega) hj)] at hr
   cases hr
   refine Z365 ?_; refine Z321 ?_; refine Z67 ?_; refine Z148 ?_; refine Z182 ?_
   refine yf L (rs := [.tmp 4, .tmp 5]) rfl (fun _ _ h => h) Since.refl fun u H hH hle => ?_
   rfl
 ·have : zey s l = (0, cE 32 l) := if_neg h0
  rw [this] at hr
  cases hr
  refine Z328 ?_; refine Z399 ?_; refine z7 (zw L rfl rfl (zk rfl) rfl rfl rfl (fun u H hH _ _ v1 h1 => zf3 hz hl rfl hH h1)) rfl ?_; refine Z239 ?_; refine Z205 ?_; refine Z173 ?_; refine Z182 ?_
  refine yf L (rs := [.tmp 4, .tmp 5]) rfl (fun _ _ h => h) Since.refl fun u H hH hle => ?_
  rfl
end Go.V.L8
set_option maxRecDepth 20000
namespace Go.V.L8
open Go.Proofs Go.RowKit Go.V Go.V.L2 Go.V.L3 Go.V.L6
attribute [local irreducible] V N X VO Par StepOK Has Ret RetL RetO RetT Src
end Go.V.L8
set_option maxRecDepth 20000
namespace Go.V.L8
open Go.Proofs Go.RowKit Go.V Go.V.L2 Go.V.L3 Go.V.L6
theorem _root_.Go.V.Z97 {A B : Prop} (h : B) (t : Wr B → A := by intro h; refine zf (id := 20) ?_; exact h.h) : A := t ⟨h⟩
theorem _root_.Go.V.Z106 {A B : Prop} (h : B) (t : Wr B → A := by intro h; refine qo (zbr L rfl rfl rfl (zgv rfl) rfl zss rfl rfl (by omega) (by omega)) ?_; exact h.h) : A := t ⟨h⟩
theorem _root_.Go.V.Z119 {A B : Prop} (h : B) (t : Wr B → A := by intro h; refine zf (id := 19) ?_; exact h.h) : A := t ⟨h⟩
theorem _root_.Go.V.Z134 {A B : Prop} (h : B) (t : Wr B → A := by intro h; refine z8 (z0a rfl rfl rfl rfl bt4 rfl) rfl ?_; exact h.h) : A := t ⟨h⟩
theorem _root_.Go.V.Z270 {A B : Prop} (h : B) (t : Wr B → A := by intro h; refine Z24 ?_; refine Z55 ?_; exact h.h) : A := t ⟨h⟩
theorem _root_.Go.V.Z279 {A B : Prop} (h : B) (t : Wr B → A := by intro h; refine Z171 ?_; refine Z270 ?_; exact h.h) : A := t ⟨h⟩
theorem _root_.Go.V.Z293 {A B : Prop} (h : B) (t : Wr B → A := by intro h; refine Z103 ?_; refine Z1 ?_; exact h.h) : A := t ⟨h⟩
theorem _root_.Go.V.Z329 {A B : Prop} (h : B) (t : Wr B → A := by intro h; refine Z279 ?_; refine Z145 ?_; exact h.h) : A := t ⟨h⟩
theorem _root_.Go.V.Z400 {A B : Prop} (h : B) (t : Wr B → A := by intro h; refine Z199 ?_; refine Z157 ?_; exact h.h) : A := t ⟨h⟩
theorem zvz {n : Nat} {l : List CH} (h : cE n l = 0) : l.length ≤ n ∧ ∀ c ∈ l, tE c.1 = 0 := by
 unfold cE at h
 split at h
 ·exact absurd h (by decide)
 ·split at h
  ·exact absurd h (by decide)
  ·rename_i h1 h2
   refine ⟨by omega, fun c hc => ?_⟩
   by_cases h0 : tE c.1 = 0
   ·exact h0
   ·exact absurd (List.any_eq_true.2 ⟨c, hc, by simp [h0]⟩) h2
theorem zky {s : ByteArray} (h : chk s = 0) : s.size ≤ 1099511627776 := by
 unfold chk at h
 split at h
 ·rename_i h1; omega
 ·exact absurd h (by decide)
theorem zlr {t : U} (h : tE t = 0) : TZ t := by
 unfold tE at h
 split at h
 ·rename_i h1
  obtain ⟨c1, c2, c3⟩ := zx9 h1
  obtain ⟨d1, d2, d3⟩ := zrq h
  refine ⟨⟨zky c1, zky c2, zky c3⟩, zky d1, zky d2, ?_⟩
  rcases d3 with d3 | d3
  ·rw [d3]; exact Nat.zero_le _
  ·exact zky d3
 ·rename_i h1; exact absurd h h1
def WriteP (t : List U) (made : List CH) (e : Int) (r : Value) (H : Heap) : Prop := ∃ tv mv, r = .tuple #[tv, mv, .int .i64 e] ∧ SetV t tv H ∧ KS tyC made true mv H
theorem WriteP.mono {t : List U} {made : List CH} {e : Int} : Kn.mono (.sat (WriteP t made e)) := fun _ _ _ ⟨tv, mv, h1, h2, h3⟩ hle => ⟨tv, mv, h1, h2.le hle, h3.le hle⟩
attribute [local irreducible] V N X VO Par StepOK Has Ret RetL RetO RetT Src
theorem zvt {l : List CH} {fu : Bool} {v : Value} {w : World} {B : Heap} (hB : B.Le (hp w)) (hv : KS tyC l fu v B) : Ret Tryz.prog 81 [v] w B (KS tyC l true) := by
 refine yi Tryz.func81 rfl Tryz.ntmps81 (Nat.le_of_ble_eq_true rfl) hB ?_
 refine zaq 0 (KS tyC l fu) rfl SlV.mono hv ?_
 refine Z184 ?_; refine Z4 ?_; refine Z148 ?_; refine Z148 ?_; refine Z120 ?_; refine Z260 ?_
 refine yf L (rs := [.tmp 2]) rfl (fun _ _ h => h) Since.refl fun u H hH hle => ?_
 exact fun v hv => hv
set_option maxHeartbeats 4000000 in
set_option maxRecDepth 10000 in
theorem zs5 {s t : List U} {l cs made : List CH} {fl fc : Bool} {e : Int} (zl : ∀ c ∈ l, TM c.1) (zc : ∀ c ∈ cs, TM c.1) (ll : l.length ≤ 9223372036854775807) (lc : cs.length ≤ 9223372036854775807) (hsl : s.length ≤ 4096) (hr : zee s l cs = (t, made, e)) {sv lv cv : Value} {w : World} {B : Heap} (hB : B.Le (hp w))
  (hs : SetV s sv B) (hl : KS tyM l fl lv B) (hc : KS tyC cs fc cv B) : Ret Tryz.prog 49 [sv, lv, cv] w B (WriteP t made e) := by
 obtain ⟨f1, p1, f2, q1, rfl, hpl⟩ := hs.shape
 refine yi Tryz.func49 rfl Tryz.ntmps49 (Nat.le_of_ble_eq_true rfl) hB ?_
 refine zaq 1 (KS tyM l fl) rfl SlV.mono hl ?_
 refine zaq 2 (KS tyC cs fc) rfl SlV.mono hc ?_
 unfold zee at hr
 by_cases h1 : cE 32 l = 0
 ·rw [if_pos h1] at hr
  by_cases h2 : cE 32 cs = 0
  ·rw [if_pos h2] at hr
   obtain ⟨r, e1, hf⟩ : ∃ r e1, zey s l = (r, e1) := ⟨_, _, rfl⟩
   rw [hf] at hr
   dsimp only at hr
   by_cases h3 : e1 = 0
   ·subst h3
    rw [if_pos rfl] at hr
    obtain ⟨l32, hval⟩ := zvz h2
    refine Z319 ?_; refine Z278 ?_; refine Z399 ?_; refine z7 (zw L rfl rfl (zk rfl) rfl rfl rfl (fun u H hH _ _ v1 g1 => zf3 zl ll h1 hH g1)) rfl ?_; refine Z239 ?_; refine Z230 ?_; refine Z27 ?_; refine Z4 ?_; refine z7 (zw L rfl rfl (zk rfl) rfl rfl rfl (fun u H hH _ _ v1 g1 => zmw zc lc h2 hH g1)) rfl ?_; refine Z392 ?_; refine Z230 ?_; refine Z40 ?_; refine z7 (qb L (vs := [_, _, _, _]) (yl rfl) rfl rfl rfl rfl ⟨_, rfl⟩) rfl ?_; refine Z4 ?_; refine z7 (zw L rfl rfl (zk rfl) rfl rfl rfl (fun u H hH hle _ v1 g1 => first_ret zl ll hf hH (hs.le hle) g1)) rfl ?_; refine Z242 ?_; refine Z216 ?_; refine Z230 ?_; refine Z67 ?_; refine Z368 ?_
    refine zzf (X := SXp) 3 (r := fun x => Cell (scs x.1) zil) (φ := zrr s) (zcc s) ⟨(f1, p1, f2, q1), hpl⟩ hs rfl ?_
    refine zdp 7 tyC 7 rfl ?_
    refine zai (fun y : Nat × List U × List CH => [(3, .own (ExR (fun x : SXp => Cell (scs x.1) zil) (zrr y.2.1) (zcc y.2.1))), (6, .own (Cell [.nilFunc, .pointer none, .nilFunc, .pointer none] zil)), (7, .own (SlR tyC 7 y.2.2.length (y.2.2.flatMap ccs))), (40, .sat (KS tyC cs fc)), (41, .is (.int .i64 cs.length)), (42, .is (.int .i64 y.1))])
     (fun y => y.1 ≤ cs.length ∧ zfe y.2.1 y.2.2 (cs.drop y.1) = (t, made, e) ∧ y.2.1.length ≤ 4096 ∧ y.2.2.length ≤ y.1) (fun y => cs.length - y.1) (0, s, []) ⟨Nat.zero_le _, hr, hsl, Nat.le_refl _⟩ ⟨rfl, rfl, rfl, rfl, rfl, rfl, trivial⟩ ?_
    clear hr hs hsl
    rintro ⟨k, s, md⟩ ⟨hk, he, hsl, hmd⟩
    dsimp only at hk he hsl hmd ⊢
    refine ze0 3 rfl fun ⟨⟨f1, p1, f2, q1⟩, hpl⟩ H3 hs3 hT => ?_
    have hT : SetV s (.agg #[f1, .pointer p1, f2, .pointer q1]) H3 := hT
    by_cases hlt : k < cs.length
    ·obtain ⟨c, hc0⟩ := zae hlt
     have hc := zf9 hc0
     have hv := hval c (List.mem_of_getElem? hc0)
     have hzt := zlr hv
     rw [zez hc0, zfe] at he
     obtain ⟨x, d⟩ := c
     dsimp only at hc hv hzt he
     rcases hw : zb2 s x d with ⟨s', e'⟩
     rw [hw] at he
     dsimp only at he
     have hsl' := zjb hsl x d
     rw [hw] at hsl'
     obtain ⟨i, hin⟩ : ∃ i, decide (x ∈ s) = i := ⟨_, rfl⟩
     rw [hin] at he
     by_cases h0 : e' = 0
     ·rw [if_pos h0] at he
      subst h0
      cases i <;> cases d
      ·rw [if_pos rfl] at he
       refine zh ?_; refine Z65 ?_; refine Z220 ?_; refine Z80 ?_; refine z7 (qs L _ rfl rfl rfl rfl rfl rfl rfl (by first | omega | decide) (by assumption)) rfl ?_; refine z7 (yd L (vs := [_, _, _, _, _, _, _]) rfl rfl rfl rfl rfl ⟨_, rfl⟩) rfl ?_; refine Z400 ?_
       refine zis 14 rfl fun b14 hb14 => ?_
       refine Z121 ?_; refine z8 (qb L (vs := [_, _, _, _]) (yl rfl) rfl rfl rfl rfl ⟨_, rfl⟩) rfl ?_; refine Z30 ?_; refine z8 (qb L (vs := [_, _, _, _, _, _]) (zaw rfl (List.Mem.head _)) rfl rfl rfl rfl ⟨_, rfl⟩) rfl ?_; refine z8 (zw L rfl rfl (zk rfl) rfl rfl rfl (fun u H hH hle _ => zcq hin hH (hT.le hle))) rfl ?_; refine Z30 ?_; refine z8 (qk L (zaw rfl (List.Mem.head _)) rfl rfl rfl rfl) rfl ?_; refine Z134 ?_; refine Z238 ?_; refine Z74 ?_; refine z7 (qb L (vs := [_, _, _, _]) (yl rfl) rfl rfl rfl rfl ⟨_, rfl⟩) rfl ?_; refine z7 (qb L (vs := [_, _, _, _, _, _, _]) (zaw rfl (List.Mem.head _)) rfl rfl rfl rfl ⟨_, rfl⟩) rfl ?_; refine z7 (yt (φ := WithP s' 0) L rfl rfl (zk rfl) rfl rfl rfl WithP.mono (fun u H hH hle _ => zi9 hw hsl hzt hH (hT.le hle))) rfl ?_; refine zbk 56 rfl ?_; rintro _ H19 hs19 ⟨tv, rfl, hT19⟩; obtain ⟨g1, r1, g2, r2, rfl, hpl2⟩ := hT19.shape; refine Z329 ?_; refine Z95 ?_; refine Z1 ?_; refine Z228 ?_; refine Z108 ?_; refine z7 (qb L (vs := [_, _, _, _]) (yl rfl) rfl rfl rfl rfl ⟨_, rfl⟩) rfl ?_; refine Z55 ?_; refine Z157 ?_; refine Z293 ?_; refine Z141 ?_; refine Z119 ?_; refine qo (yn (.inl rfl) rfl rfl rfl rfl) ?_; refine z7 (qb L (vs := [_, _, _, _, _, _, _]) (zaw rfl (List.Mem.head _)) rfl rfl rfl rfl ⟨_, rfl⟩) rfl ?_; refine Z34 ?_; refine Z106 ?_; refine qo (yn (.inr rfl) rfl rfl rfl rfl) ?_; refine Z233 ?_
       refine zrj (O' := []) (List.nil_sublist _) ?_
       refine Z97 ?_; refine Z297 ?_
       refine zox (X := SXp) 3 (r := fun x => Cell (scs x.1) zil) (φ := zrr s') (zcc _) ⟨(g1, r1, g2, r2), hpl2⟩ hT19 rfl ?_
       exact zhn (x := (k, s, md)) (k + 1, s', md ++ [(x, false)]) (hs3.trans hs19) ⟨hlt, he, hsl', by dsimp only; rw [List.length_append]; show md.length + 1 ≤ k + 1; omega⟩ (by dsimp only; omega) ⟨rfl, rfl, ze6 rfl, rfl, rfl, rfl, trivial⟩
      ·rw [if_neg (by decide)] at he
       refine zh ?_; refine Z65 ?_; refine Z220 ?_; refine Z80 ?_; refine z7 (qs L _ rfl rfl rfl rfl rfl rfl rfl (by first | omega | decide) (by assumption)) rfl ?_; refine z7 (yd L (vs := [_, _, _, _, _, _, _]) rfl rfl rfl rfl rfl ⟨_, rfl⟩) rfl ?_; refine Z400 ?_
       refine zis 14 rfl fun b14 hb14 => ?_
       refine Z121 ?_; refine z8 (qb L (vs := [_, _, _, _]) (yl rfl) rfl rfl rfl rfl ⟨_, rfl⟩) rfl ?_; refine Z30 ?_; refine z8 (qb L (vs := [_, _, _, _, _, _]) (zaw rfl (List.Mem.head _)) rfl rfl rfl rfl ⟨_, rfl⟩) rfl ?_; refine z8 (zw L rfl rfl (zk rfl) rfl rfl rfl (fun u H hH hle _ => zcq hin hH (hT.le hle))) rfl ?_; refine Z30 ?_; refine z8 (qk L (zaw rfl (List.Mem.head _)) rfl rfl rfl rfl) rfl ?_; refine Z134 ?_; refine Z238 ?_; refine Z74 ?_; refine z7 (qb L (vs := [_, _, _, _]) (yl rfl) rfl rfl rfl rfl ⟨_, rfl⟩) rfl ?_; refine z7 (qb L (vs := [_, _, _, _, _, _, _]) (zaw rfl (List.Mem.head _)) rfl rfl rfl rfl ⟨_, rfl⟩) rfl ?_; refine z7 (yt (φ := WithP s' 0) L rfl rfl (zk rfl) rfl rfl rfl WithP.mono (fun u H hH hle _ => zi9 hw hsl hzt hH (hT.le hle))) rfl ?_; refine zbk 56 rfl ?_; rintro _ H19 hs19 ⟨tv, rfl, hT19⟩; obtain ⟨g1, r1, g2, r2, rfl, hpl2⟩ := hT19.shape; refine Z329 ?_; refine Z95 ?_; refine Z1 ?_; refine Z228 ?_; refine Z108 ?_; refine z7 (qb L (vs := [_, _, _, _]) (yl rfl) rfl rfl rfl rfl ⟨_, rfl⟩) rfl ?_; refine Z55 ?_; refine Z157 ?_; refine Z293 ?_; refine Z215 ?_
       refine zrj (O' := []) (List.nil_sublist _) ?_
       refine Z97 ?_; refine Z297 ?_
       refine zox (X := SXp) 3 (r := fun x => Cell (scs x.1) zil) (φ := zrr s') (zcc _) ⟨(g1, r1, g2, r2), hpl2⟩ hT19 rfl ?_
       exact zhn (x := (k, s, md)) (k + 1, s', md) (hs3.trans hs19) ⟨hlt, he, hsl', by dsimp only; omega⟩ (by dsimp only; omega) ⟨rfl, rfl, rfl, rfl, rfl, rfl, trivial⟩
      ·rw [if_neg (by decide)] at he
       refine zh ?_; refine Z65 ?_; refine Z220 ?_; refine Z80 ?_; refine z7 (qs L _ rfl rfl rfl rfl rfl rfl rfl (by first | omega | decide) (by assumption)) rfl ?_; refine z7 (yd L (vs := [_, _, _, _, _, _, _]) rfl rfl rfl rfl rfl ⟨_, rfl⟩) rfl ?_; refine Z400 ?_
       refine zis 14 rfl fun b14 hb14 => ?_
       refine Z121 ?_; refine z8 (qb L (vs := [_, _, _, _]) (yl rfl) rfl rfl rfl rfl ⟨_, rfl⟩) rfl ?_; refine Z30 ?_; refine z8 (qb L (vs := [_, _, _, _, _, _]) (zaw rfl (List.Mem.head _)) rfl rfl rfl rfl ⟨_, rfl⟩) rfl ?_; refine z8 (zw L rfl rfl (zk rfl) rfl rfl rfl (fun u H hH hle _ => zcq hin hH (hT.le hle))) rfl ?_; refine Z30 ?_; refine z8 (qk L (zaw rfl (List.Mem.head _)) rfl rfl rfl rfl) rfl ?_; refine Z134 ?_; refine Z238 ?_; refine Z74 ?_; refine z7 (qb L (vs := [_, _, _, _]) (yl rfl) rfl rfl rfl rfl ⟨_, rfl⟩) rfl ?_; refine z7 (qb L (vs := [_, _, _, _, _, _, _]) (zaw rfl (List.Mem.head _)) rfl rfl rfl rfl ⟨_, rfl⟩) rfl ?_; refine z7 (yt (φ := WithP s' 0) L rfl rfl (zk rfl) rfl rfl rfl WithP.mono (fun u H hH hle _ => zi9 hw hsl hzt hH (hT.le hle))) rfl ?_; refine zbk 56 rfl ?_; rintro _ H19 hs19 ⟨tv, rfl, hT19⟩; obtain ⟨g1, r1, g2, r2, rfl, hpl2⟩ := hT19.shape; refine Z329 ?_; refine Z95 ?_; refine Z1 ?_; refine Z228 ?_; refine Z108 ?_; refine z7 (qb L (vs := [_, _, _, _]) (yl rfl) rfl rfl rfl rfl ⟨_, rfl⟩) rfl ?_; refine Z55 ?_; refine Z157 ?_; refine Z293 ?_; refine Z215 ?_
       refine zrj (O' := []) (List.nil_sublist _) ?_
       refine Z97 ?_; refine Z297 ?_
       refine zox (X := SXp) 3 (r := fun x => Cell (scs x.1) zil) (φ := zrr s') (zcc _) ⟨(g1, r1, g2, r2), hpl2⟩ hT19 rfl ?_
       exact zhn (x := (k, s, md)) (k + 1, s', md) (hs3.trans hs19) ⟨hlt, he, hsl', by dsimp only; omega⟩ (by dsimp only; omega) ⟨rfl, rfl, rfl, rfl, rfl, rfl, trivial⟩
      ·rw [if_pos rfl] at he
       refine zh ?_; refine Z65 ?_; refine Z220 ?_; refine Z80 ?_; refine z7 (qs L _ rfl rfl rfl rfl rfl rfl rfl (by first | omega | decide) (by assumption)) rfl ?_; refine z7 (yd L (vs := [_, _, _, _, _, _, _]) rfl rfl rfl rfl rfl ⟨_, rfl⟩) rfl ?_; refine Z400 ?_
       refine zis 14 rfl fun b14 hb14 => ?_
       refine Z121 ?_; refine z8 (qb L (vs := [_, _, _, _]) (yl rfl) rfl rfl rfl rfl ⟨_, rfl⟩) rfl ?_; refine Z30 ?_; refine z8 (qb L (vs := [_, _, _, _, _, _]) (zaw rfl (List.Mem.head _)) rfl rfl rfl rfl ⟨_, rfl⟩) rfl ?_; refine z8 (zw L rfl rfl (zk rfl) rfl rfl rfl (fun u H hH hle _ => zcq hin hH (hT.le hle))) rfl ?_; refine Z30 ?_; refine z8 (qk L (zaw rfl (List.Mem.head _)) rfl rfl rfl rfl) rfl ?_; refine Z134 ?_; refine Z238 ?_; refine Z74 ?_; refine z7 (qb L (vs := [_, _, _, _]) (yl rfl) rfl rfl rfl rfl ⟨_, rfl⟩) rfl ?_; refine z7 (qb L (vs := [_, _, _, _, _, _, _]) (zaw rfl (List.Mem.head _)) rfl rfl rfl rfl ⟨_, rfl⟩) rfl ?_; refine z7 (yt (φ := WithP s' 0) L rfl rfl (zk rfl) rfl rfl rfl WithP.mono (fun u H hH hle _ => zi9 hw hsl hzt hH (hT.le hle))) rfl ?_; refine zbk 56 rfl ?_; rintro _ H19 hs19 ⟨tv, rfl, hT19⟩; obtain ⟨g1, r1, g2, r2, rfl, hpl2⟩ := hT19.shape; refine Z329 ?_; refine Z95 ?_; refine Z1 ?_; refine Z228 ?_; refine Z108 ?_; refine z7 (qb L (vs := [_, _, _, _]) (yl rfl) rfl rfl rfl rfl ⟨_, rfl⟩) rfl ?_; refine Z55 ?_; refine Z157 ?_; refine Z293 ?_; refine Z141 ?_; refine Z119 ?_; refine qo (yn (.inl rfl) rfl rfl rfl rfl) ?_; refine z7 (qb L (vs := [_, _, _, _, _, _, _]) (zaw rfl (List.Mem.head _)) rfl rfl rfl rfl ⟨_, rfl⟩) rfl ?_; refine Z34 ?_; refine Z106 ?_; refine qo (yn (.inr rfl) rfl rfl rfl rfl) ?_; refine Z233 ?_
       refine zrj (O' := []) (List.nil_sublist _) ?_
       refine Z97 ?_; refine Z297 ?_
       refine zox (X := SXp) 3 (r := fun x => Cell (scs x.1) zil) (φ := zrr s') (zcc _) ⟨(g1, r1, g2, r2), hpl2⟩ hT19 rfl ?_
       exact zhn (x := (k, s, md)) (k + 1, s', md ++ [(x, true)]) (hs3.trans hs19) ⟨hlt, he, hsl', by dsimp only; rw [List.length_append]; show md.length + 1 ≤ k + 1; omega⟩ (by dsimp only; omega) ⟨rfl, rfl, ze6 rfl, rfl, rfl, rfl, trivial⟩
     ·rw [if_neg h0] at he
      cases he
      refine zh ?_; refine Z65 ?_; refine Z220 ?_; refine Z80 ?_; refine z7 (qs L _ rfl rfl rfl rfl rfl rfl rfl (by first | omega | decide) (by assumption)) rfl ?_; refine z7 (yd L (vs := [_, _, _, _, _, _, _]) rfl rfl rfl rfl rfl ⟨_, rfl⟩) rfl ?_; refine Z400 ?_
      refine zis 14 rfl fun b14 hb14 => ?_
      refine Z121 ?_; refine z8 (qb L (vs := [_, _, _, _]) (yl rfl) rfl rfl rfl rfl ⟨_, rfl⟩) rfl ?_; refine Z30 ?_; refine z8 (qb L (vs := [_, _, _, _, _, _]) (zaw rfl (List.Mem.head _)) rfl rfl rfl rfl ⟨_, rfl⟩) rfl ?_; refine z8 (zw L rfl rfl (zk rfl) rfl rfl rfl (fun u H hH hle _ => zcq hin hH (hT.le hle))) rfl ?_; refine Z30 ?_; refine z8 (qk L (zaw rfl (List.Mem.head _)) rfl rfl rfl rfl) rfl ?_; refine Z134 ?_; refine Z238 ?_; refine Z74 ?_; refine z7 (qb L (vs := [_, _, _, _]) (yl rfl) rfl rfl rfl rfl ⟨_, rfl⟩) rfl ?_; refine z7 (qb L (vs := [_, _, _, _, _, _, _]) (zaw rfl (List.Mem.head _)) rfl rfl rfl rfl ⟨_, rfl⟩) rfl ?_; refine z7 (yt (φ := WithP s' e) L rfl rfl (zk rfl) rfl rfl rfl WithP.mono (fun u H hH hle _ => zi9 hw hsl hzt hH (hT.le hle))) rfl ?_; refine zbk 56 rfl ?_; rintro _ H19 hs19 ⟨tv, rfl, hT19⟩; obtain ⟨g1, r1, g2, r2, rfl, hpl2⟩ := hT19.shape; refine Z329 ?_; refine Z95 ?_; refine Z1 ?_; refine Z205 ?_; refine Z102 ?_; refine z7 (yu (cs := [_, _, _, _]) rfl rfl zrz rfl rfl) rfl ?_; refine Z1 ?_; refine Z16 ?_; refine Z182 ?_
      refine yf L (rs := [.cell 6 45, .tmp 7, .tmp 8]) rfl (fun _ _ h => h) (hs3.trans hs19) fun u H hH hle => ?_
      exact ⟨_, yl rfl, rfl, _, _, rfl, SetV.nil, SlV.nil⟩
    ·obtain rfl : k = cs.length := by omega
     rw [List.drop_length, zfe] at he
     cases he
     refine zh ?_; refine Z65 ?_; refine Z321 ?_
     refine zb1 7 rfl ?_
     refine qg (id := 21) [] mixed (by kernel_rfl) ?_; refine z8 (qb L (vs := [_, _, _, _]) (yl rfl) rfl rfl rfl rfl ⟨_, rfl⟩) rfl ?_; refine Z31 ?_; refine z8 (yt (φ := KS tyC made true) L rfl rfl (zk rfl) rfl rfl rfl SlV.mono (fun u H hH _ _ v1 g1 => zvt hH g1)) rfl ?_; refine z8 (ya L rfl rfl rfl rfl rfl rfl (by assumption) rfl) rfl ?_; refine Z90 ?_; refine Z175 ?_
     refine yf L (rs := [.cell 6 45, .tmp 7, .tmp 8]) rfl (fun _ _ h => h) hs3 fun u H hH hle => ?_
     exact ⟨_, yl rfl, rfl, fun mv hmv => ⟨_, mv, rfl, hT.le hle, hmv⟩⟩
   ·rw [if_neg h3] at hr
    cases hr
    refine Z319 ?_; refine Z278 ?_; refine Z399 ?_; refine z7 (zw L rfl rfl (zk rfl) rfl rfl rfl (fun u H hH _ _ v1 g1 => zf3 zl ll h1 hH g1)) rfl ?_; refine Z239 ?_; refine Z230 ?_; refine Z27 ?_; refine Z4 ?_; refine z7 (zw L rfl rfl (zk rfl) rfl rfl rfl (fun u H hH _ _ v1 g1 => zmw zc lc h2 hH g1)) rfl ?_; refine Z392 ?_; refine Z230 ?_; refine Z40 ?_; refine z7 (qb L (vs := [_, _, _, _]) (yl rfl) rfl rfl rfl rfl ⟨_, rfl⟩) rfl ?_; refine Z4 ?_; refine z7 (zw L rfl rfl (zk rfl) rfl rfl rfl (fun u H hH hle _ v1 g1 => first_ret zl ll hf hH (hs.le hle) g1)) rfl ?_; refine Z242 ?_; refine Z216 ?_; refine Z205 ?_; refine Z60 ?_; refine z7 (yu (cs := [_, _, _, _]) rfl rfl zrz rfl rfl) rfl ?_; refine Z1 ?_; refine Z16 ?_; refine Z182 ?_
    refine yf L (rs := [.cell 6 45, .tmp 7, .tmp 8]) rfl (fun _ _ h => h) Since.refl fun u H hH hle => ?_
    exact ⟨_, yl rfl, rfl, _, _, rfl, SetV.nil, SlV.nil⟩
  ·rw [if_neg h2] at hr
   cases hr
   refine Z319 ?_; refine Z278 ?_; refine Z399 ?_; refine z7 (zw L rfl rfl (zk rfl) rfl rfl rfl (fun u H hH _ _ v1 g1 => zf3 zl ll h1 hH g1)) rfl ?_; refine Z239 ?_; refine Z230 ?_; refine Z27 ?_; refine Z4 ?_; refine z7 (zw L rfl rfl (zk rfl) rfl rfl rfl (fun u H hH _ _ v1 g1 => zmw zc lc rfl hH g1)) rfl ?_; refine Z392 ?_; refine Z205 ?_; refine Z43 ?_; refine z7 (yu (cs := [_, _, _, _]) rfl rfl zrz rfl rfl) rfl ?_; refine Z1 ?_; refine Z16 ?_; refine Z182 ?_
   refine yf L (rs := [.cell 6 45, .tmp 7, .tmp 8]) rfl (fun _ _ h => h) Since.refl fun u H hH hle => ?_
   exact ⟨_, yl rfl, rfl, _, _, rfl, SetV.nil, SlV.nil⟩
 ·rw [if_neg h1] at hr
  cases hr
  refine Z319 ?_; refine Z278 ?_; refine Z399 ?_; refine z7 (zw L rfl rfl (zk rfl) rfl rfl rfl (fun u H hH _ _ v1 g1 => zf3 zl ll rfl hH g1)) rfl ?_; refine Z239 ?_; refine Z205 ?_; refine Z28 ?_; refine z7 (yu (cs := [_, _, _, _]) rfl rfl zrz rfl rfl) rfl ?_; refine Z1 ?_; refine Z16 ?_; refine Z182 ?_
  refine yf L (rs := [.cell 6 45, .tmp 7, .tmp 8]) rfl (fun _ _ h => h) Since.refl fun u H hH hle => ?_
  exact ⟨_, yl rfl, rfl, _, _, rfl, SetV.nil, SlV.nil⟩
end Go.V.L8
set_option maxRecDepth 20000
namespace Go.V.L8
open Go.Proofs Go.RowKit Go.V Go.V.L2 Go.V.L3 Go.V.L6
theorem zvi (s : List U) (x : U) : (1 - (if x ∈ s then 1 else 0 : Int)) = if ze9 s (x, true) = true then 1 else 0 := by
 unfold ze9
 by_cases h : x ∈ s <;> simp [h]
theorem zsm (s : List U) (x : U) : (if x ∈ s then 1 else 0 : Int) = if ze9 s (x, false) = true then 1 else 0 := by
 unfold ze9
 by_cases h : x ∈ s <;> simp [h]
attribute [local irreducible] V N X VO Par StepOK Has Ret RetL RetO RetT Src
theorem ze4 {l : List CH} {fu : Bool} (hz : ∀ c ∈ l, TM c.1) (hl : l.length ≤ 9223372036854775807) {e : Int} (he : cE 32 l = e) {v : Value} {w : World} {B : Heap} (hB : B.Le (hp w)) (hv : KS tyM l fu v B) :
  Ret Tryz.prog 124 [v] w B (fun r _ => r = .int .i64 e) := by
 subst he
 refine yi Tryz.func124 rfl Tryz.ntmps124 (Nat.le_of_ble_eq_true rfl) hB ?_
 refine zaq 0 (KS tyM l fu) rfl SlV.mono hv ?_
 by_cases h32 : 32 < l.length
 ·have : cE 32 l = 3 := if_pos h32
  rw [this]
  refine Z324 ?_; refine Z38 ?_; refine Z323 ?_
  refine yf L (rs := [.tmp 2]) rfl (fun _ _ h => h) Since.refl fun u H hH hle => ?_
  rfl
 ·refine Z324 ?_; refine Z32 ?_; refine Z165 ?_; refine Z373 ?_
  refine zai (fun i : Nat => [(0, .sat (KS tyM l fu)), (3, .is (.int .i64 i))]) (fun i => i ≤ l.length ∧ ∀ (j : Nat) c, j < i → l[j]? = some c → tE c.1 = 0) (fun i => l.length - i) 0 ⟨Nat.zero_le _, fun j c h => absurd h (Nat.not_lt_zero _)⟩ ⟨rfl, rfl, trivial⟩ ?_
  rintro i ⟨hi, hok⟩
  by_cases hlt : i < l.length
  ·obtain ⟨c, hc0⟩ := zae hlt
   have hc := zf9 hc0
   have hzc := hz c (List.mem_of_getElem? hc0)
   by_cases h0 : tE c.1 = 0
   ·refine Z241 ?_; refine Z43 ?_; refine Z196 ?_; refine z7 (qs L _ rfl rfl rfl rfl rfl rfl rfl (by first | omega | decide) (by assumption)) rfl ?_; refine Z81 ?_; refine z7 (yd L (vs := [_, _, _, _, _, _]) rfl rfl rfl rfl rfl ⟨_, rfl⟩) rfl ?_; refine z7 (zw L rfl rfl (zk rfl) rfl rfl rfl (fun u H hH _ _ => h0 ▸ zix hzc hH)) rfl ?_; refine Z22 ?_; refine Z215 ?_; refine Z257 ?_
    exact yk (x := i) (i + 1) ⟨hlt, fun j c' hj hc' => by
     rcases Nat.lt_or_ge j i with h | h
     ·exact hok j c' h hc'
     ·have : j = i := by omega
      subst this; rw [hc0] at hc'; cases hc'; exact h0⟩ (by omega) ⟨rfl, rfl, trivial⟩
   ·have h6 := (zm8 c.1).resolve_left h0
    rw [zx4 h32 hc0 h0]
    refine Z241 ?_; refine Z43 ?_; refine Z196 ?_; refine z7 (qs L _ rfl rfl rfl rfl rfl rfl rfl (by first | omega | decide) (by assumption)) rfl ?_; refine Z81 ?_; refine z7 (yd L (vs := [_, _, _, _, _, _]) rfl rfl rfl rfl rfl ⟨_, rfl⟩) rfl ?_; refine z7 (zw L rfl rfl (zk rfl) rfl rfl rfl (fun u H hH _ _ => h6 ▸ zix hzc hH)) rfl ?_; refine Z205 ?_; refine Z390 ?_
    refine yf L (rs := [.tmp 2]) rfl (fun _ _ h => h) Since.refl fun u H hH hle => ?_
    rfl
  ·rw [zq9 h32 (fun j c hj => hok j c (by have := get_lt hj; omega) hj)]
   refine Z374 ?_; refine Z367 ?_
   refine yf L (rs := [.tmp 2]) rfl (fun _ _ h => h) Since.refl fun u H hH hle => ?_
   rfl
theorem zl6 {l : List CH} {fu : Bool} (hz : ∀ c ∈ l, TM c.1) (hl : l.length ≤ 9223372036854775807) {e : Int} (he : cE 32 l = e) {v : Value} {w : World} {B : Heap} (hB : B.Le (hp w)) (hv : KS tyC l fu v B) :
  Ret Tryz.prog 125 [v] w B (fun r _ => r = .int .i64 e) := by
 subst he
 refine yi Tryz.func125 rfl Tryz.ntmps125 (Nat.le_of_ble_eq_true rfl) hB ?_
 refine zaq 0 (KS tyC l fu) rfl SlV.mono hv ?_
 by_cases h32 : 32 < l.length
 ·have : cE 32 l = 3 := if_pos h32
  rw [this]
  refine Z324 ?_; refine Z38 ?_; refine Z323 ?_
  refine yf L (rs := [.tmp 2]) rfl (fun _ _ h => h) Since.refl fun u H hH hle => ?_
  rfl
 ·refine Z324 ?_; refine Z32 ?_; refine Z165 ?_; refine Z373 ?_
  refine zai (fun i : Nat => [(0, .sat (KS tyC l fu)), (3, .is (.int .i64 i))]) (fun i => i ≤ l.length ∧ ∀ (j : Nat) c, j < i → l[j]? = some c → tE c.1 = 0) (fun i => l.length - i) 0 ⟨Nat.zero_le _, fun j c h => absurd h (Nat.not_lt_zero _)⟩ ⟨rfl, rfl, trivial⟩ ?_
  rintro i ⟨hi, hok⟩
  by_cases hlt : i < l.length
  ·obtain ⟨c, hc0⟩ := zae hlt
   have hc := zf9 hc0
   have hzc := hz c (List.mem_of_getElem? hc0)
   by_cases h0 : tE c.1 = 0
   ·refine Z241 ?_; refine Z43 ?_; refine Z196 ?_; refine z7 (qs L _ rfl rfl rfl rfl rfl rfl rfl (by first | omega | decide) (by assumption)) rfl ?_; refine Z81 ?_; refine z7 (yd L (vs := [_, _, _, _, _, _]) rfl rfl rfl rfl rfl ⟨_, rfl⟩) rfl ?_; refine z7 (zw L rfl rfl (zk rfl) rfl rfl rfl (fun u H hH _ _ => h0 ▸ zix hzc hH)) rfl ?_; refine Z22 ?_; refine Z215 ?_; refine Z257 ?_
    exact yk (x := i) (i + 1) ⟨hlt, fun j c' hj hc' => by
     rcases Nat.lt_or_ge j i with h | h
     ·exact hok j c' h hc'
     ·have : j = i := by omega
      subst this; rw [hc0] at hc'; cases hc'; exact h0⟩ (by omega) ⟨rfl, rfl, trivial⟩
   ·have h6 := (zm8 c.1).resolve_left h0
    rw [zx4 h32 hc0 h0]
    refine Z241 ?_; refine Z43 ?_; refine Z196 ?_; refine z7 (qs L _ rfl rfl rfl rfl rfl rfl rfl (by first | omega | decide) (by assumption)) rfl ?_; refine Z81 ?_; refine z7 (yd L (vs := [_, _, _, _, _, _]) rfl rfl rfl rfl rfl ⟨_, rfl⟩) rfl ?_; refine z7 (zw L rfl rfl (zk rfl) rfl rfl rfl (fun u H hH _ _ => h6 ▸ zix hzc hH)) rfl ?_; refine Z205 ?_; refine Z390 ?_
    refine yf L (rs := [.tmp 2]) rfl (fun _ _ h => h) Since.refl fun u H hH hle => ?_
    rfl
  ·rw [zq9 h32 (fun j c hj => hok j c (by have := get_lt hj; omega) hj)]
   refine Z374 ?_; refine Z367 ?_
   refine yf L (rs := [.tmp 2]) rfl (fun _ _ h => h) Since.refl fun u H hH hle => ?_
   rfl
theorem zk6 {s : List U} {c : CH} {fs : Bool} (ls : s.length ≤ 90000) {b : Int} (hb : (if ze9 s c = true then 1 else 0) = b) {v : Value} {w : World} {B : Heap} (hB : B.Le (hp w)) (hv : US s fs v B) :
  Ret Tryz.prog 158 [v, chv c.1 c.2] w B (fun r _ => r = .int .i64 b) := by
 subst hb
 obtain ⟨x, d⟩ := c
 refine yi Tryz.func158 rfl Tryz.ntmps158 (Nat.le_of_ble_eq_true rfl) hB ?_
 refine zaq 0 (US s fs) rfl SlV.mono hv ?_
 obtain ⟨m, hm⟩ : ∃ m : Int, (if x ∈ s then 1 else 0 : Int) = m := ⟨_, rfl⟩
 have hm2 : m = 0 ∨ m = 1 := by rw [← hm]; split <;> simp
 cases d
 ·rw [← zsm, hm]
  refine Z340 ?_; refine Z183 ?_; refine Z158 ?_; refine Z28 ?_; refine Z4 ?_; refine Z18 ?_; refine z7 (qb L (vs := [_, _, _, _, _, _]) (qn rfl) rfl rfl rfl rfl ⟨_, rfl⟩) rfl ?_; refine z7 (zw L rfl rfl (zk rfl) rfl rfl rfl (fun u H hH _ _ v1 h1 => za3 (by omega) hm hH h1)) rfl ?_; refine Z136 ?_
  refine yf L (rs := [.tmp 4]) rfl (fun _ _ h => h) Since.refl fun u H hH hle => ?_
  rfl
 ·rw [← zvi, hm]
  refine Z340 ?_; refine Z183 ?_; refine Z223 ?_; refine Z4 ?_; refine Z18 ?_; refine z7 (qb L (vs := [_, _, _, _, _, _]) (qn rfl) rfl rfl rfl rfl ⟨_, rfl⟩) rfl ?_; refine z7 (zw L rfl rfl (zk rfl) rfl rfl rfl (fun u H hH _ _ v1 h1 => za3 (by omega) hm hH h1)) rfl ?_; refine Z69 ?_; refine Z136 ?_
  refine yf L (rs := [.tmp 4]) rfl (fun _ _ h => h) Since.refl fun u H hH hle => ?_
  rfl
set_option maxHeartbeats 1000000 in
theorem zju {s : List U} {l : List CH} {fs fu : Bool} (ls : s.length ≤ 90000) (hz : ∀ c ∈ l, TM c.1) (hl : l.length ≤ 9223372036854775807) {r : Nat} {e : Int} (hr : zey s l = (r, e)) {sv v : Value} {w : World} {B : Heap} (hB : B.Le (hp w)) (hs : US s fs sv B) (hv : KS tyM l fu v B) :
  Ret Tryz.prog 126 [sv, v] w B (fun x _ => x = .tuple #[.int .i64 r, .int .i64 e]) := by
 refine yi Tryz.func126 rfl Tryz.ntmps126 (Nat.le_of_ble_eq_true rfl) hB ?_
 refine zaq 0 (US s fs) rfl SlV.mono hs ?_
 refine zaq 1 (KS tyM l fu) rfl SlV.mono hv ?_
 by_cases h0 : cE 32 l = 0
 ·refine Z258 ?_; refine Z399 ?_; refine z7 (zw L rfl rfl (zk rfl) rfl rfl rfl (fun u H hH _ _ v1 h1 => ze4 hz hl h0 hH h1)) rfl ?_; refine Z230 ?_; refine Z373 ?_
  refine zai (fun i : Nat => [(0, .sat (US s fs)), (1, .sat (KS tyM l fu)), (6, .is (.int .i64 i))]) (fun i => i ≤ l.length ∧ ∀ (j : Nat) x, j < i → l[j]? = some x → ze9 s x = true) (fun i => l.length - i) 0 ⟨Nat.zero_le _, fun j c h => absurd h (Nat.not_lt_zero _)⟩ ⟨rfl, rfl, rfl, trivial⟩ ?_
  rintro i ⟨hi, hok⟩
  by_cases hlt : i < l.length
  ·obtain ⟨c, hc0⟩ := zae hlt
   have hc := zf9 hc0
   cases hh : ze9 s c
   ·rw [zoh h0 hok hc0 hh] at hr
    cases hr
    refine Z241 ?_; refine Z43 ?_; refine Z395 ?_; refine z7 (qs L _ rfl rfl rfl rfl rfl rfl rfl (by first | omega | decide) (by assumption)) rfl ?_; refine z7 (yd L (vs := [_, _, _, _, _, _, _]) rfl rfl rfl rfl rfl ⟨_, rfl⟩) rfl ?_; refine z7 (zw L rfl rfl (zk rfl) rfl rfl rfl (fun u H hH hle _ v1 h1 => zk6 (c := c) (b := 0) ls (by rw [hh]; rfl) hH h1)) rfl ?_; refine Z300 ?_; refine Z195 ?_; refine Z182 ?_
    refine yf L (rs := [.tmp 4, .tmp 5]) rfl (fun _ _ h => h) Since.refl fun u H hH hle => ?_
    rfl
   ·refine Z241 ?_; refine Z43 ?_; refine Z395 ?_; refine z7 (qs L _ rfl rfl rfl rfl rfl rfl rfl (by first | omega | decide) (by assumption)) rfl ?_; refine z7 (yd L (vs := [_, _, _, _, _, _, _]) rfl rfl rfl rfl rfl ⟨_, rfl⟩) rfl ?_; refine z7 (zw L rfl rfl (zk rfl) rfl rfl rfl (fun u H hH hle _ v1 h1 => zk6 (c := c) (b := 1) ls (by rw [hh]; rfl) hH h1)) rfl ?_; refine Z13 ?_; refine Z215 ?_; refine Z257 ?_
    exact yk (x := i) (i + 1) ⟨hlt, fun j c' hj hc' => by
     rcases Nat.lt_or_ge j i with h | h
     ·exact hok j c' h hc'
     ·have : j = i := by omega
      subst this; rw [hc0] at hc'; cases hc'; exact hh⟩ (by omega) ⟨rfl, rfl, rfl, trivial⟩
  ·rw [zlh h0 (fun j x hj => hok j x (by have := get_lt hj; omega) hj)] at hr
   cases hr
   refine Z374 ?_; refine Z56 ?_; refine Z148 ?_; refine Z182 ?_
   refine yf L (rs := [.tmp 4, .tmp 5]) rfl (fun _ _ h => h) Since.refl fun u H hH hle => ?_
   rfl
 ·have : zey s l = (0, cE 32 l) := if_neg h0
  rw [this] at hr
  cases hr
  refine Z258 ?_; refine Z399 ?_; refine z7 (zw L rfl rfl (zk rfl) rfl rfl rfl (fun u H hH _ _ v1 h1 => ze4 hz hl rfl hH h1)) rfl ?_; refine Z205 ?_; refine Z29 ?_; refine Z4 ?_; refine z7 (zw L rfl rfl (zk rfl) rfl rfl rfl (fun u H hH _ _ v1 h1 => ze4 hz hl rfl hH h1)) rfl ?_; refine Z182 ?_
  refine yf L (rs := [.tmp 4, .tmp 5]) rfl (fun _ _ h => h) Since.refl fun u H hH hle => ?_
  rfl
end Go.V.L8
set_option maxRecDepth 20000
namespace Go.V.L8
open Go.Proofs Go.RowKit Go.V Go.V.L2 Go.V.L3 Go.V.L6
attribute [local irreducible] V N X VO Par StepOK Has Ret RetL RetO RetT Src
end Go.V.L8
set_option maxRecDepth 20000
namespace Go.V.L8
open Go.Proofs Go.RowKit Go.V Go.V.L2 Go.V.L3 Go.V.L6
theorem _root_.Go.V.Z271 {A B : Prop} (h : B) (t : Wr B → A := by intro h; refine Z74 ?_; refine Z1 ?_; exact h.h) : A := t ⟨h⟩
theorem _root_.Go.V.Z330 {A B : Prop} (h : B) (t : Wr B → A := by intro h; refine Z4 ?_; refine Z4 ?_; exact h.h) : A := t ⟨h⟩
theorem _root_.Go.V.Z401 {A B : Prop} (h : B) (t : Wr B → A := by intro h; refine Z145 ?_; refine Z187 ?_; exact h.h) : A := t ⟨h⟩
def RWriteP (t : List U) (made : List CH) (e : Int) (r : Value) (H : Heap) : Prop := ∃ tv mv, r = .tuple #[tv, mv, .int .i64 e] ∧ US t false tv H ∧ KS tyC made false mv H
theorem RWriteP.mono {t : List U} {made : List CH} {e : Int} : Kn.mono (.sat (RWriteP t made e)) := fun _ _ _ ⟨tv, mv, h1, h2, h3⟩ hle => ⟨tv, mv, h1, h2.le hle, h3.le hle⟩
attribute [local irreducible] V N X VO Par StepOK Has Ret RetL RetO RetT Src
set_option maxHeartbeats 4000000 in
set_option maxRecDepth 10000 in
theorem zo8 {s t : List U} {l cs made : List CH} {fs fl fc : Bool} {e : Int} (zl : ∀ c ∈ l, TM c.1) (zc : ∀ c ∈ cs, TM c.1) (ll : l.length ≤ 9223372036854775807) (lc : cs.length ≤ 9223372036854775807) (hsl : s.length ≤ 4096) (hss : Sst za7 s) (hsz : ∀ t ∈ s, TZ t) (hr : zee s l cs = (t, made, e)) {sv lv cv : Value} {w : World} {B : Heap} (hB : B.Le (hp w))
  (hs : US s fs sv B) (hl : KS tyM l fl lv B) (hc : KS tyC cs fc cv B) : Ret Tryz.prog 84 [sv, lv, cv] w B (RWriteP t made e) := by
 refine yi Tryz.func84 rfl Tryz.ntmps84 (Nat.le_of_ble_eq_true rfl) hB ?_
 refine zaq 0 (US s false) rfl SlV.mono hs.nofu ?_
 refine zaq 1 (KS tyM l fl) rfl SlV.mono hl ?_
 refine zaq 2 (KS tyC cs fc) rfl SlV.mono hc ?_
 unfold zee at hr
 by_cases h1 : cE 32 l = 0
 ·rw [if_pos h1] at hr
  by_cases h2 : cE 32 cs = 0
  ·rw [if_pos h2] at hr
   obtain ⟨r, e1, hf⟩ : ∃ r e1, zey s l = (r, e1) := ⟨_, _, rfl⟩
   rw [hf] at hr
   dsimp only at hr
   by_cases h3 : e1 = 0
   ·subst h3
    rw [if_pos rfl] at hr
    obtain ⟨l32, hval⟩ := zvz h2
    refine Z258 ?_; refine Z2 ?_; refine Z160 ?_; refine Z4 ?_; refine z7 (zw L rfl rfl (zk rfl) rfl rfl rfl (fun u H hH _ _ v1 g1 => ze4 zl ll h1 hH g1)) rfl ?_; refine Z145 ?_; refine Z169 ?_; refine Z267 ?_; refine Z28 ?_; refine Z4 ?_; refine z7 (zw L rfl rfl (zk rfl) rfl rfl rfl (fun u H hH _ _ v1 g1 => zl6 zc lc h2 hH g1)) rfl ?_; refine Z145 ?_; refine Z156 ?_; refine Z267 ?_; refine Z37 ?_; refine Z330 ?_; refine z7 (zw L rfl rfl (zk rfl) rfl rfl rfl (fun u H hH _ _ v1 g1 v2 g2 => zju (by omega) zl ll hf hH g1 g2)) rfl ?_; refine Z171 ?_; refine Z401 ?_; refine Z228 ?_; refine Z56 ?_; refine Z145 ?_; refine Z60 ?_; refine Z197 ?_
    refine zdp 10 tyC 7 rfl ?_
    refine zai (fun y : Nat × List U × List CH => [(0, .sat (US y.2.1 false)), (2, .sat (KS tyC cs fc)), (10, .own (SlR tyC 7 y.2.2.length (y.2.2.flatMap ccs))), (11, .is (.int .i64 y.1))])
     (fun y => y.1 ≤ cs.length ∧ zfe y.2.1 y.2.2 (cs.drop y.1) = (t, made, e) ∧ y.2.1.length ≤ 4096 ∧ y.2.2.length ≤ y.1 ∧ Sst za7 y.2.1 ∧ ∀ t ∈ y.2.1, TZ t) (fun y => cs.length - y.1) (0, s, []) ⟨Nat.zero_le _, hr, hsl, Nat.le_refl _, hss, hsz⟩ ⟨rfl, rfl, rfl, rfl, trivial⟩ ?_
    clear hr hs hsl hss hsz
    rintro ⟨k, s, md⟩ ⟨hk, he, hsl, hmd, hss, hsz⟩
    dsimp only at hk he hsl hmd hss hsz ⊢
    by_cases hlt : k < cs.length
    ·obtain ⟨c, hc0⟩ := zae hlt
     have hc := zf9 hc0
     have hv := hval c (List.mem_of_getElem? hc0)
     have hzt := zlr hv
     rw [zez hc0, zfe] at he
     obtain ⟨x, d⟩ := c
     dsimp only at hc hv hzt he
     have hdf := zrm (l := s) x d
     have hss' := zm4 hss x d
     have hsl' := zjb hsl x d
     have hsz' : ∀ z ∈ (zb2 s x d).1, TZ z := fun z hz => by
      rcases zja hz with h | h
      ·exact hsz z h
      ·exact h ▸ hzt
     rcases hw : zb2 s x d with ⟨s', e'⟩
     rw [hw] at he hdf hss' hsl' hsz'
     dsimp only at he hdf hss' hsl' hsz'
     have hmo : Kn.mono (.sat (US s' false)) := SlV.mono
     by_cases h0 : e' = 0
     ·subst h0
      rw [if_pos rfl] at he
      have hdf := hdf rfl
      by_cases hsame : s' = s
      ·rw [if_neg (hdf.1 hsame)] at he
       refine Z137 ?_; refine Z315 ?_; refine Z201 ?_; refine Z80 ?_; refine Z395 ?_; refine z7 (qs L _ rfl rfl rfl rfl rfl rfl rfl (by first | omega | decide) (by assumption)) rfl ?_; refine z7 (yd L (vs := [_, _, _, _, _, _, _]) rfl rfl rfl rfl rfl ⟨_, rfl⟩) rfl ?_; refine z7 (yt (φ := R6 s' 0) L rfl rfl (zk rfl) rfl rfl rfl (LE2.mono SlV.mono) (fun u H hH _ _ v1 g1 => zjq hw hss (by omega) hzt hsz hH g1)) rfl ?_; refine Z292 ?_; refine Z145 ?_; refine Z301 ?_; refine Z230 ?_; refine Z95 ?_; refine Z330 ?_; refine z7 (zw L rfl rfl (zk rfl) rfl rfl rfl (fun u H hH _ _ v1 g1 v2 g2 => zhv (e := 1) (by omega) (by omega) (by rw [if_pos hsame]) hH g1 g2)) rfl ?_; refine Z13 ?_; refine Z159 ?_; refine Z396 ?_; refine Z51 ?_; refine Z233 ?_; refine Z259 ?_; refine Z190 ?_
       exact yk (x := (k, s, md)) (k + 1, s', md) ⟨hlt, he, hsl', by dsimp only; omega, hss', hsz'⟩ (by dsimp only; omega) ⟨rfl, rfl, rfl, rfl, trivial⟩
      ·have hdd : decide (x ∈ s) = d := by
        by_cases h : decide (x ∈ s) = d
        ·exact h
        ·exact absurd (hdf.2 h) hsame
       rw [if_pos hdd] at he
       refine Z137 ?_; refine Z315 ?_; refine Z201 ?_; refine Z80 ?_; refine Z395 ?_; refine z7 (qs L _ rfl rfl rfl rfl rfl rfl rfl (by first | omega | decide) (by assumption)) rfl ?_; refine z7 (yd L (vs := [_, _, _, _, _, _, _]) rfl rfl rfl rfl rfl ⟨_, rfl⟩) rfl ?_; refine z7 (yt (φ := R6 s' 0) L rfl rfl (zk rfl) rfl rfl rfl (LE2.mono SlV.mono) (fun u H hH _ _ v1 g1 => zjq hw hss (by omega) hzt hsz hH g1)) rfl ?_; refine Z292 ?_; refine Z145 ?_; refine Z301 ?_; refine Z230 ?_; refine Z95 ?_; refine Z330 ?_; refine z7 (zw L rfl rfl (zk rfl) rfl rfl rfl (fun u H hH _ _ v1 g1 v2 g2 => zhv (e := 0) (by omega) (by omega) (by rw [if_neg hsame]) hH g1 g2)) rfl ?_; refine Z267 ?_; refine Z102 ?_; refine qo (yn (.inl rfl) rfl rfl rfl rfl) ?_; refine Z196 ?_; refine z7 (qs L _ rfl rfl rfl rfl rfl rfl rfl (by first | omega | decide) (by assumption)) rfl ?_; refine z7 (yd L (vs := [_, _, _, _, _, _, _]) rfl rfl rfl rfl rfl ⟨_, rfl⟩) rfl ?_; refine Z34 ?_; refine Z106 ?_; refine qo (yn (.inr rfl) rfl rfl rfl rfl) ?_; refine Z135 ?_; refine Z396 ?_; refine Z51 ?_; refine Z233 ?_; refine Z259 ?_; refine Z190 ?_
       exact yk (x := (k, s, md)) (k + 1, s', md ++ [(x, d)]) ⟨hlt, he, hsl', by dsimp only; rw [List.length_append]; show md.length + 1 ≤ k + 1; omega, hss', hsz'⟩ (by dsimp only; omega) ⟨rfl, rfl, ze6 rfl, rfl, trivial⟩
     ·rw [if_neg h0] at he
      cases he
      refine Z137 ?_; refine Z315 ?_; refine Z201 ?_; refine Z80 ?_; refine Z395 ?_; refine z7 (qs L _ rfl rfl rfl rfl rfl rfl rfl (by first | omega | decide) (by assumption)) rfl ?_; refine z7 (yd L (vs := [_, _, _, _, _, _, _]) rfl rfl rfl rfl rfl ⟨_, rfl⟩) rfl ?_; refine z7 (yt (φ := R6 s' e) L rfl rfl (zk rfl) rfl rfl rfl (LE2.mono SlV.mono) (fun u H hH _ _ v1 g1 => zjq hw hss (by omega) hzt hsz hH g1)) rfl ?_; refine Z292 ?_; refine Z145 ?_; refine Z301 ?_; refine Z205 ?_; refine Z271 ?_; refine Z2 ?_; refine Z182 ?_
      refine yf L (rs := [.tmp 6, .tmp 7, .tmp 8]) rfl (fun _ _ h => h) Since.refl fun u H hH hle => ?_
      exact ⟨_, _, rfl, SlV.nil, SlV.nil⟩
    ·obtain rfl : k = cs.length := by omega
     rw [List.drop_length, zfe] at he
     cases he
     refine Z137 ?_; refine Z315 ?_; refine Z265 ?_
     refine zb1 10 rfl ?_
     refine Z103 ?_; refine Z330 ?_; refine Z51 ?_; refine Z51 ?_; refine Z136 ?_
     refine yf L (rs := [.tmp 6, .tmp 7, .tmp 8]) rfl (fun _ _ h => h) Since.refl fun u H hH hle => ?_
     exact fun tv htv mv hmv => ⟨tv, mv, rfl, htv, hmv⟩
   ·rw [if_neg h3] at hr
    cases hr
    refine Z258 ?_; refine Z2 ?_; refine Z160 ?_; refine Z4 ?_; refine z7 (zw L rfl rfl (zk rfl) rfl rfl rfl (fun u H hH _ _ v1 g1 => ze4 zl ll h1 hH g1)) rfl ?_; refine Z145 ?_; refine Z169 ?_; refine Z267 ?_; refine Z28 ?_; refine Z4 ?_; refine z7 (zw L rfl rfl (zk rfl) rfl rfl rfl (fun u H hH _ _ v1 g1 => zl6 zc lc h2 hH g1)) rfl ?_; refine Z145 ?_; refine Z156 ?_; refine Z267 ?_; refine Z37 ?_; refine Z330 ?_; refine z7 (zw L rfl rfl (zk rfl) rfl rfl rfl (fun u H hH _ _ v1 g1 v2 g2 => zju (by omega) zl ll hf hH g1 g2)) rfl ?_; refine Z171 ?_; refine Z401 ?_; refine Z205 ?_; refine Z195 ?_; refine Z2 ?_; refine Z182 ?_
    refine yf L (rs := [.tmp 6, .tmp 7, .tmp 8]) rfl (fun _ _ h => h) Since.refl fun u H hH hle => ?_
    exact ⟨_, _, rfl, SlV.nil, SlV.nil⟩
  ·rw [if_neg h2] at hr
   cases hr
   refine Z258 ?_; refine Z2 ?_; refine Z160 ?_; refine Z4 ?_; refine z7 (zw L rfl rfl (zk rfl) rfl rfl rfl (fun u H hH _ _ v1 g1 => ze4 zl ll h1 hH g1)) rfl ?_; refine Z145 ?_; refine Z169 ?_; refine Z267 ?_; refine Z28 ?_; refine Z4 ?_; refine z7 (zw L rfl rfl (zk rfl) rfl rfl rfl (fun u H hH _ _ v1 g1 => zl6 zc lc rfl hH g1)) rfl ?_; refine Z145 ?_; refine Z156 ?_; refine Z269 ?_; refine Z187 ?_; refine Z205 ?_; refine Z195 ?_; refine Z2 ?_; refine Z182 ?_
   refine yf L (rs := [.tmp 6, .tmp 7, .tmp 8]) rfl (fun _ _ h => h) Since.refl fun u H hH hle => ?_
   exact ⟨_, _, rfl, SlV.nil, SlV.nil⟩
 ·rw [if_neg h1] at hr
  cases hr
  refine Z258 ?_; refine Z2 ?_; refine Z160 ?_; refine Z4 ?_; refine z7 (zw L rfl rfl (zk rfl) rfl rfl rfl (fun u H hH _ _ v1 g1 => ze4 zl ll rfl hH g1)) rfl ?_; refine Z145 ?_; refine Z169 ?_; refine Z269 ?_; refine Z156 ?_; refine Z269 ?_; refine Z187 ?_; refine Z205 ?_; refine Z195 ?_; refine Z2 ?_; refine Z182 ?_
  refine yf L (rs := [.tmp 6, .tmp 7, .tmp 8]) rfl (fun _ _ h => h) Since.refl fun u H hH hle => ?_
  exact ⟨_, _, rfl, SlV.nil, SlV.nil⟩
end Go.V.L8
set_option maxRecDepth 20000
namespace Go.V.L8
open Go.Proofs Go.RowKit Go.V Go.V.L2 Go.V.L3 Go.V.L6
theorem z5g {t v : CH} {r : Bool} (e : decide (t = v) = r) : zf6 [0, 0, 0, 0, 0, 0, 2] [.string t.1.1.1.1, .string t.1.1.1.2, .string t.1.1.2, .string t.1.2.1.1, .string t.1.2.1.2, .string t.1.2.2, .bool t.2] [.string v.1.1.1.1, .string v.1.1.1.2, .string v.1.1.2, .string v.1.2.1.1, .string v.1.2.1.2, .string v.1.2.2, .bool v.2] = some r := by
 subst e
 simp only [zf6, eqC]
 obtain ⟨⟨⟨⟨t1, t2⟩, t3⟩, ⟨⟨t4, t5⟩, t6⟩⟩, t7⟩ := t
 obtain ⟨⟨⟨⟨v1, v2⟩, v3⟩, ⟨⟨v4, v5⟩, v6⟩⟩, v7⟩ := v
 simp only [Prod.mk.injEq]
 by_cases a1 : t1 = v1
 ·by_cases a2 : t2 = v2
  ·by_cases a3 : t3 = v3
   ·by_cases a4 : t4 = v4
    ·by_cases a5 : t5 = v5
     ·by_cases a6 : t6 = v6
      ·by_cases a7 : t7 = v7
       ·simp [a1, a2, a3, a4, a5, a6, a7]
       ·cases t7 <;> cases v7 <;> simp [a1, a2, a3, a4, a5, a6] at a7 ⊢
      ·simp [a6]
     ·simp [a5]
    ·simp [a4]
   ·simp [a3]
  ·simp [a2]
 ·simp [a1]
attribute [local irreducible] V N X VO Par StepOK Has Ret RetL RetO RetT Src
set_option maxHeartbeats 2000000 in
theorem zrv {a b : List CH} {fa fb : Bool} (hla : a.length ≤ 1000000) (hlb : b.length ≤ 1000000) {e : Int} (he : (if a = b then 1 else 0 : Int) = e) {va vb : Value} {w : World} {B : Heap} (hB : B.Le (hp w)) (ha : KS tyC a fa va B) (hb : KS tyC b fb vb B) :
  Ret Tryz.prog 30 [va, vb] w B (fun v _ => v = .int .i64 e) := by
 subst he
 refine yi Tryz.func30 rfl Tryz.ntmps30 (Nat.le_of_ble_eq_true rfl) hB ?_
 refine zaq 0 (KS tyC a fa) rfl SlV.mono ha ?_
 refine zaq 1 (KS tyC b fb) rfl SlV.mono hb ?_
 by_cases hl : a.length = b.length
 ·refine Z324 ?_; refine Z148 ?_; refine Z230 ?_; refine Z373 ?_
  refine zai (fun i : Nat => [(0, .sat (KS tyC a fa)), (1, .sat (KS tyC b fb)), (5, .is (.int .i64 i))]) (fun i => i ≤ a.length ∧ a.take i = b.take i) (fun i => a.length - i) 0 ⟨Nat.zero_le _, rfl⟩ ⟨rfl, rfl, rfl, trivial⟩ ?_
  rintro i ⟨hi, hti⟩
  by_cases hlt : i < a.length
  ·obtain ⟨x, hx⟩ := zae hlt
   obtain ⟨y, hy⟩ := zae (l := b) (i := i) (by omega)
   have hcx := zf9 hx
   have hcy := zf9 hy
   by_cases hxy : x = y
   ·subst hxy
    have hq := z5g (t := x) (v := x) (decide_eq_true rfl)
    refine Z277 ?_; refine Z178 ?_; refine z8 (qs L _ rfl rfl rfl rfl rfl rfl rfl (by first | omega | decide) (by assumption)) rfl ?_; refine z8 (yd L (vs := [_, _, _, _, _, _, _]) rfl rfl rfl rfl rfl ⟨_, rfl⟩) rfl ?_; refine Z178 ?_; refine z8 (qs L _ rfl rfl rfl rfl rfl rfl rfl (by first | omega | decide) (by assumption)) rfl ?_; refine z8 (yd L (vs := [_, _, _, _, _, _, _]) rfl rfl rfl rfl rfl ⟨_, rfl⟩) rfl ?_; refine z8 (zgo rfl rfl rfl rfl z21 (by assumption) rfl) rfl ?_; refine Z180 ?_; refine Z339 ?_; refine Z257 ?_
    exact yk (x := i) (i + 1) ⟨hlt, by rw [List.take_add_one, List.take_add_one, hx, hy, hti]⟩ (by omega) ⟨rfl, rfl, rfl, trivial⟩
   ·have hq := z5g (t := x) (v := y) (decide_eq_false hxy)
    rw [if_neg (fun h => by subst h; rw [hx] at hy; cases hy; exact hxy rfl)]
    refine Z277 ?_; refine Z178 ?_; refine z8 (qs L _ rfl rfl rfl rfl rfl rfl rfl (by first | omega | decide) (by assumption)) rfl ?_; refine z8 (yd L (vs := [_, _, _, _, _, _, _]) rfl rfl rfl rfl rfl ⟨_, rfl⟩) rfl ?_; refine Z178 ?_; refine z8 (qs L _ rfl rfl rfl rfl rfl rfl rfl (by first | omega | decide) (by assumption)) rfl ?_; refine z8 (yd L (vs := [_, _, _, _, _, _, _]) rfl rfl rfl rfl rfl ⟨_, rfl⟩) rfl ?_; refine z8 (zgo rfl rfl rfl rfl z21 (by assumption) rfl) rfl ?_; refine Z211 ?_; refine zh ?_; refine Z390 ?_
    refine yf L (rs := [.tmp 4]) rfl (fun _ _ h => h) Since.refl fun u H hH hle => ?_
    rfl
  ·have hab : a = b := by rw [List.take_of_length_le (by omega), List.take_of_length_le (by omega)] at hti; exact hti
   rw [if_pos hab]
   refine Z374 ?_; refine Z367 ?_
   refine yf L (rs := [.tmp 4]) rfl (fun _ _ h => h) Since.refl fun u H hH hle => ?_
   rfl
 ·rw [if_neg (fun h => hl (by rw [h]))]
  refine Z324 ?_; refine Z148 ?_; refine Z205 ?_; refine Z29 ?_; refine Z136 ?_
  refine yf L (rs := [.tmp 4]) rfl (fun _ _ h => h) Since.refl fun u H hH hle => ?_
  rfl
end Go.V.L8
set_option maxRecDepth 20000
namespace Go.V.L8
open Go.Proofs Go.RowKit Go.V Go.V.L2 Go.V.L3 Go.V.L6
theorem _root_.Go.V.Z272 {A B : Prop} (h : B) (t : Wr B → A := by intro h; refine Z138 ?_; refine Z11 ?_; exact h.h) : A := t ⟨h⟩
theorem _root_.Go.V.Z331 {A B : Prop} (h : B) (t : Wr B → A := by intro h; refine Z138 ?_; refine Z8 ?_; exact h.h) : A := t ⟨h⟩
def fC (c : C3) : CH := (zub c.1 c.2.1, drB c.2.2)
def dOf (cs : List C3) : List CH := (cs.take 30).map fC
theorem zh8 (cs : List C3) : (dOf cs).length ≤ 30 := by unfold dOf; rw [List.length_map, List.length_take]; omega
attribute [local irreducible] V N X VO Par StepOK Has Ret RetL RetO RetT Src
set_option maxHeartbeats 1000000 in
theorem zpp {cs : List C3} {fc : Bool} {M : List CH} (hM : dOf cs = M) (hcs : ∀ c ∈ cs, c.1 ≤ 255 ∧ c.2.1 ≤ 255 ∧ c.2.2 ≤ 255) (lcs : cs.length ≤ 9223372036854775807)
  {cx : Value} {w : World} {B : Heap} (hB : B.Le (hp w)) (hc : PS3 cs fc cx B) : Ret Tryz.prog 38 [.agg #[cx]] w B (KS tyC M false) := by
 refine yi Tryz.func38 rfl Tryz.ntmps38 (Nat.le_of_ble_eq_true rfl) hB ?_
 refine Z299 ?_; refine Z145 ?_; refine Z370 ?_
 refine zdp 3 tyC 7 rfl ?_
 refine zai (fun y : Nat × List CH => [(1, .sat (At [cx] 66 0)), (3, .own (SlR tyC 7 y.2.length (y.2.flatMap ccs))), (4, .is (.int .i64 y.1))])
  (fun y => y.1 ≤ (cs.take 30).length ∧ y.2 = (cs.take y.1).map fC) (fun y => (cs.take 30).length - y.1) (0, []) ⟨Nat.zero_le _, rfl⟩ ⟨rfl, rfl, rfl, trivial⟩ ?_
 rintro ⟨i, out⟩ ⟨hi, ho⟩
 dsimp only at hi ho ⊢
 have h30 : (cs.take 30).length = min 30 cs.length := List.length_take
 have hol : out.length = i := by rw [ho, List.length_map, List.length_take]; omega
 have hfin : i = (cs.take 30).length → out = M := fun e => by
  rw [← hM, ho, e, h30]
  unfold dOf
  congr 1
  exact (List.take_eq_take_min (l := cs) (i := 30)).symm
 by_cases h1 : i < cs.length
 ·by_cases h2 : i < 30
  ·obtain ⟨⟨a, b, c⟩, hn⟩ := zae h1
   have hcc := z1w hn
   obtain ⟨ka, kb, kc⟩ := hcs _ (List.mem_of_getElem? hn)
   dsimp only at ka kb kc
   have hnx : out ++ [(zub a b, drB c)] = (cs.take (i + 1)).map fC := by rw [List.take_add_one, hn, List.map_append, ho]; rfl
   generalize hxx : zub a b = x at hnx
   generalize hdd : drB c = d at hnx
   refine Z252 ?_; refine Z183 ?_; refine zfg 7 (PS3 cs fc) rfl SlV.mono hc ?_; refine Z10 ?_; refine Z8 ?_; refine Z331 ?_; refine Z249 ?_; refine Z232 ?_; refine Z37 ?_; refine qo (yn (.inl rfl) rfl rfl rfl rfl) ?_; refine Z183 ?_; refine zfg 18 (PS3 cs fc) rfl SlV.mono hc ?_; refine Z1 ?_; refine z7 (qs L _ rfl rfl rfl rfl rfl rfl rfl (by first | omega | decide) (by assumption)) rfl ?_; refine z7 (yd L (vs := [_, _, _]) rfl rfl rfl rfl rfl ⟨_, rfl⟩) rfl ?_; refine z7 (zw L rfl rfl (zk rfl) rfl rfl rfl (fun u H hH _ _ => zxz hxx hdd ka kb kc hH)) rfl ?_; refine Z34 ?_; refine Z106 ?_; refine qo (yn (.inr rfl) rfl rfl rfl rfl) ?_; refine Z233 ?_; refine Z372 ?_
   exact yk (x := (i, out)) (i + 1, out ++ [(x, d)]) ⟨by dsimp only; omega, hnx⟩ (by dsimp only; omega) ⟨rfl, ze6 rfl, rfl, trivial⟩
  ·obtain he := hfin (by omega)
   subst he
   refine Z252 ?_; refine Z183 ?_; refine zfg 7 (PS3 cs fc) rfl SlV.mono hc ?_; refine Z10 ?_; refine Z8 ?_; refine Z272 ?_; refine Z7 ?_; refine Z181 ?_; refine zh ?_
   refine zb1 3 rfl ?_
   refine Z43 ?_; refine Z4 ?_; refine Z260 ?_
   refine yf L (rs := [.tmp 2]) rfl (fun _ _ h => h) Since.refl fun u H hH hle => ?_
   exact fun v hv => hv
 ·obtain he := hfin (by omega)
  subst he
  refine Z252 ?_; refine Z183 ?_; refine zfg 7 (PS3 cs fc) rfl SlV.mono hc ?_; refine Z10 ?_; refine Z11 ?_; refine Z179 ?_; refine Z7 ?_; refine Z181 ?_; refine zh ?_
  refine zb1 3 rfl ?_
  refine Z43 ?_; refine Z4 ?_; refine Z260 ?_
  refine yf L (rs := [.tmp 2]) rfl (fun _ _ h => h) Since.refl fun u H hH hle => ?_
  exact fun v hv => hv
end Go.V.L8
set_option maxRecDepth 20000
namespace Go.V.L8
open Go.Proofs Go.RowKit Go.V Go.V.L2 Go.V.L3 Go.V.L6
theorem zrl {l : List U} {x : U} {d : Bool} (h0 : (zb2 l x d).2 = 0) (z : U) : z ∈ (zb2 l x d).1 ↔ if z = x then d = false else z ∈ l := by
 unfold zb2 at h0 ⊢
 by_cases ht : tE x = 0
 ·rw [if_pos ht] at h0 ⊢
  cases d with
  | true =>
   rw [if_pos rfl]
   dsimp only
   rw [List.mem_filter, decide_eq_true_eq]
   by_cases hz : z = x
   ·rw [if_pos hz]; simp [hz]
   ·rw [if_neg hz]; simp [hz]
  | false =>
   rw [if_neg (by decide)] at h0 ⊢
   by_cases hx : x ∈ l
   ·rw [if_pos hx]
    by_cases hz : z = x
    ·rw [if_pos hz, hz]; simp [hx]
    ·rw [if_neg hz]
   ·rw [if_neg hx] at h0 ⊢
    by_cases hl : l.length ≥ 4096
    ·rw [if_pos hl] at h0; exact absurd h0 (by decide)
    ·rw [if_neg hl]
     dsimp only
     rw [zdi]
     by_cases hz : z = x
     ·rw [if_pos hz, hz]; simp
     ·rw [if_neg hz]; simp [hz]
 ·rw [if_neg ht] at h0; exact absurd h0 ht
theorem zm2 : ∀ {cs : List CH} {s : List U} {md : List CH}, SOK s → (∀ c ∈ cs, TZ c.1 ∧ tE c.1 = 0) → s.length + cs.length < 4096 → ∃ t made, zfe s md cs = (t, made, 0) ∧ SOK t ∧ t.length ≤ s.length + cs.length
 | [], s, md, h, _, _ => ⟨s, md, rfl, h, Nat.le_refl _⟩
 | c :: r, s, md, h, hc, hl => by
  simp only [List.length_cons] at hl
  obtain ⟨hz, h0⟩ := hc c (List.mem_cons_self ..)
  obtain ⟨h1, h2, h3⟩ := zpz h hz h0 c.2 (by omega)
  obtain ⟨t, made, e, ht, hlt⟩ := zm2 (cs := r) (s := (zb2 s c.1 c.2).1) (md := if decide (c.1 ∈ s) = c.2 then md ++ [c] else md) h1 (fun x hx => hc x (List.mem_cons_of_mem _ hx)) (by omega)
  refine ⟨t, made, by rw [zfe, if_pos h2, e], ht, ?_⟩
  simp only [List.length_cons]; omega
theorem z4u {n : Nat} {l : List CH} (h : ∀ c ∈ l, tE c.1 = 0) (hl : l.length ≤ n) : cE n l = 0 := by
 unfold cE
 rw [if_neg (by omega), if_neg]
 rw [List.any_eq_true]
 rintro ⟨c, hc, h1⟩
 rw [decide_eq_true (h c hc)] at h1
 cases h1
theorem writeR_ok {s : List U} {l cs : List CH} (h1 : cE 32 l = 0) (h2 : cE 32 cs = 0) (h3 : (zey s l).2 = 0) : zee s l cs = zfe s [] cs := by
 unfold zee; rw [if_pos h1, if_pos h2, if_pos h3]
end Go.V.L8
set_option maxRecDepth 20000
namespace Go.V.L8
open Go.Proofs Go.RowKit Go.V Go.V.L2 Go.V.L3 Go.V.L6
theorem _root_.Go.V.Z130 {A B : Prop} (h : B) (t : Wr B → A := by intro h; refine z8 (znx L rfl rfl rfl rfl rfl) rfl ?_; exact h.h) : A := t ⟨h⟩
theorem _root_.Go.V.Z264 {A B : Prop} (h : B) (t : Wr B → A := by intro h; refine qt ?_; refine Z161 ?_; exact h.h) : A := t ⟨h⟩
attribute [local irreducible] V N X VO Par StepOK Has Ret RetL RetO RetT Src
set_option maxHeartbeats 2000000 in
theorem zuz {cs : List C3} {fc : Bool} {M : List CH} (hM : dOf cs = M) (hcs : ∀ c ∈ cs, c.1 ≤ 255 ∧ c.2.1 ≤ 255 ∧ c.2.2 ≤ 255) (lcs : cs.length ≤ 9223372036854775807)
  {cx : Value} {w : World} {B : Heap} (hB : B.Le (hp w)) (hc : PS3 cs fc cx B) : Ret Tryz.prog 37 [.agg #[cx]] w B (KS tyM M false) := by
 have lM : M.length ≤ 30 := hM ▸ zh8 cs
 refine yi Tryz.func37 rfl Tryz.ntmps37 (Nat.le_of_ble_eq_true rfl) hB ?_
 refine Z299 ?_; refine Z142 ?_; refine Z29 ?_; refine Z18 ?_; refine z7 (qb L (vs := [_]) (qn rfl) rfl rfl rfl rfl ⟨_, rfl⟩) rfl ?_; refine z7 (yt (φ := KS tyC M false) L rfl rfl (zk rfl) rfl rfl rfl SlV.mono (fun u H hH hle _ => zpp hM hcs lcs hH (hc.le hle))) rfl ?_; refine Z51 ?_; refine Z194 ?_; refine Z373 ?_
 refine zdp 3 tyM 7 rfl ?_
 refine zai (fun y : Nat × List CH => [(3, .own (SlR tyM 7 y.2.length (y.2.flatMap ccs))), (4, .sat (KS tyC M false)), (5, .is (.int .i64 y.1))])
  (fun y => y.1 ≤ M.length ∧ y.2 = M.take y.1) (fun y => M.length - y.1) (0, []) ⟨Nat.zero_le _, rfl⟩ ⟨rfl, rfl, rfl, trivial⟩ ?_
 rintro ⟨i, out⟩ ⟨hi, ho⟩
 dsimp only at hi ho ⊢
 have hol : out.length = i := by rw [ho, List.length_take]; omega
 by_cases hlt : i < M.length
 ·obtain ⟨c, hc0⟩ := zae hlt
  have hcc := zf9 hc0
  have hnx : out ++ [c] = M.take (i + 1) := by rw [List.take_add_one, hc0, ho]; rfl
  refine Z200 ?_; refine Z191 ?_; refine Z232 ?_; refine qg (id := 6) [(15, [3]), (28, [15]), (3, [28])] mixed (by kernel_rfl) ?_; refine zar (yn (.inl rfl) rfl rfl rfl rfl) rfl rfl ?_; refine Z178 ?_; refine z8 (qs L _ rfl rfl rfl rfl rfl rfl rfl (by first | omega | decide) (by assumption)) rfl ?_; refine z8 (zh2 L rfl rfl rfl rfl) rfl ?_; refine z8 (yd L (vs := [_, _, _, _, _, _]) rfl rfl rfl rfl rfl ⟨_, rfl⟩) rfl ?_; refine Z178 ?_; refine z8 (qs L _ rfl rfl rfl rfl rfl rfl rfl (by first | omega | decide) (by assumption)) rfl ?_; refine z8 (zh2 L rfl rfl rfl rfl) rfl ?_; refine Z130 ?_; refine z8 (yu (cs := [_, _, _, _, _, _, _]) rfl rfl z14 rfl rfl) rfl ?_; refine Z111 ?_; refine zar (zbr L rfl rfl rfl (zgv rfl) rfl z4s rfl rfl (by omega) (by omega)) rfl rfl ?_; refine zar (yn (.inr rfl) rfl rfl rfl rfl) rfl rfl ?_; refine Z264 ?_; refine Z257 ?_
  exact yk (x := (i, out)) (i + 1, out ++ [c]) ⟨hlt, hnx⟩ (by dsimp only; omega) ⟨ze6 rfl, rfl, rfl, trivial⟩
 ·have he : out = M := by rw [ho]; exact List.take_of_length_le (by omega)
  subst he
  refine Z374 ?_
  refine zb1 3 rfl ?_
  refine Z40 ?_; refine Z4 ?_; refine Z260 ?_
  refine yf L (rs := [.tmp 2]) rfl (fun _ _ h => h) Since.refl fun u H hH hle => ?_
  exact fun v hv => hv
end Go.V.L8
set_option maxRecDepth 20000
namespace Go.V.L10
open Go.Proofs Go.RowKit Go.V Go.V.L2 Go.V.L8 Go.V.L6
structure OO where
 wh : Nat
 ms : List C3
 cs : List C3
 rv : Nat
 kp : Int
def OO.rev (o : OO) : Int := if o.rv = 255 then 18446744073709551615 else (o.rv : Int)
def doS (S : Sto) (o : OO) : Sto :=
 if o.wh % 8 < 4 then (zeo S (dOf o.ms) (dOf o.cs)).1 else if o.wh % 8 < 6 then (zns S o.rev false).1 else if o.wh % 8 = 6 then (zns S o.rev true).1 else (zdf S o.kp).1
structure JJ (n : Nat) (S : Sto) : Prop where
 last : (kpt S.R S.R.length).isSome = true
 pin : ∀ r ∈ S.P, (kpt S.R r).isSome = true
 so : ∀ r t, kpt S.R r = some t → SOK t ∧ t.length ≤ 30 * S.R.length
 hR : S.R.length ≤ n + 1
 hP : S.P.length ≤ n
theorem JJ.ne {n : Nat} {S : Sto} (h : JJ n S) : S.R.length ≠ 0 := by have := zfc h.last; omega
theorem JJ.I {n : Nat} {S : Sto} (h : JJ n S) (hn : n ≤ 100) : z3m S := ⟨h.last, Nat.le_trans (zfr _) (by have := h.hR; omega), h.pin, fun r t ht => by have := (h.so r t ht).2; have := h.hR; omega⟩
theorem JJ.mono {n m : Nat} {S : Sto} (h : JJ n S) (hm : n ≤ m) : JJ m S := ⟨h.last, h.pin, h.so, Nat.le_trans h.hR (by omega), Nat.le_trans h.hP hm⟩
theorem JJ.ss {n : Nat} {S : Sto} (h : JJ n S) : ∀ r t, kpt S.R r = some t → Sst za7 t ∧ ∀ x ∈ t, TZ x := fun r t ht => ⟨(h.so r t ht).1.sst, (h.so r t ht).1.tz⟩
theorem JJ.pos {n : Nat} {S : Sto} (h : JJ n S) : ∀ x ∈ S.P, 0 < x := fun x hx => (zfc (h.pin x hx)).1
theorem zvg : JJ 0 newS := ⟨rfl, fun _ h => (by cases h), fun r t h => by
 have hr := zfc (R := newS.R) (r := r) (by rw [h]; rfl)
 have h1 : newS.R.length = 1 := rfl
 have : r = ((0 + 1 : Nat) : Int) := by omega
 subst this
 have h2 : kpt newS.R ((0 + 1 : Nat) : Int) = some [] := by rw [zfq]; rfl
 rw [h2] at h
 cases h
 exact ⟨⟨Sst.nil, fun _ h => (by cases h), fun _ h => (by cases h)⟩, Nat.zero_le _⟩, Nat.le_refl _, Nat.le_refl _⟩
theorem zy3 (cs : List C3) : ∀ c ∈ dOf cs, TZ c.1 ∧ tE c.1 = 0 := fun c hc => by
 unfold dOf at hc
 obtain ⟨x, _, rfl⟩ := List.mem_map.1 hc
 exact ⟨zua _ _, zz6 _ _⟩
theorem zwf {t : U} (h : TZ t) : TM t := by
 unfold TZ at h; unfold TM; omega
theorem zq4 (cs : List C3) : ∀ c ∈ dOf cs, TM c.1 := fun c hc => zwf (zy3 cs c hc).1
theorem writeR_ok {s : List U} {l cs : List CH} {t : List U} {made : List CH} (h : zee s l cs = (t, made, 0)) (hs : SOK s) (hc : ∀ c ∈ cs, TZ c.1 ∧ tE c.1 = 0) (hl : s.length + cs.length < 4096) : SOK t ∧ t.length ≤ s.length + cs.length := by
 obtain ⟨t2, m2, h2, h3, h4⟩ := zm2 (md := []) hs hc hl
 unfold zee at h
 split at h
 ·split at h
  ·split at h
   ·rw [h2] at h; cases h; exact ⟨h3, h4⟩
   ·rename_i h1; exact absurd (congrArg (·.2.2) h) h1
  ·rename_i h1; exact absurd (congrArg (·.2.2) h) h1
 ·rename_i h1; exact absurd (congrArg (·.2.2) h) h1
theorem zx6 {S : Sto} {t : List U} (h : kpt S.R S.R.length = some t) : atS S 0 = (t, 0) := by unfold atS; rw [if_pos rfl, h]
theorem zqx {n : Nat} {S : Sto} (h : JJ n S) (hn : n ≤ 100) {l cs : List CH} (hc : ∀ c ∈ cs, TZ c.1 ∧ tE c.1 = 0) (hcl : cs.length ≤ 30) : JJ (n + 1) (zeo S l cs).1 := by
 obtain ⟨t0, ht0⟩ : ∃ t0, kpt S.R S.R.length = some t0 := Option.isSome_iff_exists.1 h.last
 obtain ⟨⟨t1, made, e1⟩, hwr⟩ : ∃ x, zee t0 l cs = x := ⟨_, rfl⟩
 unfold zeo
 rw [zx6 ht0, hwr]
 dsimp only
 by_cases he : e1 = 0
 ·subst he
  rw [if_pos rfl]
  split
  ·exact h.mono (Nat.le_succ _)
  ·have h0 := h.so _ _ ht0
   have hR := h.hR
   have h1 := writeR_ok hwr h0.1 hc (by omega)
   have hln : (S.R ++ [some t1]).length = S.R.length + 1 := by rw [List.length_append]; rfl
   refine ⟨?_, fun r hr => ?_, fun r t ht => ?_, ?_, Nat.le_succ_of_le h.hP⟩
   ·dsimp only; rw [hln, zi0, if_pos rfl]; rfl
   ·dsimp only; rw [zi0]
    split
    ·rfl
    ·exact h.pin r hr
   ·dsimp only at ht ⊢
    rw [zi0] at ht
    rw [hln]
    split at ht
    ·cases ht; exact ⟨h1.1, by omega⟩
    ·have h2 := h.so r t ht; exact ⟨h2.1, by omega⟩
   ·dsimp only; omega
 ·rw [if_neg he]; exact h.mono (Nat.le_succ _)
theorem zvf {n : Nat} {S : Sto} (h : JJ n S) (r : Int) (un : Bool) : JJ (n + 1) (zns S r un).1 := by
 unfold zns
 by_cases hk : (kpt S.R r).isSome = true
 ·rw [if_pos hk]
  cases un with
  | true =>
   rw [if_pos rfl]
   split
   ·refine ⟨h.last, fun x hx => h.pin x ?_, h.so, Nat.le_succ_of_le h.hR, ?_⟩
    ·dsimp only at hx
     unfold zfj at hx
     split at hx
     ·cases hx
     ·exact List.mem_of_mem_erase hx
    ·dsimp only
     unfold zfj
     split
     ·exact Nat.zero_le _
     ·exact Nat.le_trans (List.length_erase_le ..) (Nat.le_succ_of_le h.hP)
   ·exact h.mono (Nat.le_succ _)
  | false =>
   rw [if_neg (by decide)]
   refine ⟨h.last, fun x hx => ?_, h.so, Nat.le_succ_of_le h.hR, ?_⟩
   ·rcases List.mem_append.1 hx with hx | hx
    ·exact h.pin x hx
    ·rw [List.mem_singleton.1 hx]; exact hk
   ·have := h.hP; dsimp only; rw [List.length_append, List.length_singleton]; omega
 ·rw [if_neg hk]; exact h.mono (Nat.le_succ _)
theorem zsf {S : Sto} {k : Nat} (hk : 1 ≤ k) : ((S.R.length : Nat) : Int) ∉ zdd S.P (zbj S.R) k := fun hm => by
 unfold zdd at hm
 have h1 := (List.mem_filter.1 hm).1
 obtain ⟨i, hi⟩ := List.getElem?_of_mem h1
 have hil : i < (zbj S.R).length - k := by have := get_lt hi; rw [List.length_take] at this; omega
 rw [List.getElem?_take_of_lt hil] at hi
 obtain ⟨y, hy⟩ := zae (show i + 1 < (zbj S.R).length by omega)
 have h3 := List.pairwise_iff_getElem.1 (zji S.R) i (i + 1) (get_lt hi) (get_lt hy) (Nat.lt_succ_self i)
 rw [zec hi, zec hy, zx3] at h3
 have := zfc (zev.1 (List.mem_of_getElem? hy))
 omega
theorem zof {P0 : List Int} {R : List (Option (List U))} {k : Nat} {g : Int} (hg : g ∈ zdd P0 (zbj R) k) : (kpt R g).isSome = true ∧ g ∉ P0 := by
 unfold zdd at hg
 have h1 := List.mem_filter.1 hg
 exact ⟨zev.1 (List.mem_of_mem_take h1.1), fun hm => by have := List.count_pos_iff.2 hm; have h2 := h1.2; simp at h2; omega⟩
theorem zvh {n : Nat} {S : Sto} (h : JJ n S) (keep : Int) : JJ (n + 1) (zdf S keep).1 := by
 unfold zdf
 split
 ·rename_i hk
  have hp : ∀ g ∈ zdd S.P (zbj S.R) keep.toNat, 0 < g := fun g hg => (zfc (zof hg).1).1
  refine ⟨?_, fun r hr => ?_, fun r t ht => ?_, ?_, Nat.le_succ_of_le h.hP⟩
  ·dsimp only; rw [zeb, zi1 hp, if_neg (zsf (by omega))]; exact h.last
  ·dsimp only; rw [zi1 hp, if_neg (fun hm => (zof hm).2 hr)]; exact h.pin r hr
  ·dsimp only at ht ⊢
   rw [zi1 hp] at ht
   rw [zeb]
   split at ht
   ·cases ht
   ·exact h.so r t ht
  ·dsimp only; rw [zeb]; exact Nat.le_succ_of_le h.hR
 ·exact h.mono (Nat.le_succ _)
theorem z4o {n : Nat} {S : Sto} (h : JJ n S) (hn : n ≤ 100) (o : OO) : JJ (n + 1) (doS S o) := by
 unfold doS
 split
 ·exact zqx h hn (zy3 _) (zh8 _)
 ·split
  ·exact zvf h _ _
  ·split
   ·exact zvf h _ _
   ·exact zvh h _
end Go.V.L10
set_option maxRecDepth 20000
namespace Go.V
open Go.RowKit
def z30 {V : Type} (m : Nat) (kd : IntKind) (vc : V → Value) (l left : List (Int × V)) (p : Int × V) : Res where
 P x _ u C := ∃ (i : Nat) (es : Array MapEntry) (ck since : Nat) (seen : Array Nat) (e : MapEntry), x = .pointer (some ⟨i, 0, none⟩) ∧ i ≠ m ∧ u.heap[m]? = some (.map es ck) ∧ MiE kd vc l es.toList ∧ Brn es.toList ck ∧ u.heap[i]? = some (.mapIter (some m) since (seen.push e.born) ck) ∧
  (∀ e ∈ es.toList, e.born < since) ∧ since ≤ ck ∧ MiE kd vc left (leftOf es (seen.push e.born)).toList ∧ e ∈ es.toList ∧ e.key = .int kd p.1 ∧ e.val = vc p.2 ∧ ∀ k, C k ↔ k = m ∨ k = i
 st := fun ⟨i, es, ck, since, seen, e, h1, h2, h3, h4, h5, h6, h7, h8, h9, h10, h11, h12, hC⟩ _ _ _ hk => ⟨i, es, ck, since, seen, e, h1, h2, (hk m ((hC m).2 (.inl rfl))).trans h3, h4, h5, (hk i ((hC i).2 (.inr rfl))).trans h6, h7, h8, h9, h10, h11, h12, hC⟩
theorem z1s {V : Type} {m : Nat} {kd : IntKind} {vc : V → Value} {l left : List (Int × V)} {p : Int × V} {B : Heap} : ∀ v H u C, B.Le H → (z30 m kd vc l left p).P v H u C → (zyi m kd vc l left).P v H u C :=
 fun _ _ _ _ _ ⟨i, es, ck, since, seen, e, h1, h2, h3, h4, h5, h6, h7, h8, h9, _, _, _, hC⟩ => ⟨i, es, ck, since, seen.push e.born, ck, h1, h2, h3, h4, h5, h6, h7, h8, h8, h9, hC⟩
theorem zxc {es : Array MapEntry} {seen : Array Nat} {j : Nat} {e : MapEntry} (h : (leftOf es seen)[j]? = some e) : e ∈ es.toList := by
 have h1 : e ∈ leftOf es seen := Array.mem_of_getElem? h
 unfold leftOf at h1
 rw [Array.mem_filter] at h1
 exact Array.mem_toList_iff.2 h1.1
theorem zvm {es : List MapEntry} (hn : (es.map (·.born)).Nodup) {e : MapEntry} (he : e ∈ es) : es.find? (fun x => x.born == e.born) = some e := by
 induction es with
 | nil => cases he
 | cons x es ih =>
  rw [List.map_cons, List.nodup_cons] at hn
  rw [List.find?_cons]
  rcases List.mem_cons.1 he with h | h
  ·subst h; simp
  ·have hne : x.born ≠ e.born := fun h2 => hn.1 (h2 ▸ List.mem_map_of_mem (f := (·.born)) h)
   have : (x.born == e.born) = false := by simpa using hne
   rw [this]
   exact ih hn.2 h
section
variable {P : Program} {F : Fr} {B : Heap} {O : Boxes} {n : Nat} {ops : Array Oper} {κ : Kap} {d : Nat} {ty : TypeId} {pos : String} {aft : Array Edge} {g : Option (Nat × Bool)} {a : Act} {u : World} {H : Heap} {os : List Oper} {Q : Exit → Act → World → Prop}
variable {Y : Type} {kd : IntKind} {vc : Y → Value} {l left : List (Int × Y)}
theorem zwe {q m d : Nat} {o : Oper} (ho : o = ⟨some d, .next (.tmp q) false, ty, pos, aft, g⟩) (hq : κ q = some (.own (zyi m kd vc l left))) (hl : left ≠ []) (hn : Nat.blt d n = true) (hdq : Nat.beq q d = false) (hg : gK ops κ o = some true)
  (h : ∀ (j : Nat) (p : Int × Y), left[j]? = some p → VO P F B n O ops (upd (upd κ q (.own (z30 m kd vc l (left.eraseIdx j) p))) d (.is (.tuple #[.bool true, .int kd p.1, vc p.2]))) os Q) : VO P F B n O ops κ (o :: os) Q := fun a u hh => by
 subst ho
 obtain ⟨H, fp, hh⟩ := hh
 obtain ⟨⟨i, es, ck, since, seen, last, h1, h2, h3, h4, h5, h6, h7, h8, h9, h10, hC⟩, hM⟩ := hh.slot q _ hq
 show After P ops _ _ a u
 unfold After
 rw [if_pos (zaf hh (fun _ _ => rfl) hg)]
 rcases znj (P := P) (ty := ty) h3 h6 h7 h8 with ⟨hz, _⟩ | ⟨j, e, he, u1, hu1, hr⟩
 ·exfalso
  have := congrArg List.length h10
  simp [hz] at this
  exact hl (List.eq_nil_of_length_eq_zero this.symm)
 ·have hrun : (execOp a.eval ⟨some d, .next (.tmp q) false, ty, pos, aft, g⟩).run P u = .ok (.value (.tuple #[.bool true, e.key, e.val])) (u1.putObj i (.mapIter (some m) since (seen.push e.born) ck)) := by
   simp only [execOp, h1, Sem.run_bind, hr, Result.andThen_ok]
   rfl
  rw [hrun]
  simp only [Upon]
  obtain ⟨p, hp, hk1, hv1⟩ := z2i h10 (by rw [Array.getElem?_toList]; exact he)
  rw [hk1, hv1]
  have him := hM i ((hC i).2 (.inr rfl))
  have hsub : H.Le (Go.V.hp u1) := by rcases hu1 with rfl | rfl <;> exact hh.sub
  have hgr : Grow (fp q) u H (u1.putObj i (.mapIter (some m) since (seen.push e.born) ck)) H := by
   have g1 := zkd (u := u1) (L := fp q) (o := .mapIter (some m) since (seen.push e.born) ck) hsub ((hC i).2 (.inr rfl)) him.2.1
   rcases hu1 with rfl | rfl
   ·exact g1
   ·exact ⟨⟨g1.keep.os, g1.keep.tape, g1.keep.output, g1.keep.size, g1.keep.block, Nat.le_trans (Nat.le_succ _) g1.keep.dr⟩, g1.sub, g1.le, g1.fresh⟩
  have hmm : u1.heap[m]? = some (.map es ck) := by rcases hu1 with rfl | rfl <;> exact h3
  have hsz : i < u1.heap.size := by rcases hu1 with rfl | rfl <;> exact him.1
  have h5' := hh.usePut (d := q) (a' := a) (r' := z30 m kd vc l (left.eraseIdx j) p) (C := fun k => k = m ∨ k = i) hq hgr rfl rfl (fun _ _ => rfl)
   ⟨i, es, ck, since, seen, e, h1, h2, by rw [World.putObj_heap_other (Ne.symm h2)]; exact hmm, h4, h5, World.putObj_heap_same hsz, h7, h9, by rw [zsd h5 he]; exact zn5 h10 j, zxc he, hk1, hv1, fun _ => Iff.rfl⟩
   (fun k hk => by
    have hkC : fp q k := (hC k).2 hk
    refine ⟨.inl hkC, ?_, (hM k hkC).2.1⟩
    rw [World.putObj_size]
    rcases hu1 with rfl | rfl <;> exact (hM k hkC).1)
  rw [zbc] at h5'
  exact h j p hp _ _ ⟨H, _, h5'.put (k := .is _) (zk hn) trivial rfl⟩
theorem zur {q m : Nat} {p : Int × Y} (hq : κ q = some (.own (z30 m kd vc l left p))) (hn : Nat.blt d n = true) (hg : gK ops κ ⟨some d, .entry (.tmp q), ty, pos, aft, g⟩ = some true) :
  StepOK P F B n ops O κ ⟨some d, .entry (.tmp q), ty, pos, aft, g⟩ d (.is (.tuple #[.int kd p.1, vc p.2])) :=
 zas rfl (zk hn) hg trivial fun a u H fp e => by
  obtain ⟨⟨i, es, ck, since, seen, x, h1, h2, h3, h4, h5, h6, h7, h8, h9, h10, h11, h12, hC⟩, hM⟩ := e.own_ q _ (by simp [Op.operands]) hq
  refine ⟨_, ?_, rfl⟩
  have hf := zvm h5.nd h10
  have hf2 : es.find? (fun y => y.born == x.born) = some x := by rw [← Array.find?_toList]; exact hf
  simp only [execOp, h1, Instr.entry, getObj, Sem.run_bind, Sem.run, h6, Result.andThen, Array.back?_push, h3, bne_self_eq_false, Bool.false_eq_true, if_false, hf2, h11, h12]
  rfl
theorem zr2 {x y z : Operand} {q b : Nat} {t kt et : TypeId} (k : Int) (v : Y) {zv : Value} {l' : List (Int × Y)} (ht : P.underlying t = some (.map kt et)) (hkt : P.underlying kt = some (.int kd))
  (hx : evK κ x = some (.map (some b))) (hq : κ q = some (.own (zkw b kd vc l))) (hy : evK κ y = some (.int kd k)) (hz : evK κ z = some zv) (hzv : vc v = zv) (hg : gK ops κ ⟨none, .insert t x y z, ty, pos, aft, g⟩ = some true)
  (hl' : zqn k v l = l') :
  zfx P F B n ops O κ ⟨none, .insert t x y z, ty, pos, aft, g⟩ q (.own (zkw b kd vc l')) := by
 rintro κ' a u hlk hqk ⟨H, fp, hh⟩
 subst hl' hzv
 unfold After
 rw [if_pos (zaf hh hlk hg)]
 have e := hh.env hlk
 have h1 := e.is_ x _ (by simp [Op.operands]) hx
 have h2 := e.is_ y _ (by simp [Op.operands]) hy
 have h3 := e.is_ z _ (by simp [Op.operands]) hz
 have hqs := hqk.trans hq
 obtain ⟨⟨⟨es, ck, hb, he, hbn⟩, hC⟩, hM⟩ := hh.slot q _ hqs
 obtain ⟨es', ck', hr, he', hb'⟩ := zgb ht hkt hb he hbn k v
 have hrun : (execOp a.eval ⟨none, .insert t x y z, ty, pos, aft, g⟩).run P u = .ok .skip (u.putObj b (.map es' ck')) := by
  simp only [execOp, h1, h2, h3, Sem.run_bind, hr, Result.andThen_ok]
  rfl
 rw [hrun]
 simp only [Upon, Act.put]
 exact ⟨H, _, hh.turnMap hqs he' hb'⟩
end
end Go.V
set_option maxRecDepth 20000
namespace Go.V.So
open Go.Proofs Go.RowKit Go.V Go.Sort
theorem _root_.Go.V.Z243 {A B : Prop} (h : B) (t : Wr B → A := by intro h; refine Z143 ?_; refine Z59 ?_; exact h.h) : A := t ⟨h⟩
theorem _root_.Go.V.Z273 {A B : Prop} (h : B) (t : Wr B → A := by intro h; refine Z207 ?_; refine Z164 ?_; exact h.h) : A := t ⟨h⟩
abbrev lt : Int → Int → Bool := ltInt
abbrev tyU : TypeId := 49
attribute [local irreducible] V N X VO Par StepOK Has Ret RetL RetO zb3 zdz Src
theorem isnanU (a : Int) {w : World} {B : Heap} (hB : B.Le (hp w)) : Ret Tryz.prog 153 [.int .u64 a] w B (fun v _ => v = .bool false) := by
 refine yi Tryz.func153 rfl Tryz.ntmps153 (Nat.le_of_ble_eq_true rfl) hB ?_
 refine Z184 ?_; refine Z138 ?_; refine Z22 ?_; refine Z136 ?_
 refine yf L (rs := [.tmp 2]) rfl (fun _ _ h => h) Since.refl fun u H hH hle => ?_
 rfl
theorem z4f (a b : Int) {w : World} {B : Heap} (hB : B.Le (hp w)) : Ret Tryz.prog 107 [.int .u64 a, .int .u64 b] w B (fun v _ => v = .bool (lt a b)) := by
 unfold lt ltInt
 refine yi Tryz.func107 rfl Tryz.ntmps107 (Nat.le_of_ble_eq_true rfl) hB ?_
 by_cases h : a < b
 ·rw [decide_eq_true h]
  refine Z316 ?_; refine z7 (zw L rfl rfl (zk rfl) rfl rfl rfl (fun u H hH _ _ => isnanU _ hH)) rfl ?_; refine Z254 ?_; refine Z172 ?_; refine Z8 ?_; refine Z7 ?_; refine Z136 ?_
  refine yf L (rs := [.tmp 4]) rfl (fun _ _ h => h) Since.refl fun u H hH hle => ?_
  rfl
 ·rw [decide_eq_false h]
  refine Z316 ?_; refine z7 (zw L rfl rfl (zk rfl) rfl rfl rfl (fun u H hH _ _ => isnanU _ hH)) rfl ?_; refine Z254 ?_; refine Z172 ?_; refine Z11 ?_; refine Z7 ?_; refine Z136 ?_
  refine yf L (rs := [.tmp 4]) rfl (fun _ _ h => h) Since.refl fun u H hH hle => ?_
  rfl
theorem zbb {a b : Int} {f : Bool} (h : lt a b = f) {w : World} {B : Heap} (hB : B.Le (hp w)) : Ret Tryz.prog 107 [.int .u64 a, .int .u64 b] w B (fun v _ => v = .bool f) := h ▸ z4f a b hB
set_option maxHeartbeats 1000000 in
set_option maxRecDepth 20000 in
theorem ins_ret {d : Array Int} {rest : List Value} {b m cap a e : Nat} (hab : a ≤ e) (he : e ≤ d.size) (hm : d.size = m) (hm1 : m ≤ 100000) {w : World} {B : Heap} {C : Nat → Prop} (hB : B.Le (hp w))
  (hr : (zab b (uC d ++ rest) tyU).P B w C) (hC : ∀ k, C k → k < w.heap.size ∧ B k = none) :
  zb3 Tryz.prog 101 [.slice (some ⟨b, 0, none⟩) m cap, .int .i64 a, .int .i64 e] w B C (zab b (uC (insertionSort lt d a e) ++ rest) tyU) := by
 unfold zb3
 refine zap 900 (zab b (uC d ++ rest) tyU) Tryz.func101 rfl Tryz.ntmps101 (Nat.le_of_ble_eq_true rfl) hB hr hC ?_
 rw [za1]
 have hw0 : IntKind.i64.wrap ((a : Int) + 1) = ((a + 1 : Nat) : Int) := zaa (by omega) (by omega)
 refine Z144 ?_; refine Z1 ?_; refine Z20 ?_; refine Z197 ?_
 refine zai (fun s : Nat × Array Int => [(0, .is (.slice (some ⟨b, 0, none⟩) m cap)), (1, .is (.int .i64 a)), (2, .is (.int .i64 e)), (6, .is (.int .i64 s.1)), (900, .own (zaj b (uC s.2 ++ rest) tyU))]) (fun s => s.1 ≤ e + 1 ∧ a < s.1 ∧ s.2.size = m ∧ insOuter lt a e s.1 s.2 = insertionSort lt d a e) (fun s => e + 1 - s.1) (a + 1, d) ⟨by omega, by omega, hm, rfl⟩ ⟨rfl, rfl, rfl, rfl, rfl, trivial⟩ ?_
 rintro ⟨i, D⟩ ⟨hi, hai, hD, hO⟩
 dsimp only at hi hai hD hO ⊢
 by_cases hlt : i < e
 ·rw [insOuter, if_pos hlt] at hO
  refine Z137 ?_; refine Z19 ?_; refine Z138 ?_; refine Z170 ?_; refine Z166 ?_; refine Z173 ?_; refine Z197 ?_
  refine zai (fun t : Nat × Array Int => [(0, .is (.slice (some ⟨b, 0, none⟩) m cap)), (1, .is (.int .i64 a)), (2, .is (.int .i64 e)), (6, .is (.int .i64 i)), (7, .is (.int .i64 t.1)), (900, .own (zaj b (uC t.2 ++ rest) tyU))]) (fun t => t.1 ≤ i ∧ t.2.size = m ∧ insInner lt a t.1 t.2 = insInner lt a i D) (fun t => t.1) (i, D) ⟨Nat.le_refl _, hD, rfl⟩ ⟨rfl, rfl, rfl, rfl, rfl, rfl, trivial⟩ ?_
  rintro ⟨j, E⟩ ⟨hj, hE, hI⟩
  dsimp only at hj hE hI ⊢
  rcases j with _ | j
  ·rw [insInner] at hI
   rw [hI]
   refine Z137 ?_; refine Z98 ?_; refine Z143 ?_; refine Z92 ?_; refine Z303 ?_; refine Z273 ?_; refine Z161 ?_; refine Z169 ?_; refine Z190 ?_
   exact yk (x := (i, D)) (i + 1, insInner lt a i D) ⟨by dsimp only; omega, by dsimp only; omega, by dsimp only; rw [← hI]; exact hE, hO⟩ (by dsimp only; omega) ⟨rfl, rfl, rfl, rfl, rfl, trivial⟩
  ·by_cases hja : a < j + 1
   ·have hw1 : IntKind.i64.wrap (((j + 1 : Nat) : Int) - 1) = (j : Int) := zaa (by omega) (by omega) |>.trans (by omega)
    obtain ⟨r1, q1⟩ := zcy (rest := rest) (show j + 1 < E.size by omega) (0 + (j + 1) * 1) rfl
    obtain ⟨r2, q2⟩ := zcy (rest := rest) (show j < E.size by omega) (0 + j * 1) rfl
    cases hc : lt E[j + 1]! E[j]! with
    | true =>
     rw [insInner, if_pos (by rw [hc]; simp; omega)] at hI
     have s1 := zb9 (rest := rest) E[j]! (show j + 1 < E.size by omega) (0 + (j + 1) * 1) rfl
     have b1 := zca (rest := rest) (show j + 1 < E.size by omega) (0 + (j + 1) * 1) rfl
     have hz : j < (E.setIfInBounds (j + 1) E[j]!).size := by rw [Array.size_setIfInBounds]; omega
     have s2 := zb9 (rest := rest) E[j + 1]! hz (0 + j * 1) rfl
     have b2 := zca (rest := rest) hz (0 + j * 1) rfl
     rw [zc9] at s2
     refine Z137 ?_; refine qg (id := 4) [(200023, [900]), (200028, [900])] mixed (by kernel_rfl) ?_; refine Z143 ?_; refine Z89 ?_; refine Z177 ?_; refine z8 (qh L _ rfl rfl rfl rfl rfl rfl rfl (by omega)) rfl ?_; refine qv (qu L (q := 900) rfl rfl rfl rfl rfl q1) rfl rfl ?_; refine Z243 ?_; refine z8 (qh L _ rfl rfl rfl rfl rfl rfl rfl (by omega)) rfl ?_; refine qv (qu L (q := 900) rfl rfl rfl rfl rfl q2) rfl rfl ?_; refine z8 (zw L rfl rfl (zk rfl) rfl rfl rfl (fun u H hH _ _ => zbb hc hH)) rfl ?_; refine Z268 ?_; refine Z232 ?_; refine qg (id := 6) [(200042, [900]), (200046, [900]), (100047, [900]), (100048, [900])] mixed (by kernel_rfl) ?_; refine Z143 ?_; refine Z243 ?_; refine Z243 ?_; refine z8 (qh L _ rfl rfl rfl rfl rfl rfl rfl (by omega)) rfl ?_; refine qv (qu L (q := 900) rfl rfl rfl rfl rfl q2) rfl rfl ?_; refine Z143 ?_; refine z8 (qh L _ rfl rfl rfl rfl rfl rfl rfl (by omega)) rfl ?_; refine qv (qu L (q := 900) rfl rfl rfl rfl rfl q1) rfl rfl ?_; refine z8 (qh L _ rfl rfl rfl rfl rfl rfl rfl (by omega)) rfl ?_; refine x5 (yy L (q := 900) rfl rfl rfl rfl rfl rfl b1 rfl s1) rfl ?_; refine z8 (qh L _ rfl rfl rfl rfl rfl rfl rfl (by omega)) rfl ?_; refine x5 (yy L (q := 900) rfl rfl rfl rfl rfl rfl b2 rfl s2) rfl ?_; refine Z264 ?_; refine Z176 ?_; refine Z26 ?_; refine Z150 ?_
     exact yk (x := (j + 1, E)) (j, swp E (j + 1) j) ⟨by dsimp only; omega, by dsimp only; rw [zbi]; exact hE, hI⟩ (by dsimp only; omega) ⟨rfl, rfl, rfl, rfl, rfl, rfl, trivial⟩
    | false =>
     rw [insInner, if_neg (by rw [hc]; simp)] at hI
     refine Z137 ?_; refine qg (id := 4) [(200023, [900]), (200028, [900])] mixed (by kernel_rfl) ?_; refine Z143 ?_; refine Z89 ?_; refine Z177 ?_; refine z8 (qh L _ rfl rfl rfl rfl rfl rfl rfl (by omega)) rfl ?_; refine qv (qu L (q := 900) rfl rfl rfl rfl rfl q1) rfl rfl ?_; refine Z243 ?_; refine z8 (qh L _ rfl rfl rfl rfl rfl rfl rfl (by omega)) rfl ?_; refine qv (qu L (q := 900) rfl rfl rfl rfl rfl q2) rfl rfl ?_; refine z8 (zw L rfl rfl (zk rfl) rfl rfl rfl (fun u H hH _ _ => zbb hc hH)) rfl ?_; refine Z273 ?_; refine Z161 ?_
     rw [hI]
     refine Z169 ?_; refine Z190 ?_
     exact yk (x := (i, D)) (i + 1, insInner lt a i D) ⟨by dsimp only; omega, by dsimp only; omega, by dsimp only; rw [← hI]; exact hE, hO⟩ (by dsimp only; omega) ⟨rfl, rfl, rfl, rfl, rfl, trivial⟩
   ·rw [insInner, if_neg (by simp; omega)] at hI
    rw [hI]
    refine Z137 ?_; refine Z98 ?_; refine Z143 ?_; refine Z92 ?_; refine Z303 ?_; refine Z273 ?_; refine Z161 ?_; refine Z169 ?_; refine Z190 ?_
    exact yk (x := (i, D)) (i + 1, insInner lt a i D) ⟨by dsimp only; omega, by dsimp only; omega, by dsimp only; rw [← hI]; exact hE, hO⟩ (by dsimp only; omega) ⟨rfl, rfl, rfl, rfl, rfl, trivial⟩
 ·rw [insOuter, if_neg hlt] at hO
  subst hO
  refine Z137 ?_; refine Z19 ?_; refine Z272 ?_; refine Z174 ?_
  exact zba L 900 (r := zab b _ tyU) rfl (fun _ _ h => h) Since.refl rfl rfl
end Go.V.So
set_option maxRecDepth 20000
namespace Go.V.So
open Go.Proofs Go.RowKit Go.V Go.Sort
theorem _root_.Go.V.Z53 {A B : Prop} (h : B) (t : Wr B → A := by intro h; refine z7 (zul rfl rfl rfl rfl (zaa (by omega) (by omega))) rfl ?_; exact h.h) : A := t ⟨h⟩
theorem _root_.Go.V.Z112 {A B : Prop} (h : B) (t : Wr B → A := by intro h; refine qg (id := 5) [(200044, [900]), (200050, [900])] mixed (by kernel_rfl) ?_; exact h.h) : A := t ⟨h⟩
theorem _root_.Go.V.Z122 {A B : Prop} (h : B) (t : Wr B → A := by intro h; refine qg (id := 6) [(200066, [900]), (200072, [900]), (100073, [900]), (100074, [900])] mixed (by kernel_rfl) ?_; exact h.h) : A := t ⟨h⟩
theorem _root_.Go.V.Z128 {A B : Prop} (h : B) (t : Wr B → A := by intro h; refine qg (id := 3) [(200027, [900]), (200034, [900])] mixed (by kernel_rfl) ?_; exact h.h) : A := t ⟨h⟩
theorem _root_.Go.V.Z204 {A B : Prop} (h : B) (t : Wr B → A := by intro h; refine Z177 ?_; refine Z33 ?_; exact h.h) : A := t ⟨h⟩
theorem _root_.Go.V.Z208 {A B : Prop} (h : B) (t : Wr B → A := by intro h; refine Z138 ?_; refine Z26 ?_; exact h.h) : A := t ⟨h⟩
theorem _root_.Go.V.Z225 {A B : Prop} (h : B) (t : Wr B → A := by intro h; refine Z53 ?_; refine Z20 ?_; exact h.h) : A := t ⟨h⟩
theorem _root_.Go.V.Z227 {A B : Prop} (h : B) (t : Wr B → A := by intro h; refine Z1 ?_; refine Z26 ?_; exact h.h) : A := t ⟨h⟩
theorem _root_.Go.V.Z295 {A B : Prop} (h : B) (t : Wr B → A := by intro h; refine Z147 ?_; refine zh ?_; exact h.h) : A := t ⟨h⟩
theorem _root_.Go.V.Z308 {A B : Prop} (h : B) (t : Wr B → A := by intro h; refine Z143 ?_; refine Z143 ?_; exact h.h) : A := t ⟨h⟩
theorem _root_.Go.V.Z332 {A B : Prop} (h : B) (t : Wr B → A := by intro h; refine Z145 ?_; refine Z173 ?_; exact h.h) : A := t ⟨h⟩
theorem _root_.Go.V.Z351 {A B : Prop} (h : B) (t : Wr B → A := by intro h; refine Z149 ?_; refine Z304 ?_; exact h.h) : A := t ⟨h⟩
theorem _root_.Go.V.Z402 {A B : Prop} (h : B) (t : Wr B → A := by intro h; refine Z170 ?_; refine Z226 ?_; exact h.h) : A := t ⟨h⟩
attribute [local irreducible] V N X VO Par StepOK Has Ret RetL RetO zb3 zdz Src
set_option maxHeartbeats 1000000 in
set_option maxRecDepth 20000 in
theorem rev_ret {d : Array Int} {rest : List Value} {b m cap a e : Nat} (hab : a < e) (he : e ≤ d.size) (hm : d.size = m) (hm1 : m ≤ 100000) {w : World} {B : Heap} {C : Nat → Prop} (hB : B.Le (hp w))
  (hr : (zab b (uC d ++ rest) tyU).P B w C) (hC : ∀ k, C k → k < w.heap.size ∧ B k = none) :
  zb3 Tryz.prog 105 [.slice (some ⟨b, 0, none⟩) m cap, .int .i64 a, .int .i64 e] w B C (zab b (uC (reverseRange d a e) ++ rest) tyU) := by
 unfold zb3
 refine zap 900 (zab b (uC d ++ rest) tyU) Tryz.func105 rfl Tryz.ntmps105 (Nat.le_of_ble_eq_true rfl) hB hr hC ?_
 rw [za1]
 have hw0 : IntKind.i64.wrap ((e : Int) - 1) = ((e - 1 : Nat) : Int) := zaa (by omega) (by omega) |>.trans (by omega)
 refine Z144 ?_; refine Z1 ?_; refine Z160 ?_; refine Z227 ?_; refine Z197 ?_
 refine zai (fun s : (Nat × Nat) × Array Int => [(0, .is (.slice (some ⟨b, 0, none⟩) m cap)), (6, .is (.int .i64 s.1.1)), (7, .is (.int .i64 s.1.2)), (900, .own (zaj b (uC s.2 ++ rest) tyU))]) (fun s => s.1.1 ≤ m ∧ s.1.2 < m ∧ s.2.size = m ∧ reverseLoop s.1.1 s.1.2 s.2 = reverseRange d a e) (fun s => s.1.2 - s.1.1) ((a, e - 1), d) ⟨by dsimp only; omega, by dsimp only; omega, hm, rfl⟩ ⟨rfl, rfl, rfl, rfl, trivial⟩ ?_
 rintro ⟨⟨i, j⟩, E⟩ ⟨hi, hj, hE, hO⟩
 dsimp only at hi hj hE hO ⊢
 by_cases hlt : i < j
 ·rw [reverseLoop, if_pos hlt] at hO
  have hw1 : IntKind.i64.wrap ((i : Int) + 1) = ((i + 1 : Nat) : Int) := zaa (by omega) (by omega)
  have hw2 : IntKind.i64.wrap ((j : Int) - 1) = ((j - 1 : Nat) : Int) := zaa (by omega) (by omega) |>.trans (by omega)
  obtain ⟨_, qj⟩ := zcy (rest := rest) (show j < E.size by omega) (0 + (j) * 1) rfl
  obtain ⟨_, qi⟩ := zcy (rest := rest) (show i < E.size by omega) (0 + (i) * 1) rfl
  have s1 := zb9 (rest := rest) E[j]! (show i < E.size by omega) (0 + (i) * 1) rfl
  have b1 := zca (rest := rest) (show i < E.size by omega) (0 + (i) * 1) rfl
  have hz : j < (E.setIfInBounds (i) E[j]!).size := by rw [Array.size_setIfInBounds]; omega
  have s2 := zb9 (rest := rest) E[i]! hz (0 + (j) * 1) rfl
  have b2 := zca (rest := rest) hz (0 + (j) * 1) rfl
  rw [zc9] at s2
  refine Z314 ?_; refine Z402 ?_; refine qg (id := 3) [(200021, [900]), (200025, [900]), (100026, [900]), (100027, [900])] mixed (by kernel_rfl) ?_; refine Z308 ?_; refine Z143 ?_; refine z8 (qh L _ rfl rfl rfl rfl rfl rfl rfl (by omega)) rfl ?_; refine qv (qu L (q := 900) rfl rfl rfl rfl rfl qj) rfl rfl ?_; refine Z143 ?_; refine z8 (qh L _ rfl rfl rfl rfl rfl rfl rfl (by omega)) rfl ?_; refine qv (qu L (q := 900) rfl rfl rfl rfl rfl qi) rfl rfl ?_; refine z8 (qh L _ rfl rfl rfl rfl rfl rfl rfl (by omega)) rfl ?_; refine x5 (yy L (q := 900) rfl rfl rfl rfl rfl rfl b1 rfl s1) rfl ?_; refine z8 (qh L _ rfl rfl rfl rfl rfl rfl rfl (by omega)) rfl ?_; refine x5 (yy L (q := 900) rfl rfl rfl rfl rfl rfl b2 rfl s2) rfl ?_; refine Z295 ?_; refine Z156 ?_; refine Z20 ?_; refine Z136 ?_; refine Z176 ?_; refine Z26 ?_; refine Z246 ?_
  exact yk (x := ((i, j), E)) ((i + 1, j - 1), swp E i j) ⟨by dsimp only; omega, by dsimp only; omega, by dsimp only; rw [zbi]; exact hE, hO⟩ (by dsimp only; omega) ⟨rfl, rfl, rfl, rfl, trivial⟩
 ·rw [reverseLoop, if_neg hlt] at hO
  subst hO
  refine Z314 ?_; refine Z11 ?_; refine Z174 ?_
  exact zba L 900 (r := zab b _ tyU) rfl (fun _ _ h => h) Since.refl rfl rfl
set_option maxHeartbeats 1000000 in
set_option maxRecDepth 20000 in
theorem zqb {d : Array Int} {rest : List Value} {b m cap lo hi first : Nat} (hlo : lo ≤ hi) (hf : first + hi ≤ d.size) (hm : d.size = m) (hm1 : m ≤ 100000) {w : World} {B : Heap} {C : Nat → Prop} (hB : B.Le (hp w))
  (hr : (zab b (uC d ++ rest) tyU).P B w C) (hC : ∀ k, C k → k < w.heap.size ∧ B k = none) :
  zb3 Tryz.prog 148 [.slice (some ⟨b, 0, none⟩) m cap, .int .i64 lo, .int .i64 hi, .int .i64 first] w B C (zab b (uC (siftDown lt hi first lo d) ++ rest) tyU) := by
 unfold zb3
 refine zap 900 (zab b (uC d ++ rest) tyU) Tryz.func148 rfl Tryz.ntmps148 (Nat.le_of_ble_eq_true rfl) hB hr hC ?_
 rw [za1]
 refine Z144 ?_; refine Z1 ?_; refine Z197 ?_
 refine zai (fun s : Nat × Array Int => [(0, .is (.slice (some ⟨b, 0, none⟩) m cap)), (2, .is (.int .i64 hi)), (3, .is (.int .i64 first)), (8, .is (.int .i64 s.1)), (900, .own (zaj b (uC s.2 ++ rest) tyU))]) (fun s => s.1 ≤ hi ∧ s.2.size = m ∧ siftDown lt hi first s.1 s.2 = siftDown lt hi first lo d) (fun s => hi - s.1) (lo, d) ⟨hlo, hm, rfl⟩ ⟨rfl, rfl, rfl, rfl, rfl, trivial⟩ ?_
 rintro ⟨r, E⟩ ⟨hr0, hE, hO⟩
 dsimp only at hr0 hE hO ⊢
 have hw1 : IntKind.i64.wrap (2 * (r : Int)) = ((2 * r : Nat) : Int) := zaa (by omega) (by omega) |>.trans (by omega)
 have hw2 : IntKind.i64.wrap (((2 * r : Nat) : Int) + 1) = ((2 * r + 1 : Nat) : Int) := zaa (by omega) (by omega)
 by_cases hend : hi ≤ 2 * r + 1
 ·rw [siftDown, dif_pos (by omega)] at hO
  subst hO
  refine Z351 ?_; refine Z225 ?_; refine Z145 ?_; refine Z235 ?_; refine Z253 ?_; refine Z162 ?_; refine zko rfl ?_; refine y9 ?_; refine yv ?_
  exact zba L 900 (r := zab b _ tyU) rfl (fun _ _ h => h) Since.refl rfl rfl
 ·rw [siftDown, dif_neg (by omega)] at hO
  have hw3 : IntKind.i64.wrap (((2 * r + 1 : Nat) : Int) + 1) = ((2 * r + 2 : Nat) : Int) := zaa (by omega) (by omega)
  have hw4 : IntKind.i64.wrap ((first : Int) + ((2 * r + 1 : Nat) : Int)) = ((first + (2 * r + 1) : Nat) : Int) := zaa (by omega) (by omega)
  have hw5 : IntKind.i64.wrap (((first + (2 * r + 1) : Nat) : Int) + 1) = ((first + (2 * r + 2) : Nat) : Int) := zaa (by omega) (by omega)
  have hw6 : IntKind.i64.wrap ((first : Int) + (r : Int)) = ((first + r : Nat) : Int) := zaa (by omega) (by omega)
  have hw7 : IntKind.i64.wrap ((first : Int) + ((2 * r + 2 : Nat) : Int)) = ((first + (2 * r + 2) : Nat) : Int) := zaa (by omega) (by omega)
  obtain ⟨_, qr⟩ := zcy (rest := rest) (show first + r < E.size by omega) (0 + (first + r) * 1) rfl
  by_cases h2 : 2 * r + 2 < hi
  ·obtain ⟨_, q1⟩ := zcy (rest := rest) (show first + (2 * r + 1) < E.size by omega) (0 + (first + (2 * r + 1)) * 1) rfl
   obtain ⟨_, q2⟩ := zcy (rest := rest) (show first + (2 * r + 2) < E.size by omega) (0 + (first + (2 * r + 2)) * 1) rfl
   have e2 : first + (2 * r + 1) + 1 = first + (2 * r + 2) := by omega
   rw [e2] at hO
   cases hc : lt E[first + (2 * r + 1)]! E[first + (2 * r + 2)]! with
   | true =>
    rw [if_pos (by rw [hc]; simp; omega)] at hO
    have qc := q2
    cases hc2 : lt E[first + r]! E[first + (2 * r + 2)]! with
    | false =>
     rw [hc2] at hO
     simp only [Bool.not_false, if_true] at hO
     subst hO
     refine Z351 ?_; refine Z225 ?_; refine Z145 ?_; refine Z235 ?_; refine Z46 ?_; refine Z165 ?_; refine Z128 ?_; refine Z3 ?_; refine Z33 ?_; refine Z3 ?_; refine Z75 ?_; refine Z308 ?_; refine Z33 ?_; refine z8 (qh L _ rfl rfl rfl rfl rfl rfl rfl (by omega)) rfl ?_; refine qv (qu L (q := 900) rfl rfl rfl rfl rfl q1) rfl rfl ?_; refine Z204 ?_; refine Z33 ?_; refine z8 (qh L _ rfl rfl rfl rfl rfl rfl rfl (by omega)) rfl ?_; refine qv (qu L (q := 900) rfl rfl rfl rfl rfl q2) rfl rfl ?_; refine z8 (zw L rfl rfl (zk rfl) rfl rfl rfl (fun u H hH _ _ => zbb hc hH)) rfl ?_; refine Z268 ?_; refine Z156 ?_; refine Z20 ?_; refine Z145 ?_; refine Z112 ?_; refine Z204 ?_; refine z8 (qh L _ rfl rfl rfl rfl rfl rfl rfl (by omega)) rfl ?_; refine qv (qu L (q := 900) rfl rfl rfl rfl rfl qr) rfl rfl ?_; refine Z204 ?_; refine z8 (qh L _ rfl rfl rfl rfl rfl rfl rfl (by omega)) rfl ?_; refine qv (qu L (q := 900) rfl rfl rfl rfl rfl qc) rfl rfl ?_; refine z8 (zw L rfl rfl (zk rfl) rfl rfl rfl (fun u H hH _ _ => zbb hc2 hH)) rfl ?_; refine Z64 ?_; refine Z211 ?_
     exact zbg L 900 (r := zab b _ tyU) rfl (fun _ _ h => h) Since.refl rfl rfl
    | true =>
     rw [hc2] at hO
     simp only [Bool.not_true, Bool.false_eq_true, if_false] at hO
     rw [dif_pos (by omega)] at hO
     obtain ⟨_, qj⟩ := zcy (rest := rest) (show first + (2 * r + 2) < E.size by omega) (0 + (first + (2 * r + 2)) * 1) rfl
     obtain ⟨_, qi⟩ := zcy (rest := rest) (show first + r < E.size by omega) (0 + (first + r) * 1) rfl
     have s1 := zb9 (rest := rest) E[first + (2 * r + 2)]! (show first + r < E.size by omega) (0 + (first + r) * 1) rfl
     have b1 := zca (rest := rest) (show first + r < E.size by omega) (0 + (first + r) * 1) rfl
     have hz : first + (2 * r + 2) < (E.setIfInBounds (first + r) E[first + (2 * r + 2)]!).size := by rw [Array.size_setIfInBounds]; omega
     have s2 := zb9 (rest := rest) E[first + r]! hz (0 + (first + (2 * r + 2)) * 1) rfl
     have b2 := zca (rest := rest) hz (0 + (first + (2 * r + 2)) * 1) rfl
     rw [zc9] at s2
     refine Z351 ?_; refine Z225 ?_; refine Z145 ?_; refine Z235 ?_; refine Z46 ?_; refine Z165 ?_; refine Z128 ?_; refine Z3 ?_; refine Z33 ?_; refine Z3 ?_; refine Z75 ?_; refine Z308 ?_; refine Z33 ?_; refine z8 (qh L _ rfl rfl rfl rfl rfl rfl rfl (by omega)) rfl ?_; refine qv (qu L (q := 900) rfl rfl rfl rfl rfl q1) rfl rfl ?_; refine Z204 ?_; refine Z33 ?_; refine z8 (qh L _ rfl rfl rfl rfl rfl rfl rfl (by omega)) rfl ?_; refine qv (qu L (q := 900) rfl rfl rfl rfl rfl q2) rfl rfl ?_; refine z8 (zw L rfl rfl (zk rfl) rfl rfl rfl (fun u H hH _ _ => zbb hc hH)) rfl ?_; refine Z268 ?_; refine Z156 ?_; refine Z20 ?_; refine Z145 ?_; refine Z112 ?_; refine Z204 ?_; refine z8 (qh L _ rfl rfl rfl rfl rfl rfl rfl (by omega)) rfl ?_; refine qv (qu L (q := 900) rfl rfl rfl rfl rfl qr) rfl rfl ?_; refine Z204 ?_; refine z8 (qh L _ rfl rfl rfl rfl rfl rfl rfl (by omega)) rfl ?_; refine qv (qu L (q := 900) rfl rfl rfl rfl rfl qc) rfl rfl ?_; refine z8 (zw L rfl rfl (zk rfl) rfl rfl rfl (fun u H hH _ _ => zbb hc2 hH)) rfl ?_; refine Z64 ?_; refine Z180 ?_; refine Z146 ?_; refine Z122 ?_; refine Z204 ?_; refine Z204 ?_; refine Z204 ?_; refine z8 (qh L _ rfl rfl rfl rfl rfl rfl rfl (by omega)) rfl ?_; refine qv (qu L (q := 900) rfl rfl rfl rfl rfl qj) rfl rfl ?_; refine Z204 ?_; refine z8 (qh L _ rfl rfl rfl rfl rfl rfl rfl (by omega)) rfl ?_; refine qv (qu L (q := 900) rfl rfl rfl rfl rfl qi) rfl rfl ?_; refine z8 (qh L _ rfl rfl rfl rfl rfl rfl rfl (by omega)) rfl ?_; refine x5 (yy L (q := 900) rfl rfl rfl rfl rfl rfl b1 rfl s1) rfl ?_; refine z8 (qh L _ rfl rfl rfl rfl rfl rfl rfl (by omega)) rfl ?_; refine x5 (yy L (q := 900) rfl rfl rfl rfl rfl rfl b2 rfl s2) rfl ?_; refine Z147 ?_; refine Z195 ?_; refine Z246 ?_
     exact yk (x := (r, E)) (2 * r + 2, swp E (first + r) (first + (2 * r + 2))) ⟨by dsimp only; omega, by dsimp only; rw [zbi]; exact hE, hO⟩ (by dsimp only; omega) ⟨rfl, rfl, rfl, rfl, rfl, trivial⟩
   | false =>
    rw [if_neg (by rw [hc]; simp)] at hO
    have qc := q1
    cases hc2 : lt E[first + r]! E[first + (2 * r + 1)]! with
    | false =>
     rw [hc2] at hO
     simp only [Bool.not_false, if_true] at hO
     subst hO
     refine Z351 ?_; refine Z225 ?_; refine Z145 ?_; refine Z235 ?_; refine Z46 ?_; refine Z165 ?_; refine Z128 ?_; refine Z3 ?_; refine Z33 ?_; refine Z3 ?_; refine Z75 ?_; refine Z308 ?_; refine Z33 ?_; refine z8 (qh L _ rfl rfl rfl rfl rfl rfl rfl (by omega)) rfl ?_; refine qv (qu L (q := 900) rfl rfl rfl rfl rfl q1) rfl rfl ?_; refine Z204 ?_; refine Z33 ?_; refine z8 (qh L _ rfl rfl rfl rfl rfl rfl rfl (by omega)) rfl ?_; refine qv (qu L (q := 900) rfl rfl rfl rfl rfl q2) rfl rfl ?_; refine z8 (zw L rfl rfl (zk rfl) rfl rfl rfl (fun u H hH _ _ => zbb hc hH)) rfl ?_; refine Z207 ?_; refine Z140 ?_; refine Z137 ?_; refine Z112 ?_; refine Z204 ?_; refine z8 (qh L _ rfl rfl rfl rfl rfl rfl rfl (by omega)) rfl ?_; refine qv (qu L (q := 900) rfl rfl rfl rfl rfl qr) rfl rfl ?_; refine Z204 ?_; refine z8 (qh L _ rfl rfl rfl rfl rfl rfl rfl (by omega)) rfl ?_; refine qv (qu L (q := 900) rfl rfl rfl rfl rfl qc) rfl rfl ?_; refine z8 (zw L rfl rfl (zk rfl) rfl rfl rfl (fun u H hH _ _ => zbb hc2 hH)) rfl ?_; refine Z64 ?_; refine Z211 ?_
     exact zbg L 900 (r := zab b _ tyU) rfl (fun _ _ h => h) Since.refl rfl rfl
    | true =>
     rw [hc2] at hO
     simp only [Bool.not_true, Bool.false_eq_true, if_false] at hO
     obtain ⟨_, qj⟩ := zcy (rest := rest) (show first + (2 * r + 1) < E.size by omega) (0 + (first + (2 * r + 1)) * 1) rfl
     obtain ⟨_, qi⟩ := zcy (rest := rest) (show first + r < E.size by omega) (0 + (first + r) * 1) rfl
     have s1 := zb9 (rest := rest) E[first + (2 * r + 1)]! (show first + r < E.size by omega) (0 + (first + r) * 1) rfl
     have b1 := zca (rest := rest) (show first + r < E.size by omega) (0 + (first + r) * 1) rfl
     have hz : first + (2 * r + 1) < (E.setIfInBounds (first + r) E[first + (2 * r + 1)]!).size := by rw [Array.size_setIfInBounds]; omega
     have s2 := zb9 (rest := rest) E[first + r]! hz (0 + (first + (2 * r + 1)) * 1) rfl
     have b2 := zca (rest := rest) hz (0 + (first + (2 * r + 1)) * 1) rfl
     rw [zc9] at s2
     refine Z351 ?_; refine Z225 ?_; refine Z145 ?_; refine Z235 ?_; refine Z46 ?_; refine Z165 ?_; refine Z128 ?_; refine Z3 ?_; refine Z33 ?_; refine Z3 ?_; refine Z75 ?_; refine Z308 ?_; refine Z33 ?_; refine z8 (qh L _ rfl rfl rfl rfl rfl rfl rfl (by omega)) rfl ?_; refine qv (qu L (q := 900) rfl rfl rfl rfl rfl q1) rfl rfl ?_; refine Z204 ?_; refine Z33 ?_; refine z8 (qh L _ rfl rfl rfl rfl rfl rfl rfl (by omega)) rfl ?_; refine qv (qu L (q := 900) rfl rfl rfl rfl rfl q2) rfl rfl ?_; refine z8 (zw L rfl rfl (zk rfl) rfl rfl rfl (fun u H hH _ _ => zbb hc hH)) rfl ?_; refine Z207 ?_; refine Z140 ?_; refine Z137 ?_; refine Z112 ?_; refine Z204 ?_; refine z8 (qh L _ rfl rfl rfl rfl rfl rfl rfl (by omega)) rfl ?_; refine qv (qu L (q := 900) rfl rfl rfl rfl rfl qr) rfl rfl ?_; refine Z204 ?_; refine z8 (qh L _ rfl rfl rfl rfl rfl rfl rfl (by omega)) rfl ?_; refine qv (qu L (q := 900) rfl rfl rfl rfl rfl qc) rfl rfl ?_; refine z8 (zw L rfl rfl (zk rfl) rfl rfl rfl (fun u H hH _ _ => zbb hc2 hH)) rfl ?_; refine Z64 ?_; refine Z180 ?_; refine Z146 ?_; refine Z122 ?_; refine Z204 ?_; refine Z204 ?_; refine Z204 ?_; refine z8 (qh L _ rfl rfl rfl rfl rfl rfl rfl (by omega)) rfl ?_; refine qv (qu L (q := 900) rfl rfl rfl rfl rfl qj) rfl rfl ?_; refine Z204 ?_; refine z8 (qh L _ rfl rfl rfl rfl rfl rfl rfl (by omega)) rfl ?_; refine qv (qu L (q := 900) rfl rfl rfl rfl rfl qi) rfl rfl ?_; refine z8 (qh L _ rfl rfl rfl rfl rfl rfl rfl (by omega)) rfl ?_; refine x5 (yy L (q := 900) rfl rfl rfl rfl rfl rfl b1 rfl s1) rfl ?_; refine z8 (qh L _ rfl rfl rfl rfl rfl rfl rfl (by omega)) rfl ?_; refine x5 (yy L (q := 900) rfl rfl rfl rfl rfl rfl b2 rfl s2) rfl ?_; refine Z147 ?_; refine Z195 ?_; refine Z246 ?_
     exact yk (x := (r, E)) (2 * r + 1, swp E (first + r) (first + (2 * r + 1))) ⟨by dsimp only; omega, by dsimp only; rw [zbi]; exact hE, hO⟩ (by dsimp only; omega) ⟨rfl, rfl, rfl, rfl, rfl, trivial⟩
  ·rw [if_neg (by simp; omega)] at hO
   obtain ⟨_, qc⟩ := zcy (rest := rest) (show first + (2 * r + 1) < E.size by omega) (0 + (first + (2 * r + 1)) * 1) rfl
   cases hc2 : lt E[first + r]! E[first + (2 * r + 1)]! with
   | false =>
    rw [hc2] at hO
    simp only [Bool.not_false, if_true] at hO
    subst hO
    refine Z351 ?_; refine Z225 ?_; refine Z145 ?_; refine Z235 ?_; refine Z46 ?_; refine Z165 ?_; refine Z87 ?_; refine Z3 ?_; refine Z33 ?_; refine Z3 ?_; refine Z88 ?_; refine Z247 ?_; refine Z192 ?_; refine Z153 ?_; refine Z207 ?_; refine Z140 ?_; refine Z137 ?_; refine Z112 ?_; refine Z204 ?_; refine z8 (qh L _ rfl rfl rfl rfl rfl rfl rfl (by omega)) rfl ?_; refine qv (qu L (q := 900) rfl rfl rfl rfl rfl qr) rfl rfl ?_; refine Z204 ?_; refine z8 (qh L _ rfl rfl rfl rfl rfl rfl rfl (by omega)) rfl ?_; refine qv (qu L (q := 900) rfl rfl rfl rfl rfl qc) rfl rfl ?_; refine z8 (zw L rfl rfl (zk rfl) rfl rfl rfl (fun u H hH _ _ => zbb hc2 hH)) rfl ?_; refine Z64 ?_; refine Z211 ?_
    exact zbg L 900 (r := zab b _ tyU) rfl (fun _ _ h => h) Since.refl rfl rfl
   | true =>
    rw [hc2] at hO
    simp only [Bool.not_true, Bool.false_eq_true, if_false] at hO
    obtain ⟨_, qj⟩ := zcy (rest := rest) (show first + (2 * r + 1) < E.size by omega) (0 + (first + (2 * r + 1)) * 1) rfl
    obtain ⟨_, qi⟩ := zcy (rest := rest) (show first + r < E.size by omega) (0 + (first + r) * 1) rfl
    have s1 := zb9 (rest := rest) E[first + (2 * r + 1)]! (show first + r < E.size by omega) (0 + (first + r) * 1) rfl
    have b1 := zca (rest := rest) (show first + r < E.size by omega) (0 + (first + r) * 1) rfl
    have hz : first + (2 * r + 1) < (E.setIfInBounds (first + r) E[first + (2 * r + 1)]!).size := by rw [Array.size_setIfInBounds]; omega
    have s2 := zb9 (rest := rest) E[first + r]! hz (0 + (first + (2 * r + 1)) * 1) rfl
    have b2 := zca (rest := rest) hz (0 + (first + (2 * r + 1)) * 1) rfl
    rw [zc9] at s2
    refine Z351 ?_; refine Z225 ?_; refine Z145 ?_; refine Z235 ?_; refine Z46 ?_; refine Z165 ?_; refine Z87 ?_; refine Z3 ?_; refine Z33 ?_; refine Z3 ?_; refine Z88 ?_; refine Z247 ?_; refine Z192 ?_; refine Z153 ?_; refine Z207 ?_; refine Z140 ?_; refine Z137 ?_; refine Z112 ?_; refine Z204 ?_; refine z8 (qh L _ rfl rfl rfl rfl rfl rfl rfl (by omega)) rfl ?_; refine qv (qu L (q := 900) rfl rfl rfl rfl rfl qr) rfl rfl ?_; refine Z204 ?_; refine z8 (qh L _ rfl rfl rfl rfl rfl rfl rfl (by omega)) rfl ?_; refine qv (qu L (q := 900) rfl rfl rfl rfl rfl qc) rfl rfl ?_; refine z8 (zw L rfl rfl (zk rfl) rfl rfl rfl (fun u H hH _ _ => zbb hc2 hH)) rfl ?_; refine Z64 ?_; refine Z180 ?_; refine Z146 ?_; refine Z122 ?_; refine Z204 ?_; refine Z204 ?_; refine Z204 ?_; refine z8 (qh L _ rfl rfl rfl rfl rfl rfl rfl (by omega)) rfl ?_; refine qv (qu L (q := 900) rfl rfl rfl rfl rfl qj) rfl rfl ?_; refine Z204 ?_; refine z8 (qh L _ rfl rfl rfl rfl rfl rfl rfl (by omega)) rfl ?_; refine qv (qu L (q := 900) rfl rfl rfl rfl rfl qi) rfl rfl ?_; refine z8 (qh L _ rfl rfl rfl rfl rfl rfl rfl (by omega)) rfl ?_; refine x5 (yy L (q := 900) rfl rfl rfl rfl rfl rfl b1 rfl s1) rfl ?_; refine z8 (qh L _ rfl rfl rfl rfl rfl rfl rfl (by omega)) rfl ?_; refine x5 (yy L (q := 900) rfl rfl rfl rfl rfl rfl b2 rfl s2) rfl ?_; refine Z147 ?_; refine Z195 ?_; refine Z246 ?_
    exact yk (x := (r, E)) (2 * r + 1, swp E (first + r) (first + (2 * r + 1))) ⟨by dsimp only; omega, by dsimp only; rw [zbi]; exact hE, hO⟩ (by dsimp only; omega) ⟨rfl, rfl, rfl, rfl, rfl, trivial⟩
theorem zne (hi first : Nat) : ∀ (n root : Nat) (d : Array Int), hi - root ≤ n → (siftDown lt hi first root d).size = d.size := by
 intro n
 induction n with
 | zero =>
  intro root d h
  rw [siftDown, dif_pos (by omega)]
 | succ n ih =>
  intro root d h
  rw [siftDown]
  split
  ·rfl
  ·split
   ·split
    ·rfl
    ·split
     ·rw [ih _ _ (by omega), zbi]
     ·rfl
   ·split
    ·rfl
    ·rw [ih _ _ (by omega), zbi]
set_option maxHeartbeats 1000000 in
set_option maxRecDepth 20000 in
theorem zxj {d : Array Int} {rest : List Value} {b m cap a e : Nat} (hab : a < e) (he : e ≤ d.size) (hm : d.size = m) (hm1 : m ≤ 100000) {w : World} {B : Heap} {C : Nat → Prop} (hB : B.Le (hp w))
  (hr : (zab b (uC d ++ rest) tyU).P B w C) (hC : ∀ k, C k → k < w.heap.size ∧ B k = none) :
  zb3 Tryz.prog 102 [.slice (some ⟨b, 0, none⟩) m cap, .int .i64 a, .int .i64 e] w B C (zab b (uC (heapSort lt d a e) ++ rest) tyU) := by
 unfold zb3
 refine zap 900 (zab b (uC d ++ rest) tyU) Tryz.func102 rfl Tryz.ntmps102 (Nat.le_of_ble_eq_true rfl) hB hr hC ?_
 rw [za1]
 have hw0 : IntKind.i64.wrap ((e : Int) - (a : Int)) = ((e - a : Nat) : Int) := zaa (by omega) (by omega) |>.trans (by omega)
 have hw1 : IntKind.i64.wrap (((e - a : Nat) : Int) - 1) = ((e - a - 1 : Nat) : Int) := zaa (by omega) (by omega) |>.trans (by omega)
 have et : ((e - a - 1 : Nat) : Int).tdiv 2 = (((e - a - 1) / 2 + 1 : Nat) : Int) - 1 := by
  rw [Int.tdiv_eq_ediv_of_nonneg (by omega)]
  omega
 have hw2 : IntKind.i64.wrap (((e - a - 1 : Nat) : Int).tdiv 2) = (((e - a - 1) / 2 + 1 : Nat) : Int) - 1 := by rw [et]; exact zaa (by omega) (by omega)
 refine Z144 ?_; refine Z1 ?_; refine Z160 ?_; refine Z142 ?_; refine Z29 ?_; refine Z208 ?_; refine Z332 ?_; refine Z26 ?_; refine Z52 ?_; refine Z197 ?_
 refine zai (fun s : Nat × Array Int => [(0, .is (.slice (some ⟨b, 0, none⟩) m cap)), (6, .is (.int .i64 a)), (7, .is (.int .i64 0)), (8, .is (.int .i64 (e - a : Nat))), (9, .is (.int .i64 ((s.1 : Int) - 1))), (900, .own (zaj b (uC s.2 ++ rest) tyU))]) (fun s => s.1 ≤ (e - a - 1) / 2 + 1 ∧ s.2.size = m ∧ heapBuild lt (e - a) a s.1 s.2 = heapBuild lt (e - a) a ((e - a - 1) / 2 + 1) d) (fun s => s.1) ((e - a - 1) / 2 + 1, d) ⟨Nat.le_refl _, hm, rfl⟩ ⟨rfl, rfl, rfl, rfl, rfl, rfl, trivial⟩ ?_
 rintro ⟨k, E⟩ ⟨hk, hE, hO⟩
 dsimp only at hk hE hO ⊢
 rcases k with _ | k
 ·have e9 : (((0 : Nat) : Int) - 1) = -1 := rfl
  rw [e9]
  refine Z200 ?_; refine Z46 ?_; refine Z181 ?_; refine zh ?_
  rw [heapBuild] at hO
  have e10 : ((e - a - 1 : Nat) : Int) = ((e - a : Nat) : Int) - 1 := by omega
  rw [e10] at hw1
  refine Z195 ?_; refine Z26 ?_; refine Z197 ?_
  refine zai (fun s : Nat × Array Int => [(0, .is (.slice (some ⟨b, 0, none⟩) m cap)), (6, .is (.int .i64 a)), (7, .is (.int .i64 0)), (10, .is (.int .i64 ((s.1 : Int) - 1))), (900, .own (zaj b (uC s.2 ++ rest) tyU))]) (fun s => s.1 ≤ e - a ∧ s.2.size = m ∧ heapPop lt a s.1 s.2 = heapPop lt a (e - a) E) (fun s => s.1) (e - a, E) ⟨Nat.le_refl _, hE, rfl⟩ ⟨rfl, rfl, rfl, rfl, rfl, trivial⟩ ?_
  rintro ⟨j, G⟩ ⟨hj, hG, hP⟩
  dsimp only at hj hG hP ⊢
  rcases j with _ | j
  ·rw [e9]
   rw [heapPop] at hP
   have : G = heapSort lt d a e := by unfold heapSort; rw [← hO, hP]
   subst this
   refine Z325 ?_; refine Z46 ?_; refine Z174 ?_
   exact zba L 900 (r := zab b _ tyU) rfl (fun _ _ h => h) Since.refl rfl rfl
  ·have e8 : (((j + 1 : Nat) : Int) - 1) = (j : Int) := by omega
   rw [heapPop] at hP
   rw [e8]
   have hw3 : IntKind.i64.wrap ((a : Int) + (j : Int)) = ((a + j : Nat) : Int) := zaa (by omega) (by omega)
   have hw4 : IntKind.i64.wrap ((j : Int) - 1) = (j : Int) - 1 := zaa (by omega) (by omega)
   have hsz := zbi G a (a + j)
   have hss := zne j a j 0 (swp G a (a + j)) (by omega)
   obtain ⟨_, qj⟩ := zcy (rest := rest) (show a + j < G.size by omega) (0 + (a + j) * 1) rfl
   obtain ⟨_, qi⟩ := zcy (rest := rest) (show a < G.size by omega) (0 + (a) * 1) rfl
   have s1 := zb9 (rest := rest) G[a + j]! (show a < G.size by omega) (0 + (a) * 1) rfl
   have b1 := zca (rest := rest) (show a < G.size by omega) (0 + (a) * 1) rfl
   have hz : a + j < (G.setIfInBounds (a) G[a + j]!).size := by rw [Array.size_setIfInBounds]; omega
   have s2 := zb9 (rest := rest) G[a]! hz (0 + (a + j) * 1) rfl
   have b2 := zca (rest := rest) hz (0 + (a + j) * 1) rfl
   rw [zc9] at s2
   refine Z325 ?_; refine Z253 ?_; refine Z166 ?_; refine qg (id := 10) [(200044, [900]), (200048, [900]), (100049, [900]), (100050, [900])] mixed (by kernel_rfl) ?_; refine Z143 ?_; refine Z204 ?_; refine Z204 ?_; refine z8 (qh L _ rfl rfl rfl rfl rfl rfl rfl (by omega)) rfl ?_; refine qv (qu L (q := 900) rfl rfl rfl rfl rfl qj) rfl rfl ?_; refine Z143 ?_; refine z8 (qh L _ rfl rfl rfl rfl rfl rfl rfl (by omega)) rfl ?_; refine qv (qu L (q := 900) rfl rfl rfl rfl rfl qi) rfl rfl ?_; refine z8 (qh L _ rfl rfl rfl rfl rfl rfl rfl (by omega)) rfl ?_; refine x5 (yy L (q := 900) rfl rfl rfl rfl rfl rfl b1 rfl s1) rfl ?_; refine z8 (qh L _ rfl rfl rfl rfl rfl rfl rfl (by omega)) rfl ?_; refine x5 (yy L (q := 900) rfl rfl rfl rfl rfl rfl b2 rfl s2) rfl ?_; refine Z147 ?_; refine Z65 ?_; refine Z221 ?_; refine qo (za0 L 900 (zab b (uC (siftDown lt j a 0 (swp G a (a + j))) ++ rest) tyU) (r := zab b (uC (swp G a (a + j)) ++ rest) tyU) rfl rfl rfl rfl rfl (fun u H C hH _ hr hC => zqb (Nat.zero_le _) (by omega) (by omega) hm1 hH hr hC)) ?_; refine Z233 ?_; refine Z60 ?_; refine Z227 ?_; refine Z150 ?_
   exact yk (x := (j + 1, G)) (j, siftDown lt j a 0 (swp G a (a + j))) ⟨by dsimp only; omega, by dsimp only; omega, hP⟩ (by dsimp only; omega) ⟨rfl, rfl, rfl, rfl, rfl, trivial⟩
 ·have e8 : (((k + 1 : Nat) : Int) - 1) = (k : Int) := by omega
  rw [heapBuild] at hO
  rw [e8]
  have hw4 : IntKind.i64.wrap ((k : Int) - 1) = (k : Int) - 1 := zaa (by omega) (by omega)
  have hss := zne (e - a) a (e - a) k E (by omega)
  refine Z200 ?_; refine Z253 ?_; refine Z232 ?_; refine Z43 ?_; refine Z221 ?_; refine qo (za0 L 900 (zab b (uC (siftDown lt (e - a) a k E) ++ rest) tyU) (r := zab b (uC E ++ rest) tyU) rfl rfl rfl rfl rfl (fun u H C hH _ hr hC => zqb (by omega) (by omega) (by omega) hm1 hH hr hC)) ?_; refine Z233 ?_; refine Z176 ?_; refine Z26 ?_; refine Z150 ?_
  exact yk (x := (k + 1, E)) (k, siftDown lt (e - a) a k E) ⟨by dsimp only; omega, by dsimp only; omega, hO⟩ (by dsimp only; omega) ⟨rfl, rfl, rfl, rfl, rfl, rfl, trivial⟩
end Go.V.So
set_option maxRecDepth 20000
namespace Go.V.So
open Go.Proofs Go.RowKit Go.V Go.Sort
theorem _root_.Go.V.Z129 {A B : Prop} (h : B) (t : Wr B → A := by intro h; refine qg (id := 5) [(200053, [900]), (200057, [900])] mixed (by kernel_rfl) ?_; exact h.h) : A := t ⟨h⟩
theorem _root_.Go.V.Z213 {A B : Prop} (h : B) (t : Wr B → A := by intro h; refine Z20 ?_; refine Z150 ?_; exact h.h) : A := t ⟨h⟩
theorem _root_.Go.V.Z352 {A B : Prop} (h : B) (t : Wr B → A := by intro h; refine Z143 ?_; refine Z82 ?_; exact h.h) : A := t ⟨h⟩
theorem _root_.Go.V.Z353 {A B : Prop} (h : B) (t : Wr B → A := by intro h; refine Z352 ?_; refine Z177 ?_; exact h.h) : A := t ⟨h⟩
theorem _root_.Go.V.Z354 {A B : Prop} (h : B) (t : Wr B → A := by intro h; refine Z156 ?_; refine Z213 ?_; exact h.h) : A := t ⟨h⟩
attribute [local irreducible] V N X VO Par StepOK Has Ret RetL RetO zb3 zdz Src
theorem zdb {p : Int → Bool} {d : Array Int} {j i : Nat} (h : ¬ (i ≤ j ∧ p d[i]! = true)) : scanUp p d j i = i := by
 rw [scanUp, if_neg]
 simpa using h
theorem zjo {p : Int → Bool} {d : Array Int} {j i : Nat} (h1 : i ≤ j) (h2 : p d[i]! = true) : scanUp p d j i = scanUp p d j (i + 1) := by
 rw [scanUp, if_pos (by simp [h1, h2])]
theorem zci {p : Int → Bool} {d : Array Int} {i j : Nat} (h : ¬ (i ≤ j ∧ p d[j]! = true)) : scanDown p d i j = j := by
 cases j with
 | zero => rfl
 | succ j => rw [scanDown, if_neg]; simpa using h
theorem zgh {p : Int → Bool} {d : Array Int} {i j : Nat} (h1 : i ≤ j + 1) (h2 : p d[j + 1]! = true) : scanDown p d i (j + 1) = scanDown p d i j := by
 rw [scanDown, if_pos (by simp [h1, h2])]
set_option maxHeartbeats 2000000 in
set_option maxRecDepth 20000 in
theorem zeh {d : Array Int} {rest : List Value} {b m cap a e p : Nat} (hap : a ≤ p) (hpe : p < e) (he : e ≤ d.size) (hm : d.size = m) (hm1 : m ≤ 100000) {w : World} {B : Heap} {C : Nat → Prop} (hB : B.Le (hp w))
  (hr : (zab b (uC d ++ rest) tyU).P B w C) (hC : ∀ k, C k → k < w.heap.size ∧ B k = none) :
  zdz Tryz.prog 109 [.slice (some ⟨b, 0, none⟩) m cap, .int .i64 a, .int .i64 e, .int .i64 p] w B C (zab b (uC (Go.Sort.partition lt d a e p).2.2 ++ rest) tyU) (.tuple #[.int .i64 (Go.Sort.partition lt d a e p).1, .bool (Go.Sort.partition lt d a e p).2.1]) := by
 unfold zdz
 refine zap 900 (zab b (uC d ++ rest) tyU) Tryz.func109 rfl Tryz.ntmps109 (Nat.le_of_ble_eq_true rfl) hB hr hC ?_
 rw [za1]
 obtain ⟨_, qj⟩ := zcy (rest := rest) (show p < d.size by omega) (0 + (p) * 1) rfl
 obtain ⟨_, qi⟩ := zcy (rest := rest) (show a < d.size by omega) (0 + (a) * 1) rfl
 have s1 := zb9 (rest := rest) d[p]! (show a < d.size by omega) (0 + (a) * 1) rfl
 have b1 := zca (rest := rest) (show a < d.size by omega) (0 + (a) * 1) rfl
 have hz : p < (d.setIfInBounds (a) d[p]!).size := by rw [Array.size_setIfInBounds]; omega
 have s2 := zb9 (rest := rest) d[a]! hz (0 + (p) * 1) rfl
 have b2 := zca (rest := rest) hz (0 + (p) * 1) rfl
 rw [zc9] at s2
 have hw1 : IntKind.i64.wrap ((a : Int) + 1) = ((a + 1 : Nat) : Int) := zaa (by omega) (by omega)
 obtain ⟨e1, rfl⟩ : ∃ e1, e = e1 + 1 := ⟨e - 1, by omega⟩
 have hw2 : IntKind.i64.wrap (((e1 + 1 : Nat) : Int) - 1) = (e1 : Int) := zaa (by omega) (by omega) |>.trans (by omega)
 obtain ⟨R, hR⟩ : ∃ R, R = Go.Sort.partition lt d a (e1 + 1) p := ⟨_, rfl⟩
 rw [← hR]
 have hR' := hR
 unfold Go.Sort.partition at hR'
 have hDs := zbi d a p
 refine Z144 ?_; refine Z198 ?_; refine qg (id := 1) [(200019, [900]), (200023, [900]), (100024, [900]), (100025, [900])] mixed (by kernel_rfl) ?_; refine Z308 ?_; refine Z143 ?_; refine z8 (qh L _ rfl rfl rfl rfl rfl rfl rfl (by omega)) rfl ?_; refine qv (qu L (q := 900) rfl rfl rfl rfl rfl qj) rfl rfl ?_; refine Z143 ?_; refine z8 (qh L _ rfl rfl rfl rfl rfl rfl rfl (by omega)) rfl ?_; refine qv (qu L (q := 900) rfl rfl rfl rfl rfl qi) rfl rfl ?_; refine z8 (qh L _ rfl rfl rfl rfl rfl rfl rfl (by omega)) rfl ?_; refine x5 (yy L (q := 900) rfl rfl rfl rfl rfl rfl b1 rfl s1) rfl ?_; refine z8 (qh L _ rfl rfl rfl rfl rfl rfl rfl (by omega)) rfl ?_; refine x5 (yy L (q := 900) rfl rfl rfl rfl rfl rfl b2 rfl s2) rfl ?_; refine Z295 ?_; refine Z169 ?_; refine Z20 ?_; refine Z227 ?_; refine Z198 ?_; refine ql ?_
 generalize swp d a p = D at *
 rw [Nat.add_sub_cancel] at hR'
 dsimp only at hR'
 refine zhl (zdv (fun i : Nat => [(0, .is (.slice (some ⟨b, 0, none⟩) m cap)), (1, .is (.int .i64 a)), (10, .is (.int .i64 i)), (11, .is (.int .i64 e1)), (900, .own (zaj b (uC D ++ rest) tyU))]) (fun i => (a + 1) ≤ i ∧ i ≤ max (a + 1) (e1 + 1) ∧ i = scanUp (fun x => lt x D[a]!) D e1 (a + 1)) (fun _ => []) ?_) ?_
 rotate_left
 ·refine zai (fun i : Nat => [(0, .is (.slice (some ⟨b, 0, none⟩) m cap)), (1, .is (.int .i64 a)), (10, .is (.int .i64 i)), (11, .is (.int .i64 e1)), (900, .own (zaj b (uC D ++ rest) tyU))]) (fun i => (a + 1) ≤ i ∧ i ≤ max (a + 1) (e1 + 1) ∧ scanUp (fun x => lt x D[a]!) D e1 i = scanUp (fun x => lt x D[a]!) D e1 (a + 1)) (fun i => e1 + 1 - i) (a + 1) ⟨Nat.le_refl _, by omega, rfl⟩ ⟨rfl, rfl, rfl, rfl, rfl, trivial⟩ ?_
  rintro i ⟨hi1, hi2, hi3⟩
  by_cases hle : i ≤ e1
  ·obtain ⟨_, qx⟩ := zcy (rest := rest) (show i < D.size by omega) (0 + (i) * 1) rfl
   obtain ⟨_, qa⟩ := zcy (rest := rest) (show a < D.size by omega) (0 + (a) * 1) rfl
   cases hc : lt D[i]! D[a]! with
   | true =>
    have hw : IntKind.i64.wrap ((i : Int) + 1) = ((i + 1 : Nat) : Int) := zaa (by omega) (by omega)
    refine Z137 ?_; refine qg (id := 3) [(200037, [900]), (200041, [900])] mixed (by kernel_rfl) ?_; refine Z353 ?_; refine z8 (qh L _ rfl rfl rfl rfl rfl rfl rfl (by omega)) rfl ?_; refine qv (qu L (q := 900) rfl rfl rfl rfl rfl qx) rfl rfl ?_; refine Z143 ?_; refine z8 (qh L _ rfl rfl rfl rfl rfl rfl rfl (by omega)) rfl ?_; refine qv (qu L (q := 900) rfl rfl rfl rfl rfl qa) rfl rfl ?_; refine z8 (zw L rfl rfl (zk rfl) rfl rfl rfl (fun u H hH _ _ => zbb hc hH)) rfl ?_; refine Z268 ?_; refine Z140 ?_; refine ql ?_; refine Z354 ?_; refine yc ?_
    exact yk (x := i) (i + 1) ⟨by omega, by omega, by rw [← hi3]; exact (zjo hle (by simp [hc])).symm⟩ (by omega) ⟨rfl, rfl, rfl, rfl, rfl, trivial⟩
   | false =>
    refine Z137 ?_; refine qg (id := 3) [(200037, [900]), (200041, [900])] mixed (by kernel_rfl) ?_; refine Z353 ?_; refine z8 (qh L _ rfl rfl rfl rfl rfl rfl rfl (by omega)) rfl ?_; refine qv (qu L (q := 900) rfl rfl rfl rfl rfl qx) rfl rfl ?_; refine Z143 ?_; refine z8 (qh L _ rfl rfl rfl rfl rfl rfl rfl (by omega)) rfl ?_; refine qv (qu L (q := 900) rfl rfl rfl rfl rfl qa) rfl rfl ?_; refine z8 (zw L rfl rfl (zk rfl) rfl rfl rfl (fun u H hH _ _ => zbb hc hH)) rfl ?_; refine Z273 ?_
    exact za5 i Since.refl ⟨hi1, hi2, by rw [← hi3]; exact (zdb (by rintro ⟨_, h⟩; simp [hc] at h)).symm⟩ rfl ⟨rfl, rfl, rfl, rfl, rfl, trivial⟩
  ·refine Z137 ?_; refine Z87 ?_; refine Z143 ?_; refine Z105 ?_; refine Z247 ?_; refine Z6 ?_; refine Z273 ?_
   exact za5 i Since.refl ⟨hi1, hi2, by rw [← hi3]; exact (zdb (by rintro ⟨h, _⟩; exact hle h)).symm⟩ rfl ⟨rfl, rfl, rfl, rfl, rfl, trivial⟩
 rintro I ⟨hI1, hI2, hI3⟩
 refine zh (ql ?_)
 refine zhl (zdv (fun i : Nat => [(0, .is (.slice (some ⟨b, 0, none⟩) m cap)), (1, .is (.int .i64 a)), (10, .is (.int .i64 I)), (11, .is (.int .i64 i)), (900, .own (zaj b (uC D ++ rest) tyU))]) (fun i => i ≤ e1 ∧ min (I - 1) e1 ≤ i ∧ i = scanDown (fun x => !lt x D[a]!) D I e1) (fun _ => []) ?_) ?_
 rotate_left
 ·refine zai (fun i : Nat => [(0, .is (.slice (some ⟨b, 0, none⟩) m cap)), (1, .is (.int .i64 a)), (10, .is (.int .i64 I)), (11, .is (.int .i64 i)), (900, .own (zaj b (uC D ++ rest) tyU))]) (fun i => i ≤ e1 ∧ min (I - 1) e1 ≤ i ∧ scanDown (fun x => !lt x D[a]!) D I i = scanDown (fun x => !lt x D[a]!) D I e1) (fun i => i) e1 ⟨Nat.le_refl _, by omega, rfl⟩ ⟨rfl, rfl, rfl, rfl, rfl, trivial⟩ ?_
  rintro i ⟨hi1, hi2, hi3⟩
  by_cases hle : I ≤ i
  ·obtain ⟨_, qx⟩ := zcy (rest := rest) (show i < D.size by omega) (0 + (i) * 1) rfl
   obtain ⟨_, qa⟩ := zcy (rest := rest) (show a < D.size by omega) (0 + (a) * 1) rfl
   cases hc : lt D[i]! D[a]! with
   | false =>
    obtain ⟨i, rfl⟩ : ∃ k, i = k + 1 := ⟨i - 1, by omega⟩
    have hw : IntKind.i64.wrap (((i + 1 : Nat) : Int) - 1) = (i : Int) := zaa (by omega) (by omega) |>.trans (by omega)
    refine Z137 ?_; refine Z129 ?_; refine Z353 ?_; refine z8 (qh L _ rfl rfl rfl rfl rfl rfl rfl (by omega)) rfl ?_; refine qv (qu L (q := 900) rfl rfl rfl rfl rfl qx) rfl rfl ?_; refine Z143 ?_; refine z8 (qh L _ rfl rfl rfl rfl rfl rfl rfl (by omega)) rfl ?_; refine qv (qu L (q := 900) rfl rfl rfl rfl rfl qa) rfl rfl ?_; refine z8 (zw L rfl rfl (zk rfl) rfl rfl rfl (fun u H hH _ _ => zbb hc hH)) rfl ?_; refine Z64 ?_; refine Z268 ?_; refine Z140 ?_; refine ql ?_; refine Z187 ?_; refine Z26 ?_; refine Z246 ?_
    exact yk (x := i + 1) i ⟨by omega, by omega, by rw [← hi3]; exact (zgh hle (by simp [hc])).symm⟩ (by omega) ⟨rfl, rfl, rfl, rfl, rfl, trivial⟩
   | true =>
    refine Z137 ?_; refine Z129 ?_; refine Z353 ?_; refine z8 (qh L _ rfl rfl rfl rfl rfl rfl rfl (by omega)) rfl ?_; refine qv (qu L (q := 900) rfl rfl rfl rfl rfl qx) rfl rfl ?_; refine Z143 ?_; refine z8 (qh L _ rfl rfl rfl rfl rfl rfl rfl (by omega)) rfl ?_; refine qv (qu L (q := 900) rfl rfl rfl rfl rfl qa) rfl rfl ?_; refine z8 (zw L rfl rfl (zk rfl) rfl rfl rfl (fun u H hH _ _ => zbb hc hH)) rfl ?_; refine Z64 ?_; refine Z273 ?_
    exact za5 i Since.refl ⟨hi1, hi2, by rw [← hi3]; exact (zci (by rintro ⟨_, h⟩; simp [hc] at h)).symm⟩ rfl ⟨rfl, rfl, rfl, rfl, rfl, trivial⟩
  ·refine Z137 ?_; refine Z123 ?_; refine Z143 ?_; refine Z105 ?_; refine Z303 ?_; refine Z273 ?_
   exact za5 i Since.refl ⟨hi1, hi2, by rw [← hi3]; exact (zci (by rintro ⟨h, _⟩; exact hle h)).symm⟩ rfl ⟨rfl, rfl, rfl, rfl, rfl, trivial⟩
 rintro J ⟨hJ1, hJ2, hJ3⟩
 rw [← hI3, ← hJ3] at hR'
 by_cases hIJ : J < I
 ·rw [if_pos hIJ] at hR'
  subst hR'
  obtain ⟨_, qj⟩ := zcy (rest := rest) (show a < D.size by omega) (0 + (a) * 1) rfl
  obtain ⟨_, qi⟩ := zcy (rest := rest) (show J < D.size by omega) (0 + (J) * 1) rfl
  have s1 := zb9 (rest := rest) D[a]! (show J < D.size by omega) (0 + (J) * 1) rfl
  have b1 := zca (rest := rest) (show J < D.size by omega) (0 + (J) * 1) rfl
  have hz : a < (D.setIfInBounds (J) D[a]!).size := by rw [Array.size_setIfInBounds]; omega
  have s2 := zb9 (rest := rest) D[J]! hz (0 + (a) * 1) rfl
  have b2 := zca (rest := rest) hz (0 + (a) * 1) rfl
  rw [zc9] at s2
  refine Z137 ?_; refine Z307 ?_; refine Z38 ?_; refine Z152 ?_; refine qg (id := 8) [(200073, [900]), (200077, [900]), (100078, [900]), (100079, [900])] mixed (by kernel_rfl) ?_; refine Z308 ?_; refine Z143 ?_; refine z8 (qh L _ rfl rfl rfl rfl rfl rfl rfl (by omega)) rfl ?_; refine qv (qu L (q := 900) rfl rfl rfl rfl rfl qj) rfl rfl ?_; refine Z143 ?_; refine z8 (qh L _ rfl rfl rfl rfl rfl rfl rfl (by omega)) rfl ?_; refine qv (qu L (q := 900) rfl rfl rfl rfl rfl qi) rfl rfl ?_; refine z8 (qh L _ rfl rfl rfl rfl rfl rfl rfl (by omega)) rfl ?_; refine x5 (yy L (q := 900) rfl rfl rfl rfl rfl rfl b1 rfl s1) rfl ?_; refine z8 (qh L _ rfl rfl rfl rfl rfl rfl rfl (by omega)) rfl ?_; refine x5 (yy L (q := 900) rfl rfl rfl rfl rfl rfl b2 rfl s2) rfl ?_; refine Z295 ?_; refine Z289 ?_; refine Z182 ?_
  exact zfw L 900 (r := zab b _ tyU) (rs := [.tmp 8, .tmp 9]) rfl (fun _ _ h => h) Since.refl rfl rfl (fun _ => rfl)
 ·rw [if_neg hIJ] at hR'
  have hw3 : IntKind.i64.wrap ((I : Int) + 1) = ((I + 1 : Nat) : Int) := zaa (by omega) (by omega)
  have hw4 : IntKind.i64.wrap ((J : Int) - 1) = ((J - 1 : Nat) : Int) := zaa (by omega) (by omega) |>.trans (by omega)
  obtain ⟨_, qj⟩ := zcy (rest := rest) (show J < D.size by omega) (0 + (J) * 1) rfl
  obtain ⟨_, qi⟩ := zcy (rest := rest) (show I < D.size by omega) (0 + (I) * 1) rfl
  have s1 := zb9 (rest := rest) D[J]! (show I < D.size by omega) (0 + (I) * 1) rfl
  have b1 := zca (rest := rest) (show I < D.size by omega) (0 + (I) * 1) rfl
  have hz : J < (D.setIfInBounds (I) D[J]!).size := by rw [Array.size_setIfInBounds]; omega
  have s2 := zb9 (rest := rest) D[I]! hz (0 + (J) * 1) rfl
  have b2 := zca (rest := rest) hz (0 + (J) * 1) rfl
  rw [zc9] at s2
  have hEs := zbi D I J
  refine Z137 ?_; refine Z307 ?_; refine Z32 ?_; refine Z158 ?_; refine qg (id := 10) [(200088, [900]), (200092, [900]), (100093, [900]), (100094, [900])] mixed (by kernel_rfl) ?_; refine Z308 ?_; refine Z143 ?_; refine z8 (qh L _ rfl rfl rfl rfl rfl rfl rfl (by omega)) rfl ?_; refine qv (qu L (q := 900) rfl rfl rfl rfl rfl qj) rfl rfl ?_; refine Z143 ?_; refine z8 (qh L _ rfl rfl rfl rfl rfl rfl rfl (by omega)) rfl ?_; refine qv (qu L (q := 900) rfl rfl rfl rfl rfl qi) rfl rfl ?_; refine z8 (qh L _ rfl rfl rfl rfl rfl rfl rfl (by omega)) rfl ?_; refine x5 (yy L (q := 900) rfl rfl rfl rfl rfl rfl b1 rfl s1) rfl ?_; refine z8 (qh L _ rfl rfl rfl rfl rfl rfl rfl (by omega)) rfl ?_; refine x5 (yy L (q := 900) rfl rfl rfl rfl rfl rfl b2 rfl s2) rfl ?_; refine Z295 ?_; refine Z259 ?_; refine Z20 ?_; refine Z142 ?_; refine Z80 ?_; refine Z227 ?_; refine Z142 ?_; refine ql ?_
  generalize swp D I J = E at *
  obtain ⟨X, hX⟩ : ∃ X, X = partLoop lt a (I + 1) (J - 1) E := ⟨_, rfl⟩
  rw [← hX] at hR'
  refine zhl (zdv (fun s : Nat × Array Int => [(0, .is (.slice (some ⟨b, 0, none⟩) m cap)), (1, .is (.int .i64 a)), (11, .is (.int .i64 s.1)), (900, .own (zaj b (uC s.2 ++ rest) tyU))]) (fun s => s.2.size = m ∧ a ≤ s.1 ∧ s.1 ≤ e1 ∧ s = X) (fun _ => []) ?_) ?_
  rotate_left
  ·refine zai (fun s : (Nat × Nat) × Array Int => [(0, .is (.slice (some ⟨b, 0, none⟩) m cap)), (1, .is (.int .i64 a)), (10, .is (.int .i64 s.1.1)), (11, .is (.int .i64 s.1.2)), (900, .own (zaj b (uC s.2 ++ rest) tyU))]) (fun s => s.2.size = m ∧ a + 1 ≤ s.1.1 ∧ s.1.1 ≤ e1 + 1 ∧ a ≤ s.1.2 ∧ s.1.2 ≤ e1 ∧ partLoop lt a s.1.1 s.1.2 s.2 = X) (fun s => s.1.2 + 1 - s.1.1) ((I + 1, J - 1), E) ⟨by dsimp only; omega, by dsimp only; omega, by dsimp only; omega, by dsimp only; omega, by dsimp only; omega, hX.symm⟩ ⟨rfl, rfl, rfl, rfl, rfl, trivial⟩ ?_
   rintro ⟨⟨i0, j0⟩, G⟩ ⟨hG, hi1, hi2, hj1, hj2, hL⟩
   dsimp only at hG hi1 hi2 hj1 hj2 hL ⊢
   rw [partLoop] at hL
   clear hX hR' hEs hIJ hI3 hJ3
   refine ql (zh (ql ?_))
   refine zhl (zdv (fun i : Nat => [(0, .is (.slice (some ⟨b, 0, none⟩) m cap)), (1, .is (.int .i64 a)), (10, .is (.int .i64 i)), (11, .is (.int .i64 j0)), (900, .own (zaj b (uC G ++ rest) tyU))]) (fun i => i0 ≤ i ∧ i ≤ max i0 (j0 + 1) ∧ i = scanUp (fun x => lt x G[a]!) G j0 i0) (fun _ => []) ?_) ?_
   rotate_left
   ·refine zai (fun i : Nat => [(0, .is (.slice (some ⟨b, 0, none⟩) m cap)), (1, .is (.int .i64 a)), (10, .is (.int .i64 i)), (11, .is (.int .i64 j0)), (900, .own (zaj b (uC G ++ rest) tyU))]) (fun i => i0 ≤ i ∧ i ≤ max i0 (j0 + 1) ∧ scanUp (fun x => lt x G[a]!) G j0 i = scanUp (fun x => lt x G[a]!) G j0 i0) (fun i => j0 + 1 - i) i0 ⟨Nat.le_refl _, by omega, rfl⟩ ⟨rfl, rfl, rfl, rfl, rfl, trivial⟩ ?_
    rintro i ⟨hi1, hi2, hi3⟩
    by_cases hle : i ≤ j0
    ·obtain ⟨_, qx⟩ := zcy (rest := rest) (show i < G.size by omega) (0 + (i) * 1) rfl
     obtain ⟨_, qa⟩ := zcy (rest := rest) (show a < G.size by omega) (0 + (a) * 1) rfl
     cases hc : lt G[i]! G[a]! with
     | true =>
      have hw : IntKind.i64.wrap ((i : Int) + 1) = ((i + 1 : Nat) : Int) := zaa (by omega) (by omega)
      refine Z137 ?_; refine qg (id := 13) [(200106, [900]), (200110, [900])] mixed (by kernel_rfl) ?_; refine Z353 ?_; refine z8 (qh L _ rfl rfl rfl rfl rfl rfl rfl (by omega)) rfl ?_; refine qv (qu L (q := 900) rfl rfl rfl rfl rfl qx) rfl rfl ?_; refine Z143 ?_; refine z8 (qh L _ rfl rfl rfl rfl rfl rfl rfl (by omega)) rfl ?_; refine qv (qu L (q := 900) rfl rfl rfl rfl rfl qa) rfl rfl ?_; refine z8 (zw L rfl rfl (zk rfl) rfl rfl rfl (fun u H hH _ _ => zbb hc hH)) rfl ?_; refine Z268 ?_; refine Z140 ?_; refine ql ?_; refine Z271 ?_; refine Z213 ?_; refine yc ?_
      exact yk (x := i) (i + 1) ⟨by omega, by omega, by rw [← hi3]; exact (zjo hle (by simp [hc])).symm⟩ (by omega) ⟨rfl, rfl, rfl, rfl, rfl, trivial⟩
     | false =>
      refine Z137 ?_; refine qg (id := 13) [(200106, [900]), (200110, [900])] mixed (by kernel_rfl) ?_; refine Z353 ?_; refine z8 (qh L _ rfl rfl rfl rfl rfl rfl rfl (by omega)) rfl ?_; refine qv (qu L (q := 900) rfl rfl rfl rfl rfl qx) rfl rfl ?_; refine Z143 ?_; refine z8 (qh L _ rfl rfl rfl rfl rfl rfl rfl (by omega)) rfl ?_; refine qv (qu L (q := 900) rfl rfl rfl rfl rfl qa) rfl rfl ?_; refine z8 (zw L rfl rfl (zk rfl) rfl rfl rfl (fun u H hH _ _ => zbb hc hH)) rfl ?_; refine Z273 ?_
      exact za5 i Since.refl ⟨hi1, hi2, by rw [← hi3]; exact (zdb (by rintro ⟨_, h⟩; simp [hc] at h)).symm⟩ rfl ⟨rfl, rfl, rfl, rfl, rfl, trivial⟩
    ·refine Z137 ?_; refine Z121 ?_; refine Z143 ?_; refine Z105 ?_; refine Z247 ?_; refine Z6 ?_; refine Z273 ?_
     exact za5 i Since.refl ⟨hi1, hi2, by rw [← hi3]; exact (zdb (by rintro ⟨h, _⟩; exact hle h)).symm⟩ rfl ⟨rfl, rfl, rfl, rfl, rfl, trivial⟩
   rintro K ⟨hK1, hK2, hK3⟩
   refine zh (ql ?_)
   refine zhl (zdv (fun i : Nat => [(0, .is (.slice (some ⟨b, 0, none⟩) m cap)), (1, .is (.int .i64 a)), (10, .is (.int .i64 K)), (11, .is (.int .i64 i)), (900, .own (zaj b (uC G ++ rest) tyU))]) (fun i => i ≤ j0 ∧ min (K - 1) j0 ≤ i ∧ i = scanDown (fun x => !lt x G[a]!) G K j0) (fun _ => []) ?_) ?_
   rotate_left
   ·refine zai (fun i : Nat => [(0, .is (.slice (some ⟨b, 0, none⟩) m cap)), (1, .is (.int .i64 a)), (10, .is (.int .i64 K)), (11, .is (.int .i64 i)), (900, .own (zaj b (uC G ++ rest) tyU))]) (fun i => i ≤ j0 ∧ min (K - 1) j0 ≤ i ∧ scanDown (fun x => !lt x G[a]!) G K i = scanDown (fun x => !lt x G[a]!) G K j0) (fun i => i) j0 ⟨Nat.le_refl _, by omega, rfl⟩ ⟨rfl, rfl, rfl, rfl, rfl, trivial⟩ ?_
    rintro i ⟨hi1, hi2, hi3⟩
    by_cases hle : K ≤ i
    ·obtain ⟨_, qx⟩ := zcy (rest := rest) (show i < G.size by omega) (0 + (i) * 1) rfl
     obtain ⟨_, qa⟩ := zcy (rest := rest) (show a < G.size by omega) (0 + (a) * 1) rfl
     cases hc : lt G[i]! G[a]! with
     | false =>
      obtain ⟨i, rfl⟩ : ∃ k, i = k + 1 := ⟨i - 1, by omega⟩
      have hw : IntKind.i64.wrap (((i + 1 : Nat) : Int) - 1) = (i : Int) := zaa (by omega) (by omega) |>.trans (by omega)
      refine Z137 ?_; refine qg (id := 15) [(200122, [900]), (200126, [900])] mixed (by kernel_rfl) ?_; refine Z353 ?_; refine z8 (qh L _ rfl rfl rfl rfl rfl rfl rfl (by omega)) rfl ?_; refine qv (qu L (q := 900) rfl rfl rfl rfl rfl qx) rfl rfl ?_; refine Z143 ?_; refine z8 (qh L _ rfl rfl rfl rfl rfl rfl rfl (by omega)) rfl ?_; refine qv (qu L (q := 900) rfl rfl rfl rfl rfl qa) rfl rfl ?_; refine z8 (zw L rfl rfl (zk rfl) rfl rfl rfl (fun u H hH _ _ => zbb hc hH)) rfl ?_; refine Z64 ?_; refine Z268 ?_; refine Z140 ?_; refine ql ?_; refine Z102 ?_; refine Z227 ?_; refine Z246 ?_
      exact yk (x := i + 1) i ⟨by omega, by omega, by rw [← hi3]; exact (zgh hle (by simp [hc])).symm⟩ (by omega) ⟨rfl, rfl, rfl, rfl, rfl, trivial⟩
     | true =>
      refine Z137 ?_; refine qg (id := 15) [(200122, [900]), (200126, [900])] mixed (by kernel_rfl) ?_; refine Z353 ?_; refine z8 (qh L _ rfl rfl rfl rfl rfl rfl rfl (by omega)) rfl ?_; refine qv (qu L (q := 900) rfl rfl rfl rfl rfl qx) rfl rfl ?_; refine Z143 ?_; refine z8 (qh L _ rfl rfl rfl rfl rfl rfl rfl (by omega)) rfl ?_; refine qv (qu L (q := 900) rfl rfl rfl rfl rfl qa) rfl rfl ?_; refine z8 (zw L rfl rfl (zk rfl) rfl rfl rfl (fun u H hH _ _ => zbb hc hH)) rfl ?_; refine Z64 ?_; refine Z273 ?_
      exact za5 i Since.refl ⟨hi1, hi2, by rw [← hi3]; exact (zci (by rintro ⟨_, h⟩; simp [hc] at h)).symm⟩ rfl ⟨rfl, rfl, rfl, rfl, rfl, trivial⟩
    ·refine Z137 ?_; refine qg (id := 15) [] mixed (by kernel_rfl) ?_; refine Z143 ?_; refine Z105 ?_; refine Z303 ?_; refine Z273 ?_
     exact za5 i Since.refl ⟨hi1, hi2, by rw [← hi3]; exact (zci (by rintro ⟨h, _⟩; exact hle h)).symm⟩ rfl ⟨rfl, rfl, rfl, rfl, rfl, trivial⟩
   rintro M ⟨hM1, hM2, hM3⟩
   rw [← hK3, ← hM3] at hL
   by_cases hKM : M < K
   ·rw [if_pos hKM] at hL
    refine Z137 ?_; refine Z108 ?_; refine Z138 ?_; refine Z38 ?_; refine Z141 ?_; refine Z162 ?_; refine zko rfl ?_; refine y9 ?_; refine yv ?_
    exact za5 (M, G) Since.refl ⟨hG, by dsimp only; omega, by dsimp only; omega, hL⟩ rfl ⟨rfl, rfl, rfl, rfl, trivial⟩
   ·rw [if_neg hKM, dif_pos (by omega)] at hL
    have hw5 : IntKind.i64.wrap ((K : Int) + 1) = ((K + 1 : Nat) : Int) := zaa (by omega) (by omega)
    have hw6 : IntKind.i64.wrap ((M : Int) - 1) = ((M - 1 : Nat) : Int) := zaa (by omega) (by omega) |>.trans (by omega)
    have hGs := zbi G K M
    obtain ⟨_, qj⟩ := zcy (rest := rest) (show M < G.size by omega) (0 + (M) * 1) rfl
    obtain ⟨_, qi⟩ := zcy (rest := rest) (show K < G.size by omega) (0 + (K) * 1) rfl
    have s1 := zb9 (rest := rest) G[M]! (show K < G.size by omega) (0 + (K) * 1) rfl
    have b1 := zca (rest := rest) (show K < G.size by omega) (0 + (K) * 1) rfl
    have hz : M < (G.setIfInBounds (K) G[M]!).size := by rw [Array.size_setIfInBounds]; omega
    have s2 := zb9 (rest := rest) G[K]! hz (0 + (M) * 1) rfl
    have b2 := zca (rest := rest) hz (0 + (M) * 1) rfl
    rw [zc9] at s2
    refine Z137 ?_; refine Z108 ?_; refine Z138 ?_; refine Z32 ?_; refine Z158 ?_; refine qg (id := 18) [(200142, [900]), (200146, [900]), (100147, [900]), (100148, [900])] mixed (by kernel_rfl) ?_; refine Z308 ?_; refine Z143 ?_; refine z8 (qh L _ rfl rfl rfl rfl rfl rfl rfl (by omega)) rfl ?_; refine qv (qu L (q := 900) rfl rfl rfl rfl rfl qj) rfl rfl ?_; refine Z143 ?_; refine z8 (qh L _ rfl rfl rfl rfl rfl rfl rfl (by omega)) rfl ?_; refine qv (qu L (q := 900) rfl rfl rfl rfl rfl qi) rfl rfl ?_; refine z8 (qh L _ rfl rfl rfl rfl rfl rfl rfl (by omega)) rfl ?_; refine x5 (yy L (q := 900) rfl rfl rfl rfl rfl rfl b1 rfl s1) rfl ?_; refine z8 (qh L _ rfl rfl rfl rfl rfl rfl rfl (by omega)) rfl ?_; refine x5 (yy L (q := 900) rfl rfl rfl rfl rfl rfl b2 rfl s2) rfl ?_; refine Z295 ?_; refine Z119 ?_; refine Z1 ?_; refine Z20 ?_; refine Z136 ?_; refine Z97 ?_; refine Z227 ?_; refine Z246 ?_
    exact yk (x := ((i0, j0), G)) ((K + 1, M - 1), swp G K M) ⟨by dsimp only; omega, by dsimp only; omega, by dsimp only; omega, by dsimp only; omega, by dsimp only; omega, hL⟩ (by dsimp only; omega) ⟨rfl, rfl, rfl, rfl, rfl, trivial⟩
  ·rintro ⟨J2, G⟩ ⟨hG, hj1, hj2, hL⟩
   dsimp only at hG hj1 hj2 ⊢
   rw [← hL] at hR'
   dsimp only at hR'
   subst hR'
   obtain ⟨_, qj⟩ := zcy (rest := rest) (show a < G.size by omega) (0 + (a) * 1) rfl
   obtain ⟨_, qi⟩ := zcy (rest := rest) (show J2 < G.size by omega) (0 + (J2) * 1) rfl
   have s1 := zb9 (rest := rest) G[a]! (show J2 < G.size by omega) (0 + (J2) * 1) rfl
   have b1 := zca (rest := rest) (show J2 < G.size by omega) (0 + (J2) * 1) rfl
   have hz : a < (G.setIfInBounds (J2) G[a]!).size := by rw [Array.size_setIfInBounds]; omega
   have s2 := zb9 (rest := rest) G[J2]! hz (0 + (a) * 1) rfl
   have b2 := zca (rest := rest) hz (0 + (a) * 1) rfl
   rw [zc9] at s2
   refine zh ?_; refine qg (id := 21) [(200160, [900]), (200164, [900]), (100165, [900]), (100166, [900])] mixed (by kernel_rfl) ?_; refine Z308 ?_; refine Z143 ?_; refine z8 (qh L _ rfl rfl rfl rfl rfl rfl rfl (by omega)) rfl ?_; refine qv (qu L (q := 900) rfl rfl rfl rfl rfl qj) rfl rfl ?_; refine Z143 ?_; refine z8 (qh L _ rfl rfl rfl rfl rfl rfl rfl (by omega)) rfl ?_; refine qv (qu L (q := 900) rfl rfl rfl rfl rfl qi) rfl rfl ?_; refine z8 (qh L _ rfl rfl rfl rfl rfl rfl rfl (by omega)) rfl ?_; refine x5 (yy L (q := 900) rfl rfl rfl rfl rfl rfl b1 rfl s1) rfl ?_; refine z8 (qh L _ rfl rfl rfl rfl rfl rfl rfl (by omega)) rfl ?_; refine x5 (yy L (q := 900) rfl rfl rfl rfl rfl rfl b2 rfl s2) rfl ?_; refine Z295 ?_; refine zf (id := 22) ?_; refine Z1 ?_; refine Z182 ?_
   exact zfw L 900 (r := zab b _ tyU) (rs := [.tmp 8, .tmp 9]) rfl (fun _ _ h => h) Since.refl rfl rfl (fun _ => rfl)
end Go.V.So
set_option maxRecDepth 20000
namespace Go.V.So
open Go.Proofs Go.RowKit Go.V Go.Sort
attribute [local irreducible] V N X VO Par StepOK Has Ret RetL RetO zb3 zdz Src
set_option maxHeartbeats 2000000 in
set_option maxRecDepth 20000 in
theorem zz0 {d : Array Int} {rest : List Value} {b m cap a e p : Nat} (hap : a ≤ p) (hpe : p < e) (he : e ≤ d.size) (hm : d.size = m) (hm1 : m ≤ 100000) {w : World} {B : Heap} {C : Nat → Prop} (hB : B.Le (hp w))
  (hr : (zab b (uC d ++ rest) tyU).P B w C) (hC : ∀ k, C k → k < w.heap.size ∧ B k = none) :
  zdz Tryz.prog 108 [.slice (some ⟨b, 0, none⟩) m cap, .int .i64 a, .int .i64 e, .int .i64 p] w B C (zab b (uC (partitionEqual lt d a e p).2 ++ rest) tyU) (.int .i64 (partitionEqual lt d a e p).1) := by
 unfold zdz
 refine zap 900 (zab b (uC d ++ rest) tyU) Tryz.func108 rfl Tryz.ntmps108 (Nat.le_of_ble_eq_true rfl) hB hr hC ?_
 rw [za1]
 obtain ⟨_, qj⟩ := zcy (rest := rest) (show p < d.size by omega) (0 + (p) * 1) rfl
 obtain ⟨_, qi⟩ := zcy (rest := rest) (show a < d.size by omega) (0 + (a) * 1) rfl
 have s1 := zb9 (rest := rest) d[p]! (show a < d.size by omega) (0 + (a) * 1) rfl
 have b1 := zca (rest := rest) (show a < d.size by omega) (0 + (a) * 1) rfl
 have hz : p < (d.setIfInBounds (a) d[p]!).size := by rw [Array.size_setIfInBounds]; omega
 have s2 := zb9 (rest := rest) d[a]! hz (0 + (p) * 1) rfl
 have b2 := zca (rest := rest) hz (0 + (p) * 1) rfl
 rw [zc9] at s2
 have hw1 : IntKind.i64.wrap ((a : Int) + 1) = ((a + 1 : Nat) : Int) := zaa (by omega) (by omega)
 obtain ⟨e1, rfl⟩ : ∃ e1, e = e1 + 1 := ⟨e - 1, by omega⟩
 have hw2 : IntKind.i64.wrap (((e1 + 1 : Nat) : Int) - 1) = (e1 : Int) := zaa (by omega) (by omega) |>.trans (by omega)
 obtain ⟨X, hX⟩ : ∃ X, X = partitionEqual lt d a (e1 + 1) p := ⟨_, rfl⟩
 rw [← hX]
 have hR' := hX
 unfold partitionEqual at hR'
 rw [Nat.add_sub_cancel] at hR'
 have hDs := zbi d a p
 refine Z144 ?_; refine Z142 ?_; refine qg (id := 1) [(200018, [900]), (200022, [900]), (100023, [900]), (100024, [900])] mixed (by kernel_rfl) ?_; refine Z308 ?_; refine Z143 ?_; refine z8 (qh L _ rfl rfl rfl rfl rfl rfl rfl (by omega)) rfl ?_; refine qv (qu L (q := 900) rfl rfl rfl rfl rfl qj) rfl rfl ?_; refine Z143 ?_; refine z8 (qh L _ rfl rfl rfl rfl rfl rfl rfl (by omega)) rfl ?_; refine qv (qu L (q := 900) rfl rfl rfl rfl rfl qi) rfl rfl ?_; refine z8 (qh L _ rfl rfl rfl rfl rfl rfl rfl (by omega)) rfl ?_; refine x5 (yy L (q := 900) rfl rfl rfl rfl rfl rfl b1 rfl s1) rfl ?_; refine z8 (qh L _ rfl rfl rfl rfl rfl rfl rfl (by omega)) rfl ?_; refine x5 (yy L (q := 900) rfl rfl rfl rfl rfl rfl b2 rfl s2) rfl ?_; refine Z295 ?_; refine Z169 ?_; refine Z20 ?_; refine Z227 ?_; refine Z198 ?_; refine ql ?_
 generalize swp d a p = D at *
 refine zhl (zdv (fun s : Nat × Array Int => [(9, .is (.int .i64 s.1)), (900, .own (zaj b (uC s.2 ++ rest) tyU))]) (fun s => s.2.size = m ∧ s = X) (fun _ => []) ?_) ?_
 rotate_left
 ·refine zai (fun s : (Nat × Nat) × Array Int => [(0, .is (.slice (some ⟨b, 0, none⟩) m cap)), (1, .is (.int .i64 a)), (9, .is (.int .i64 s.1.1)), (10, .is (.int .i64 s.1.2)), (900, .own (zaj b (uC s.2 ++ rest) tyU))]) (fun s => s.2.size = m ∧ a + 1 ≤ s.1.1 ∧ s.1.1 ≤ e1 + 1 ∧ a ≤ s.1.2 ∧ s.1.2 ≤ e1 ∧ partEqLoop lt a s.1.1 s.1.2 s.2 = X) (fun s => s.1.2 + 1 - s.1.1) ((a + 1, e1), D) ⟨by dsimp only; omega, by dsimp only; omega, by dsimp only; omega, by dsimp only; omega, by dsimp only; omega, hR'.symm⟩ ⟨rfl, rfl, rfl, rfl, rfl, trivial⟩ ?_
  rintro ⟨⟨i0, j0⟩, G⟩ ⟨hG, hi1, hi2, hj1, hj2, hL⟩
  dsimp only at hG hi1 hi2 hj1 hj2 hL ⊢
  rw [partEqLoop] at hL
  clear hX hR' hDs
  refine ql (zh (ql ?_))
  refine zhl (zdv (fun i : Nat => [(0, .is (.slice (some ⟨b, 0, none⟩) m cap)), (1, .is (.int .i64 a)), (9, .is (.int .i64 i)), (10, .is (.int .i64 j0)), (900, .own (zaj b (uC G ++ rest) tyU))]) (fun i => i0 ≤ i ∧ i ≤ max i0 (j0 + 1) ∧ i = scanUp (fun x => !lt G[a]! x) G j0 i0) (fun _ => []) ?_) ?_
  rotate_left
  ·refine zai (fun i : Nat => [(0, .is (.slice (some ⟨b, 0, none⟩) m cap)), (1, .is (.int .i64 a)), (9, .is (.int .i64 i)), (10, .is (.int .i64 j0)), (900, .own (zaj b (uC G ++ rest) tyU))]) (fun i => i0 ≤ i ∧ i ≤ max i0 (j0 + 1) ∧ scanUp (fun x => !lt G[a]! x) G j0 i = scanUp (fun x => !lt G[a]! x) G j0 i0) (fun i => j0 + 1 - i) i0 ⟨Nat.le_refl _, by omega, rfl⟩ ⟨rfl, rfl, rfl, rfl, rfl, trivial⟩ ?_
   rintro i ⟨hi1, hi2, hi3⟩
   by_cases hle : i ≤ j0
   ·obtain ⟨_, qx⟩ := zcy (rest := rest) (show i < G.size by omega) (0 + (i) * 1) rfl
    obtain ⟨_, qa⟩ := zcy (rest := rest) (show a < G.size by omega) (0 + (a) * 1) rfl
    cases hc : lt G[a]! G[i]! with
    | false =>
     have hw : IntKind.i64.wrap ((i : Int) + 1) = ((i + 1 : Nat) : Int) := zaa (by omega) (by omega)
     refine Z137 ?_; refine qg (id := 3) [(200036, [900]), (200040, [900])] mixed (by kernel_rfl) ?_; refine Z353 ?_; refine z8 (qh L _ rfl rfl rfl rfl rfl rfl rfl (by omega)) rfl ?_; refine qv (qu L (q := 900) rfl rfl rfl rfl rfl qa) rfl rfl ?_; refine Z143 ?_; refine z8 (qh L _ rfl rfl rfl rfl rfl rfl rfl (by omega)) rfl ?_; refine qv (qu L (q := 900) rfl rfl rfl rfl rfl qx) rfl rfl ?_; refine z8 (zw L rfl rfl (zk rfl) rfl rfl rfl (fun u H hH _ _ => zbb hc hH)) rfl ?_; refine Z64 ?_; refine Z268 ?_; refine Z140 ?_; refine ql ?_; refine Z354 ?_; refine yc ?_
     exact yk (x := i) (i + 1) ⟨by omega, by omega, by rw [← hi3]; exact (zjo hle (by simp [hc])).symm⟩ (by omega) ⟨rfl, rfl, rfl, rfl, rfl, trivial⟩
    | true =>
     refine Z137 ?_; refine qg (id := 3) [(200036, [900]), (200040, [900])] mixed (by kernel_rfl) ?_; refine Z353 ?_; refine z8 (qh L _ rfl rfl rfl rfl rfl rfl rfl (by omega)) rfl ?_; refine qv (qu L (q := 900) rfl rfl rfl rfl rfl qa) rfl rfl ?_; refine Z143 ?_; refine z8 (qh L _ rfl rfl rfl rfl rfl rfl rfl (by omega)) rfl ?_; refine qv (qu L (q := 900) rfl rfl rfl rfl rfl qx) rfl rfl ?_; refine z8 (zw L rfl rfl (zk rfl) rfl rfl rfl (fun u H hH _ _ => zbb hc hH)) rfl ?_; refine Z64 ?_; refine Z273 ?_
     exact za5 i Since.refl ⟨hi1, hi2, by rw [← hi3]; exact (zdb (by rintro ⟨_, h⟩; simp [hc] at h)).symm⟩ rfl ⟨rfl, rfl, rfl, rfl, rfl, trivial⟩
   ·refine Z137 ?_; refine Z87 ?_; refine Z143 ?_; refine Z105 ?_; refine Z303 ?_; refine Z273 ?_
    exact za5 i Since.refl ⟨hi1, hi2, by rw [← hi3]; exact (zdb (by rintro ⟨h, _⟩; exact hle h)).symm⟩ rfl ⟨rfl, rfl, rfl, rfl, rfl, trivial⟩
  rintro K ⟨hK1, hK2, hK3⟩
  refine zh (ql ?_)
  refine zhl (zdv (fun i : Nat => [(0, .is (.slice (some ⟨b, 0, none⟩) m cap)), (1, .is (.int .i64 a)), (9, .is (.int .i64 K)), (10, .is (.int .i64 i)), (900, .own (zaj b (uC G ++ rest) tyU))]) (fun i => i ≤ j0 ∧ min (K - 1) j0 ≤ i ∧ i = scanDown (fun x => lt G[a]! x) G K j0) (fun _ => []) ?_) ?_
  rotate_left
  ·refine zai (fun i : Nat => [(0, .is (.slice (some ⟨b, 0, none⟩) m cap)), (1, .is (.int .i64 a)), (9, .is (.int .i64 K)), (10, .is (.int .i64 i)), (900, .own (zaj b (uC G ++ rest) tyU))]) (fun i => i ≤ j0 ∧ min (K - 1) j0 ≤ i ∧ scanDown (fun x => lt G[a]! x) G K i = scanDown (fun x => lt G[a]! x) G K j0) (fun i => i) j0 ⟨Nat.le_refl _, by omega, rfl⟩ ⟨rfl, rfl, rfl, rfl, rfl, trivial⟩ ?_
   rintro i ⟨hi1, hi2, hi3⟩
   by_cases hle : K ≤ i
   ·obtain ⟨_, qx⟩ := zcy (rest := rest) (show i < G.size by omega) (0 + (i) * 1) rfl
    obtain ⟨_, qa⟩ := zcy (rest := rest) (show a < G.size by omega) (0 + (a) * 1) rfl
    cases hc : lt G[a]! G[i]! with
    | true =>
     obtain ⟨i, rfl⟩ : ∃ k, i = k + 1 := ⟨i - 1, by omega⟩
     have hw : IntKind.i64.wrap (((i + 1 : Nat) : Int) - 1) = (i : Int) := zaa (by omega) (by omega) |>.trans (by omega)
     refine Z137 ?_; refine Z129 ?_; refine Z353 ?_; refine z8 (qh L _ rfl rfl rfl rfl rfl rfl rfl (by omega)) rfl ?_; refine qv (qu L (q := 900) rfl rfl rfl rfl rfl qa) rfl rfl ?_; refine Z143 ?_; refine z8 (qh L _ rfl rfl rfl rfl rfl rfl rfl (by omega)) rfl ?_; refine qv (qu L (q := 900) rfl rfl rfl rfl rfl qx) rfl rfl ?_; refine z8 (zw L rfl rfl (zk rfl) rfl rfl rfl (fun u H hH _ _ => zbb hc hH)) rfl ?_; refine Z268 ?_; refine Z140 ?_; refine ql ?_; refine Z187 ?_; refine Z26 ?_; refine Z246 ?_
     exact yk (x := i + 1) i ⟨by omega, by omega, by rw [← hi3]; exact (zgh hle (by simp [hc])).symm⟩ (by omega) ⟨rfl, rfl, rfl, rfl, rfl, trivial⟩
    | false =>
     refine Z137 ?_; refine Z129 ?_; refine Z353 ?_; refine z8 (qh L _ rfl rfl rfl rfl rfl rfl rfl (by omega)) rfl ?_; refine qv (qu L (q := 900) rfl rfl rfl rfl rfl qa) rfl rfl ?_; refine Z143 ?_; refine z8 (qh L _ rfl rfl rfl rfl rfl rfl rfl (by omega)) rfl ?_; refine qv (qu L (q := 900) rfl rfl rfl rfl rfl qx) rfl rfl ?_; refine z8 (zw L rfl rfl (zk rfl) rfl rfl rfl (fun u H hH _ _ => zbb hc hH)) rfl ?_; refine Z273 ?_
     exact za5 i Since.refl ⟨hi1, hi2, by rw [← hi3]; exact (zci (by rintro ⟨_, h⟩; simp [hc] at h)).symm⟩ rfl ⟨rfl, rfl, rfl, rfl, rfl, trivial⟩
   ·refine Z137 ?_; refine Z123 ?_; refine Z143 ?_; refine Z105 ?_; refine Z247 ?_; refine Z6 ?_; refine Z273 ?_
    exact za5 i Since.refl ⟨hi1, hi2, by rw [← hi3]; exact (zci (by rintro ⟨h, _⟩; exact hle h)).symm⟩ rfl ⟨rfl, rfl, rfl, rfl, rfl, trivial⟩
  rintro M ⟨hM1, hM2, hM3⟩
  rw [← hK3, ← hM3] at hL
  by_cases hKM : M < K
  ·rw [if_pos hKM] at hL
   refine Z137 ?_; refine Z307 ?_; refine Z38 ?_; refine Z141 ?_; refine Z162 ?_; refine zko rfl ?_; refine y9 ?_; refine yv ?_
   exact za5 (K, G) Since.refl ⟨hG, hL⟩ rfl ⟨rfl, rfl, trivial⟩
  ·rw [if_neg hKM, dif_pos (by omega)] at hL
   have hw5 : IntKind.i64.wrap ((K : Int) + 1) = ((K + 1 : Nat) : Int) := zaa (by omega) (by omega)
   have hw6 : IntKind.i64.wrap ((M : Int) - 1) = ((M - 1 : Nat) : Int) := zaa (by omega) (by omega) |>.trans (by omega)
   have hGs := zbi G K M
   obtain ⟨_, qj⟩ := zcy (rest := rest) (show M < G.size by omega) (0 + (M) * 1) rfl
   obtain ⟨_, qi⟩ := zcy (rest := rest) (show K < G.size by omega) (0 + (K) * 1) rfl
   have s1 := zb9 (rest := rest) G[M]! (show K < G.size by omega) (0 + (K) * 1) rfl
   have b1 := zca (rest := rest) (show K < G.size by omega) (0 + (K) * 1) rfl
   have hz : M < (G.setIfInBounds (K) G[M]!).size := by rw [Array.size_setIfInBounds]; omega
   have s2 := zb9 (rest := rest) G[K]! hz (0 + (M) * 1) rfl
   have b2 := zca (rest := rest) hz (0 + (M) * 1) rfl
   rw [zc9] at s2
   refine Z137 ?_; refine Z307 ?_; refine Z32 ?_; refine Z158 ?_; refine qg (id := 8) [(200072, [900]), (200076, [900]), (100077, [900]), (100078, [900])] mixed (by kernel_rfl) ?_; refine Z308 ?_; refine Z143 ?_; refine z8 (qh L _ rfl rfl rfl rfl rfl rfl rfl (by omega)) rfl ?_; refine qv (qu L (q := 900) rfl rfl rfl rfl rfl qj) rfl rfl ?_; refine Z143 ?_; refine z8 (qh L _ rfl rfl rfl rfl rfl rfl rfl (by omega)) rfl ?_; refine qv (qu L (q := 900) rfl rfl rfl rfl rfl qi) rfl rfl ?_; refine z8 (qh L _ rfl rfl rfl rfl rfl rfl rfl (by omega)) rfl ?_; refine x5 (yy L (q := 900) rfl rfl rfl rfl rfl rfl b1 rfl s1) rfl ?_; refine z8 (qh L _ rfl rfl rfl rfl rfl rfl rfl (by omega)) rfl ?_; refine x5 (yy L (q := 900) rfl rfl rfl rfl rfl rfl b2 rfl s2) rfl ?_; refine Z295 ?_; refine Z289 ?_; refine Z20 ?_; refine Z136 ?_; refine Z67 ?_; refine Z227 ?_; refine Z246 ?_
   exact yk (x := ((i0, j0), G)) ((K + 1, M - 1), swp G K M) ⟨by dsimp only; omega, by dsimp only; omega, by dsimp only; omega, by dsimp only; omega, by dsimp only; omega, hL⟩ (by dsimp only; omega) ⟨rfl, rfl, rfl, rfl, rfl, trivial⟩
 ·rintro ⟨K, G⟩ ⟨hG, hL⟩
  dsimp only at hG ⊢
  rw [← hL]
  refine zh ?_; refine Z259 ?_; refine Z136 ?_
  exact zfw L 900 (r := zab b _ tyU) (rs := [.tmp 8]) rfl (fun _ _ h => h) Since.refl rfl rfl (fun _ => rfl)
end Go.V.So
set_option maxRecDepth 20000
namespace Go.V.So
open Go.Proofs Go.RowKit Go.V Go.Sort
theorem _root_.Go.V.Z115 {A B : Prop} (h : B) (t : Wr B → A := by intro h; refine zf (id := 21) ?_; exact h.h) : A := t ⟨h⟩
theorem _root_.Go.V.Z355 {A B : Prop} (h : B) (t : Wr B → A := by intro h; refine Z97 ?_; refine Z138 ?_; exact h.h) : A := t ⟨h⟩
theorem _root_.Go.V.Z403 {A B : Prop} (h : B) (t : Wr B → A := by intro h; refine Z115 ?_; refine Z1 ?_; exact h.h) : A := t ⟨h⟩
attribute [local irreducible] V N X VO Par StepOK Has Ret RetL RetO zb3 zdz Src
theorem zfn {d : Array Int} {e i : Nat} (h : ¬ (i < e ∧ lt d[i]! d[i - 1]! = false)) : scanSorted lt d e i = i := by
 rw [scanSorted, if_neg]
 simpa using h
theorem zlz {d : Array Int} {e i : Nat} (h1 : i < e) (h2 : lt d[i]! d[i - 1]! = false) : scanSorted lt d e i = scanSorted lt d e (i + 1) := by
 rw [scanSorted, if_pos (by simp [h1, h2])]
set_option maxHeartbeats 2000000 in
set_option maxRecDepth 20000 in
theorem pins_ret {d : Array Int} {rest : List Value} {b m cap a e : Nat} (hab : a < e) (he : e ≤ d.size) (hm : d.size = m) (hm1 : m ≤ 100000) {w : World} {B : Heap} {C : Nat → Prop} (hB : B.Le (hp w))
  (hr : (zab b (uC d ++ rest) tyU).P B w C) (hC : ∀ k, C k → k < w.heap.size ∧ B k = none) :
  zdz Tryz.prog 106 [.slice (some ⟨b, 0, none⟩) m cap, .int .i64 a, .int .i64 e] w B C (zab b (uC (partialInsertionSort lt d a e).1 ++ rest) tyU) (.bool (partialInsertionSort lt d a e).2) := by
 unfold zdz
 refine zap 900 (zab b (uC d ++ rest) tyU) Tryz.func106 rfl Tryz.ntmps106 (Nat.le_of_ble_eq_true rfl) hB hr hC ?_
 rw [za1]
 have hw1 : IntKind.i64.wrap ((a : Int) + 1) = ((a + 1 : Nat) : Int) := zaa (by omega) (by omega)
 have hw2 : IntKind.i64.wrap ((e : Int) - (a : Int)) = ((e - a : Nat) : Int) := zaa (by omega) (by omega) |>.trans (by omega)
 obtain ⟨X, hX⟩ : ∃ X, X = partialInsertionSort lt d a e := ⟨_, rfl⟩
 rw [← hX]
 unfold partialInsertionSort at hX
 refine Z316 ?_; refine Z20 ?_; refine Z145 ?_; refine Z370 ?_
 refine zai (fun s : (Nat × Nat) × Array Int => [(0, .is (.slice (some ⟨b, 0, none⟩) m cap)), (1, .is (.int .i64 a)), (2, .is (.int .i64 e)), (7, .is (.int .i64 s.1.2)), (8, .is (.int .i64 s.1.1)), (900, .own (zaj b (uC s.2 ++ rest) tyU))]) (fun s => s.1.1 ≤ 5 ∧ a + 1 ≤ s.1.2 ∧ s.1.2 ≤ e ∧ s.2.size = m ∧ partialIns lt a e (5 - s.1.1) s.1.2 s.2 = X) (fun s => 5 - s.1.1) ((0, a + 1), d) ⟨by dsimp only; omega, by dsimp only; omega, by dsimp only; omega, hm, hX.symm⟩ ⟨rfl, rfl, rfl, rfl, rfl, rfl, trivial⟩ ?_
 rintro ⟨⟨k, i0⟩, D⟩ ⟨hk, hi1, hi2, hD, hL⟩
 dsimp only at hk hi1 hi2 hD hL ⊢
 clear hX
 by_cases hk5 : k < 5
 ·obtain ⟨s, hs⟩ : ∃ s, 5 - k = s + 1 := ⟨5 - k - 1, by omega⟩
  have hs' : 5 - (k + 1) = s := by omega
  rw [hs, partialIns] at hL
  dsimp only at hL
  refine Z252 ?_; refine Z170 ?_; refine Z166 ?_; refine ql ?_
  refine zhl (zdv (fun i : Nat => [(0, .is (.slice (some ⟨b, 0, none⟩) m cap)), (1, .is (.int .i64 a)), (2, .is (.int .i64 e)), (7, .is (.int .i64 i)), (8, .is (.int .i64 k)), (900, .own (zaj b (uC D ++ rest) tyU))]) (fun i => a + 1 ≤ i ∧ i ≤ e ∧ i = scanSorted lt D e i0) (fun _ => []) ?_) ?_
  rotate_left
  ·refine zai (fun i : Nat => [(0, .is (.slice (some ⟨b, 0, none⟩) m cap)), (1, .is (.int .i64 a)), (2, .is (.int .i64 e)), (7, .is (.int .i64 i)), (8, .is (.int .i64 k)), (900, .own (zaj b (uC D ++ rest) tyU))]) (fun i => a + 1 ≤ i ∧ i ≤ e ∧ scanSorted lt D e i = scanSorted lt D e i0) (fun i => e - i) i0 ⟨hi1, hi2, rfl⟩ ⟨rfl, rfl, rfl, rfl, rfl, rfl, trivial⟩ ?_
   rintro i ⟨h1, h2, h3⟩
   by_cases hle : i < e
   ·obtain ⟨_, q1⟩ := zcy (rest := rest) (show i < D.size by omega) (0 + (i) * 1) rfl
    obtain ⟨_, q2⟩ := zcy (rest := rest) (show i - 1 < D.size by omega) (0 + (i - 1) * 1) rfl
    have hw3 : IntKind.i64.wrap ((i : Int) - 1) = ((i - 1 : Nat) : Int) := zaa (by omega) (by omega) |>.trans (by omega)
    cases hc : lt D[i]! D[i - 1]! with
    | false =>
     have hw4 : IntKind.i64.wrap ((i : Int) + 1) = ((i + 1 : Nat) : Int) := zaa (by omega) (by omega)
     refine Z137 ?_; refine qg (id := 5) [(200024, [900]), (200029, [900])] mixed (by kernel_rfl) ?_; refine Z143 ?_; refine Z75 ?_; refine Z177 ?_; refine z8 (qh L _ rfl rfl rfl rfl rfl rfl rfl (by omega)) rfl ?_; refine qv (qu L (q := 900) rfl rfl rfl rfl rfl q1) rfl rfl ?_; refine Z243 ?_; refine z8 (qh L _ rfl rfl rfl rfl rfl rfl rfl (by omega)) rfl ?_; refine qv (qu L (q := 900) rfl rfl rfl rfl rfl q2) rfl rfl ?_; refine z8 (zw L rfl rfl (zk rfl) rfl rfl rfl (fun u H hH _ _ => zbb hc hH)) rfl ?_; refine Z64 ?_; refine Z268 ?_; refine Z140 ?_; refine ql ?_; refine Z187 ?_; refine Z213 ?_; refine yc ?_
     exact yk (x := i) (i + 1) ⟨by omega, by omega, by rw [← h3]; exact (zlz hle hc).symm⟩ (by omega) ⟨rfl, rfl, rfl, rfl, rfl, rfl, trivial⟩
    | true =>
     refine Z137 ?_; refine qg (id := 5) [(200024, [900]), (200029, [900])] mixed (by kernel_rfl) ?_; refine Z143 ?_; refine Z75 ?_; refine Z177 ?_; refine z8 (qh L _ rfl rfl rfl rfl rfl rfl rfl (by omega)) rfl ?_; refine qv (qu L (q := 900) rfl rfl rfl rfl rfl q1) rfl rfl ?_; refine Z243 ?_; refine z8 (qh L _ rfl rfl rfl rfl rfl rfl rfl (by omega)) rfl ?_; refine qv (qu L (q := 900) rfl rfl rfl rfl rfl q2) rfl rfl ?_; refine z8 (zw L rfl rfl (zk rfl) rfl rfl rfl (fun u H hH _ _ => zbb hc hH)) rfl ?_; refine Z64 ?_; refine Z273 ?_
     exact za5 i Since.refl ⟨h1, h2, by rw [← h3]; exact (zfn (by rintro ⟨_, h⟩; simp [hc] at h)).symm⟩ rfl ⟨rfl, rfl, rfl, rfl, rfl, rfl, trivial⟩
   ·refine Z137 ?_; refine Z123 ?_; refine Z143 ?_; refine Z88 ?_; refine Z303 ?_; refine Z6 ?_; refine Z273 ?_
    exact za5 i Since.refl ⟨h1, h2, by rw [← h3]; exact (zfn (by rintro ⟨h, _⟩; exact hle h)).symm⟩ rfl ⟨rfl, rfl, rfl, rfl, rfl, rfl, trivial⟩
  ·rintro i ⟨h1, h2, h3⟩
   rw [← h3] at hL
   by_cases hie : i = e
   ·rw [if_pos hie] at hL
    subst hie
    rw [← hL]
    refine Z137 ?_; refine Z307 ?_; refine Z300 ?_; refine Z367 ?_
    exact zfw L 900 (r := zab b _ tyU) (rs := [.tmp 6]) rfl (fun _ _ h => h) Since.refl rfl rfl (fun _ => rfl)
   ·rw [if_neg hie] at hL
    by_cases h50 : e - a < 50
    ·rw [if_pos h50] at hL
     rw [← hL]
     refine Z137 ?_; refine Z307 ?_; refine Z269 ?_; refine Z60 ?_; refine Z208 ?_; refine Z8 ?_; refine Z152 ?_; refine Z67 ?_; refine Z136 ?_
     exact zfw L 900 (r := zab b _ tyU) (rs := [.tmp 6]) rfl (fun _ _ h => h) Since.refl rfl rfl (fun _ => rfl)
    ·rw [if_neg h50] at hL
     have hw3 : IntKind.i64.wrap ((i : Int) - 1) = ((i - 1 : Nat) : Int) := zaa (by omega) (by omega) |>.trans (by omega)
     have hw4 : IntKind.i64.wrap ((i : Int) - (a : Int)) = ((i - a : Nat) : Int) := zaa (by omega) (by omega) |>.trans (by omega)
     have hw5 : IntKind.i64.wrap ((e : Int) - (i : Int)) = ((e - i : Nat) : Int) := zaa (by omega) (by omega) |>.trans (by omega)
     have hw6 : IntKind.i64.wrap ((i : Int) + 1) = ((i + 1 : Nat) : Int) := zaa (by omega) (by omega)
     have hw7 : IntKind.i64.wrap ((k : Int) + 1) = ((k + 1 : Nat) : Int) := zaa (by omega) (by omega)
     have hDs := zbi D i (i - 1)
     obtain ⟨_, qj⟩ := zcy (rest := rest) (show i - 1 < D.size by omega) (0 + (i - 1) * 1) rfl
     obtain ⟨_, qi⟩ := zcy (rest := rest) (show i < D.size by omega) (0 + (i) * 1) rfl
     have s1 := zb9 (rest := rest) D[i - 1]! (show i < D.size by omega) (0 + (i) * 1) rfl
     have b1 := zca (rest := rest) (show i < D.size by omega) (0 + (i) * 1) rfl
     have hz : i - 1 < (D.setIfInBounds (i) D[i - 1]!).size := by rw [Array.size_setIfInBounds]; omega
     have s2 := zb9 (rest := rest) D[i]! hz (0 + (i - 1) * 1) rfl
     have b2 := zca (rest := rest) hz (0 + (i - 1) * 1) rfl
     rw [zc9] at s2
     refine Z137 ?_; refine Z307 ?_; refine Z269 ?_; refine Z60 ?_; refine Z208 ?_; refine Z11 ?_; refine Z158 ?_; refine qg (id := 11) [(200051, [900]), (200055, [900]), (100056, [900]), (100057, [900])] mixed (by kernel_rfl) ?_; refine Z143 ?_; refine Z243 ?_; refine Z243 ?_; refine z8 (qh L _ rfl rfl rfl rfl rfl rfl rfl (by omega)) rfl ?_; refine qv (qu L (q := 900) rfl rfl rfl rfl rfl qj) rfl rfl ?_; refine Z143 ?_; refine z8 (qh L _ rfl rfl rfl rfl rfl rfl rfl (by omega)) rfl ?_; refine qv (qu L (q := 900) rfl rfl rfl rfl rfl qi) rfl rfl ?_; refine z8 (qh L _ rfl rfl rfl rfl rfl rfl rfl (by omega)) rfl ?_; refine x5 (yy L (q := 900) rfl rfl rfl rfl rfl rfl b1 rfl s1) rfl ?_; refine z8 (qh L _ rfl rfl rfl rfl rfl rfl rfl (by omega)) rfl ?_; refine x5 (yy L (q := 900) rfl rfl rfl rfl rfl rfl b2 rfl s2) rfl ?_; refine Z147 ?_; refine Z137 ?_
     generalize swp D i (i - 1) = D1 at *
     obtain ⟨D2, hD2⟩ : ∃ D2, D2 = (if i - a ≥ 2 then shiftDown lt (i - 1) D1 else D1) := ⟨_, rfl⟩
     rw [← hD2] at hL
     refine zfa (fun E : Array Int => [(0, .is (.slice (some ⟨b, 0, none⟩) m cap)), (1, .is (.int .i64 a)), (2, .is (.int .i64 e)), (7, .is (.int .i64 i)), (8, .is (.int .i64 k)), (900, .own (zaj b (uC E ++ rest) tyU))]) (fun E => E.size = m ∧ E = D2) (fun _ => []) ?_ ?_
     rotate_left
     ·by_cases h2a : i - a ≥ 2
      ·rw [if_pos h2a] at hD2
       refine Z80 ?_; refine Z208 ?_; refine Z41 ?_; refine Z152 ?_; refine Z86 ?_; refine Z227 ?_; refine Z197 ?_
       refine zai (fun t : Nat × Array Int => [(0, .is (.slice (some ⟨b, 0, none⟩) m cap)), (1, .is (.int .i64 a)), (2, .is (.int .i64 e)), (7, .is (.int .i64 i)), (8, .is (.int .i64 k)), (9, .is (.int .i64 t.1)), (900, .own (zaj b (uC t.2 ++ rest) tyU))]) (fun t => t.1 ≤ i - 1 ∧ t.2.size = m ∧ shiftDown lt t.1 t.2 = D2) (fun t => t.1) (i - 1, D1) ⟨Nat.le_refl _, by dsimp only; omega, hD2.symm⟩ ⟨rfl, rfl, rfl, rfl, rfl, rfl, rfl, trivial⟩ ?_
       rintro ⟨j, E⟩ ⟨hj, hE, hS⟩
       dsimp only at hj hE hS ⊢
       clear hD2
       rcases j with _ | j
       ·rw [shiftDown] at hS
        refine Z137 ?_; refine Z271 ?_; refine Z46 ?_; refine Z174 ?_
        exact za5 E Since.refl ⟨hE, hS⟩ rfl ⟨rfl, rfl, rfl, rfl, rfl, rfl, trivial⟩
       ·rw [shiftDown] at hS
        have hw8 : IntKind.i64.wrap (((j + 1 : Nat) : Int) - 1) = (j : Int) := zaa (by omega) (by omega) |>.trans (by omega)
        obtain ⟨_, q1⟩ := zcy (rest := rest) (show j + 1 < E.size by omega) (0 + (j + 1) * 1) rfl
        obtain ⟨_, q2⟩ := zcy (rest := rest) (show j < E.size by omega) (0 + (j) * 1) rfl
        cases hc : lt E[j + 1]! E[j]! with
        | false =>
         rw [if_pos (by rw [hc]; rfl)] at hS
         refine Z137 ?_; refine Z271 ?_; refine Z253 ?_; refine Z341 ?_; refine qg (id := 16) [(200071, [900]), (200076, [900])] mixed (by kernel_rfl) ?_; refine Z143 ?_; refine z8 (qh L _ rfl rfl rfl rfl rfl rfl rfl (by omega)) rfl ?_; refine qv (qu L (q := 900) rfl rfl rfl rfl rfl q1) rfl rfl ?_; refine Z243 ?_; refine z8 (qh L _ rfl rfl rfl rfl rfl rfl rfl (by omega)) rfl ?_; refine qv (qu L (q := 900) rfl rfl rfl rfl rfl q2) rfl rfl ?_; refine z8 (zw L rfl rfl (zk rfl) rfl rfl rfl (fun u H hH _ _ => zbb hc hH)) rfl ?_; refine Z64 ?_; refine Z211 ?_; refine Z162 ?_; refine zko rfl ?_; refine y9 ?_; refine y9 ?_; refine yv ?_
         exact za5 E Since.refl ⟨hE, hS⟩ rfl ⟨rfl, rfl, rfl, rfl, rfl, rfl, trivial⟩
        | true =>
         rw [if_neg (by rw [hc]; simp)] at hS
         obtain ⟨_, qj⟩ := zcy (rest := rest) (show j < E.size by omega) (0 + (j) * 1) rfl
         obtain ⟨_, qi⟩ := zcy (rest := rest) (show j + 1 < E.size by omega) (0 + (j + 1) * 1) rfl
         have s1 := zb9 (rest := rest) E[j]! (show j + 1 < E.size by omega) (0 + (j + 1) * 1) rfl
         have b1 := zca (rest := rest) (show j + 1 < E.size by omega) (0 + (j + 1) * 1) rfl
         have hz : j < (E.setIfInBounds (j + 1) E[j]!).size := by rw [Array.size_setIfInBounds]; omega
         have s2 := zb9 (rest := rest) E[j + 1]! hz (0 + (j) * 1) rfl
         have b2 := zca (rest := rest) hz (0 + (j) * 1) rfl
         rw [zc9] at s2
         refine Z137 ?_; refine Z271 ?_; refine Z253 ?_; refine Z341 ?_; refine qg (id := 16) [(200071, [900]), (200076, [900])] mixed (by kernel_rfl) ?_; refine Z143 ?_; refine z8 (qh L _ rfl rfl rfl rfl rfl rfl rfl (by omega)) rfl ?_; refine qv (qu L (q := 900) rfl rfl rfl rfl rfl q1) rfl rfl ?_; refine Z243 ?_; refine z8 (qh L _ rfl rfl rfl rfl rfl rfl rfl (by omega)) rfl ?_; refine qv (qu L (q := 900) rfl rfl rfl rfl rfl q2) rfl rfl ?_; refine z8 (zw L rfl rfl (zk rfl) rfl rfl rfl (fun u H hH _ _ => zbb hc hH)) rfl ?_; refine Z64 ?_; refine Z180 ?_; refine Z140 ?_; refine qg (id := 17) [(200088, [900]), (200092, [900]), (100093, [900]), (100094, [900])] mixed (by kernel_rfl) ?_; refine Z143 ?_; refine Z243 ?_; refine Z243 ?_; refine z8 (qh L _ rfl rfl rfl rfl rfl rfl rfl (by omega)) rfl ?_; refine qv (qu L (q := 900) rfl rfl rfl rfl rfl qj) rfl rfl ?_; refine Z143 ?_; refine z8 (qh L _ rfl rfl rfl rfl rfl rfl rfl (by omega)) rfl ?_; refine qv (qu L (q := 900) rfl rfl rfl rfl rfl qi) rfl rfl ?_; refine z8 (qh L _ rfl rfl rfl rfl rfl rfl rfl (by omega)) rfl ?_; refine x5 (yy L (q := 900) rfl rfl rfl rfl rfl rfl b1 rfl s1) rfl ?_; refine z8 (qh L _ rfl rfl rfl rfl rfl rfl rfl (by omega)) rfl ?_; refine x5 (yy L (q := 900) rfl rfl rfl rfl rfl rfl b2 rfl s2) rfl ?_; refine Z264 ?_; refine Z95 ?_; refine Z227 ?_; refine Z150 ?_
         exact yk (x := (j + 1, E)) (j, swp E (j + 1) j) ⟨by dsimp only; omega, by dsimp only; rw [zbi]; exact hE, hS⟩ (by dsimp only; omega) ⟨rfl, rfl, rfl, rfl, rfl, rfl, rfl, trivial⟩
      ·rw [if_neg h2a] at hD2
       refine Z80 ?_; refine Z208 ?_; refine Z46 ?_; refine Z193 ?_
       exact za5 D1 Since.refl ⟨by omega, hD2.symm⟩ rfl ⟨rfl, rfl, rfl, rfl, rfl, rfl, trivial⟩
     ·rintro G ⟨hG, hGe⟩
      rw [← hGe] at hL
      clear hD2 hGe
      by_cases h2b : e - i ≥ 2
      ·rw [if_pos h2b] at hL
       obtain ⟨D3, hD3⟩ : ∃ D3, D3 = shiftUp lt e (i + 1) G := ⟨_, rfl⟩
       rw [← hD3] at hL
       refine zh ?_; refine Z103 ?_; refine Z208 ?_; refine Z41 ?_; refine Z152 ?_; refine Z119 ?_; refine Z1 ?_; refine Z20 ?_; refine Z197 ?_
       ·refine zai (fun t : Nat × Array Int => [(0, .is (.slice (some ⟨b, 0, none⟩) m cap)), (1, .is (.int .i64 a)), (2, .is (.int .i64 e)), (7, .is (.int .i64 i)), (8, .is (.int .i64 k)), (10, .is (.int .i64 t.1)), (900, .own (zaj b (uC t.2 ++ rest) tyU))]) (fun t => i + 1 ≤ t.1 ∧ t.1 ≤ e ∧ t.2.size = m ∧ shiftUp lt e t.1 t.2 = D3) (fun t => e - t.1) (i + 1, G) ⟨Nat.le_refl _, by dsimp only; omega, hG, hD3.symm⟩ ⟨rfl, rfl, rfl, rfl, rfl, rfl, rfl, trivial⟩ ?_
        rintro ⟨j, E⟩ ⟨hj1, hj2, hE, hS⟩
        dsimp only at hj1 hj2 hE hS ⊢
        clear hD3
        rw [shiftUp] at hS
        by_cases hje : j < e
        ·rw [if_pos hje] at hS
         have hw8 : IntKind.i64.wrap ((j : Int) - 1) = ((j - 1 : Nat) : Int) := zaa (by omega) (by omega) |>.trans (by omega)
         have hw9 : IntKind.i64.wrap ((j : Int) + 1) = ((j + 1 : Nat) : Int) := zaa (by omega) (by omega)
         obtain ⟨_, q1⟩ := zcy (rest := rest) (show j < E.size by omega) (0 + (j) * 1) rfl
         obtain ⟨_, q2⟩ := zcy (rest := rest) (show j - 1 < E.size by omega) (0 + (j - 1) * 1) rfl
         cases hc : lt E[j]! E[j - 1]! with
         | false =>
          rw [if_pos (by rw [hc]; rfl)] at hS
          refine Z137 ?_; refine Z355 ?_; refine Z170 ?_; refine Z341 ?_; refine qg (id := 22) [(200109, [900]), (200114, [900])] mixed (by kernel_rfl) ?_; refine Z143 ?_; refine z8 (qh L _ rfl rfl rfl rfl rfl rfl rfl (by omega)) rfl ?_; refine qv (qu L (q := 900) rfl rfl rfl rfl rfl q1) rfl rfl ?_; refine Z243 ?_; refine z8 (qh L _ rfl rfl rfl rfl rfl rfl rfl (by omega)) rfl ?_; refine qv (qu L (q := 900) rfl rfl rfl rfl rfl q2) rfl rfl ?_; refine z8 (zw L rfl rfl (zk rfl) rfl rfl rfl (fun u H hH _ _ => zbb hc hH)) rfl ?_; refine Z64 ?_; refine Z211 ?_; refine Z162 ?_; refine zko rfl ?_; refine y9 ?_; refine y9 ?_; refine yv ?_; refine Z161 ?_; refine Z354 ?_
          exact yk (x := ((k, i0), D)) ((k + 1, i), E) ⟨by dsimp only; omega, by dsimp only; omega, by dsimp only; omega, hE, by dsimp only; rw [hs', hS]; exact hL⟩ (by dsimp only; omega) ⟨rfl, rfl, rfl, rfl, rfl, rfl, trivial⟩
         | true =>
          rw [if_neg (by rw [hc]; simp)] at hS
          obtain ⟨_, qj⟩ := zcy (rest := rest) (show j - 1 < E.size by omega) (0 + (j - 1) * 1) rfl
          obtain ⟨_, qi⟩ := zcy (rest := rest) (show j < E.size by omega) (0 + (j) * 1) rfl
          have s1 := zb9 (rest := rest) E[j - 1]! (show j < E.size by omega) (0 + (j) * 1) rfl
          have b1 := zca (rest := rest) (show j < E.size by omega) (0 + (j) * 1) rfl
          have hz : j - 1 < (E.setIfInBounds (j) E[j - 1]!).size := by rw [Array.size_setIfInBounds]; omega
          have s2 := zb9 (rest := rest) E[j]! hz (0 + (j - 1) * 1) rfl
          have b2 := zca (rest := rest) hz (0 + (j - 1) * 1) rfl
          rw [zc9] at s2
          refine Z137 ?_; refine Z355 ?_; refine Z170 ?_; refine Z341 ?_; refine qg (id := 22) [(200109, [900]), (200114, [900])] mixed (by kernel_rfl) ?_; refine Z143 ?_; refine z8 (qh L _ rfl rfl rfl rfl rfl rfl rfl (by omega)) rfl ?_; refine qv (qu L (q := 900) rfl rfl rfl rfl rfl q1) rfl rfl ?_; refine Z243 ?_; refine z8 (qh L _ rfl rfl rfl rfl rfl rfl rfl (by omega)) rfl ?_; refine qv (qu L (q := 900) rfl rfl rfl rfl rfl q2) rfl rfl ?_; refine z8 (zw L rfl rfl (zk rfl) rfl rfl rfl (fun u H hH _ _ => zbb hc hH)) rfl ?_; refine Z64 ?_; refine Z180 ?_; refine Z140 ?_; refine qg (id := 23) [(200126, [900]), (200130, [900]), (100131, [900]), (100132, [900])] mixed (by kernel_rfl) ?_; refine Z143 ?_; refine Z243 ?_; refine Z243 ?_; refine z8 (qh L _ rfl rfl rfl rfl rfl rfl rfl (by omega)) rfl ?_; refine qv (qu L (q := 900) rfl rfl rfl rfl rfl qj) rfl rfl ?_; refine Z143 ?_; refine z8 (qh L _ rfl rfl rfl rfl rfl rfl rfl (by omega)) rfl ?_; refine qv (qu L (q := 900) rfl rfl rfl rfl rfl qi) rfl rfl ?_; refine z8 (qh L _ rfl rfl rfl rfl rfl rfl rfl (by omega)) rfl ?_; refine x5 (yy L (q := 900) rfl rfl rfl rfl rfl rfl b1 rfl s1) rfl ?_; refine z8 (qh L _ rfl rfl rfl rfl rfl rfl rfl (by omega)) rfl ?_; refine x5 (yy L (q := 900) rfl rfl rfl rfl rfl rfl b2 rfl s2) rfl ?_; refine Z264 ?_; refine Z403 ?_; refine Z213 ?_
          exact yk (x := (j, E)) (j + 1, swp E j (j - 1)) ⟨by dsimp only; omega, by dsimp only; omega, by dsimp only; rw [zbi]; exact hE, hS⟩ (by dsimp only; omega) ⟨rfl, rfl, rfl, rfl, rfl, rfl, rfl, trivial⟩
        ·rw [if_neg hje] at hS
         refine Z137 ?_; refine Z97 ?_; refine Z272 ?_; refine Z174 ?_; refine Z161 ?_; refine Z354 ?_
         exact yk (x := ((k, i0), D)) ((k + 1, i), E) ⟨by dsimp only; omega, by dsimp only; omega, by dsimp only; omega, hE, by dsimp only; rw [hs', hS]; exact hL⟩ (by dsimp only; omega) ⟨rfl, rfl, rfl, rfl, rfl, rfl, trivial⟩
      ·rw [if_neg h2b] at hL
       refine zh ?_; refine Z103 ?_; refine Z208 ?_; refine Z46 ?_; refine Z215 ?_; refine Z354 ?_
       exact yk (x := ((k, i0), D)) ((k + 1, i), G) ⟨by dsimp only; omega, by dsimp only; omega, by dsimp only; omega, hG, by dsimp only; rw [hs']; exact hL⟩ (by dsimp only; omega) ⟨rfl, rfl, rfl, rfl, rfl, rfl, trivial⟩
 ·obtain rfl : k = 5 := by omega
  have hL' : (D, false) = X := hL
  rw [← hL']
  refine Z252 ?_; refine Z245 ?_; refine zf (id := 24) ?_; refine Z136 ?_
  exact zfw L 900 (r := zab b _ tyU) (rs := [.tmp 6]) rfl (fun _ _ h => h) Since.refl rfl rfl (fun _ => rfl)
end Go.V.So
set_option maxRecDepth 20000
namespace Go.V.So
open Go.Proofs Go.RowKit Go.V Go.Sort
theorem _root_.Go.V.Z66 {A B : Prop} (h : B) (t : Wr B → A := by intro h; refine yx (qu L (q := 900) rfl rfl rfl rfl rfl rfl) ?_; exact h.h) : A := t ⟨h⟩
theorem _root_.Go.V.Z91 {A B : Prop} (h : B) (t : Wr B → A := by intro h; refine qv (qu L (q := 900) rfl rfl rfl rfl rfl rfl) rfl rfl ?_; exact h.h) : A := t ⟨h⟩
theorem _root_.Go.V.Z385 {A B : Prop} (h : B) (t : Wr B → A := by intro h; refine Z42 ?_; refine x5 (yy L (q := 900) rfl rfl rfl rfl rfl rfl rfl rfl rfl) rfl ?_; exact h.h) : A := t ⟨h⟩
abbrev tyX : TypeId := 233
attribute [local irreducible] V N X VO Par StepOK Has Ret RetL RetO zb3 zdz Src
set_option maxRecDepth 20000 in
theorem zqm {x b : Nat} (hx : x < 18446744073709551616) {w : World} {B : Heap} {C : Nat → Prop} (hB : B.Le (hp w))
  (hr : (zab b [.int .u64 x] tyX).P B w C) (hC : ∀ k, C k → k < w.heap.size ∧ B k = none) :
  zdz Tryz.prog 150 [.pointer (some ⟨b, 0, none⟩)] w B C (zab b [.int .u64 (xorNextN x : Nat)] tyX) (.int .u64 (xorNextN x : Nat)) := by
 obtain ⟨X1, h1⟩ : ∃ X1 : Nat, X1 = x ^^^ (x * 8192 % 18446744073709551616) := ⟨_, rfl⟩
 obtain ⟨X2, h2⟩ : ∃ X2 : Nat, X2 = X1 ^^^ (X1 / 128) := ⟨_, rfl⟩
 obtain ⟨X3, h3⟩ : ∃ X3 : Nat, X3 = X2 ^^^ (X2 * 131072 % 18446744073709551616) := ⟨_, rfl⟩
 have l1 : X1 < 18446744073709551616 := by rw [h1]; exact Nat.xor_lt_two_pow (n := 64) (by omega) (by omega)
 have l2 : X2 < 18446744073709551616 := by rw [h2]; exact Nat.xor_lt_two_pow (n := 64) (by omega) (by omega)
 have l3 : X3 < 18446744073709551616 := by rw [h3]; exact Nat.xor_lt_two_pow (n := 64) (by omega) (by omega)
 have hv : xorNextN x = X3 := by unfold xorNextN; simp only []; rw [← h1, ← h2, ← h3]
 have s1 : IntKind.u64.wrap ((x : Int) * 2 ^ min (13 : Int).toNat IntKind.u64.bits) = ((x * 8192 % 18446744073709551616 : Nat) : Int) := by
  rw [IntKind.wrap_u64, show ((2 : Int) ^ min (13 : Int).toNat IntKind.u64.bits) = 8192 from by decide]; omega
 have s2 : (X1 : Int).fdiv (2 ^ min (7 : Int).toNat IntKind.u64.bits) = ((X1 / 128 : Nat) : Int) := by
  rw [show ((2 : Int) ^ min (7 : Int).toNat IntKind.u64.bits) = 128 from by decide, Int.fdiv_eq_ediv_of_nonneg _ (by omega)]; omega
 have s3 : IntKind.u64.wrap ((X2 : Int) * 2 ^ min (17 : Int).toNat IntKind.u64.bits) = ((X2 * 131072 % 18446744073709551616 : Nat) : Int) := by
  rw [IntKind.wrap_u64, show ((2 : Int) ^ min (17 : Int).toNat IntKind.u64.bits) = 131072 from by decide]; omega
 have x1 : bits .xor .u64 (x : Int) ((x * 8192 % 18446744073709551616 : Nat) : Int) = (X1 : Int) := by rw [bits_xor_u64_nat _ _ hx (by omega), h1]
 have x2 : bits .xor .u64 (X1 : Int) ((X1 / 128 : Nat) : Int) = (X2 : Int) := by rw [bits_xor_u64_nat _ _ l1 (by omega), h2]
 have x3 : bits .xor .u64 (X2 : Int) ((X2 * 131072 % 18446744073709551616 : Nat) : Int) = (X3 : Int) := by rw [bits_xor_u64_nat _ _ l2 (by omega), h3]
 rw [hv]
 clear hv h1 h2 h3
 unfold zdz
 refine zap 900 (zab b [.int .u64 x] tyX) Tryz.func150 rfl Tryz.ntmps150 (Nat.le_of_ble_eq_true rfl) hB hr hC ?_
 rw [za1]
 refine Z144 ?_; refine Z142 ?_; refine qg (id := 1) [(200005, [900]), (200008, [900]), (100011, [900])] mixed (by kernel_rfl) ?_; refine Z3 ?_; refine Z42 ?_; refine Z91 ?_; refine Z3 ?_; refine Z42 ?_; refine Z91 ?_; refine z8 (zue rfl rfl rfl rfl (by decide) s1) rfl ?_; refine z8 (zuc rfl rfl rfl rfl x1) rfl ?_; refine Z385 ?_; refine Z295 ?_; refine qg (id := 2) [(200014, [900]), (200017, [900]), (100020, [900])] mixed (by kernel_rfl) ?_; refine Z3 ?_; refine Z42 ?_; refine Z91 ?_; refine Z3 ?_; refine Z42 ?_; refine Z91 ?_; refine z8 (zyx rfl rfl rfl rfl (by decide) s2) rfl ?_; refine z8 (zuc rfl rfl rfl rfl x2) rfl ?_; refine Z385 ?_; refine Z295 ?_; refine qg (id := 3) [(200023, [900]), (200026, [900]), (100029, [900])] mixed (by kernel_rfl) ?_; refine Z3 ?_; refine Z42 ?_; refine Z91 ?_; refine Z3 ?_; refine Z42 ?_; refine Z91 ?_; refine z8 (zue rfl rfl rfl rfl (by decide) s3) rfl ?_; refine z8 (zuc rfl rfl rfl rfl x3) rfl ?_; refine Z385 ?_; refine Z295 ?_; refine Z156 ?_; refine Z61 ?_; refine Z66 ?_; refine Z136 ?_
 exact zfw L 900 (r := zab b _ tyX) (rs := [.tmp 2]) rfl (fun _ _ h => h) Since.refl rfl rfl (fun _ => rfl)
end Go.V.So
