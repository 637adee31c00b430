/- Texts on the way to StoresPlay, part 4: one behind another. -/
import Derived.Test.YtcppaheijljnfaaGreatStoresPlayM3
import Derived.Lib.IndexAny
set_option linter.unusedVariables false
set_option linter.unusedSimpArgs false
set_option maxRecDepth 20000
namespace Go.V.L6
open Go.Proofs Go.RowKit Go.V Go.V.L2 Go.V.L3
theorem _root_.Go.V.Z62 {A B : Prop} (h : B) (t : Wr B → A := by intro h; refine z7 (y8 L rfl rfl rfl rfl rfl rfl (by assumption) rfl) rfl ?_; exact h.h) : A := t ⟨h⟩
theorem _root_.Go.V.Z364 {A B : Prop} (h : B) (t : Wr B → A := by intro h; refine Z218 ?_; refine z8 (zuk rfl rfl rfl rfl bt4 rfl) rfl ?_; exact h.h) : A := t ⟨h⟩
def SetV (l : List U) : Value → Heap → Prop := fun v H => ∃ p q t u, TS l t u ∧ UT.TA t (.pointer p) H ∧ UT.TA u (.pointer q) H ∧
 (v = .agg #[fvC, .pointer p, fvS, .pointer q] ∨ (l = [] ∧ p = none ∧ q = none ∧ v = .agg #[.nilFunc, .pointer p, .nilFunc, .pointer q]))
theorem SetV.mono {l : List U} : Kn.mono (.sat (SetV l)) := fun _ _ _ ⟨p, q, t, u, h1, h2, h3, h4⟩ hle => ⟨p, q, t, u, h1, h2.le hle, h3.le hle, h4⟩
theorem SetV.le {l : List U} {v : Value} {H H' : Heap} (h : SetV l v H) (hle : H.Le H') : SetV l v H' := SetV.mono _ _ _ h hle
theorem SetV.shape {l : List U} {v : Value} {H : Heap} (h : SetV l v H) : ∃ f p k q, v = .agg #[f, .pointer p, k, .pointer q] ∧ (zat (.agg #[f, .pointer p, k, .pointer q])).all zbi = true := by
 obtain ⟨p, q, _, _, _, _, _, h | ⟨_, _, _, h⟩⟩ := h
 ·exact ⟨_, _, _, _, h, rfl⟩
 ·exact ⟨_, _, _, _, h, rfl⟩
abbrev nilSet : Value := .agg #[.nilFunc, .pointer none, .nilFunc, .pointer none]
theorem SetV.nil {H : Heap} : SetV [] nilSet H := ⟨none, none, .nil, .nil, z09, rfl, rfl, .inr ⟨rfl, rfl, rfl, rfl⟩⟩
theorem SetV.sst {l : List U} {v : Value} {H : Heap} (h : SetV l v H) : Sst zbd l := let ⟨_, _, _, _, h, _⟩ := h; h.st
attribute [local irreducible] V N X VO Par StepOK Has Ret RetL RetO Src
theorem zdj {l : List U} {n : Nat} (hn : l.length = n) {v : Value} {w : World} {B : Heap} (hB : B.Le (hp w)) (hv : SetV l v B) : Ret Tryz.prog 46 [v] w B (fun v _ => v = .int .i64 n) := by
 subst hn
 obtain ⟨p, q, t, u, hT, ht, hu, rfl | ⟨rfl, rfl, rfl, rfl⟩⟩ := hv
 ·refine yf Tryz.func46 rfl Tryz.ntmps46 (Nat.le_of_ble_eq_true rfl) hB ?_
  refine Z271 ?_; refine Z16 ?_; refine Z16 ?_; refine z7 (zz L (vs := [_, _]) (qm rfl) rfl rfl rfl rfl ⟨_, rfl⟩) rfl ?_; refine z7 (zp L rfl rfl (zk rfl) rfl rfl rfl (fun u H hH hle _ => UT.len_m hH (⟨_, rfl, ht.le hle⟩) hT.size)) rfl ?_; refine Z138 ?_
  refine yd L (rs := [.tmp 2]) rfl (fun _ _ h => h) Since.refl fun u H hH hle => ?_
  rfl
 ·refine yf Tryz.func46 rfl Tryz.ntmps46 (Nat.le_of_ble_eq_true rfl) hB ?_
  refine Z271 ?_; refine Z16 ?_; refine Z16 ?_; refine z7 (zz L (vs := [_, _]) (qm rfl) rfl rfl rfl rfl ⟨_, rfl⟩) rfl ?_; refine z7 (zp L rfl rfl (zk rfl) rfl rfl rfl (fun u H hH hle _ => UT.len_m hH (⟨_, rfl, ht.le hle⟩) hT.size)) rfl ?_; refine Z138 ?_
  refine yd L (rs := [.tmp 2]) rfl (fun _ _ h => h) Since.refl fun u H hH hle => ?_
  rfl
theorem zct {l : List U} {x : U} {b : Bool} (hb : decide (x ∈ l) = b) {v : Value} {w : World} {B : Heap} (hB : B.Le (hp w)) (hv : SetV l v B) : Ret Tryz.prog 48 [v, uv x] w B (fun v _ => v = .bool b) := by
 have hv0 := hv
 obtain ⟨p, q, t, u, hT, ht, hu, rfl | ⟨rfl, rfl, rfl, rfl⟩⟩ := hv
 ·have hg := hT.get x
  refine yf Tryz.func48 rfl Tryz.ntmps48 (Nat.le_of_ble_eq_true rfl) hB ?_
  by_cases h0 : l.length = 0
  ·have hn : l = [] := List.eq_nil_of_length_eq_zero h0
   subst hn
   have hb' : b = false := by rw [← hb]; simp
   subst hb'
   refine Z211 ?_; refine Z157 ?_; refine z7 (zz L (vs := [_, _, _, _]) (qm rfl) rfl rfl rfl rfl ⟨_, rfl⟩) rfl ?_; refine z7 (zp L rfl rfl (zk rfl) rfl rfl rfl (fun u H hH hle _ => zdj rfl hH (hv0.le hle))) rfl ?_; refine Z23 ?_; refine Z337 ?_
   refine yd L (rs := [.tmp 4]) rfl (fun _ _ h => h) Since.refl fun u H hH hle => ?_
   rfl
  ·cases b
   ·have hx : x ∉ l := by simpa using hb
    rw [if_neg hx] at hg
    refine Z211 ?_; refine Z157 ?_; refine z7 (zz L (vs := [_, _, _, _]) (qm rfl) rfl rfl rfl rfl ⟨_, rfl⟩) rfl ?_; refine z7 (zp L rfl rfl (zk rfl) rfl rfl rfl (fun u H hH hle _ => zdj rfl hH (hv0.le hle))) rfl ?_; refine Z245 ?_; refine Z28 ?_; refine Z16 ?_; refine Z16 ?_; refine z7 (zz L (vs := [_, _]) (qm rfl) rfl rfl rfl rfl ⟨_, rfl⟩) rfl ?_; refine z7 (zz L (vs := [_, _, _, _, _, _]) (qm rfl) rfl rfl rfl rfl ⟨_, rfl⟩) rfl ?_; refine z7 (zp L rfl rfl (zk rfl) rfl rfl rfl (fun u H hH hle _ => UT.get_m z0h x hH (⟨_, rfl, ht.le hle⟩) hg)) rfl ?_; refine Z173 ?_; refine Z203 ?_; refine Z144 ?_; refine Z161 ?_; refine Z138 ?_
    refine yd L (rs := [.tmp 4]) rfl (fun _ _ h => h) Since.refl fun u H hH hle => ?_
    rfl
   ·have hx : x ∈ l := by simpa using hb
    rw [if_pos hx] at hg
    refine Z211 ?_; refine Z157 ?_; refine z7 (zz L (vs := [_, _, _, _]) (qm rfl) rfl rfl rfl rfl ⟨_, rfl⟩) rfl ?_; refine z7 (zp L rfl rfl (zk rfl) rfl rfl rfl (fun u H hH hle _ => zdj rfl hH (hv0.le hle))) rfl ?_; refine Z245 ?_; refine Z28 ?_; refine Z16 ?_; refine Z16 ?_; refine z7 (zz L (vs := [_, _]) (qm rfl) rfl rfl rfl rfl ⟨_, rfl⟩) rfl ?_; refine z7 (zz L (vs := [_, _, _, _, _, _]) (qm rfl) rfl rfl rfl rfl ⟨_, rfl⟩) rfl ?_; refine z7 (zp L rfl rfl (zk rfl) rfl rfl rfl (fun u H hH hle _ => UT.get_m z0h x hH (⟨_, rfl, ht.le hle⟩) hg)) rfl ?_; refine Z173 ?_; refine Z203 ?_; refine Z144 ?_; refine Z161 ?_; refine Z138 ?_
    refine yd L (rs := [.tmp 4]) rfl (fun _ _ h => h) Since.refl fun u H hH hle => ?_
    rfl
 ·have hb' : b = false := by rw [← hb]; simp
  subst hb'
  refine yf Tryz.func48 rfl Tryz.ntmps48 (Nat.le_of_ble_eq_true rfl) hB ?_
  refine Z211 ?_; refine Z157 ?_; refine z7 (zz L (vs := [_, _, _, _]) (qm rfl) rfl rfl rfl rfl ⟨_, rfl⟩) rfl ?_; refine z7 (zp L rfl rfl (zk rfl) rfl rfl rfl (fun u H hH hle _ => zdj rfl hH (hv0.le hle))) rfl ?_; refine Z132 ?_; refine Z337 ?_
  refine yd L (rs := [.tmp 4]) rfl (fun _ _ h => h) Since.refl fun u H hH hle => ?_
  rfl
def scs (x : Value × Option Addr × Value × Option Addr) : List Value := [x.1, .pointer x.2.1, x.2.2.1, .pointer x.2.2.2]
abbrev SXp := { x : Value × Option Addr × Value × Option Addr // (scs x).all zbi = true }
abbrev zp2 (l : List U) (x : SXp) (H : Heap) : Prop := SetV l (.agg (scs x.1).toArray) H
theorem zb5 (l : List U) : zhe (zp2 l) := fun _ _ _ h hle => SetV.le h hle
theorem zk4 {l : List U} (v : Value) (H : Heap) (h : SetV l v H) : ∃ x : SXp, zp2 l x H ∧ zat v = scs x.1 := by
 obtain ⟨f, p, k, q, rfl, hp⟩ := h.shape
 exact ⟨⟨(f, p, k, q), hp⟩, h, rfl⟩
abbrev WithS (l : List U) (e : Int) : Value → Heap → Prop := TupS [SetV l, fun v _ => v = .int .i64 e]
theorem WithS.mono {l : List U} {e : Int} : Kn.mono (.sat (WithS l e)) := LE2.mono SetV.mono
theorem mf4 {cf cg : Nat} {t u : Tr U Unit} {v1 v2 : Value} {H : Heap} (h1 : UT.MF cf t v1 H) (h2 : UT.MF cg u v2 H) : ∃ p q, v1 = .agg #[.func (.func cf) #[] #[], .pointer p] ∧ v2 = .agg #[.func (.func cg) #[] #[], .pointer q] ∧ UT.TA t (.pointer p) H ∧ UT.TA u (.pointer q) H := by
 obtain ⟨p, e1, h1⟩ := h1
 obtain ⟨q, e2, h2⟩ := h2
 exact ⟨p, q, e1, e2, h1, h2⟩
theorem z3n {l : List U} {t u : Tr U Unit} (h : TS l t u) {x : U} {d : Bool} (hx : decide (x ∈ l) = d) (hc : d = false → l.length < 4096) (he : tE x = 0) : TS (zco l x d).1 (chT zbd x d t) (chT zop x d u) ∧ (zco l x d).2 = 0 := by
 unfold zco chT
 rw [if_pos he]
 cases d
 ·have hx' : x ∉ l := by simpa using hx
  rw [if_neg (by decide), if_neg hx', if_neg (by have := hc rfl; omega), if_neg (by decide), if_neg (by decide)]
  exact ⟨h.put hx', rfl⟩
 ·have hx' : x ∈ l := by simpa using hx
  rw [if_pos rfl, if_pos rfl, if_pos rfl]
  exact ⟨h.drop hx', rfl⟩
set_option maxHeartbeats 1000000 in
theorem zv3 {l m : List U} {x : U} {d : Bool} {e : Int} (hr : zco l x d = (m, e)) (hl : l.length ≤ 4096) (hz : TZ x) {v : Value} {w : World} {B : Heap} (hB : B.Le (hp w)) (hv : SetV l v B) :
  Ret Tryz.prog 61 [v, chv x d] w B (WithS m e) := by
 obtain ⟨f1, p1, f2, q1, hsh, hpl⟩ := hv.shape
 by_cases he : tE x = 0
 ·obtain ⟨hin, hin0⟩ : ∃ b, decide (x ∈ l) = b := ⟨_, rfl⟩
  by_cases hd : hin = d
  ·subst hd
   by_cases hfull : hin = false ∧ l.length = 4096
   ·obtain ⟨rfl, hlen⟩ := hfull
    have hw : zco l x false = ([], 3) := by
     unfold zco
     rw [if_pos he, if_neg (by decide), if_neg (by simpa using hin0), if_pos (by omega)]
    rw [hw] at hr
    cases hr
    subst hsh
    refine yf Tryz.func61 rfl Tryz.ntmps61 (Nat.le_of_ble_eq_true rfl) hB ?_
    refine Z211 ?_; refine Z27 ?_; refine Z256 ?_; refine z7 (zz L (vs := [_, _, _, _, _, _]) (qm rfl) rfl rfl rfl rfl ⟨_, rfl⟩) rfl ?_; refine z7 (zp L rfl rfl (zk rfl) rfl rfl rfl (fun u H hH _ _ => he ▸ zek hz hH)) rfl ?_; refine Z249 ?_; refine Z250 ?_; refine Z98 ?_; refine z8 (zz L (vs := [_, _, _, _]) (qm rfl) rfl rfl rfl rfl ⟨_, rfl⟩) rfl ?_; refine Z47 ?_; refine z8 (zz L (vs := [_, _, _, _, _, _]) (qm rfl) rfl rfl rfl rfl ⟨_, rfl⟩) rfl ?_; refine z8 (zp L rfl rfl (zk rfl) rfl rfl rfl (fun u H hH hle _ => zct hin0 hH (hv.le hle))) rfl ?_; refine Z364 ?_; refine Z182 ?_; refine Z165 ?_; refine Z45 ?_; refine Z181 ?_; refine Z53 ?_; refine Z1 ?_; refine z7 (zz L (vs := [_, _, _, _]) (qm rfl) rfl rfl rfl rfl ⟨_, rfl⟩) rfl ?_; refine z7 (zp L rfl rfl (zk rfl) rfl rfl rfl (fun u H hH hle _ => zdj hlen hH (hv.le hle))) rfl ?_; refine Z23 ?_; refine Z8 ?_; refine Z155 ?_; refine Z43 ?_; refine z7 (yv (cs := [_, _, _, _]) rfl rfl ztx rfl rfl) rfl ?_; refine Z235 ?_
    refine yd L (rs := [.cell 4 45, .tmp 5]) rfl (fun _ _ h => h) Since.refl fun u H hH hle => ?_
    exact ⟨_, yk rfl, rfl, LE2.mk SetV.nil⟩
   ·have hc : hin = false → l.length < 4096 := fun h => by
     rcases Nat.lt_or_ge l.length 4096 with h' | h'
     ·exact h'
     ·exact absurd ⟨h, by omega⟩ hfull
    obtain ⟨p, q, t, u, hT, ht, hu, hv1⟩ := id hv
    have hch := z3n hT hin0 hc he
    rw [hr] at hch
    obtain ⟨hT', rfl⟩ := hch
    have hts := hT.size
    have hus := hT.zu
    have hf1 : p1 = p ∧ q1 = q ∧ (f1 = fvC ∨ (f1 = .nilFunc ∧ t = .nil)) ∧ (f2 = fvS ∨ (f2 = .nilFunc ∧ u = .nil)) := by
     rcases hv1 with h | ⟨h0, rfl, rfl, h⟩
     ·rw [hsh] at h; cases h; exact ⟨rfl, rfl, .inl rfl, .inl rfl⟩
     ·rw [hsh] at h
      cases h
      subst h0
      have key : ∀ {s : Tr U Unit}, s.size = 0 → s = .nil := fun {s} hs => by
       cases s with
       | nil => rfl
       | node k y l r => simp only [Tr.size] at hs; omega
      exact ⟨rfl, rfl, .inr ⟨rfl, key hts⟩, .inr ⟨rfl, key hus⟩⟩
    obtain ⟨rfl, rfl, hf1, hf2⟩ := hf1
    subst hsh
    have hchg1 := fun (u1 : World) (H : Heap) (hH : H.Le (hp u1)) (hle : B.Le H) => zlq z0h hf1 x hin hH (ht.le hle) (by omega)
    have hchg2 := fun (u1 : World) (H : Heap) (hH : H.Le (hp u1)) (hle : B.Le H) => zlq z4a hf2 x hin hH (hu.le hle) (by omega)
    cases hin
    ·have hlen := hc rfl
     refine yf Tryz.func61 rfl Tryz.ntmps61 (Nat.le_of_ble_eq_true rfl) hB ?_
     refine Z211 ?_; refine Z27 ?_; refine Z256 ?_; refine z7 (zz L (vs := [_, _, _, _, _, _]) (qm rfl) rfl rfl rfl rfl ⟨_, rfl⟩) rfl ?_; refine z7 (zp L rfl rfl (zk rfl) rfl rfl rfl (fun u H hH _ _ => he ▸ zek hz hH)) rfl ?_; refine Z249 ?_; refine Z250 ?_; refine Z98 ?_; refine z8 (zz L (vs := [_, _, _, _]) (qm rfl) rfl rfl rfl rfl ⟨_, rfl⟩) rfl ?_; refine Z47 ?_; refine z8 (zz L (vs := [_, _, _, _, _, _]) (qm rfl) rfl rfl rfl rfl ⟨_, rfl⟩) rfl ?_; refine z8 (zp L rfl rfl (zk rfl) rfl rfl rfl (fun u H hH hle _ => zct hin0 hH (hv.le hle))) rfl ?_; refine Z364 ?_; refine Z182 ?_; refine Z165 ?_; refine Z45 ?_; refine Z181 ?_; refine Z53 ?_; refine Z1 ?_; refine z7 (zz L (vs := [_, _, _, _]) (qm rfl) rfl rfl rfl rfl ⟨_, rfl⟩) rfl ?_; refine z7 (zp L rfl rfl (zk rfl) rfl rfl rfl (fun u H hH hle _ => zdj rfl hH (hv.le hle))) rfl ?_; refine Z12 ?_; refine Z284 ?_; refine Z95 ?_; refine Z47 ?_; refine z8 (zz L (vs := [_, _]) (qm rfl) rfl rfl rfl rfl ⟨_, rfl⟩) rfl ?_; refine z8 (zz L (vs := [_, _, _, _, _, _, _]) (qm rfl) rfl rfl rfl rfl ⟨_, rfl⟩) rfl ?_; refine z8 (yr (φ := UT.MF 93 (chT zbd x false t)) L rfl rfl (zk rfl) rfl rfl rfl UT.MA.mono (fun u H hH hle _ => hchg1 u H hH hle)) rfl ?_; refine Z47 ?_; refine z8 (zz L (vs := [_, _]) (qm rfl) rfl rfl rfl rfl ⟨_, rfl⟩) rfl ?_; refine z8 (zz L (vs := [_, _, _, _, _, _, _]) (qm rfl) rfl rfl rfl rfl ⟨_, rfl⟩) rfl ?_; refine z8 (yr (φ := UT.MF 94 (chT zop x false u)) L rfl rfl (zk rfl) rfl rfl rfl UT.MA.mono (fun u H hH hle _ => hchg2 u H hH hle)) rfl ?_; refine z8 (zn0 (ψ := SetV m) rfl rfl ztx SetV.mono (fun H _ v1 h1 v2 h2 => by obtain ⟨p, q, rfl, rfl, k1, k2⟩ := mf4 h1 h2; exact ⟨_, rfl, p, q, _, _, hT', k1, k2, .inl rfl⟩)) rfl ?_; refine z8 (zep L (X := SXp) (fun x => scs x.1) (zp2 m) (zb5 m) zk4 (fun x => ⟨rfl, x.2⟩) rfl rfl rfl rfl rfl) rfl ?_; refine Z177 ?_
     refine zd1 4 rfl fun x4 H4 hs4 hx4 => ?_
     refine yd L (rs := [.cell 4 45, .tmp 5]) rfl (fun _ _ h => h) hs4 fun u H hH hle => ?_
     exact ⟨_, yk rfl, rfl, LE2.mk (hx4.le hle)⟩
    ·refine yf Tryz.func61 rfl Tryz.ntmps61 (Nat.le_of_ble_eq_true rfl) hB ?_
     refine Z211 ?_; refine Z27 ?_; refine Z256 ?_; refine z7 (zz L (vs := [_, _, _, _, _, _]) (qm rfl) rfl rfl rfl rfl ⟨_, rfl⟩) rfl ?_; refine z7 (zp L rfl rfl (zk rfl) rfl rfl rfl (fun u H hH _ _ => he ▸ zek hz hH)) rfl ?_; refine Z249 ?_; refine Z250 ?_; refine Z98 ?_; refine z8 (zz L (vs := [_, _, _, _]) (qm rfl) rfl rfl rfl rfl ⟨_, rfl⟩) rfl ?_; refine Z47 ?_; refine z8 (zz L (vs := [_, _, _, _, _, _]) (qm rfl) rfl rfl rfl rfl ⟨_, rfl⟩) rfl ?_; refine z8 (zp L rfl rfl (zk rfl) rfl rfl rfl (fun u H hH hle _ => zct hin0 hH (hv.le hle))) rfl ?_; refine Z364 ?_; refine Z182 ?_; refine Z165 ?_; refine Z45 ?_; refine Z181 ?_; refine Z53 ?_; refine Z254 ?_; refine Z158 ?_; refine Z95 ?_; refine Z47 ?_; refine z8 (zz L (vs := [_, _]) (qm rfl) rfl rfl rfl rfl ⟨_, rfl⟩) rfl ?_; refine z8 (zz L (vs := [_, _, _, _, _, _, _]) (qm rfl) rfl rfl rfl rfl ⟨_, rfl⟩) rfl ?_; refine z8 (yr (φ := UT.MF 93 (chT zbd x true t)) L rfl rfl (zk rfl) rfl rfl rfl UT.MA.mono (fun u H hH hle _ => hchg1 u H hH hle)) rfl ?_; refine Z47 ?_; refine z8 (zz L (vs := [_, _]) (qm rfl) rfl rfl rfl rfl ⟨_, rfl⟩) rfl ?_; refine z8 (zz L (vs := [_, _, _, _, _, _, _]) (qm rfl) rfl rfl rfl rfl ⟨_, rfl⟩) rfl ?_; refine z8 (yr (φ := UT.MF 94 (chT zop x true u)) L rfl rfl (zk rfl) rfl rfl rfl UT.MA.mono (fun u H hH hle _ => hchg2 u H hH hle)) rfl ?_; refine z8 (zn0 (ψ := SetV m) rfl rfl ztx SetV.mono (fun H _ v1 h1 v2 h2 => by obtain ⟨p, q, rfl, rfl, k1, k2⟩ := mf4 h1 h2; exact ⟨_, rfl, p, q, _, _, hT', k1, k2, .inl rfl⟩)) rfl ?_; refine z8 (zep L (X := SXp) (fun x => scs x.1) (zp2 m) (zb5 m) zk4 (fun x => ⟨rfl, x.2⟩) rfl rfl rfl rfl rfl) rfl ?_; refine Z177 ?_
     refine zd1 4 rfl fun x4 H4 hs4 hx4 => ?_
     refine yd L (rs := [.cell 4 45, .tmp 5]) rfl (fun _ _ h => h) hs4 fun u H hH hle => ?_
     exact ⟨_, yk rfl, rfl, LE2.mk (hx4.le hle)⟩
  ·have hw : zco l x d = (l, 0) := by
    unfold zco
    rw [if_pos he]
    cases d
    ·have : hin = true := by cases hin; exact absurd rfl hd; rfl
     subst this
     rw [if_neg (by decide), if_pos (by simpa using hin0)]
    ·have : hin = false := by cases hin; rfl; exact absurd rfl hd
     subst this
     rw [if_pos rfl, zsh (by simpa using hin0)]
   rw [hw] at hr
   cases hr
   have hb : (hin == d) = false := by cases hin <;> cases d <;> first | rfl | exact absurd rfl hd
   subst hsh
   refine yf Tryz.func61 rfl Tryz.ntmps61 (Nat.le_of_ble_eq_true rfl) hB ?_
   have hb2 : (!(hin == d)) = true := by rw [hb]; rfl
   refine Z211 ?_; refine Z27 ?_; refine Z256 ?_; refine z7 (zz L (vs := [_, _, _, _, _, _]) (qm rfl) rfl rfl rfl rfl ⟨_, rfl⟩) rfl ?_; refine z7 (zp L rfl rfl (zk rfl) rfl rfl rfl (fun u H hH _ _ => he ▸ zek hz hH)) rfl ?_; refine Z249 ?_; refine Z250 ?_; refine Z98 ?_; refine z8 (zz L (vs := [_, _, _, _]) (qm rfl) rfl rfl rfl rfl ⟨_, rfl⟩) rfl ?_; refine Z47 ?_; refine z8 (zz L (vs := [_, _, _, _, _, _]) (qm rfl) rfl rfl rfl rfl ⟨_, rfl⟩) rfl ?_; refine z8 (zp L rfl rfl (zk rfl) rfl rfl rfl (fun u H hH hle _ => zct hin0 hH (hv.le hle))) rfl ?_; refine Z218 ?_; refine z8 (zuk rfl rfl rfl rfl bt4 hb2) rfl ?_; refine Z213 ?_; refine zh ?_; refine Z38 ?_; refine z7 (zz L (vs := [_, _, _, _]) (qm rfl) rfl rfl rfl rfl ⟨_, rfl⟩) rfl ?_; refine Z62 ?_; refine Z138 ?_
   refine yd L (rs := [.cell 4 45, .tmp 5]) rfl (fun _ _ h => h) Since.refl fun u H hH hle => ?_
   exact ⟨_, yk rfl, rfl, LE2.mk (hv.le hle)⟩
 ·have hw : zco l x d = ([], tE x) := if_neg he
  rw [hw] at hr
  cases hr
  subst hsh
  refine yf Tryz.func61 rfl Tryz.ntmps61 (Nat.le_of_ble_eq_true rfl) hB ?_
  refine Z211 ?_; refine Z27 ?_; refine Z256 ?_; refine z7 (zz L (vs := [_, _, _, _, _, _]) (qm rfl) rfl rfl rfl rfl ⟨_, rfl⟩) rfl ?_; refine z7 (zp L rfl rfl (zk rfl) rfl rfl rfl (fun u H hH _ _ => zek hz hH)) rfl ?_; refine Z249 ?_; refine Z214 ?_; refine Z28 ?_; refine z7 (yv (cs := [_, _, _, _]) rfl rfl ztx rfl rfl) rfl ?_; refine Z1 ?_; refine Z235 ?_
  refine yd L (rs := [.cell 4 45, .tmp 5]) rfl (fun _ _ h => h) Since.refl fun u H hH hle => ?_
  exact ⟨_, yk rfl, rfl, LE2.mk SetV.nil⟩
end Go.V.L6
set_option maxRecDepth 20000
namespace Go.V.L2
open Go.Proofs Go.RowKit Go.V
theorem _root_.Go.V.Z87 {A B : Prop} (h : B) (t : Wr B → A := by intro h; refine z8 (y9 rfl rfl rfl rfl (decide_eq_false (by omega))) rfl ?_; exact h.h) : A := t ⟨h⟩
theorem _root_.Go.V.Z100 {A B : Prop} (h : B) (t : Wr B → A := by intro h; refine z8 (y9 rfl rfl rfl rfl (decide_eq_true (by omega))) rfl ?_; exact h.h) : A := t ⟨h⟩
theorem _root_.Go.V.Z219 {A B : Prop} (h : B) (t : Wr B → A := by intro h; refine Z140 ?_; refine Z140 ?_; exact h.h) : A := t ⟨h⟩
theorem _root_.Go.V.Z232 {A B : Prop} (h : B) (t : Wr B → A := by intro h; refine Z8 ?_; refine Z140 ?_; exact h.h) : A := t ⟨h⟩
theorem _root_.Go.V.Z287 {A B : Prop} (h : B) (t : Wr B → A := by intro h; refine Z35 ?_; refine Z198 ?_; exact h.h) : A := t ⟨h⟩
theorem _root_.Go.V.Z325 {A B : Prop} (h : B) (t : Wr B → A := by intro h; refine Z43 ?_; refine Z140 ?_; exact h.h) : A := t ⟨h⟩
theorem _root_.Go.V.Z375 {A B : Prop} (h : B) (t : Wr B → A := by intro h; refine Z37 ?_; refine Z239 ?_; exact h.h) : A := t ⟨h⟩
theorem zhg : ∀ (l : List U), (l.flatMap ucs).length = l.length * 6
 | [] => rfl
 | y :: l => by rw [List.flatMap_cons, List.length_append, zhg l, zlu, List.length_cons]; omega
theorem zfh : ∀ (l : List U), (l.flatMap ucs).all zbi = true
 | [] => rfl
 | g :: l => by rw [List.flatMap_cons, List.all_append, zfh l]; rfl
theorem zsy {κ : Kap} {s : Nat} {x y : List U} (h : κ s = some (.own (SlR tyU 6 (x.length + y.length) (x.flatMap ucs ++ y.flatMap ucs)))) : κ s = some (.own (SlR tyU 6 (x ++ y).length ((x ++ y).flatMap ucs))) := by
 rw [h, List.flatMap_append, List.length_append]
theorem zkf {p : U → Bool} {l r : List U} {k : Nat} {t : U} (h : l[k]? = some t) (hr : r = (l.take k).filter p) : (l.take (k + 1)).filter p = if p t = true then r ++ [t] else r := by
 rw [zs8 h, List.filter_append, hr, List.filter_cons, List.filter_nil]
 split <;> simp
attribute [local irreducible] V N X VO Par StepOK Has Ret RetL Src
set_option maxHeartbeats 4000000 in
theorem zth {x y : List U} {fx fy : Bool} (hx : x.length ≤ 100000) (hy : y.length ≤ 100000) (zx : ∀ t ∈ x, TZ t) (zy : ∀ t ∈ y, TZ t) {vx vy : Value} {w : World} {B : Heap} (hB : B.Le (hp w)) (hvx : US x fx vx B) (hvy : US y fy vy B) :
  Ret Tryz.prog 62 [vx, vy, .bool true, .bool true, .bool true] w B (US (zjg x y true true true) false) := by
 have lx := zhg x
 have ly := zhg y
 have px := zfh x
 have py := zfh y
 refine yf Tryz.func62 rfl Tryz.ntmps62 (Nat.le_of_ble_eq_true rfl) hB ?_
 refine zaz 0 (US x fx) rfl SlV.mono hvx ?_
 refine zaz 1 (US y fy) rfl SlV.mono hvy ?_
 refine Z186 ?_; refine Z144 ?_
 refine zd2 11 tyU 6 rfl ?_
 refine Z29 ?_; refine Z4 ?_; refine z7 (zcw L rfl rfl rfl (zh1 rfl) rfl zpf lx px (by omega) (by omega)) rfl ?_; refine Z4 ?_; refine qo (zce L rfl rfl rfl (zh1 rfl) rfl zpf ly py (by omega) (by omega)) ?_; refine qo (yn (.inr rfl) rfl rfl rfl rfl) ?_; refine Z188 ?_
 refine zcj 12 (zsy rfl) ?_
 have hal : (x ++ y).length ≤ 200000 := by rw [List.length_append]; omega
 have hza : ∀ t ∈ x ++ y, TZ t := fun t ht => (List.mem_append.1 ht).elim (zx t) (zy t)
 unfold zjg
 generalize hall : x ++ y = l at hal hza
 refine Z28 ?_; refine Z196 ?_
 refine zaj (fun s : Nat × List U => [(0, .sat (US x fx)), (1, .sat (US y fy)), (2, .is (.bool true)), (3, .is (.bool true)), (4, .is (.bool true)), (11, .own (SlR tyU 6 s.2.length (s.2.flatMap ucs))), (12, .sat (US l false)), (13, .is (.int .i64 s.1))])
  (fun s => s.1 ≤ l.length ∧ s.2.length ≤ s.1 ∧ s.2 = (l.take s.1).filter (zei x y true true true)) (fun s => l.length - s.1) (0, []) ⟨Nat.zero_le _, Nat.le_refl _, rfl⟩ ⟨rfl, rfl, rfl, rfl, rfl, rfl, rfl, rfl, trivial⟩ ?_
 rintro ⟨i, r⟩ ⟨hi, hrl, hr⟩
 dsimp only at hi hrl hr ⊢
 by_cases hlt : i < l.length
 ·obtain ⟨t, ht⟩ := zae hlt
  have hc := zge ht
  have hf := zkf ht hr
  by_cases h1 : t ∈ x
  ·have e1 : (if t ∈ x then 1 else 0 : Int) = 1 := if_pos h1
   by_cases h2 : t ∈ y
   ·have e2 : (if t ∈ y then 1 else 0 : Int) = 1 := if_pos h2
    have hp : (zei x y true true true) t = true := by simp [zei, h1, h2]
    rw [hp, if_pos rfl] at hf
    refine Z339 ?_; refine Z287 ?_; refine z8 (qu L _ rfl rfl rfl rfl rfl rfl rfl (by first | omega | decide) (by assumption)) rfl ?_; refine z8 (yg L (vs := [_, _, _, _, _, _]) rfl rfl rfl rfl rfl ⟨_, rfl⟩) rfl ?_; refine z8 (zp L rfl rfl (zk rfl) rfl rfl rfl (fun u H hH _ _ v1 h3 => zbk (l := x) (by omega) e1 hH h3)) rfl ?_; refine Z100 ?_; refine Z287 ?_; refine z8 (qu L _ rfl rfl rfl rfl rfl rfl rfl (by first | omega | decide) (by assumption)) rfl ?_; refine z8 (yg L (vs := [_, _, _, _, _, _]) rfl rfl rfl rfl rfl ⟨_, rfl⟩) rfl ?_; refine z8 (zp L rfl rfl (zk rfl) rfl rfl rfl (fun u H hH _ _ v1 h3 => zbk (l := y) (by omega) e2 hH h3)) rfl ?_; refine Z100 ?_; refine Z375 ?_; refine Z43 ?_; refine Z174 ?_; refine Z392 ?_; refine Z278 ?_; refine Z219 ?_; refine Z232 ?_; refine Z8 ?_; refine Z8 ?_; refine Z336 ?_; refine Z217 ?_; refine Z143 ?_; refine Z57 ?_; refine qo (yn (.inl rfl) rfl rfl rfl rfl) ?_; refine Z200 ?_; refine z7 (qu L _ rfl rfl rfl rfl rfl rfl rfl (by first | omega | decide) (by assumption)) rfl ?_; refine z7 (yg L (vs := [_, _, _, _, _, _]) rfl rfl rfl rfl rfl ⟨_, rfl⟩) rfl ?_; refine Z310 ?_; refine qo (yn (.inr rfl) rfl rfl rfl rfl) ?_; refine Z238 ?_; refine Z320 ?_
    exact yh (x := (i, r)) (i + 1, r ++ [t]) ⟨hlt, by dsimp only; rw [List.length_append, List.length_singleton]; omega, hf.symm⟩ (by dsimp only; omega) ⟨rfl, rfl, rfl, rfl, rfl, zex rfl, rfl, rfl, trivial⟩
   ·have e2 : (if t ∈ y then 1 else 0 : Int) = 0 := if_neg h2
    have hp : (zei x y true true true) t = true := by simp [zei, h1, h2]
    rw [hp, if_pos rfl] at hf
    refine Z339 ?_; refine Z287 ?_; refine z8 (qu L _ rfl rfl rfl rfl rfl rfl rfl (by first | omega | decide) (by assumption)) rfl ?_; refine z8 (yg L (vs := [_, _, _, _, _, _]) rfl rfl rfl rfl rfl ⟨_, rfl⟩) rfl ?_; refine z8 (zp L rfl rfl (zk rfl) rfl rfl rfl (fun u H hH _ _ v1 h3 => zbk (l := x) (by omega) e1 hH h3)) rfl ?_; refine Z100 ?_; refine Z287 ?_; refine z8 (qu L _ rfl rfl rfl rfl rfl rfl rfl (by first | omega | decide) (by assumption)) rfl ?_; refine z8 (yg L (vs := [_, _, _, _, _, _]) rfl rfl rfl rfl rfl ⟨_, rfl⟩) rfl ?_; refine z8 (zp L rfl rfl (zk rfl) rfl rfl rfl (fun u H hH _ _ v1 h3 => zbk (l := y) (by omega) e2 hH h3)) rfl ?_; refine Z87 ?_; refine Z375 ?_; refine Z43 ?_; refine Z174 ?_; refine Z53 ?_; refine Z232 ?_; refine Z8 ?_; refine Z336 ?_; refine Z194 ?_; refine Z336 ?_; refine Z217 ?_; refine Z143 ?_; refine Z57 ?_; refine qo (yn (.inl rfl) rfl rfl rfl rfl) ?_; refine Z200 ?_; refine z7 (qu L _ rfl rfl rfl rfl rfl rfl rfl (by first | omega | decide) (by assumption)) rfl ?_; refine z7 (yg L (vs := [_, _, _, _, _, _]) rfl rfl rfl rfl rfl ⟨_, rfl⟩) rfl ?_; refine Z310 ?_; refine qo (yn (.inr rfl) rfl rfl rfl rfl) ?_; refine Z238 ?_; refine Z320 ?_
    exact yh (x := (i, r)) (i + 1, r ++ [t]) ⟨hlt, by dsimp only; rw [List.length_append, List.length_singleton]; omega, hf.symm⟩ (by dsimp only; omega) ⟨rfl, rfl, rfl, rfl, rfl, zex rfl, rfl, rfl, trivial⟩
  ·have e1 : (if t ∈ x then 1 else 0 : Int) = 0 := if_neg h1
   by_cases h2 : t ∈ y
   ·have e2 : (if t ∈ y then 1 else 0 : Int) = 1 := if_pos h2
    have hp : (zei x y true true true) t = true := by simp [zei, h1, h2]
    rw [hp, if_pos rfl] at hf
    refine Z339 ?_; refine Z287 ?_; refine z8 (qu L _ rfl rfl rfl rfl rfl rfl rfl (by first | omega | decide) (by assumption)) rfl ?_; refine z8 (yg L (vs := [_, _, _, _, _, _]) rfl rfl rfl rfl rfl ⟨_, rfl⟩) rfl ?_; refine z8 (zp L rfl rfl (zk rfl) rfl rfl rfl (fun u H hH _ _ v1 h3 => zbk (l := x) (by omega) e1 hH h3)) rfl ?_; refine Z87 ?_; refine Z287 ?_; refine z8 (qu L _ rfl rfl rfl rfl rfl rfl rfl (by first | omega | decide) (by assumption)) rfl ?_; refine z8 (yg L (vs := [_, _, _, _, _, _]) rfl rfl rfl rfl rfl ⟨_, rfl⟩) rfl ?_; refine z8 (zp L rfl rfl (zk rfl) rfl rfl rfl (fun u H hH _ _ v1 h3 => zbk (l := y) (by omega) e2 hH h3)) rfl ?_; refine Z100 ?_; refine Z375 ?_; refine Z325 ?_; refine Z217 ?_; refine Z278 ?_; refine Z174 ?_; refine Z194 ?_; refine Z278 ?_; refine Z232 ?_; refine Z53 ?_; refine Z140 ?_; refine Z232 ?_; refine Z8 ?_; refine Z248 ?_; refine Z57 ?_; refine qo (yn (.inl rfl) rfl rfl rfl rfl) ?_; refine Z200 ?_; refine z7 (qu L _ rfl rfl rfl rfl rfl rfl rfl (by first | omega | decide) (by assumption)) rfl ?_; refine z7 (yg L (vs := [_, _, _, _, _, _]) rfl rfl rfl rfl rfl ⟨_, rfl⟩) rfl ?_; refine Z310 ?_; refine qo (yn (.inr rfl) rfl rfl rfl rfl) ?_; refine Z238 ?_; refine Z320 ?_
    exact yh (x := (i, r)) (i + 1, r ++ [t]) ⟨hlt, by dsimp only; rw [List.length_append, List.length_singleton]; omega, hf.symm⟩ (by dsimp only; omega) ⟨rfl, rfl, rfl, rfl, rfl, zex rfl, rfl, rfl, trivial⟩
   ·have e2 : (if t ∈ y then 1 else 0 : Int) = 0 := if_neg h2
    have hp : (zei x y true true true) t = false := by simp [zei, h1, h2]
    rw [hp, if_neg (by decide)] at hf
    refine Z339 ?_; refine Z287 ?_; refine z8 (qu L _ rfl rfl rfl rfl rfl rfl rfl (by first | omega | decide) (by assumption)) rfl ?_; refine z8 (yg L (vs := [_, _, _, _, _, _]) rfl rfl rfl rfl rfl ⟨_, rfl⟩) rfl ?_; refine z8 (zp L rfl rfl (zk rfl) rfl rfl rfl (fun u H hH _ _ v1 h3 => zbk (l := x) (by omega) e1 hH h3)) rfl ?_; refine Z87 ?_; refine Z287 ?_; refine z8 (qu L _ rfl rfl rfl rfl rfl rfl rfl (by first | omega | decide) (by assumption)) rfl ?_; refine z8 (yg L (vs := [_, _, _, _, _, _]) rfl rfl rfl rfl rfl ⟨_, rfl⟩) rfl ?_; refine z8 (zp L rfl rfl (zk rfl) rfl rfl rfl (fun u H hH _ _ v1 h3 => zbk (l := y) (by omega) e2 hH h3)) rfl ?_; refine Z87 ?_; refine Z375 ?_; refine Z325 ?_; refine Z217 ?_; refine Z278 ?_; refine Z174 ?_; refine Z194 ?_; refine Z278 ?_; refine Z232 ?_; refine Z53 ?_; refine Z140 ?_; refine Z8 ?_; refine Z278 ?_; refine Z8 ?_; refine Z215 ?_; refine Z320 ?_
    exact yh (x := (i, r)) (i + 1, r) ⟨hlt, by dsimp only; omega, hf.symm⟩ (by dsimp only; omega) ⟨rfl, rfl, rfl, rfl, rfl, rfl, rfl, rfl, trivial⟩
 ·obtain rfl : i = l.length := by omega
  rw [List.take_length] at hr
  have hzr : ∀ t ∈ r, TZ t := fun t h => hza t (List.mem_filter.1 (by rw [← hr]; exact h)).1
  rw [← hr]
  refine zcj 11 rfl ?_
  refine Z216 ?_; refine Z272 ?_; refine Z59 ?_; refine Z4 ?_; refine z7 (yr L rfl rfl (zk rfl) rfl rfl rfl SlV.mono (fun u H hH _ _ v1 h3 => zjp (by omega) hzr hH h3)) rfl ?_; refine Z259 ?_
  refine yd L (rs := [.tmp 10]) rfl (fun _ _ h => h) Since.refl fun u H hH hle => ?_
  exact fun v hv => hv
set_option maxHeartbeats 4000000 in
theorem zti {x y : List U} {fx fy : Bool} (hx : x.length ≤ 100000) (hy : y.length ≤ 100000) (zx : ∀ t ∈ x, TZ t) (zy : ∀ t ∈ y, TZ t) {vx vy : Value} {w : World} {B : Heap} (hB : B.Le (hp w)) (hvx : US x fx vx B) (hvy : US y fy vy B) :
  Ret Tryz.prog 62 [vx, vy, .bool true, .bool false, .bool false] w B (US (zjg x y true false false) false) := by
 have lx := zhg x
 have ly := zhg y
 have px := zfh x
 have py := zfh y
 refine yf Tryz.func62 rfl Tryz.ntmps62 (Nat.le_of_ble_eq_true rfl) hB ?_
 refine zaz 0 (US x fx) rfl SlV.mono hvx ?_
 refine zaz 1 (US y fy) rfl SlV.mono hvy ?_
 refine Z186 ?_; refine Z144 ?_
 refine zd2 11 tyU 6 rfl ?_
 refine Z29 ?_; refine Z4 ?_; refine z7 (zcw L rfl rfl rfl (zh1 rfl) rfl zpf lx px (by omega) (by omega)) rfl ?_; refine Z4 ?_; refine qo (zce L rfl rfl rfl (zh1 rfl) rfl zpf ly py (by omega) (by omega)) ?_; refine qo (yn (.inr rfl) rfl rfl rfl rfl) ?_; refine Z188 ?_
 refine zcj 12 (zsy rfl) ?_
 have hal : (x ++ y).length ≤ 200000 := by rw [List.length_append]; omega
 have hza : ∀ t ∈ x ++ y, TZ t := fun t ht => (List.mem_append.1 ht).elim (zx t) (zy t)
 unfold zjg
 generalize hall : x ++ y = l at hal hza
 refine Z28 ?_; refine Z196 ?_
 refine zaj (fun s : Nat × List U => [(0, .sat (US x fx)), (1, .sat (US y fy)), (2, .is (.bool true)), (3, .is (.bool false)), (4, .is (.bool false)), (11, .own (SlR tyU 6 s.2.length (s.2.flatMap ucs))), (12, .sat (US l false)), (13, .is (.int .i64 s.1))])
  (fun s => s.1 ≤ l.length ∧ s.2.length ≤ s.1 ∧ s.2 = (l.take s.1).filter (zei x y true false false)) (fun s => l.length - s.1) (0, []) ⟨Nat.zero_le _, Nat.le_refl _, rfl⟩ ⟨rfl, rfl, rfl, rfl, rfl, rfl, rfl, rfl, trivial⟩ ?_
 rintro ⟨i, r⟩ ⟨hi, hrl, hr⟩
 dsimp only at hi hrl hr ⊢
 by_cases hlt : i < l.length
 ·obtain ⟨t, ht⟩ := zae hlt
  have hc := zge ht
  have hf := zkf ht hr
  by_cases h1 : t ∈ x
  ·have e1 : (if t ∈ x then 1 else 0 : Int) = 1 := if_pos h1
   by_cases h2 : t ∈ y
   ·have e2 : (if t ∈ y then 1 else 0 : Int) = 1 := if_pos h2
    have hp : (zei x y true false false) t = false := by simp [zei, h1, h2]
    rw [hp, if_neg (by decide)] at hf
    refine Z339 ?_; refine Z287 ?_; refine z8 (qu L _ rfl rfl rfl rfl rfl rfl rfl (by first | omega | decide) (by assumption)) rfl ?_; refine z8 (yg L (vs := [_, _, _, _, _, _]) rfl rfl rfl rfl rfl ⟨_, rfl⟩) rfl ?_; refine z8 (zp L rfl rfl (zk rfl) rfl rfl rfl (fun u H hH _ _ v1 h3 => zbk (l := x) (by omega) e1 hH h3)) rfl ?_; refine Z100 ?_; refine Z287 ?_; refine z8 (qu L _ rfl rfl rfl rfl rfl rfl rfl (by first | omega | decide) (by assumption)) rfl ?_; refine z8 (yg L (vs := [_, _, _, _, _, _]) rfl rfl rfl rfl rfl ⟨_, rfl⟩) rfl ?_; refine z8 (zp L rfl rfl (zk rfl) rfl rfl rfl (fun u H hH _ _ v1 h3 => zbk (l := y) (by omega) e2 hH h3)) rfl ?_; refine Z100 ?_; refine Z375 ?_; refine Z43 ?_; refine Z174 ?_; refine Z392 ?_; refine Z278 ?_; refine Z219 ?_; refine Z232 ?_; refine Z8 ?_; refine Z232 ?_; refine Z53 ?_; refine Z278 ?_; refine Z278 ?_; refine Z8 ?_; refine Z215 ?_; refine Z320 ?_
    exact yh (x := (i, r)) (i + 1, r) ⟨hlt, by dsimp only; omega, hf.symm⟩ (by dsimp only; omega) ⟨rfl, rfl, rfl, rfl, rfl, rfl, rfl, rfl, trivial⟩
   ·have e2 : (if t ∈ y then 1 else 0 : Int) = 0 := if_neg h2
    have hp : (zei x y true false false) t = true := by simp [zei, h1, h2]
    rw [hp, if_pos rfl] at hf
    refine Z339 ?_; refine Z287 ?_; refine z8 (qu L _ rfl rfl rfl rfl rfl rfl rfl (by first | omega | decide) (by assumption)) rfl ?_; refine z8 (yg L (vs := [_, _, _, _, _, _]) rfl rfl rfl rfl rfl ⟨_, rfl⟩) rfl ?_; refine z8 (zp L rfl rfl (zk rfl) rfl rfl rfl (fun u H hH _ _ v1 h3 => zbk (l := x) (by omega) e1 hH h3)) rfl ?_; refine Z100 ?_; refine Z287 ?_; refine z8 (qu L _ rfl rfl rfl rfl rfl rfl rfl (by first | omega | decide) (by assumption)) rfl ?_; refine z8 (yg L (vs := [_, _, _, _, _, _]) rfl rfl rfl rfl rfl ⟨_, rfl⟩) rfl ?_; refine z8 (zp L rfl rfl (zk rfl) rfl rfl rfl (fun u H hH _ _ v1 h3 => zbk (l := y) (by omega) e2 hH h3)) rfl ?_; refine Z87 ?_; refine Z375 ?_; refine Z43 ?_; refine Z174 ?_; refine Z53 ?_; refine Z232 ?_; refine Z8 ?_; refine Z336 ?_; refine Z194 ?_; refine Z336 ?_; refine Z217 ?_; refine Z143 ?_; refine Z57 ?_; refine qo (yn (.inl rfl) rfl rfl rfl rfl) ?_; refine Z200 ?_; refine z7 (qu L _ rfl rfl rfl rfl rfl rfl rfl (by first | omega | decide) (by assumption)) rfl ?_; refine z7 (yg L (vs := [_, _, _, _, _, _]) rfl rfl rfl rfl rfl ⟨_, rfl⟩) rfl ?_; refine Z310 ?_; refine qo (yn (.inr rfl) rfl rfl rfl rfl) ?_; refine Z238 ?_; refine Z320 ?_
    exact yh (x := (i, r)) (i + 1, r ++ [t]) ⟨hlt, by dsimp only; rw [List.length_append, List.length_singleton]; omega, hf.symm⟩ (by dsimp only; omega) ⟨rfl, rfl, rfl, rfl, rfl, zex rfl, rfl, rfl, trivial⟩
  ·have e1 : (if t ∈ x then 1 else 0 : Int) = 0 := if_neg h1
   by_cases h2 : t ∈ y
   ·have e2 : (if t ∈ y then 1 else 0 : Int) = 1 := if_pos h2
    have hp : (zei x y true false false) t = false := by simp [zei, h1, h2]
    rw [hp, if_neg (by decide)] at hf
    refine Z339 ?_; refine Z287 ?_; refine z8 (qu L _ rfl rfl rfl rfl rfl rfl rfl (by first | omega | decide) (by assumption)) rfl ?_; refine z8 (yg L (vs := [_, _, _, _, _, _]) rfl rfl rfl rfl rfl ⟨_, rfl⟩) rfl ?_; refine z8 (zp L rfl rfl (zk rfl) rfl rfl rfl (fun u H hH _ _ v1 h3 => zbk (l := x) (by omega) e1 hH h3)) rfl ?_; refine Z87 ?_; refine Z287 ?_; refine z8 (qu L _ rfl rfl rfl rfl rfl rfl rfl (by first | omega | decide) (by assumption)) rfl ?_; refine z8 (yg L (vs := [_, _, _, _, _, _]) rfl rfl rfl rfl rfl ⟨_, rfl⟩) rfl ?_; refine z8 (zp L rfl rfl (zk rfl) rfl rfl rfl (fun u H hH _ _ v1 h3 => zbk (l := y) (by omega) e2 hH h3)) rfl ?_; refine Z100 ?_; refine Z375 ?_; refine Z325 ?_; refine Z217 ?_; refine Z278 ?_; refine Z174 ?_; refine Z194 ?_; refine Z278 ?_; refine Z232 ?_; refine Z53 ?_; refine Z140 ?_; refine Z232 ?_; refine Z8 ?_; refine Z8 ?_; refine Z215 ?_; refine Z320 ?_
    exact yh (x := (i, r)) (i + 1, r) ⟨hlt, by dsimp only; omega, hf.symm⟩ (by dsimp only; omega) ⟨rfl, rfl, rfl, rfl, rfl, rfl, rfl, rfl, trivial⟩
   ·have e2 : (if t ∈ y then 1 else 0 : Int) = 0 := if_neg h2
    have hp : (zei x y true false false) t = false := by simp [zei, h1, h2]
    rw [hp, if_neg (by decide)] at hf
    refine Z339 ?_; refine Z287 ?_; refine z8 (qu L _ rfl rfl rfl rfl rfl rfl rfl (by first | omega | decide) (by assumption)) rfl ?_; refine z8 (yg L (vs := [_, _, _, _, _, _]) rfl rfl rfl rfl rfl ⟨_, rfl⟩) rfl ?_; refine z8 (zp L rfl rfl (zk rfl) rfl rfl rfl (fun u H hH _ _ v1 h3 => zbk (l := x) (by omega) e1 hH h3)) rfl ?_; refine Z87 ?_; refine Z287 ?_; refine z8 (qu L _ rfl rfl rfl rfl rfl rfl rfl (by first | omega | decide) (by assumption)) rfl ?_; refine z8 (yg L (vs := [_, _, _, _, _, _]) rfl rfl rfl rfl rfl ⟨_, rfl⟩) rfl ?_; refine z8 (zp L rfl rfl (zk rfl) rfl rfl rfl (fun u H hH _ _ v1 h3 => zbk (l := y) (by omega) e2 hH h3)) rfl ?_; refine Z87 ?_; refine Z375 ?_; refine Z325 ?_; refine Z217 ?_; refine Z278 ?_; refine Z174 ?_; refine Z194 ?_; refine Z278 ?_; refine Z232 ?_; refine Z53 ?_; refine Z140 ?_; refine Z8 ?_; refine Z278 ?_; refine Z8 ?_; refine Z215 ?_; refine Z320 ?_
    exact yh (x := (i, r)) (i + 1, r) ⟨hlt, by dsimp only; omega, hf.symm⟩ (by dsimp only; omega) ⟨rfl, rfl, rfl, rfl, rfl, rfl, rfl, rfl, trivial⟩
 ·obtain rfl : i = l.length := by omega
  rw [List.take_length] at hr
  have hzr : ∀ t ∈ r, TZ t := fun t h => hza t (List.mem_filter.1 (by rw [← hr]; exact h)).1
  rw [← hr]
  refine zcj 11 rfl ?_
  refine Z216 ?_; refine Z272 ?_; refine Z59 ?_; refine Z4 ?_; refine z7 (yr L rfl rfl (zk rfl) rfl rfl rfl SlV.mono (fun u H hH _ _ v1 h3 => zjp (by omega) hzr hH h3)) rfl ?_; refine Z259 ?_
  refine yd L (rs := [.tmp 10]) rfl (fun _ _ h => h) Since.refl fun u H hH hle => ?_
  exact fun v hv => hv
end Go.V.L2
set_option maxRecDepth 20000
namespace Go.V.L6
open Go.Proofs Go.RowKit Go.V Go.V.L2 Go.V.L3
theorem _root_.Go.V.Z78 {A B : Prop} (h : B) (t : Wr B → A := by intro h; refine z7 (zhs L rfl rfl rfl rfl) rfl ?_; exact h.h) : A := t ⟨h⟩
theorem zve (N : List (U × Unit)) : UT.flat N = (kS N).flatMap ucs := by
 unfold UT.flat kS
 rw [List.flatMap_map]
 rfl
theorem zrp {t : Tr U Unit} {r k : Nat} (hk : k ≤ t.size) : kS (UT.rangeL t (r : Int) (k : Int)) = ((kS t.list).take k).drop r := by
 unfold UT.rangeL
 have h0 : max (r : Int) 0 = (r : Int) := by omega
 have h1 : min (k : Int) (t.size : Int) = (k : Int) := by omega
 rw [h0, h1]
 by_cases h : (r : Int) ≥ k
 ·rw [if_pos h, List.drop_eq_nil_of_le (by rw [List.length_take]; omega)]
  rfl
 ·rw [if_neg h, Tr.prs_list]
  have := zq3 r k t.list 0
  rw [show ((0 : Nat) : Int) = 0 from rfl] at this
  rw [this, Nat.sub_zero, Nat.sub_zero]
  unfold kS
  rw [List.map_drop, List.map_take]
attribute [local irreducible] V N X VO Par StepOK Has Ret RetL RetO Src
set_option maxHeartbeats 1000000 in
theorem zsb {fv : Value} {p : Option Addr} {t : Tr U Unit} {f e : Int} {M : List U} (hM : kS (UT.rangeL t f e) = M) (hs : t.size ≤ 100000) {w : World} {B : Heap} (hB : B.Le (hp w)) (ht : UT.TA t (.pointer p) B) :
  RetO Tryz.prog 45 [.agg #[fv, .pointer p], .int .i64 f, .int .i64 e] w B (SlE tyU 6 M.length (M.flatMap ucs)) := by
 obtain ⟨N, hN⟩ : ∃ N, UT.rangeL t f e = N := ⟨_, rfl⟩
 rw [hN] at hM
 have hfl := zve N
 have hNM : N.length = M.length := by rw [← hM]; simp
 have hlen : M.length ≤ 100000 := by
  rw [← hNM, ← hN]
  unfold UT.rangeL
  split
  ·exact Nat.zero_le _
  ·exact Nat.le_trans (Tr.prs_length_le _ _ _ _) hs
 have hat : ∀ {k : Nat} {g : U}, M[k]? = some g → ((UT.flat N).drop (k * 6)).take 6 = [.string g.1.1.1, .string g.1.1.2, .string g.1.2, .string g.2.1.1, .string g.2.1.2, .string g.2.2] := fun {k g} h => by
  rw [hfl, hM]; exact zge h
 clear hM hfl
 refine zeg Tryz.func45 rfl Tryz.ntmps45 (Nat.le_of_ble_eq_true rfl) hB ?_
 refine Z271 ?_; refine Z16 ?_; refine z7 (zz L (vs := [_, _]) (qm rfl) rfl rfl rfl rfl ⟨_, rfl⟩) rfl ?_; refine Z140 ?_; refine z7 (yr (φ := UT.PS N true) L rfl rfl (zk rfl) rfl rfl rfl UT.PS.mono (fun u H hH hle _ => UT.range_m _ _ hH (⟨_, rfl, ht.le hle⟩) (by omega) hN)) rfl ?_; refine Z396 ?_; refine Z29 ?_; refine Z150 ?_; refine z7 (zmd L _ rfl rfl rfl zpf rfl rfl rfl rfl (by omega) (by simp only [maxLen]; omega)) rfl ?_; refine qo (yn (.inr rfl) rfl rfl rfl rfl) ?_; refine Z188 ?_; refine Z28 ?_; refine Z150 ?_; refine Z305 ?_
 have hzl := zky (P := Tryz.prog) (k := N.length * 6) zpf
 generalize zsL Tryz.prog tyU (N.length * 6) = zs0 at hzl
 rw [hNM] at hzl ⊢
 refine zaj (fun s : Nat × List Value => [(7, .sat (UT.PS N true)), (8, .own (SlE tyU 6 M.length ((M.take s.1).flatMap ucs ++ s.2))), (19, .is (.int .i64 M.length)), (20, .is (.int .i64 s.1))])
  (fun s => s.1 ≤ M.length ∧ s.2.length = (M.length - s.1) * 6) (fun s => M.length - s.1) (0, zs0) ⟨Nat.zero_le _, hzl⟩ ⟨rfl, rfl, rfl, rfl, trivial⟩ ?_
 rintro ⟨k, zs⟩ ⟨hk, hz⟩
 dsimp only at hk hz ⊢
 by_cases hlt : k < M.length
 ·obtain ⟨g, hg⟩ := zae hlt
  have hc := hat hg
  have hlN : k < N.length := by omega
  have ht1 : M.take (k + 1) = M.take k ++ [g] := by rw [List.take_add_one, hg]; rfl
  have hr : List.take (0 + k * 6) ((M.take k).flatMap ucs ++ zs) ++ (ucs g ++ List.drop (0 + k * 6 + 6) ((M.take k).flatMap ucs ++ zs)) = (M.take (k + 1)).flatMap ucs ++ zs.drop 6 := by
   rw [ht1, Nat.zero_add]
   exact z1f zlu (M.take k) k M.length zs g (by rw [List.length_take]; omega) hz hlt
  have hlen' : ((M.take (k + 1)).flatMap ucs ++ zs.drop 6).length = M.length * 6 := by
   rw [List.length_append, zhg, List.length_take, List.length_drop, hz]; omega
  refine z25 8 (by omega) rfl fun b hb => ?_
  have hle1 : 0 + k * 6 + 6 ≤ ((M.take k).flatMap ucs ++ zs).length := by rw [hb.1]; omega
  refine Z313 ?_; refine Z224 ?_; refine Z180 ?_; refine Z138 ?_; refine Z277 ?_; refine Z200 ?_; refine z7 (qu L _ rfl rfl rfl rfl rfl rfl rfl (by first | omega | decide) (by assumption)) rfl ?_; refine Z78 ?_; refine z7 (yg L (vs := [_, _, _, _, _, _]) rfl rfl rfl rfl rfl ⟨_, rfl⟩) rfl ?_; refine z7 (qg L _ rfl rfl rfl rfl rfl rfl rfl (by omega)) rfl ?_; refine zok L (O1 := []) (cs' := (M.take (k + 1)).flatMap ucs ++ zs.drop 6) rfl rfl rfl rfl rfl rfl (Nat.ble_eq_true_of_le hle1) rfl hr ?_; refine Z238 ?_
  refine zx4 (s := 6) 8 [] rfl rfl hlen' hb.2 ?_
  refine Z43 ?_; refine Z316 ?_
  exact yh (x := (k, zs)) (k + 1, zs.drop 6) ⟨hlt, by dsimp only; rw [List.length_drop, hz]; omega⟩ (by dsimp only; omega) ⟨rfl, rfl, rfl, rfl, trivial⟩
 ·obtain rfl : k = M.length := by omega
  have hzn : zs = [] := List.eq_nil_of_length_eq_zero (by rw [hz]; omega)
  rw [hzn, List.append_nil, List.take_length]
  refine Z313 ?_; refine Z314 ?_; refine Z57 ?_; refine qo (yn (.inl rfl) rfl rfl rfl rfl) ?_; refine qo (yn (.inr rfl) rfl rfl rfl rfl) ?_; refine Z137 ?_
  exact zif rfl (fun _ _ h => h) Since.refl rfl
end Go.V.L6
set_option maxRecDepth 20000
namespace Go.V.L6
open Go.Proofs Go.RowKit Go.V Go.V.L2 Go.V.L3
attribute [local irreducible] V N X VO Par StepOK Has Ret RetL RetO Src
theorem SetV.trees {l : List U} {v : Value} {B : Heap} (hv : SetV l v B) : ∃ f p k q t u, v = .agg #[f, .pointer p, k, .pointer q] ∧ TS l t u ∧ UT.TA t (.pointer p) B ∧ UT.TA u (.pointer q) B := by
 obtain ⟨p, q, t, u, hT, ht, hu, rfl | ⟨rfl, rfl, rfl, rfl⟩⟩ := hv
 ·exact ⟨_, _, _, _, t, u, rfl, hT, ht, hu⟩
 ·exact ⟨_, _, _, _, t, u, rfl, hT, ht, hu⟩
theorem z1d {l : List U} (hl : l.length ≤ 100000) {v : Value} {w : World} {B : Heap} (hB : B.Le (hp w)) (hv : SetV l v B) : RetO Tryz.prog 14 [v] w B (SlE tyU 6 l.length (l.flatMap ucs)) := by
 obtain ⟨f, p, k, q, t, u, rfl, hT, ht, hu⟩ := hv.trees
 have hts := hT.size
 have hr : kS (UT.rangeL t 0 (l.length : Int)) = l := by
  have := zrp (t := t) (r := 0) (k := l.length) (by omega)
  rw [show ((0 : Nat) : Int) = 0 from rfl] at this
  rw [this, hT.kt, List.drop_zero, List.take_length]
 refine zeg Tryz.func14 rfl Tryz.ntmps14 (Nat.le_of_ble_eq_true rfl) hB ?_
 refine Z156 ?_; refine Z144 ?_; refine qd (id := 1) [(2, [7])] mixed (by kernel_rfl) ?_; refine Z47 ?_; refine z8 (zz L (vs := [_, _]) (qm rfl) rfl rfl rfl rfl ⟨_, rfl⟩) rfl ?_; refine z8 (zz L (vs := [_, _, _, _]) (qm rfl) rfl rfl rfl rfl ⟨_, rfl⟩) rfl ?_; refine z8 (zp L rfl rfl (zk rfl) rfl rfl rfl (fun u H hH hle _ => zdj rfl hH (hv.le hle))) rfl ?_; refine z8 (zeb L rfl rfl (zk rfl) rfl rfl rfl (fun u H hH hle _ => zsb hr (by omega) hH (ht.le hle))) rfl ?_; refine za3 (yn (.inr rfl) rfl rfl rfl rfl) rfl rfl ?_; refine Z149 ?_
 exact zif rfl (fun _ _ h => h) Since.refl rfl
end Go.V.L6
set_option maxRecDepth 20000
namespace Go.V.L6
open Go.Proofs Go.RowKit Go.V Go.V.L2 Go.V.L3
attribute [local irreducible] V N X VO Par StepOK Has Ret RetL RetO RetT Src
end Go.V.L6
set_option maxRecDepth 20000
namespace Go.V.L6
open Go.Proofs Go.RowKit Go.V Go.V.L2
attribute [local irreducible] V N X VO Par StepOK Has Ret RetL RetO Src
end Go.V.L6
set_option maxRecDepth 20000
namespace Go.V.L6
open Go.Proofs Go.RowKit Go.V Go.V.L2 Go.V.L3
theorem LE2.out {φ : Value → Heap → Prop} {a v : Value} {H : Heap} (h : TupS [φ, fun v _ => v = a] v H) : ∃ tv, v = .tuple #[tv, a] ∧ φ tv H := by
 obtain ⟨vs, rfl, hl, h⟩ := h
 match vs, hl with
 | [x, y], _ =>
  have h1 := h 0 _ x rfl rfl
  have h2 := h 1 _ y rfl rfl
  subst h2
  exact ⟨x, rfl, h1⟩
def WithP (l : List U) (e : Int) (r : Value) (H : Heap) : Prop := ∃ tv, r = .tuple #[tv, .int .i64 e] ∧ SetV l tv H
theorem WithP.mono {l : List U} {e : Int} : Kn.mono (.sat (WithP l e)) := fun _ _ _ ⟨tv, h1, h2⟩ hle => ⟨tv, h1, h2.le hle⟩
theorem zjh {l : List U} (hl : l.length ≤ 100000) {v : Value} {w : World} {B : Heap} (hB : B.Le (hp w)) (hv : SetV l v B) : Ret Tryz.prog 14 [v] w B (US l true) := (z1d hl hB hv).toRet zit
theorem zm5 {l m : List U} {x : U} {d : Bool} {e : Int} (hr : zco l x d = (m, e)) (hl : l.length ≤ 4096) (hz : TZ x) {v : Value} {w : World} {B : Heap} (hB : B.Le (hp w)) (hv : SetV l v B) :
  Ret Tryz.prog 61 [v, chv x d] w B (WithP m e) := (zv3 hr hl hz hB hv).mono fun _ _ _ h => LE2.out h
attribute [local irreducible] V N X VO Par StepOK Has Ret RetL RetO RetT Src
end Go.V.L6
set_option maxRecDepth 20000
namespace Go.V.L3
open Go.Proofs Go.RowKit Go.V Go.V.L2
attribute [local irreducible] V N X VO Par StepOK Has Ret RetL RetO RetT Src
end Go.V.L3
set_option maxRecDepth 20000
namespace Go.V.L3
open Go.Proofs Go.RowKit Go.V Go.V.L2
attribute [local irreducible] V N X VO Par StepOK Has Ret RetL RetO RetT Src
end Go.V.L3
set_option maxRecDepth 20000
namespace Go.V.L6
open Go.Proofs Go.RowKit Go.V Go.V.L2 Go.V.L3
theorem _root_.Go.V.Z326 {A B : Prop} (h : B) (t : Wr B → A := by intro h; refine Z156 ?_; refine Z2 ?_; exact h.h) : A := t ⟨h⟩
abbrev R6 (l : List U) (e : Int) : Value → Heap → Prop := TupS [US l false, fun v _ => v = .int .i64 e]
theorem R6.mono {l : List U} {e : Int} : Kn.mono (.sat (R6 l e)) := LE2.mono SlV.mono
theorem zwg {l : List U} (hs : Sst zbd l) (x : U) : zjg l [x] true false false = l.filter fun z => decide (z ≠ x) := by
 refine ze1 cmpT_ord (zfk cmpT_ord Sst.nil) (hs.sublist List.filter_sublist) fun z => ?_
 unfold zjg zjf
 rw [zfo, List.mem_filter, List.mem_filter]
 unfold zei
 simp only [List.mem_append, List.mem_singleton, List.not_mem_nil, false_or, Bool.and_true, Bool.and_false, Bool.or_false, Bool.and_eq_true, decide_eq_true_eq, Bool.not_eq_true', decide_eq_false_iff_not, ne_eq]
 constructor
 ·rintro ⟨_, h1, h2⟩; exact ⟨h1, h2⟩
 ·rintro ⟨h1, h2⟩; exact ⟨.inl h1, h1, h2⟩
theorem zzl {l : List U} (hs : Sst zbd l) {x : U} (hx : x ∉ l) : zjg l [x] true true true = zhf zbd x l := by
 refine ze1 cmpT_ord (zfk cmpT_ord Sst.nil) (ze0 cmpT_ord hs hx) fun z => ?_
 unfold zjg zjf
 rw [zfo, List.mem_filter, zdm]
 unfold zei
 simp only [List.mem_append, List.mem_singleton, List.not_mem_nil, false_or, Bool.and_true, Bool.or_eq_true, Bool.and_eq_true, decide_eq_true_eq, Bool.not_eq_true', decide_eq_false_iff_not]
 constructor
 ·rintro ⟨h, _⟩; exact h.symm
 ·rintro (rfl | h)
  ·exact ⟨.inr rfl, .inr ⟨hx, rfl⟩⟩
  ·refine ⟨.inl h, .inl (.inl ⟨h, fun e => ?_⟩)⟩
   subst e; exact hx h
theorem zpy (t : U) : tE t = 0 ∨ tE t = 6 := by
 unfold tE
 split
 ·exact znb _ _ _
 ·rename_i h; exact .inr ((zi1 _).resolve_left h)
theorem zi3 {l : List U} {x z : U} {d : Bool} (h : z ∈ (zco l x d).1) : z ∈ l ∨ z = x := by
 unfold zco at h
 split at h
 ·split at h
  ·exact .inl (List.mem_filter.1 h).1
  ·split at h
   ·exact .inl h
   ·split at h
    ·cases h
    ·exact (zdm.1 h).symm
 ·cases h
attribute [local irreducible] V N X VO Par StepOK Has Ret RetL RetO RetT Src
set_option maxHeartbeats 1000000 in
theorem zjl {l m : List U} {x : U} {d fu : Bool} {e : Int} (hr : zco l x d = (m, e)) (hs : Sst zbd l) (hl : l.length ≤ 90000) (hz : TZ x) (zl : ∀ t ∈ l, TZ t) {v : Value} {w : World} {B : Heap} (hB : B.Le (hp w)) (hv : US l fu v B) :
  Ret Tryz.prog 127 [v, chv x d] w B (R6 m e) := by
 have z1 : ∀ t ∈ [x], TZ t := fun t ht => by rw [List.mem_singleton] at ht; subst ht; exact hz
 have zx1 : ([x] : List U).length ≤ 100000 := show 1 ≤ 100000 by decide
 have key : ∀ {a b c : Bool} (u : World) (H : Heap) (v1 v2 : Value), H.Le (hp u) → US l fu v1 H → SlB (ucs x) tyU 1 v2 H → (a = true ∧ b = false ∧ c = false ∨ a = true ∧ b = true ∧ c = true) → Ret Tryz.prog 62 [v1, v2, .bool a, .bool b, .bool c] u H (US (zjg l [x] a b c) false) := by
  rintro a b c u H v1 v2 hH h1 h2 (⟨rfl, rfl, rfl⟩ | ⟨rfl, rfl, rfl⟩)
  ·exact zti (y := [x]) (by omega) zx1 zl z1 hH h1 (h2.toV rfl)
  ·exact zth (y := [x]) (by omega) zx1 zl z1 hH h1 (h2.toV rfl)
 refine yf Tryz.func127 rfl Tryz.ntmps127 (Nat.le_of_ble_eq_true rfl) hB ?_
 refine zaz 0 (US l fu) rfl SlV.mono hv ?_
 unfold zco at hr
 by_cases he : tE x = 0
 ·rw [if_pos he] at hr
  cases d
  ·rw [if_neg (by decide)] at hr
   by_cases hx : x ∈ l
   ·rw [if_pos hx] at hr
    cases hr
    have hin : (if x ∈ l then 1 else 0 : Int) = 1 := if_pos hx
    refine Z326 ?_; refine Z256 ?_; refine z7 (zz L (vs := [_, _, _, _, _, _]) (qm rfl) rfl rfl rfl rfl ⟨_, rfl⟩) rfl ?_; refine z7 (zp L rfl rfl (zk rfl) rfl rfl rfl (fun u H hH _ _ => he ▸ zdv hz hH)) rfl ?_; refine Z250 ?_; refine Z318 ?_; refine Z168 ?_; refine Z38 ?_; refine Z4 ?_; refine Z16 ?_; refine z7 (zz L (vs := [_, _, _, _, _, _]) (qm rfl) rfl rfl rfl rfl ⟨_, rfl⟩) rfl ?_; refine z7 (zp L rfl rfl (zk rfl) rfl rfl rfl (fun u H hH _ _ v1 h1 => zbk (by omega) hin hH h1)) rfl ?_; refine Z294 ?_; refine Z45 ?_; refine Z4 ?_; refine Z51 ?_; refine Z138 ?_
    refine yd L (rs := [.tmp 4, .tmp 5]) rfl (fun _ _ h => h) Since.refl fun u H hH hle => ?_
    exact fun v hv => LE2.mk hv.nofu
   ·rw [if_neg hx] at hr
    have hin : (if x ∈ l then 1 else 0 : Int) = 0 := if_neg hx
    by_cases hf : l.length ≥ 4096
    ·rw [if_pos hf] at hr
     cases hr
     refine Z326 ?_; refine Z256 ?_; refine z7 (zz L (vs := [_, _, _, _, _, _]) (qm rfl) rfl rfl rfl rfl ⟨_, rfl⟩) rfl ?_; refine z7 (zp L rfl rfl (zk rfl) rfl rfl rfl (fun u H hH _ _ => he ▸ zdv hz hH)) rfl ?_; refine Z250 ?_; refine Z318 ?_; refine Z168 ?_; refine Z38 ?_; refine Z4 ?_; refine Z16 ?_; refine z7 (zz L (vs := [_, _, _, _, _, _]) (qm rfl) rfl rfl rfl rfl ⟨_, rfl⟩) rfl ?_; refine z7 (zp L rfl rfl (zk rfl) rfl rfl rfl (fun u H hH _ _ v1 h1 => zbk (by omega) hin hH h1)) rfl ?_; refine Z274 ?_; refine Z43 ?_; refine Z150 ?_; refine Z42 ?_; refine Z155 ?_; refine Z57 ?_; refine Z185 ?_
     refine yd L (rs := [.tmp 4, .tmp 5]) rfl (fun _ _ h => h) Since.refl fun u H hH hle => ?_
     exact LE2.mk SlV.nil
    ·rw [if_neg hf] at hr
     cases hr
     rw [← zzl hs hx]
     refine Z326 ?_; refine Z256 ?_; refine z7 (zz L (vs := [_, _, _, _, _, _]) (qm rfl) rfl rfl rfl rfl ⟨_, rfl⟩) rfl ?_; refine z7 (zp L rfl rfl (zk rfl) rfl rfl rfl (fun u H hH _ _ => he ▸ zdv hz hH)) rfl ?_; refine Z250 ?_; refine Z318 ?_; refine Z168 ?_; refine Z38 ?_; refine Z4 ?_; refine Z16 ?_; refine z7 (zz L (vs := [_, _, _, _, _, _]) (qm rfl) rfl rfl rfl rfl ⟨_, rfl⟩) rfl ?_; refine z7 (zp L rfl rfl (zk rfl) rfl rfl rfl (fun u H hH _ _ v1 h1 => zbk (by omega) hin hH h1)) rfl ?_; refine Z274 ?_; refine Z43 ?_; refine Z150 ?_; refine Z46 ?_; refine Z158 ?_; refine Z59 ?_; refine Z4 ?_; refine Z16 ?_; refine z7 (zz L (vs := [_, _, _, _, _, _]) (qm rfl) rfl rfl rfl rfl ⟨_, rfl⟩) rfl ?_; refine Z36 ?_; refine z7 (yr (φ := US (zjg l [x] true true true) false) L rfl rfl (zk rfl) rfl rfl rfl SlV.mono (fun u H hH _ _ v1 h1 v2 h2 => key u H v1 v2 hH h1 h2 (.inr ⟨rfl, rfl, rfl⟩))) rfl ?_; refine Z51 ?_; refine Z138 ?_
     refine yd L (rs := [.tmp 4, .tmp 5]) rfl (fun _ _ h => h) Since.refl fun u H hH hle => ?_
     exact fun v hv => LE2.mk hv
  ·rw [if_pos rfl] at hr
   cases hr
   rw [← zwg hs x]
   refine Z326 ?_; refine Z256 ?_; refine z7 (zz L (vs := [_, _, _, _, _, _]) (qm rfl) rfl rfl rfl rfl ⟨_, rfl⟩) rfl ?_; refine z7 (zp L rfl rfl (zk rfl) rfl rfl rfl (fun u H hH _ _ => he ▸ zdv hz hH)) rfl ?_; refine Z250 ?_; refine Z318 ?_; refine Z321 ?_; refine Z4 ?_; refine Z16 ?_; refine z7 (zz L (vs := [_, _, _, _, _, _]) (qm rfl) rfl rfl rfl rfl ⟨_, rfl⟩) rfl ?_; refine Z36 ?_; refine z7 (yr (φ := US (zjg l [x] true false false) false) L rfl rfl (zk rfl) rfl rfl rfl SlV.mono (fun u H hH _ _ v1 h1 v2 h2 => key u H v1 v2 hH h1 h2 (.inl ⟨rfl, rfl, rfl⟩))) rfl ?_; refine Z51 ?_; refine Z138 ?_
   refine yd L (rs := [.tmp 4, .tmp 5]) rfl (fun _ _ h => h) Since.refl fun u H hH hle => ?_
   exact fun v hv => LE2.mk hv
 ·have h6 := (zpy x).resolve_left he
  rw [if_neg he, h6] at hr
  cases hr
  refine Z326 ?_; refine Z256 ?_; refine z7 (zz L (vs := [_, _, _, _, _, _]) (qm rfl) rfl rfl rfl rfl ⟨_, rfl⟩) rfl ?_; refine z7 (zp L rfl rfl (zk rfl) rfl rfl rfl (fun u H hH _ _ => h6 ▸ zdv hz hH)) rfl ?_; refine Z214 ?_; refine Z29 ?_; refine Z185 ?_
  refine yd L (rs := [.tmp 4, .tmp 5]) rfl (fun _ _ h => h) Since.refl fun u H hH hle => ?_
  exact LE2.mk SlV.nil
end Go.V.L6
set_option maxRecDepth 20000
namespace Go.V.L3
open Go.Proofs Go.RowKit Go.V Go.V.L2
attribute [local irreducible] V N X VO Par StepOK Has Ret RetL RetO RetT Src
end Go.V.L3
set_option maxRecDepth 20000
namespace Go.V.L3
open Go.Proofs Go.RowKit Go.V Go.V.L2
attribute [local irreducible] V N X VO Par StepOK Has Ret RetL RetO RetT Src
end Go.V.L3
set_option maxRecDepth 20000
namespace Go.V.L3
open Go.Proofs Go.RowKit Go.V Go.V.L2
abbrev tyI : TypeId := 3
attribute [local irreducible] V N X VO Par StepOK Has Ret RetL RetO RetT Src
end Go.V.L3
set_option maxRecDepth 20000
namespace Go.V.L3
open Go.Proofs Go.RowKit Go.V Go.V.L2
attribute [local irreducible] V N X VO Par StepOK Has Ret RetL RetO RetT Src
end Go.V.L3
set_option maxRecDepth 20000
namespace Go.V
open Go.Proofs Go.RowKit
def zjd (n : Nat) : ByteArray := match n % 3 with
 | 0 => ⟨#[100, 111, 99]⟩
 | 1 => ⟨#[102, 111, 108, 100, 101, 114]⟩
 | _ => ⟨#[103, 114, 111, 117, 112]⟩
def idS (n : Nat) : ByteArray := match n % 5 with
 | 0 => ⟨#[97]⟩
 | 1 => ⟨#[98]⟩
 | 2 => ⟨#[99, 49]⟩
 | 3 => ⟨#[100]⟩
 | _ => ⟨#[114, 111, 111, 116]⟩
def zzn (n : Nat) : ByteArray := match n % 4 with
 | 0 => ⟨#[118, 105, 101, 119, 101, 114]⟩
 | 1 => ⟨#[101, 100, 105, 116, 111, 114]⟩
 | 2 => ⟨#[109, 101, 109, 98, 101, 114]⟩
 | _ => ⟨#[112, 97, 114, 101, 110, 116]⟩
theorem zem (n : Nat) : chk (zjd n) = 0 ∧ (zjd n).size ≤ 16 := by
 unfold zjd
 split <;> decide +kernel
theorem zll (n : Nat) : chk (idS n) = 0 ∧ (idS n).size ≤ 16 := by
 unfold idS
 split <;> decide +kernel
theorem zl7 (n : Nat) : chk (zzn n) = 0 ∧ (zzn n).size ≤ 16 := by
 unfold zzn
 split <;> decide +kernel
def zms (n : Nat) : (ByteArray × ByteArray) × ByteArray := ((zjd n, idS (n / 3)), zzn (n / 15))
theorem zxd (n : Nat) : zc3 [(zms n).1.1, (zms n).1.2, (zms n).2] = 0 := by
 simp only [zc3, zms, (zem _).1, (zll _).1, (zl7 _).1, if_pos]
theorem zse (n : Nat) : (zms n).1.1.size ≤ 16 ∧ (zms n).1.2.size ≤ 16 ∧ (zms n).2.size ≤ 16 := ⟨(zem _).2, (zll _).2, (zl7 _).2⟩
end Go.V
set_option maxRecDepth 20000
namespace Go.V
open Go.Proofs Go.RowKit
theorem _root_.Go.V.Z75 {A B : Prop} (h : B) (t : Wr B → A := by intro h; refine z7 (zyr rfl rfl rfl rfl (by omega) (by assumption)) rfl ?_; exact h.h) : A := t ⟨h⟩
theorem _root_.Go.V.Z345 {A B : Prop} (h : B) (t : Wr B → A := by intro h; refine Z186 ?_; refine Z36 ?_; exact h.h) : A := t ⟨h⟩
theorem _root_.Go.V.Z346 {A B : Prop} (h : B) (t : Wr B → A := by intro h; refine Z345 ?_; refine Z1 ?_; exact h.h) : A := t ⟨h⟩
theorem _root_.Go.V.Z347 {A B : Prop} (h : B) (t : Wr B → A := by intro h; refine Z346 ?_; refine Z75 ?_; exact h.h) : A := t ⟨h⟩
theorem _root_.Go.V.Z348 {A B : Prop} (h : B) (t : Wr B → A := by intro h; refine Z33 ?_; refine Z138 ?_; exact h.h) : A := t ⟨h⟩
theorem _root_.Go.V.Z381 {A B : Prop} (h : B) (t : Wr B → A := by intro h; refine Z347 ?_; refine z7 (zdr L 0 rfl rfl rfl rfl rfl rfl rfl (by omega)) rfl ?_; exact h.h) : A := t ⟨h⟩
theorem _root_.Go.V.Z382 {A B : Prop} (h : B) (t : Wr B → A := by intro h; refine Z347 ?_; refine z7 (zdr L 1 rfl rfl rfl rfl rfl rfl rfl (by omega)) rfl ?_; exact h.h) : A := t ⟨h⟩
theorem _root_.Go.V.Z383 {A B : Prop} (h : B) (t : Wr B → A := by intro h; refine Z347 ?_; refine z7 (zdr L 2 rfl rfl rfl rfl rfl rfl rfl (by omega)) rfl ?_; exact h.h) : A := t ⟨h⟩
attribute [local irreducible] V N X VO Par StepOK Has Ret RetL Src
theorem znd (n : Nat) {w : World} {B : Heap} (hB : B.Le (hp w)) : Ret Tryz.prog 145 [.int .i64 n] w B (fun v _ => v = .string (zjd n)) := by
 unfold zjd
 have e : Int.tmod (n : Int) 3 = ((n % 3 : Nat) : Int) := rfl
 refine yf Tryz.func145 rfl Tryz.ntmps145 (Nat.le_of_ble_eq_true rfl) hB ?_
 have hlt := Nat.mod_lt n (show 0 < 3 by decide)
 rcases (by omega : n % 3 = 0 ∨ n % 3 = 1 ∨ n % 3 = 2) with h | h | h
 ·have e0 : Int.tmod (n : Int) 3 = 0 := by rw [e, h]; rfl
  rw [h]
  refine Z381 ?_; refine Z348 ?_
  refine yd L (rs := [.tmp 2]) rfl (fun _ _ h => h) Since.refl fun u H hH hle => ?_
  rfl
 ·have e0 : Int.tmod (n : Int) 3 = 1 := by rw [e, h]; rfl
  rw [h]
  refine Z382 ?_; refine Z348 ?_
  refine yd L (rs := [.tmp 2]) rfl (fun _ _ h => h) Since.refl fun u H hH hle => ?_
  rfl
 ·have e0 : Int.tmod (n : Int) 3 = 2 := by rw [e, h]; rfl
  rw [h]
  refine Z383 ?_; refine Z348 ?_
  refine yd L (rs := [.tmp 2]) rfl (fun _ _ h => h) Since.refl fun u H hH hle => ?_
  rfl
theorem zyu (n : Nat) {w : World} {B : Heap} (hB : B.Le (hp w)) : Ret Tryz.prog 146 [.int .i64 n] w B (fun v _ => v = .string (idS n)) := by
 unfold idS
 have e : Int.tmod (n : Int) 5 = ((n % 5 : Nat) : Int) := rfl
 refine yf Tryz.func146 rfl Tryz.ntmps146 (Nat.le_of_ble_eq_true rfl) hB ?_
 have hlt := Nat.mod_lt n (show 0 < 5 by decide)
 rcases (by omega : n % 5 = 0 ∨ n % 5 = 1 ∨ n % 5 = 2 ∨ n % 5 = 3 ∨ n % 5 = 4) with h | h | h | h | h
 ·have e0 : Int.tmod (n : Int) 5 = 0 := by rw [e, h]; rfl
  rw [h]
  refine Z381 ?_; refine Z348 ?_
  refine yd L (rs := [.tmp 2]) rfl (fun _ _ h => h) Since.refl fun u H hH hle => ?_
  rfl
 ·have e0 : Int.tmod (n : Int) 5 = 1 := by rw [e, h]; rfl
  rw [h]
  refine Z382 ?_; refine Z348 ?_
  refine yd L (rs := [.tmp 2]) rfl (fun _ _ h => h) Since.refl fun u H hH hle => ?_
  rfl
 ·have e0 : Int.tmod (n : Int) 5 = 2 := by rw [e, h]; rfl
  rw [h]
  refine Z383 ?_; refine Z348 ?_
  refine yd L (rs := [.tmp 2]) rfl (fun _ _ h => h) Since.refl fun u H hH hle => ?_
  rfl
 ·have e0 : Int.tmod (n : Int) 5 = 3 := by rw [e, h]; rfl
  rw [h]
  refine Z347 ?_; refine z7 (zdr L 3 rfl rfl rfl rfl rfl rfl rfl (by omega)) rfl ?_; refine Z348 ?_
  refine yd L (rs := [.tmp 2]) rfl (fun _ _ h => h) Since.refl fun u H hH hle => ?_
  rfl
 ·have e0 : Int.tmod (n : Int) 5 = 4 := by rw [e, h]; rfl
  rw [h]
  refine Z347 ?_; refine z7 (zdr L 4 rfl rfl rfl rfl rfl rfl rfl (by omega)) rfl ?_; refine Z348 ?_
  refine yd L (rs := [.tmp 2]) rfl (fun _ _ h => h) Since.refl fun u H hH hle => ?_
  rfl
theorem ztk (n : Nat) {w : World} {B : Heap} (hB : B.Le (hp w)) : Ret Tryz.prog 147 [.int .i64 n] w B (fun v _ => v = .string (zzn n)) := by
 unfold zzn
 have e : Int.tmod (n : Int) 4 = ((n % 4 : Nat) : Int) := rfl
 refine yf Tryz.func147 rfl Tryz.ntmps147 (Nat.le_of_ble_eq_true rfl) hB ?_
 have hlt := Nat.mod_lt n (show 0 < 4 by decide)
 rcases (by omega : n % 4 = 0 ∨ n % 4 = 1 ∨ n % 4 = 2 ∨ n % 4 = 3) with h | h | h | h
 ·have e0 : Int.tmod (n : Int) 4 = 0 := by rw [e, h]; rfl
  rw [h]
  refine Z381 ?_; refine Z348 ?_
  refine yd L (rs := [.tmp 2]) rfl (fun _ _ h => h) Since.refl fun u H hH hle => ?_
  rfl
 ·have e0 : Int.tmod (n : Int) 4 = 1 := by rw [e, h]; rfl
  rw [h]
  refine Z382 ?_; refine Z348 ?_
  refine yd L (rs := [.tmp 2]) rfl (fun _ _ h => h) Since.refl fun u H hH hle => ?_
  rfl
 ·have e0 : Int.tmod (n : Int) 4 = 2 := by rw [e, h]; rfl
  rw [h]
  refine Z383 ?_; refine Z348 ?_
  refine yd L (rs := [.tmp 2]) rfl (fun _ _ h => h) Since.refl fun u H hH hle => ?_
  rfl
 ·have e0 : Int.tmod (n : Int) 4 = 3 := by rw [e, h]; rfl
  rw [h]
  refine Z347 ?_; refine z7 (zdr L 3 rfl rfl rfl rfl rfl rfl rfl (by omega)) rfl ?_; refine Z348 ?_
  refine yd L (rs := [.tmp 2]) rfl (fun _ _ h => h) Since.refl fun u H hH hle => ?_
  rfl
end Go.V
set_option maxRecDepth 20000
namespace Go.V.L2
open Go.Proofs Go.RowKit Go.V
theorem _root_.Go.V.Z26 {A B : Prop} (h : B) (t : Wr B → A := by intro h; refine z7 (ym rfl rfl rfl rfl (by assumption)) rfl ?_; exact h.h) : A := t ⟨h⟩
theorem _root_.Go.V.Z50 {A B : Prop} (h : B) (t : Wr B → A := by intro h; refine z7 (z1u rfl rfl rfl rfl (by omega) (by assumption)) rfl ?_; exact h.h) : A := t ⟨h⟩
theorem _root_.Go.V.Z135 {A B : Prop} (h : B) (t : Wr B → A := by intro h; refine z8 (zyr rfl rfl rfl rfl (by omega) (by assumption)) rfl ?_; exact h.h) : A := t ⟨h⟩
theorem _root_.Go.V.Z349 {A B : Prop} (h : B) (t : Wr B → A := by intro h; refine Z156 ?_; refine Z27 ?_; exact h.h) : A := t ⟨h⟩
theorem _root_.Go.V.Z376 {A B : Prop} (h : B) (t : Wr B → A := by intro h; refine Z203 ?_; refine Z188 ?_; exact h.h) : A := t ⟨h⟩
def zzi (s : Nat) : zx9 := ((zjd s, idS (s / 3)), if 15 ≤ s then zzn (s / 15 - 1) else ⟨#[]⟩)
def zt1 (a b : Nat) : U := (zms (a % 60), zzi (b % 75))
def tl (ps : List (Nat × Nat)) : List U := (ps.take 20).map fun p => zt1 p.1 p.2
theorem zta (s : Nat) : (zzi s).1.1.size ≤ 16 ∧ (zzi s).1.2.size ≤ 16 ∧ (zzi s).2.size ≤ 16 := by
 refine ⟨(zem _).2, (zll _).2, ?_⟩
 unfold zzi
 dsimp only
 split
 ·exact (zl7 _).2
 ·decide
theorem zt0 (a b : Nat) : TZ (zt1 a b) := by
 have h1 := zse (a % 60)
 have h2 := zta (b % 75)
 unfold TZ zt1
 dsimp only
 refine ⟨⟨?_, ?_, ?_⟩, ?_, ?_, ?_⟩ <;> omega
theorem zzz (a b : Nat) : tE (zt1 a b) = 0 := by
 unfold tE zt1
 dsimp only
 rw [if_pos (zxd _)]
 unfold zzi zgf
 dsimp only
 by_cases h : 15 ≤ b % 75
 ·rw [if_pos h]
  split
  ·simp only [zc3, (zem _).1, (zll _).1, if_pos]
  ·simp only [zc3, (zem _).1, (zll _).1, (zl7 _).1, if_pos]
 ·rw [if_neg h, if_pos rfl]
  simp only [zc3, (zem _).1, (zll _).1, if_pos]
attribute [local irreducible] V N X VO Par StepOK Has Ret RetL Src
set_option maxHeartbeats 1000000 in
theorem znu (a b : Nat) (ha : a ≤ 255) (hb : b ≤ 255) {w : World} {B : Heap} (hB : B.Le (hp w)) : Ret Tryz.prog 98 [.agg #[.int .u8 a, .int .u8 b]] w B (fun v _ => v = uv (zt1 a b)) := by
 have e60 : Int.tmod (a : Int) 60 = ((a % 60 : Nat) : Int) := rfl
 have e75 : Int.tmod (b : Int) 75 = ((b % 75 : Nat) : Int) := rfl
 have hlt := Nat.mod_lt a (show 0 < 60 by decide)
 have hlt2 := Nat.mod_lt b (show 0 < 75 by decide)
 unfold zt1
 generalize a % 60 = m at e60 hlt
 generalize b % 75 = s at e75 hlt2
 have q1 : (m : Int).tdiv 3 = ((m / 3 : Nat) : Int) := rfl
 have q2 : (m : Int).tdiv 15 = ((m / 15 : Nat) : Int) := rfl
 have q3 : (s : Int).tdiv 3 = ((s / 3 : Nat) : Int) := rfl
 have q4 : (s : Int).tdiv 15 = ((s / 15 : Nat) : Int) := rfl
 have d1 : IntKind.i64.wrap ((m : Int).tdiv 3) = ((m / 3 : Nat) : Int) := zaa (by omega) (by omega)
 have d2 : IntKind.i64.wrap ((m : Int).tdiv 15) = ((m / 15 : Nat) : Int) := zaa (by omega) (by omega)
 have d3 : IntKind.i64.wrap ((s : Int).tdiv 3) = ((s / 3 : Nat) : Int) := zaa (by omega) (by omega)
 have d4 : IntKind.i64.wrap ((s : Int).tdiv 15) = ((s / 15 : Nat) : Int) := zaa (by omega) (by omega)
 unfold zms zzi
 refine yf Tryz.func98 rfl Tryz.ntmps98 (Nat.le_of_ble_eq_true rfl) hB ?_
 refine Z349 ?_; refine Z160 ?_; refine Z77 ?_; refine z8 (zcc L _ rfl rfl rfl rfl z2z rfl rfl (by first | omega | decide)) rfl ?_; refine Z55 ?_; refine Z135 ?_; refine z8 (zau rfl rfl rfl zxm.1 zxm.2 (zaa (by omega) (by omega))) rfl ?_; refine z8 (zcc L _ rfl rfl rfl rfl z2z rfl rfl (by first | omega | decide)) rfl ?_; refine Z55 ?_; refine Z135 ?_; refine z8 (zau rfl rfl rfl zxm.1 zxm.2 (zaa (by omega) (by omega))) rfl ?_; refine Z375 ?_; refine Z175 ?_; refine z7 (zp L rfl rfl (zk rfl) rfl rfl rfl (fun u H hH _ _ => znd _ hH)) rfl ?_; refine Z1 ?_; refine Z50 ?_; refine z7 (zp L rfl rfl (zk rfl) rfl rfl rfl (fun u H hH _ _ => zyu _ hH)) rfl ?_; refine z7 (yv (cs := [_, _]) rfl rfl zo1 rfl rfl) rfl ?_; refine Z1 ?_; refine Z50 ?_; refine z7 (zp L rfl rfl (zk rfl) rfl rfl rfl (fun u H hH _ _ => ztk _ hH)) rfl ?_; refine z7 (yv (cs := [_, _, _]) rfl rfl z1s rfl rfl) rfl ?_; refine Z1 ?_; refine z7 (zp L rfl rfl (zk rfl) rfl rfl rfl (fun u H hH _ _ => znd _ hH)) rfl ?_; refine Z1 ?_; refine Z50 ?_; refine z7 (zp L rfl rfl (zk rfl) rfl rfl rfl (fun u H hH _ _ => zyu _ hH)) rfl ?_; refine z7 (yv (cs := [_, _]) rfl rfl zo1 rfl rfl) rfl ?_; refine z7 (yv (cs := [_, _, _]) rfl rfl z1r rfl rfl) rfl ?_; refine z7 (yv (cs := [_, _, _, _, _, _]) rfl rfl zfd rfl rfl) rfl ?_; refine Z376 ?_
 by_cases h : 15 ≤ s
 ·rw [if_pos h]
  have hs1 : IntKind.i64.wrap (((s / 15 : Nat) : Int) - 1) = ((s / 15 - 1 : Nat) : Int) := (zaa (by omega) (by omega)).trans (by omega)
  refine zkw 5 rfl fun b5 hb5 => ?_
  refine Z171 ?_; refine Z255 ?_; refine Z161 ?_; refine Z50 ?_; refine Z26 ?_; refine z7 (zp L rfl rfl (zk rfl) rfl rfl rfl (fun u H hH _ _ => ztk _ hH)) rfl ?_; refine Z41 ?_; refine Z41 ?_; refine Z117 ?_; refine Z160 ?_; refine Z38 ?_; refine z7 (zz L (vs := [_, _, _, _, _, _]) (zay rfl (List.Mem.head _)) rfl rfl rfl rfl ⟨_, rfl⟩) rfl ?_; refine Z252 ?_
  refine yd L (rs := [.cell 2 114]) rfl (fun _ _ h => h) Since.refl fun u H hH hle => ?_
  refine Z115 ?_
  rfl
 ·rw [if_neg h]
  refine Z171 ?_; refine Z46 ?_; refine Z158 ?_; refine Z38 ?_; refine z7 (zz L (vs := [_, _, _, _, _, _]) (yk rfl) rfl rfl rfl rfl ⟨_, rfl⟩) rfl ?_; refine Z252 ?_
  refine yd L (rs := [.cell 2 114]) rfl (fun _ _ h => h) Since.refl fun u H hH hle => ?_
  refine Z115 ?_
  rfl
end Go.V.L2
set_option maxRecDepth 20000
namespace Go.V
open Go.Proofs Go.RowKit
section
variable {P : Program} {F : Fr} {B : Heap} {O : Boxes} {n : Nat} {ops : Array Oper} {κ : Kap} {d : Nat} {ty : TypeId} {pos : String} {aft : Array Edge} {g : Option (Nat × Bool)}
theorem zyt {t t' : TypeId} {x y : Operand} {k : IntKind} {p q r : Int} (hn : Nat.blt d n = true) (hg : gK ops κ ⟨some d, .binOp .and t x y t', ty, pos, aft, g⟩ = some true) (hx : evK κ x = some (.int k p)) (hy : evK κ y = some (.int k q)) (hb : bits .and k p q = r) :
  StepOK P F B n ops O κ ⟨some d, .binOp .and t x y t', ty, pos, aft, g⟩ d (.is (.int k r)) := zcd hn hg hx hy fun u => by subst hb; simp [eqGuard_and, binOp_and, intBits_and]
end
end Go.V
set_option maxRecDepth 20000
namespace Go.V.L3
open Go.Proofs Go.RowKit Go.V Go.V.L2
attribute [local irreducible] V N X VO Par StepOK Has Ret RetL RetO RetT Src
end Go.V.L3
set_option maxRecDepth 20000
namespace Go.V.L3
open Go.Proofs Go.RowKit Go.V Go.V.L2
attribute [local irreducible] V N X VO Par StepOK Has Ret RetL RetO RetT Src
end Go.V.L3
set_option maxRecDepth 20000
namespace Go.V.L3
open Go.Proofs Go.RowKit Go.V Go.V.L2
attribute [local irreducible] V N X VO Par StepOK Has Ret RetL RetO RetT Src
end Go.V.L3
set_option maxRecDepth 20000
namespace Go.V.L3
open Go.Proofs Go.RowKit Go.V Go.V.L2
attribute [local irreducible] V N X VO Par StepOK Has Ret RetL RetO RetT Src
end Go.V.L3
set_option maxRecDepth 20000
namespace Go.V.L6
open Go.Proofs Go.RowKit Go.V Go.V.L2 Go.V.L3
abbrev d0 : U := (((⟨#[100, 111, 99]⟩, ⟨#[97]⟩), ⟨#[118, 105, 101, 119, 101, 114]⟩), ((⟨#[117, 115, 101, 114]⟩, ⟨#[120]⟩), ⟨#[]⟩))
abbrev d1 : U := (((⟨#[100, 111, 99]⟩, ⟨#[97]⟩), ⟨#[118, 105, 101, 119, 101, 114]⟩), ((⟨#[103, 114, 111, 117, 112]⟩, ⟨#[103]⟩), ⟨#[109, 101, 109, 98, 101, 114]⟩))
abbrev d2 : U := (((⟨#[100, 111, 99]⟩, ⟨#[98]⟩), ⟨#[118, 105, 101, 119, 101, 114]⟩), ((⟨#[117, 115, 101, 114]⟩, ⟨#[120]⟩), ⟨#[]⟩))
def tzB (t : U) : Bool := decide (t.1.1.1.size ≤ 1000) && decide (t.1.1.2.size ≤ 1000) && decide (t.1.2.size ≤ 1000) && decide (t.2.1.1.size ≤ 1000) && decide (t.2.1.2.size ≤ 1000) && decide (t.2.2.size ≤ 1000)
theorem zyh {t : U} (h : tzB t = true) : TZ t := by
 unfold tzB at h
 simp only [Bool.and_eq_true, decide_eq_true_eq] at h
 unfold TZ; omega
attribute [local irreducible] V N X VO Par StepOK Has Ret RetL RetO RetT Src
end Go.V.L6
set_option maxRecDepth 20000
namespace Go.V.L6
open Go.Proofs Go.RowKit Go.V Go.V.L2 Go.V.L3
abbrev ty3 : TypeId := 148
abbrev C3 := Nat × Nat × Nat
def qcs (p : C3) : List Value := [.int .u8 p.1, .int .u8 p.2.1, .int .u8 p.2.2]
theorem zzo (p : C3) : (qcs p).length = 3 := rfl
abbrev PS3 (cs : List C3) (fu : Bool) : Value → Heap → Prop := SlV ty3 3 (cs.flatMap qcs) cs.length fu
theorem z1j {cs : List C3} {j : Nat} {a b c : Nat} (h : cs[j]? = some (a, b, c)) : ((cs.flatMap qcs).drop (j * 3)).take 3 = [.int .u8 a, .int .u8 b, .int .u8 c] := zda zzo cs j _ h
def drB (c : Nat) : Bool := decide (c % 2 = 1)
structure SOK (l : List U) : Prop where
 sst : Sst zbd l
 tz : ∀ t ∈ l, TZ t
 ok : ∀ t ∈ l, tE t = 0
theorem zv4 {l : List U} (h : SOK l) {x : U} (hz : TZ x) (hx : tE x = 0) (d : Bool) (hl : l.length < 4096) : SOK (zco l x d).1 ∧ (zco l x d).2 = 0 ∧ (zco l x d).1.length ≤ l.length + 1 := by
 refine ⟨⟨zm6 h.sst x d, fun t ht => ?_, fun t ht => ?_⟩, ?_⟩
 ·rcases zi3 ht with ht | rfl
  ·exact h.tz t ht
  ·exact hz
 ·rcases zi3 ht with ht | rfl
  ·exact h.ok t ht
  ·exact hx
 ·unfold zco
  rw [if_pos hx]
  split
  ·exact ⟨rfl, Nat.le_succ_of_le (List.length_filter_le _ _)⟩
  ·split
   ·exact ⟨rfl, Nat.le_succ _⟩
   ·rw [if_neg (by omega), zcg]; exact ⟨rfl, Nat.le_refl _⟩
attribute [local irreducible] V N X VO Par StepOK Has Ret RetL RetO RetT Src
theorem z1h (c : Nat) : Int.tmod (c : Int) 2 = ((c % 2 : Nat) : Int) := rfl
theorem zxs {a b c : Nat} {x : U} {d : Bool} (hx : zt1 a b = x) (hd : drB c = d) (ha : a ≤ 255) (hb : b ≤ 255) (hc : c ≤ 255) {w : World} {B : Heap} (hB : B.Le (hp w)) : Ret Tryz.prog 68 [.agg #[.int .u8 a, .int .u8 b, .int .u8 c]] w B (fun v _ => v = chv x d) := by
 subst hx hd
 have hr := z1h c
 refine yf Tryz.func68 rfl Tryz.ntmps68 (Nat.le_of_ble_eq_true rfl) hB ?_
 by_cases h1 : c % 2 = 1
 ·have e1 : drB c = true := decide_eq_true h1
  rw [e1]
  refine Z349 ?_; refine Z160 ?_; refine Z77 ?_; refine z8 (zcc L _ rfl rfl rfl rfl zso rfl rfl (by first | omega | decide)) rfl ?_; refine Z55 ?_; refine z8 (zcc L _ rfl rfl rfl rfl zso rfl rfl (by first | omega | decide)) rfl ?_; refine Z55 ?_; refine z8 (yv (cs := [_, _]) rfl rfl z1n rfl rfl) rfl ?_; refine z8 (zp L rfl rfl (zk rfl) rfl rfl rfl (fun u H hH _ _ => znu a b ha hb hH)) rfl ?_; refine z8 (zcc L _ rfl rfl rfl rfl zso rfl rfl (by first | omega | decide)) rfl ?_; refine Z55 ?_; refine Z135 ?_; refine Z100 ?_; refine z8 (yv (cs := [_, _, _, _, _, _, _]) rfl rfl zo0 rfl rfl) rfl ?_; refine Z111 ?_; refine Z149 ?_
  refine yd L (rs := [.cell 2 120]) rfl (fun _ _ h => h) Since.refl fun u H hH hle => ?_
  refine Z115 ?_
  rfl
 ·have e1 : drB c = false := decide_eq_false h1
  rw [e1]
  refine Z349 ?_; refine Z160 ?_; refine Z77 ?_; refine z8 (zcc L _ rfl rfl rfl rfl zso rfl rfl (by first | omega | decide)) rfl ?_; refine Z55 ?_; refine z8 (zcc L _ rfl rfl rfl rfl zso rfl rfl (by first | omega | decide)) rfl ?_; refine Z55 ?_; refine z8 (yv (cs := [_, _]) rfl rfl z1n rfl rfl) rfl ?_; refine z8 (zp L rfl rfl (zk rfl) rfl rfl rfl (fun u H hH _ _ => znu a b ha hb hH)) rfl ?_; refine z8 (zcc L _ rfl rfl rfl rfl zso rfl rfl (by first | omega | decide)) rfl ?_; refine Z55 ?_; refine Z135 ?_; refine Z87 ?_; refine z8 (yv (cs := [_, _, _, _, _, _, _]) rfl rfl zo0 rfl rfl) rfl ?_; refine Z111 ?_; refine Z149 ?_
  refine yd L (rs := [.cell 2 120]) rfl (fun _ _ h => h) Since.refl fun u H hH hle => ?_
  refine Z115 ?_
  rfl
end Go.V.L6
set_option maxRecDepth 20000
namespace Go.V.L6
open Go.Proofs Go.RowKit Go.V Go.V.L2 Go.V.L3
end Go.V.L6
set_option maxRecDepth 20000
namespace Go.V.L2
open Go.Proofs Go.RowKit Go.V
def TM (t : U) : Prop := (t.1.1.1.size ≤ 9223372036854775807 ∧ t.1.1.2.size ≤ 9223372036854775807 ∧ t.1.2.size ≤ 9223372036854775807) ∧ t.2.1.1.size ≤ 9223372036854775807 ∧ t.2.1.2.size ≤ 9223372036854775807 ∧ t.2.2.size ≤ 9223372036854775807
attribute [local irreducible] V N X VO Par StepOK Has Ret RetL Src
end Go.V.L2
set_option maxRecDepth 20000
namespace Go.V.L8
open Go.Proofs Go.RowKit Go.V Go.V.L2 Go.V.L3 Go.V.L6
abbrev tyM : TypeId := 118
abbrev tyC : TypeId := 120
abbrev z4z : TypeId := 96
abbrev z40 : TypeId := 79
def ccs (c : CH) : List Value := [.string c.1.1.1.1, .string c.1.1.1.2, .string c.1.1.2, .string c.1.2.1.1, .string c.1.2.1.2, .string c.1.2.2, .bool c.2]
theorem zvp (c : CH) : (ccs c).length = 7 := rfl
abbrev KS (ty : TypeId) (l : List CH) (fu : Bool) : Value → Heap → Prop := SlV ty 7 (l.flatMap ccs) l.length fu
theorem zii {l : List CH} {i : Nat} {c : CH} (h : l[i]? = some c) : ((l.flatMap ccs).drop (i * 7)).take 7 = [.string c.1.1.1.1, .string c.1.1.1.2, .string c.1.1.2, .string c.1.2.1.1, .string c.1.2.1.2, .string c.1.2.2, .bool c.2] := zda zvp l i c h
theorem zgr {ty : TypeId} {κ : Kap} {s : Nat} {r : List CH} {c : CH} (h : κ s = some (.own (SlR ty 7 (r.length + 1) (r.flatMap ccs ++ [.string c.1.1.1.1, .string c.1.1.1.2, .string c.1.1.2, .string c.1.2.1.1, .string c.1.2.1.2, .string c.1.2.2, .bool c.2])))) : κ s = some (.own (SlR ty 7 (r ++ [c]).length ((r ++ [c]).flatMap ccs))) := by
 rw [h, List.flatMap_append, List.length_append]; rfl
theorem z0m {n : Nat} {l : List CH} (hl : ¬ n < l.length) {i : Nat} {c : CH} (hc : l[i]? = some c) (h : ¬ tE c.1 = 0) : cE n l = 6 := by
 unfold cE
 rw [if_neg hl, if_pos]
 rw [List.any_eq_true]
 exact ⟨c, List.mem_of_getElem? hc, by simp [h]⟩
theorem zvs {n : Nat} {l : List CH} (hl : ¬ n < l.length) (h : ∀ (j : Nat) c, l[j]? = some c → tE c.1 = 0) : cE n l = 0 := by
 unfold cE
 rw [if_neg hl, if_neg]
 rw [List.any_eq_true]
 rintro ⟨c, hc, h1⟩
 obtain ⟨j, hj⟩ := List.getElem?_of_mem hc
 rw [decide_eq_true (h j c hj)] at h1
 cases h1
attribute [local irreducible] V N X VO Par StepOK Has Ret RetL RetO RetT Src
theorem zs7 {t : U} (hz : TM t) {w : World} {B : Heap} (hB : B.Le (hp w)) : Ret Tryz.prog 91 [uv t] w B (fun v _ => v = .int .i64 (tE t)) := by
 obtain ⟨⟨z1, z2, z3⟩, z4, z5, z6⟩ := hz
 unfold tE
 refine yf Tryz.func91 rfl Tryz.ntmps91 (Nat.le_of_ble_eq_true rfl) hB ?_
 by_cases h : zc3 [t.1.1.1, t.1.1.2, t.1.2] = 0
 ·rw [if_pos h]
  refine Z156 ?_; refine Z256 ?_; refine z7 (zz L (vs := [_, _, _]) (qm rfl) rfl rfl rfl rfl ⟨_, rfl⟩) rfl ?_; refine z7 (zp L rfl rfl (zk rfl) rfl rfl rfl (fun u H hH _ _ => zg6 (by first | assumption | omega | decide) (by first | assumption | omega | decide) (by first | assumption | omega | decide) hH)) rfl ?_; refine Z249 ?_; refine Z231 ?_; refine Z30 ?_; refine Z16 ?_; refine z7 (zz L (vs := [_, _, _]) (qm rfl) rfl rfl rfl rfl ⟨_, rfl⟩) rfl ?_; refine z7 (zp L rfl rfl (zk rfl) rfl rfl rfl (fun u H hH _ _ => zi9 (by first | assumption | omega | decide) (by first | assumption | omega | decide) (by first | assumption | omega | decide) hH)) rfl ?_; refine Z138 ?_
  refine yd L (rs := [.tmp 2]) rfl (fun _ _ h => h) Since.refl fun u H hH hle => ?_
  rfl
 ·rw [if_neg h]
  refine Z156 ?_; refine Z256 ?_; refine z7 (zz L (vs := [_, _, _]) (qm rfl) rfl rfl rfl rfl ⟨_, rfl⟩) rfl ?_; refine z7 (zp L rfl rfl (zk rfl) rfl rfl rfl (fun u H hH _ _ => zg6 (by first | assumption | omega | decide) (by first | assumption | omega | decide) (by first | assumption | omega | decide) hH)) rfl ?_; refine Z249 ?_; refine Z214 ?_; refine Z171 ?_; refine Z138 ?_
  refine yd L (rs := [.tmp 2]) rfl (fun _ _ h => h) Since.refl fun u H hH hle => ?_
  rfl
theorem zir {t : U} (hz : TM t) {w : World} {B : Heap} (hB : B.Le (hp w)) : Ret Tryz.prog 157 [uv t] w B (fun v _ => v = .int .i64 (tE t)) := by
 obtain ⟨⟨z1, z2, z3⟩, z4, z5, z6⟩ := hz
 have hm := zyk t
 refine yf Tryz.func157 rfl Tryz.ntmps157 (Nat.le_of_ble_eq_true rfl) hB ?_
 refine Z156 ?_; refine Z367 ?_; refine Z47 ?_; refine z8 (zz L (vs := [_, _, _]) (qm rfl) rfl rfl rfl rfl ⟨_, rfl⟩) rfl ?_; refine z8 (zp L rfl rfl (zk rfl) rfl rfl rfl (fun u H hH _ _ => znp (by first | assumption | omega | decide) (by first | assumption | omega | decide) (by first | assumption | omega | decide) hH)) rfl ?_; refine Z47 ?_; refine z8 (zz L (vs := [_, _, _]) (qm rfl) rfl rfl rfl rfl ⟨_, rfl⟩) rfl ?_; refine z8 (zp L rfl rfl (zk rfl) rfl rfl rfl (fun u H hH _ _ => zh9 (by first | assumption | omega | decide) (by first | assumption | omega | decide) (by first | assumption | omega | decide) hH)) rfl ?_; refine z8 (zgb rfl rfl rfl rfl (by assumption)) rfl ?_; refine Z177 ?_
 refine yd L (rs := [.tmp 2]) rfl (fun _ _ h => h) Since.refl fun u H hH hle => ?_
 rfl
theorem zz4 {l : List CH} {fu : Bool} {b i : Nat} {c : CH} (hc0 : l[i]? = some c) {v : Value} {w : World} {B : Heap} (hB : B.Le (hp w)) (hb : B b = some (.cells #[v] z4z)) (hv : KS tyM l fu v B) :
  Ret Tryz.prog 120 ([.int .i64 i] ++ [.pointer (some ⟨b, 0, none⟩)]) w B (fun r _ => r = uv c.1) := by
 have hc := zii hc0
 have hil := get_lt hc0
 refine yf Tryz.func120 rfl Tryz.ntmps120 (Nat.le_of_ble_eq_true rfl) hB ?_
 refine Z322 ?_; refine Z160 ?_; refine Z20 ?_; refine Z63 ?_; refine zfg 4 (KS tyM l fu) rfl SlV.mono hv ?_; refine Z1 ?_; refine z7 (qu L _ rfl rfl rfl rfl rfl rfl rfl (by first | omega | decide) (by assumption)) rfl ?_; refine Z78 ?_; refine z7 (yg L (vs := [_, _, _, _, _, _]) rfl rfl rfl rfl rfl ⟨_, rfl⟩) rfl ?_; refine Z252 ?_
 refine yd L (rs := [.cell 3 114]) rfl (fun _ _ h => h) Since.refl fun u H hH hle => ?_
 refine Z115 ?_
 rfl
theorem z0l {l : List CH} {fu : Bool} {b i : Nat} {c : CH} (hc0 : l[i]? = some c) {v : Value} {w : World} {B : Heap} (hB : B.Le (hp w)) (hb : B b = some (.cells #[v] z40)) (hv : KS tyC l fu v B) :
  Ret Tryz.prog 121 ([.int .i64 i] ++ [.pointer (some ⟨b, 0, none⟩)]) w B (fun r _ => r = uv c.1) := by
 have hc := zii hc0
 have hil := get_lt hc0
 refine yf Tryz.func121 rfl Tryz.ntmps121 (Nat.le_of_ble_eq_true rfl) hB ?_
 refine Z322 ?_; refine Z160 ?_; refine Z20 ?_; refine Z63 ?_; refine zfg 4 (KS tyC l fu) rfl SlV.mono hv ?_; refine Z1 ?_; refine z7 (qu L _ rfl rfl rfl rfl rfl rfl rfl (by first | omega | decide) (by assumption)) rfl ?_; refine Z78 ?_; refine z7 (yg L (vs := [_, _, _, _, _, _]) rfl rfl rfl rfl rfl ⟨_, rfl⟩) rfl ?_; refine Z252 ?_
 refine yd L (rs := [.cell 3 114]) rfl (fun _ _ h => h) Since.refl fun u H hH hle => ?_
 refine Z115 ?_
 rfl
theorem zlf {l : List CH} {cf : Nat} {caps : List Value} (hz : ∀ c ∈ l, TM c.1) (hl : l.length ≤ 9223372036854775807) (hfn : L.fn cf = some ()) {e : Int} (he : cE 32 l = e) {w : World} {B : Heap} (hB : B.Le (hp w))
  (hcl : ∀ (i : Nat) (c : CH), l[i]? = some c → ∀ (u : World) (H : Heap), H.Le (hp u) → B.Le H → Ret Tryz.prog cf ([.int .i64 i] ++ caps) u H (fun r _ => r = uv c.1)) :
  Ret Tryz.prog 119 [.int .i64 l.length, .func (.func cf) #[] caps.toArray] w B (fun v _ => v = .int .i64 e) := by
 subst he
 refine yf Tryz.func119 rfl Tryz.ntmps119 (Nat.le_of_ble_eq_true rfl) hB ?_
 by_cases h32 : 32 < l.length
 ·have : cE 32 l = 3 := if_pos h32
  rw [this]
  refine Z276 ?_; refine Z39 ?_; refine Z337 ?_
  refine yd L (rs := [.tmp 4]) rfl (fun _ _ h => h) Since.refl fun u H hH hle => ?_
  rfl
 ·refine Z276 ?_; refine Z31 ?_; refine Z168 ?_; refine Z202 ?_; refine Z268 ?_
  refine zaj (fun i : Nat => [(1, .is (.func (.func cf) #[] caps.toArray)), (9, .is (.int .i64 l.length)), (10, .is (.int .i64 i))]) (fun i => i ≤ l.length ∧ ∀ (j : Nat) c, j < i → l[j]? = some c → tE c.1 = 0) (fun i => l.length - i) 0 ⟨Nat.zero_le _, fun j c h => absurd h (Nat.not_lt_zero _)⟩ ⟨rfl, rfl, rfl, trivial⟩ ?_
  rintro i ⟨hi, hok⟩
  by_cases hlt : i < l.length
  ·obtain ⟨c, hc⟩ := zae hlt
   have hzc := hz c (List.mem_of_getElem? hc)
   by_cases h0 : tE c.1 = 0
   ·refine Z313 ?_; refine Z224 ?_; refine Z180 ?_; refine Z144 ?_; refine Z277 ?_; refine z7 (zp L rfl rfl (zk rfl) rfl rfl hfn (fun u H hH hle _ => hcl i c hc u H hH hle)) rfl ?_; refine z7 (zp L rfl rfl (zk rfl) rfl rfl rfl (fun u H hH _ _ => h0 ▸ zs7 hzc hH)) rfl ?_; refine Z144 ?_; refine Z193 ?_; refine Z388 ?_; refine Z59 ?_; refine Z316 ?_
    exact yh (x := i) (i + 1) ⟨hlt, fun j c' hj hc' => by
     rcases Nat.lt_or_ge j i with h | h
     ·exact hok j c' h hc'
     ·have : j = i := by omega
      subst this; rw [hc] at hc'; cases hc'; exact h0⟩ (by omega) ⟨rfl, rfl, rfl, trivial⟩
   ·have h6 := (zpy c.1).resolve_left h0
    rw [z0m h32 hc h0]
    refine Z313 ?_; refine Z224 ?_; refine Z180 ?_; refine Z144 ?_; refine Z277 ?_; refine z7 (zp L rfl rfl (zk rfl) rfl rfl hfn (fun u H hH hle _ => hcl i c hc u H hH hle)) rfl ?_; refine z7 (zp L rfl rfl (zk rfl) rfl rfl rfl (fun u H hH _ _ => h6 ▸ zs7 hzc hH)) rfl ?_; refine Z144 ?_; refine Z193 ?_; refine Z214 ?_; refine Z226 ?_; refine Z138 ?_
    refine yd L (rs := [.tmp 4]) rfl (fun _ _ h => h) Since.refl fun u H hH hle => ?_
    rfl
  ·rw [zvs h32 (fun j c hj => hok j c (by have := get_lt hj; omega) hj)]
   refine Z313 ?_; refine Z314 ?_; refine Z68 ?_; refine Z138 ?_
   refine yd L (rs := [.tmp 4]) rfl (fun _ _ h => h) Since.refl fun u H hH hle => ?_
   rfl
theorem zne {e : TypeId} {s n : Nat} {xs : List Value} {fu : Bool} {v : Value} {H : Heap} (h : SlV e s xs n fu v H) : ∃ p m c, v = .slice p m c := by
 rcases h.2 with ⟨_, _, h⟩ | ⟨b, off, cap, cs, ty0, fr, h, _⟩
 ·exact ⟨_, _, _, h⟩
 ·exact ⟨_, _, _, h⟩
theorem zf4 {l : List CH} {fu : Bool} (hz : ∀ c ∈ l, TM c.1) (hl : l.length ≤ 9223372036854775807) {e : Int} (he : cE 32 l = e) {v : Value} {w : World} {B : Heap} (hB : B.Le (hp w)) (hv : KS tyM l fu v B) :
  Ret Tryz.prog 78 [v] w B (fun r _ => r = .int .i64 e) := by
 obtain ⟨p, m, c, rfl⟩ := zne hv
 refine yf Tryz.func78 rfl Tryz.ntmps78 (Nat.le_of_ble_eq_true rfl) hB ?_
 refine Z156 ?_; refine Z144 ?_
 refine zm0 1 rfl fun q H1 hs1 ⟨b, hpb, hb1⟩ => ?_
 subst hpb
 refine Z20 ?_; refine Z63 ?_; refine zfg 3 (KS tyM l fu) rfl SlV.mono (hv.le hs1.le) ?_; refine Z11 ?_; refine z7 (zgk rfl rfl rfl rfl) rfl ?_; refine z7 (zp L rfl rfl (zk rfl) rfl rfl rfl (fun u H hH hle _ => zlf (caps := [.pointer (some ⟨b, 0, none⟩)]) hz hl rfl he hH (fun i c hc u' H' hH' hle' => zz4 hc hH' (hle' _ _ (hle _ _ hb1)) ((hv.le hs1.le).le (Heap.Le.trans hle hle'))))) rfl ?_; refine Z138 ?_
 refine yd L (rs := [.tmp 2]) rfl (fun _ _ h => h) hs1 fun u H hH hle => ?_
 rfl
end Go.V.L8
set_option maxRecDepth 20000
namespace Go.V.L8
open Go.Proofs Go.RowKit Go.V Go.V.L2 Go.V.L3 Go.V.L6
theorem zob {s : List U} {l : List CH} (h0 : cE 32 l = 0) {i : Nat} {c : CH} (h : ∀ (j : Nat) x, j < i → l[j]? = some x → ze7 s x = true) (hc : l[i]? = some c) (hh : ze7 s c = false) : zev s l = (i, 13) := by
 unfold zev; rw [if_pos h0]; exact zsf h hc hh
theorem zlm {s : List U} {l : List CH} (h0 : cE 32 l = 0) (h : ∀ (j : Nat) x, l[j]? = some x → ze7 s x = true) : zev s l = (l.length, 0) := by
 unfold zev; rw [if_pos h0]; exact zsg fun x hx => let ⟨j, hj⟩ := List.getElem?_of_mem hx; h j x hj
attribute [local irreducible] V N X VO Par StepOK Has Ret RetL RetO RetT Src
theorem zmx {l : List CH} {fu : Bool} (hz : ∀ c ∈ l, TM c.1) (hl : l.length ≤ 9223372036854775807) {e : Int} (he : cE 32 l = e) {v : Value} {w : World} {B : Heap} (hB : B.Le (hp w)) (hv : KS tyC l fu v B) :
  Ret Tryz.prog 79 [v] w B (fun r _ => r = .int .i64 e) := by
 obtain ⟨p, m, c, rfl⟩ := zne hv
 refine yf Tryz.func79 rfl Tryz.ntmps79 (Nat.le_of_ble_eq_true rfl) hB ?_
 refine Z156 ?_; refine Z144 ?_
 refine zm0 1 rfl fun q H1 hs1 ⟨b, hpb, hb1⟩ => ?_
 subst hpb
 refine Z20 ?_; refine Z63 ?_; refine zfg 3 (KS tyC l fu) rfl SlV.mono (hv.le hs1.le) ?_; refine Z11 ?_; refine z7 (zgk rfl rfl rfl rfl) rfl ?_; refine z7 (zp L rfl rfl (zk rfl) rfl rfl rfl (fun u H hH hle _ => zlf (caps := [.pointer (some ⟨b, 0, none⟩)]) hz hl rfl he hH (fun i c hc u' H' hH' hle' => z0l hc hH' (hle' _ _ (hle _ _ hb1)) ((hv.le hs1.le).le (Heap.Le.trans hle hle'))))) rfl ?_; refine Z138 ?_
 refine yd L (rs := [.tmp 2]) rfl (fun _ _ h => h) hs1 fun u H hH hle => ?_
 rfl
theorem zn8 {s : List U} {c : CH} {b : Bool} (hb : ze7 s c = b) {v : Value} {w : World} {B : Heap} (hB : B.Le (hp w)) (hv : SetV s v B) : Ret Tryz.prog 122 [v, chv c.1 c.2] w B (fun r _ => r = .bool b) := by
 subst hb
 obtain ⟨x, d⟩ := c
 obtain ⟨f1, p1, f2, q1, rfl, hpl⟩ := hv.shape
 obtain ⟨h, hh⟩ : ∃ h, decide (x ∈ s) = h := ⟨_, rfl⟩
 unfold ze7
 dsimp only
 rw [hh]
 refine yf Tryz.func122 rfl Tryz.ntmps122 (Nat.le_of_ble_eq_true rfl) hB ?_
 refine Z211 ?_; refine Z367 ?_; refine z8 (zz L (vs := [_, _, _, _]) (qm rfl) rfl rfl rfl rfl ⟨_, rfl⟩) rfl ?_; refine Z47 ?_; refine z8 (zz L (vs := [_, _, _, _, _, _]) (qm rfl) rfl rfl rfl rfl ⟨_, rfl⟩) rfl ?_; refine z8 (zp L rfl rfl (zk rfl) rfl rfl rfl (fun u H hH hle _ => zct hh hH (hv.le hle))) rfl ?_; refine Z364 ?_; refine Z177 ?_
 refine yd L (rs := [.tmp 4]) rfl (fun _ _ h => h) Since.refl fun u H hH hle => ?_
 cases h <;> cases d <;> rfl
set_option maxHeartbeats 1000000 in
theorem first_ret {s : List U} {l : List CH} {fu : Bool} (hz : ∀ c ∈ l, TM c.1) (hl : l.length ≤ 9223372036854775807) {r : Nat} {e : Int} (hr : zev s l = (r, e)) {sv v : Value} {w : World} {B : Heap} (hB : B.Le (hp w)) (hs : SetV s sv B) (hv : KS tyM l fu v B) :
  Ret Tryz.prog 80 [sv, v] w B (fun x _ => x = .tuple #[.int .i64 r, .int .i64 e]) := by
 obtain ⟨f1, p1, f2, q1, rfl, hpl⟩ := hs.shape
 refine yf Tryz.func80 rfl Tryz.ntmps80 (Nat.le_of_ble_eq_true rfl) hB ?_
 refine zaz 1 (KS tyM l fu) rfl SlV.mono hv ?_
 by_cases h0 : cE 32 l = 0
 ·refine Z326 ?_; refine Z157 ?_; refine Z4 ?_; refine z7 (zp L rfl rfl (zk rfl) rfl rfl rfl (fun u H hH _ _ v1 h1 => zf4 hz hl h0 hH h1)) rfl ?_; refine Z249 ?_; refine Z250 ?_; refine Z30 ?_; refine Z150 ?_; refine Z305 ?_
  refine zaj (fun i : Nat => [(1, .sat (KS tyM l fu)), (2, .sat (At [f1, .pointer p1, f2, .pointer q1] zm9 0)), (14, .sat (KS tyM l fu)), (15, .is (.int .i64 l.length)), (16, .is (.int .i64 i))]) (fun i => i ≤ l.length ∧ ∀ (j : Nat) x, j < i → l[j]? = some x → ze7 s x = true) (fun i => l.length - i) 0 ⟨Nat.zero_le _, fun j c h => absurd h (Nat.not_lt_zero _)⟩ ⟨rfl, rfl, rfl, rfl, rfl, trivial⟩ ?_
  rintro i ⟨hi, hok⟩
  by_cases hlt : i < l.length
  ·obtain ⟨c, hc0⟩ := zae hlt
   have hc := zii hc0
   cases hh : ze7 s c
   ·rw [zob h0 hok hc0 hh] at hr
    cases hr
    refine zh ?_; refine Z38 ?_; refine Z224 ?_; refine Z190 ?_; refine z7 (qu L _ rfl rfl rfl rfl rfl rfl rfl (by first | omega | decide) (by assumption)) rfl ?_; refine z7 (yg L (vs := [_, _, _, _, _, _, _]) rfl rfl rfl rfl rfl ⟨_, rfl⟩) rfl ?_; refine Z263 ?_; refine Z19 ?_; refine Z160 ?_; refine Z43 ?_; refine z7 (zz L (vs := [_, _, _, _]) (qm rfl) rfl rfl rfl rfl ⟨_, rfl⟩) rfl ?_; refine z7 (zz L (vs := [_, _, _, _, _, _, _]) (yk rfl) rfl rfl rfl rfl ⟨_, rfl⟩) rfl ?_; refine z7 (zp L rfl rfl (zk rfl) rfl rfl rfl (fun u H hH hle _ => zn8 hh hH (hs.le hle))) rfl ?_; refine Z53 ?_; refine Z155 ?_; refine Z226 ?_; refine Z185 ?_
    refine yd L (rs := [.tmp 4, .tmp 5]) rfl (fun _ _ h => h) Since.refl fun u H hH hle => ?_
    rfl
   ·refine zh ?_; refine Z38 ?_; refine Z224 ?_; refine Z190 ?_; refine z7 (qu L _ rfl rfl rfl rfl rfl rfl rfl (by first | omega | decide) (by assumption)) rfl ?_; refine z7 (yg L (vs := [_, _, _, _, _, _, _]) rfl rfl rfl rfl rfl ⟨_, rfl⟩) rfl ?_; refine Z263 ?_; refine Z19 ?_; refine Z160 ?_; refine Z43 ?_; refine z7 (zz L (vs := [_, _, _, _]) (qm rfl) rfl rfl rfl rfl ⟨_, rfl⟩) rfl ?_; refine z7 (zz L (vs := [_, _, _, _, _, _, _]) (yk rfl) rfl rfl rfl rfl ⟨_, rfl⟩) rfl ?_; refine z7 (zp L rfl rfl (zk rfl) rfl rfl rfl (fun u H hH hle _ => zn8 hh hH (hs.le hle))) rfl ?_; refine Z53 ?_; refine Z215 ?_; refine Z59 ?_; refine Z316 ?_
    exact yh (x := i) (i + 1) ⟨hlt, fun j c' hj hc' => by
     rcases Nat.lt_or_ge j i with h | h
     ·exact hok j c' h hc'
     ·have : j = i := by omega
      subst this; rw [hc0] at hc'; cases hc'; exact hh⟩ (by omega) ⟨rfl, rfl, rfl, rfl, rfl, trivial⟩
  ·rw [zlm h0 (fun j x hj => hok j x (by have := get_lt hj; omega) hj)] at hr
   cases hr
   refine zh ?_; refine Z38 ?_; refine Z314 ?_; refine Z68 ?_; refine Z150 ?_; refine Z185 ?_
   refine yd L (rs := [.tmp 4, .tmp 5]) rfl (fun _ _ h => h) Since.refl fun u H hH hle => ?_
   rfl
 ·have : zev s l = (0, cE 32 l) := if_neg h0
  rw [this] at hr
  cases hr
  refine Z326 ?_; refine Z157 ?_; refine Z4 ?_; refine z7 (zp L rfl rfl (zk rfl) rfl rfl rfl (fun u H hH _ _ v1 h1 => zf4 hz hl rfl hH h1)) rfl ?_; refine Z249 ?_; refine Z214 ?_; refine Z171 ?_; refine Z185 ?_
  refine yd L (rs := [.tmp 4, .tmp 5]) rfl (fun _ _ h => h) Since.refl fun u H hH hle => ?_
  rfl
end Go.V.L8
set_option maxRecDepth 20000
namespace Go.V.L8
open Go.Proofs Go.RowKit Go.V Go.V.L2 Go.V.L3 Go.V.L6
attribute [local irreducible] V N X VO Par StepOK Has Ret RetL RetO RetT Src
end Go.V.L8
set_option maxRecDepth 20000
namespace Go.V.L8
open Go.Proofs Go.RowKit Go.V Go.V.L2 Go.V.L3 Go.V.L6
theorem _root_.Go.V.Z97 {A B : Prop} (h : B) (t : Wr B → A := by intro h; refine zf (id := 20) ?_; exact h.h) : A := t ⟨h⟩
theorem _root_.Go.V.Z109 {A B : Prop} (h : B) (t : Wr B → A := by intro h; refine qo (zce L rfl rfl rfl (zh2 rfl) rfl zxk rfl rfl (by omega) (by omega)) ?_; exact h.h) : A := t ⟨h⟩
theorem _root_.Go.V.Z119 {A B : Prop} (h : B) (t : Wr B → A := by intro h; refine zf (id := 19) ?_; exact h.h) : A := t ⟨h⟩
theorem _root_.Go.V.Z136 {A B : Prop} (h : B) (t : Wr B → A := by intro h; refine z8 (zz2 rfl rfl rfl rfl bt4 rfl) rfl ?_; exact h.h) : A := t ⟨h⟩
theorem _root_.Go.V.Z288 {A B : Prop} (h : B) (t : Wr B → A := by intro h; refine Z27 ?_; refine Z62 ?_; exact h.h) : A := t ⟨h⟩
theorem _root_.Go.V.Z289 {A B : Prop} (h : B) (t : Wr B → A := by intro h; refine Z103 ?_; refine Z1 ?_; exact h.h) : A := t ⟨h⟩
theorem _root_.Go.V.Z299 {A B : Prop} (h : B) (t : Wr B → A := by intro h; refine Z173 ?_; refine Z288 ?_; exact h.h) : A := t ⟨h⟩
theorem zy3 {n : Nat} {l : List CH} (h : cE n l = 0) : l.length ≤ n ∧ ∀ c ∈ l, tE c.1 = 0 := by
 unfold cE at h
 split at h
 ·exact absurd h (by decide)
 ·split at h
  ·exact absurd h (by decide)
  ·rename_i h1 h2
   refine ⟨by omega, fun c hc => ?_⟩
   by_cases h0 : tE c.1 = 0
   ·exact h0
   ·exact absurd (List.any_eq_true.2 ⟨c, hc, by simp [h0]⟩) h2
theorem zkz {s : ByteArray} (h : chk s = 0) : s.size ≤ 1099511627776 := by
 unfold chk at h
 split at h
 ·rename_i h1; omega
 ·exact absurd h (by decide)
theorem zpw {t : U} (h : tE t = 0) : TZ t := by
 unfold tE at h
 split at h
 ·rename_i h1
  obtain ⟨c1, c2, c3⟩ := zx0 h1
  obtain ⟨d1, d2, d3⟩ := zri h
  refine ⟨⟨zkz c1, zkz c2, zkz c3⟩, zkz d1, zkz d2, ?_⟩
  rcases d3 with d3 | d3
  ·rw [d3]; exact Nat.zero_le _
  ·exact zkz d3
 ·rename_i h1; exact absurd h h1
def WriteP (t : List U) (made : List CH) (e : Int) (r : Value) (H : Heap) : Prop := ∃ tv mv, r = .tuple #[tv, mv, .int .i64 e] ∧ SetV t tv H ∧ KS tyC made true mv H
theorem WriteP.mono {t : List U} {made : List CH} {e : Int} : Kn.mono (.sat (WriteP t made e)) := fun _ _ _ ⟨tv, mv, h1, h2, h3⟩ hle => ⟨tv, mv, h1, h2.le hle, h3.le hle⟩
attribute [local irreducible] V N X VO Par StepOK Has Ret RetL RetO RetT Src
theorem zvm {l : List CH} {fu : Bool} {v : Value} {w : World} {B : Heap} (hB : B.Le (hp w)) (hv : KS tyC l fu v B) : Ret Tryz.prog 81 [v] w B (KS tyC l true) := by
 refine yf Tryz.func81 rfl Tryz.ntmps81 (Nat.le_of_ble_eq_true rfl) hB ?_
 refine zaz 0 (KS tyC l fu) rfl SlV.mono hv ?_
 refine Z186 ?_; refine Z4 ?_; refine Z150 ?_; refine Z150 ?_; refine Z121 ?_; refine Z259 ?_
 refine yd L (rs := [.tmp 2]) rfl (fun _ _ h => h) Since.refl fun u H hH hle => ?_
 exact fun v hv => hv
set_option maxHeartbeats 4000000 in
set_option maxRecDepth 10000 in
theorem zss {s t : List U} {l cs made : List CH} {fl fc : Bool} {e : Int} (zl : ∀ c ∈ l, TM c.1) (zc : ∀ c ∈ cs, TM c.1) (ll : l.length ≤ 9223372036854775807) (lc : cs.length ≤ 9223372036854775807) (hsl : s.length ≤ 4096) (hr : zd5 s l cs = (t, made, e)) {sv lv cv : Value} {w : World} {B : Heap} (hB : B.Le (hp w))
  (hs : SetV s sv B) (hl : KS tyM l fl lv B) (hc : KS tyC cs fc cv B) : Ret Tryz.prog 49 [sv, lv, cv] w B (WriteP t made e) := by
 obtain ⟨f1, p1, f2, q1, rfl, hpl⟩ := hs.shape
 refine yf Tryz.func49 rfl Tryz.ntmps49 (Nat.le_of_ble_eq_true rfl) hB ?_
 refine zaz 1 (KS tyM l fl) rfl SlV.mono hl ?_
 refine zaz 2 (KS tyC cs fc) rfl SlV.mono hc ?_
 unfold zd5 at hr
 by_cases h1 : cE 32 l = 0
 ·rw [if_pos h1] at hr
  by_cases h2 : cE 32 cs = 0
  ·rw [if_pos h2] at hr
   obtain ⟨r, e1, hf⟩ : ∃ r e1, zev s l = (r, e1) := ⟨_, _, rfl⟩
   rw [hf] at hr
   dsimp only at hr
   by_cases h3 : e1 = 0
   ·subst h3
    rw [if_pos rfl] at hr
    obtain ⟨l32, hval⟩ := zy3 h2
    refine Z341 ?_; refine Z263 ?_; refine Z157 ?_; refine Z4 ?_; refine z7 (zp L rfl rfl (zk rfl) rfl rfl rfl (fun u H hH _ _ v1 g1 => zf4 zl ll h1 hH g1)) rfl ?_; refine Z249 ?_; refine Z250 ?_; refine Z30 ?_; refine Z4 ?_; refine z7 (zp L rfl rfl (zk rfl) rfl rfl rfl (fun u H hH _ _ v1 g1 => zmx zc lc h2 hH g1)) rfl ?_; refine Z144 ?_; refine Z180 ?_; refine Z250 ?_; refine Z43 ?_; refine z7 (zz L (vs := [_, _, _, _]) (yk rfl) rfl rfl rfl rfl ⟨_, rfl⟩) rfl ?_; refine Z4 ?_; refine z7 (zp L rfl rfl (zk rfl) rfl rfl rfl (fun u H hH hle _ v1 g1 => first_ret zl ll hf hH (hs.le hle) g1)) rfl ?_; refine Z240 ?_; refine Z226 ?_; refine Z250 ?_; refine Z68 ?_; refine Z150 ?_; refine Z305 ?_
    refine z24 (X := SXp) 3 (r := fun x => zfa (scs x.1) zm9) (φ := zp2 s) (zb5 s) ⟨(f1, p1, f2, q1), hpl⟩ hs rfl ?_
    refine zd2 7 tyC 7 rfl ?_
    refine zaj (fun y : Nat × List U × List CH => [(3, .own (ExR (fun x : SXp => zfa (scs x.1) zm9) (zp2 y.2.1) (zb5 y.2.1))), (6, .own (zfa [.nilFunc, .pointer none, .nilFunc, .pointer none] zm9)), (7, .own (SlR tyC 7 y.2.2.length (y.2.2.flatMap ccs))), (40, .sat (KS tyC cs fc)), (41, .is (.int .i64 cs.length)), (42, .is (.int .i64 y.1))])
     (fun y => y.1 ≤ cs.length ∧ zfe y.2.1 y.2.2 (cs.drop y.1) = (t, made, e) ∧ y.2.1.length ≤ 4096 ∧ y.2.2.length ≤ y.1) (fun y => cs.length - y.1) (0, s, []) ⟨Nat.zero_le _, hr, hsl, Nat.le_refl _⟩ ⟨rfl, rfl, rfl, rfl, rfl, rfl, trivial⟩ ?_
    clear hr hs hsl
    rintro ⟨k, s, md⟩ ⟨hk, he, hsl, hmd⟩
    dsimp only at hk he hsl hmd ⊢
    refine zd1 3 rfl fun ⟨⟨f1, p1, f2, q1⟩, hpl⟩ H3 hs3 hT => ?_
    have hT : SetV s (.agg #[f1, .pointer p1, f2, .pointer q1]) H3 := hT
    by_cases hlt : k < cs.length
    ·obtain ⟨c, hc0⟩ := zae hlt
     have hc := zii hc0
     have hv := hval c (List.mem_of_getElem? hc0)
     have hzt := zpw hv
     rw [zfc hc0, zfe] at he
     obtain ⟨x, d⟩ := c
     dsimp only at hc hv hzt he
     rcases hw : zco s x d with ⟨s', e'⟩
     rw [hw] at he
     dsimp only at he
     have hsl' := zm7 hsl x d
     rw [hw] at hsl'
     obtain ⟨i, hin⟩ : ∃ i, decide (x ∈ s) = i := ⟨_, rfl⟩
     rw [hin] at he
     by_cases h0 : e' = 0
     ·rw [if_pos h0] at he
      subst h0
      cases i <;> cases d
      ·rw [if_pos rfl] at he
       refine zh ?_; refine Z66 ?_; refine Z224 ?_; refine Z79 ?_; refine z7 (qu L _ rfl rfl rfl rfl rfl rfl rfl (by first | omega | decide) (by assumption)) rfl ?_; refine z7 (yg L (vs := [_, _, _, _, _, _, _]) rfl rfl rfl rfl rfl ⟨_, rfl⟩) rfl ?_; refine Z203 ?_; refine Z160 ?_
       refine zkw 14 rfl fun b14 hb14 => ?_
       refine Z122 ?_; refine z8 (zz L (vs := [_, _, _, _]) (yk rfl) rfl rfl rfl rfl ⟨_, rfl⟩) rfl ?_; refine Z25 ?_; refine z8 (zz L (vs := [_, _, _, _, _, _]) (zay rfl (List.Mem.head _)) rfl rfl rfl rfl ⟨_, rfl⟩) rfl ?_; refine z8 (zp L rfl rfl (zk rfl) rfl rfl rfl (fun u H hH hle _ => zct hin hH (hT.le hle))) rfl ?_; refine Z25 ?_; refine z8 (qf L (zay rfl (List.Mem.head _)) rfl rfl rfl rfl) rfl ?_; refine Z136 ?_; refine Z239 ?_; refine Z74 ?_; refine z7 (zz L (vs := [_, _, _, _]) (yk rfl) rfl rfl rfl rfl ⟨_, rfl⟩) rfl ?_; refine z7 (zz L (vs := [_, _, _, _, _, _, _]) (zay rfl (List.Mem.head _)) rfl rfl rfl rfl ⟨_, rfl⟩) rfl ?_; refine z7 (yr (φ := WithP s' 0) L rfl rfl (zk rfl) rfl rfl rfl WithP.mono (fun u H hH hle _ => zm5 hw hsl hzt hH (hT.le hle))) rfl ?_; refine zbq 56 rfl ?_; rintro _ H19 hs19 ⟨tv, rfl, hT19⟩; obtain ⟨g1, r1, g2, r2, rfl, hpl2⟩ := hT19.shape; refine Z299 ?_; refine Z147 ?_; refine Z371 ?_; refine Z231 ?_; refine Z108 ?_; refine z7 (zz L (vs := [_, _, _, _]) (yk rfl) rfl rfl rfl rfl ⟨_, rfl⟩) rfl ?_; refine Z62 ?_; refine Z160 ?_; refine Z289 ?_; refine Z143 ?_; refine Z119 ?_; refine qo (yn (.inl rfl) rfl rfl rfl rfl) ?_; refine z7 (zz L (vs := [_, _, _, _, _, _, _]) (zay rfl (List.Mem.head _)) rfl rfl rfl rfl ⟨_, rfl⟩) rfl ?_; refine Z36 ?_; refine Z109 ?_; refine qo (yn (.inr rfl) rfl rfl rfl rfl) ?_; refine Z238 ?_
       refine zrc (O' := []) (List.nil_sublist _) ?_
       refine Z97 ?_; refine Z316 ?_
       refine zrd (X := SXp) 3 (r := fun x => zfa (scs x.1) zm9) (φ := zp2 s') (zb5 _) ⟨(g1, r1, g2, r2), hpl2⟩ hT19 rfl ?_
       exact ze9 (x := (k, s, md)) (k + 1, s', md ++ [(x, false)]) (hs3.trans hs19) ⟨hlt, he, hsl', by dsimp only; rw [List.length_append]; show md.length + 1 ≤ k + 1; omega⟩ (by dsimp only; omega) ⟨rfl, rfl, zgr rfl, rfl, rfl, rfl, trivial⟩
      ·rw [if_neg (by decide)] at he
       refine zh ?_; refine Z66 ?_; refine Z224 ?_; refine Z79 ?_; refine z7 (qu L _ rfl rfl rfl rfl rfl rfl rfl (by first | omega | decide) (by assumption)) rfl ?_; refine z7 (yg L (vs := [_, _, _, _, _, _, _]) rfl rfl rfl rfl rfl ⟨_, rfl⟩) rfl ?_; refine Z203 ?_; refine Z160 ?_
       refine zkw 14 rfl fun b14 hb14 => ?_
       refine Z122 ?_; refine z8 (zz L (vs := [_, _, _, _]) (yk rfl) rfl rfl rfl rfl ⟨_, rfl⟩) rfl ?_; refine Z25 ?_; refine z8 (zz L (vs := [_, _, _, _, _, _]) (zay rfl (List.Mem.head _)) rfl rfl rfl rfl ⟨_, rfl⟩) rfl ?_; refine z8 (zp L rfl rfl (zk rfl) rfl rfl rfl (fun u H hH hle _ => zct hin hH (hT.le hle))) rfl ?_; refine Z25 ?_; refine z8 (qf L (zay rfl (List.Mem.head _)) rfl rfl rfl rfl) rfl ?_; refine Z136 ?_; refine Z239 ?_; refine Z74 ?_; refine z7 (zz L (vs := [_, _, _, _]) (yk rfl) rfl rfl rfl rfl ⟨_, rfl⟩) rfl ?_; refine z7 (zz L (vs := [_, _, _, _, _, _, _]) (zay rfl (List.Mem.head _)) rfl rfl rfl rfl ⟨_, rfl⟩) rfl ?_; refine z7 (yr (φ := WithP s' 0) L rfl rfl (zk rfl) rfl rfl rfl WithP.mono (fun u H hH hle _ => zm5 hw hsl hzt hH (hT.le hle))) rfl ?_; refine zbq 56 rfl ?_; rintro _ H19 hs19 ⟨tv, rfl, hT19⟩; obtain ⟨g1, r1, g2, r2, rfl, hpl2⟩ := hT19.shape; refine Z299 ?_; refine Z147 ?_; refine Z371 ?_; refine Z231 ?_; refine Z108 ?_; refine z7 (zz L (vs := [_, _, _, _]) (yk rfl) rfl rfl rfl rfl ⟨_, rfl⟩) rfl ?_; refine Z62 ?_; refine Z160 ?_; refine Z289 ?_; refine Z215 ?_
       refine zrc (O' := []) (List.nil_sublist _) ?_
       refine Z97 ?_; refine Z316 ?_
       refine zrd (X := SXp) 3 (r := fun x => zfa (scs x.1) zm9) (φ := zp2 s') (zb5 _) ⟨(g1, r1, g2, r2), hpl2⟩ hT19 rfl ?_
       exact ze9 (x := (k, s, md)) (k + 1, s', md) (hs3.trans hs19) ⟨hlt, he, hsl', by dsimp only; omega⟩ (by dsimp only; omega) ⟨rfl, rfl, rfl, rfl, rfl, rfl, trivial⟩
      ·rw [if_neg (by decide)] at he
       refine zh ?_; refine Z66 ?_; refine Z224 ?_; refine Z79 ?_; refine z7 (qu L _ rfl rfl rfl rfl rfl rfl rfl (by first | omega | decide) (by assumption)) rfl ?_; refine z7 (yg L (vs := [_, _, _, _, _, _, _]) rfl rfl rfl rfl rfl ⟨_, rfl⟩) rfl ?_; refine Z203 ?_; refine Z160 ?_
       refine zkw 14 rfl fun b14 hb14 => ?_
       refine Z122 ?_; refine z8 (zz L (vs := [_, _, _, _]) (yk rfl) rfl rfl rfl rfl ⟨_, rfl⟩) rfl ?_; refine Z25 ?_; refine z8 (zz L (vs := [_, _, _, _, _, _]) (zay rfl (List.Mem.head _)) rfl rfl rfl rfl ⟨_, rfl⟩) rfl ?_; refine z8 (zp L rfl rfl (zk rfl) rfl rfl rfl (fun u H hH hle _ => zct hin hH (hT.le hle))) rfl ?_; refine Z25 ?_; refine z8 (qf L (zay rfl (List.Mem.head _)) rfl rfl rfl rfl) rfl ?_; refine Z136 ?_; refine Z239 ?_; refine Z74 ?_; refine z7 (zz L (vs := [_, _, _, _]) (yk rfl) rfl rfl rfl rfl ⟨_, rfl⟩) rfl ?_; refine z7 (zz L (vs := [_, _, _, _, _, _, _]) (zay rfl (List.Mem.head _)) rfl rfl rfl rfl ⟨_, rfl⟩) rfl ?_; refine z7 (yr (φ := WithP s' 0) L rfl rfl (zk rfl) rfl rfl rfl WithP.mono (fun u H hH hle _ => zm5 hw hsl hzt hH (hT.le hle))) rfl ?_; refine zbq 56 rfl ?_; rintro _ H19 hs19 ⟨tv, rfl, hT19⟩; obtain ⟨g1, r1, g2, r2, rfl, hpl2⟩ := hT19.shape; refine Z299 ?_; refine Z147 ?_; refine Z371 ?_; refine Z231 ?_; refine Z108 ?_; refine z7 (zz L (vs := [_, _, _, _]) (yk rfl) rfl rfl rfl rfl ⟨_, rfl⟩) rfl ?_; refine Z62 ?_; refine Z160 ?_; refine Z289 ?_; refine Z215 ?_
       refine zrc (O' := []) (List.nil_sublist _) ?_
       refine Z97 ?_; refine Z316 ?_
       refine zrd (X := SXp) 3 (r := fun x => zfa (scs x.1) zm9) (φ := zp2 s') (zb5 _) ⟨(g1, r1, g2, r2), hpl2⟩ hT19 rfl ?_
       exact ze9 (x := (k, s, md)) (k + 1, s', md) (hs3.trans hs19) ⟨hlt, he, hsl', by dsimp only; omega⟩ (by dsimp only; omega) ⟨rfl, rfl, rfl, rfl, rfl, rfl, trivial⟩
      ·rw [if_pos rfl] at he
       refine zh ?_; refine Z66 ?_; refine Z224 ?_; refine Z79 ?_; refine z7 (qu L _ rfl rfl rfl rfl rfl rfl rfl (by first | omega | decide) (by assumption)) rfl ?_; refine z7 (yg L (vs := [_, _, _, _, _, _, _]) rfl rfl rfl rfl rfl ⟨_, rfl⟩) rfl ?_; refine Z203 ?_; refine Z160 ?_
       refine zkw 14 rfl fun b14 hb14 => ?_
       refine Z122 ?_; refine z8 (zz L (vs := [_, _, _, _]) (yk rfl) rfl rfl rfl rfl ⟨_, rfl⟩) rfl ?_; refine Z25 ?_; refine z8 (zz L (vs := [_, _, _, _, _, _]) (zay rfl (List.Mem.head _)) rfl rfl rfl rfl ⟨_, rfl⟩) rfl ?_; refine z8 (zp L rfl rfl (zk rfl) rfl rfl rfl (fun u H hH hle _ => zct hin hH (hT.le hle))) rfl ?_; refine Z25 ?_; refine z8 (qf L (zay rfl (List.Mem.head _)) rfl rfl rfl rfl) rfl ?_; refine Z136 ?_; refine Z239 ?_; refine Z74 ?_; refine z7 (zz L (vs := [_, _, _, _]) (yk rfl) rfl rfl rfl rfl ⟨_, rfl⟩) rfl ?_; refine z7 (zz L (vs := [_, _, _, _, _, _, _]) (zay rfl (List.Mem.head _)) rfl rfl rfl rfl ⟨_, rfl⟩) rfl ?_; refine z7 (yr (φ := WithP s' 0) L rfl rfl (zk rfl) rfl rfl rfl WithP.mono (fun u H hH hle _ => zm5 hw hsl hzt hH (hT.le hle))) rfl ?_; refine zbq 56 rfl ?_; rintro _ H19 hs19 ⟨tv, rfl, hT19⟩; obtain ⟨g1, r1, g2, r2, rfl, hpl2⟩ := hT19.shape; refine Z299 ?_; refine Z147 ?_; refine Z371 ?_; refine Z231 ?_; refine Z108 ?_; refine z7 (zz L (vs := [_, _, _, _]) (yk rfl) rfl rfl rfl rfl ⟨_, rfl⟩) rfl ?_; refine Z62 ?_; refine Z160 ?_; refine Z289 ?_; refine Z143 ?_; refine Z119 ?_; refine qo (yn (.inl rfl) rfl rfl rfl rfl) ?_; refine z7 (zz L (vs := [_, _, _, _, _, _, _]) (zay rfl (List.Mem.head _)) rfl rfl rfl rfl ⟨_, rfl⟩) rfl ?_; refine Z36 ?_; refine Z109 ?_; refine qo (yn (.inr rfl) rfl rfl rfl rfl) ?_; refine Z238 ?_
       refine zrc (O' := []) (List.nil_sublist _) ?_
       refine Z97 ?_; refine Z316 ?_
       refine zrd (X := SXp) 3 (r := fun x => zfa (scs x.1) zm9) (φ := zp2 s') (zb5 _) ⟨(g1, r1, g2, r2), hpl2⟩ hT19 rfl ?_
       exact ze9 (x := (k, s, md)) (k + 1, s', md ++ [(x, true)]) (hs3.trans hs19) ⟨hlt, he, hsl', by dsimp only; rw [List.length_append]; show md.length + 1 ≤ k + 1; omega⟩ (by dsimp only; omega) ⟨rfl, rfl, zgr rfl, rfl, rfl, rfl, trivial⟩
     ·rw [if_neg h0] at he
      cases he
      refine zh ?_; refine Z66 ?_; refine Z224 ?_; refine Z79 ?_; refine z7 (qu L _ rfl rfl rfl rfl rfl rfl rfl (by first | omega | decide) (by assumption)) rfl ?_; refine z7 (yg L (vs := [_, _, _, _, _, _, _]) rfl rfl rfl rfl rfl ⟨_, rfl⟩) rfl ?_; refine Z203 ?_; refine Z160 ?_
      refine zkw 14 rfl fun b14 hb14 => ?_
      refine Z122 ?_; refine z8 (zz L (vs := [_, _, _, _]) (yk rfl) rfl rfl rfl rfl ⟨_, rfl⟩) rfl ?_; refine Z25 ?_; refine z8 (zz L (vs := [_, _, _, _, _, _]) (zay rfl (List.Mem.head _)) rfl rfl rfl rfl ⟨_, rfl⟩) rfl ?_; refine z8 (zp L rfl rfl (zk rfl) rfl rfl rfl (fun u H hH hle _ => zct hin hH (hT.le hle))) rfl ?_; refine Z25 ?_; refine z8 (qf L (zay rfl (List.Mem.head _)) rfl rfl rfl rfl) rfl ?_; refine Z136 ?_; refine Z239 ?_; refine Z74 ?_; refine z7 (zz L (vs := [_, _, _, _]) (yk rfl) rfl rfl rfl rfl ⟨_, rfl⟩) rfl ?_; refine z7 (zz L (vs := [_, _, _, _, _, _, _]) (zay rfl (List.Mem.head _)) rfl rfl rfl rfl ⟨_, rfl⟩) rfl ?_; refine z7 (yr (φ := WithP s' e) L rfl rfl (zk rfl) rfl rfl rfl WithP.mono (fun u H hH hle _ => zm5 hw hsl hzt hH (hT.le hle))) rfl ?_; refine zbq 56 rfl ?_; rintro _ H19 hs19 ⟨tv, rfl, hT19⟩; obtain ⟨g1, r1, g2, r2, rfl, hpl2⟩ := hT19.shape; refine Z299 ?_; refine Z147 ?_; refine Z371 ?_; refine Z214 ?_; refine Z102 ?_; refine z7 (yv (cs := [_, _, _, _]) rfl rfl ztx rfl rfl) rfl ?_; refine Z1 ?_; refine Z19 ?_; refine Z185 ?_
      refine yd L (rs := [.cell 6 45, .tmp 7, .tmp 8]) rfl (fun _ _ h => h) (hs3.trans hs19) fun u H hH hle => ?_
      exact ⟨_, yk rfl, rfl, _, _, rfl, SetV.nil, SlV.nil⟩
    ·obtain rfl : k = cs.length := by omega
     rw [List.drop_length, zfe] at he
     cases he
     refine zh ?_; refine Z66 ?_; refine Z314 ?_
     refine zcj 7 rfl ?_
     refine qd (id := 21) [] mixed (by kernel_rfl) ?_; refine z8 (zz L (vs := [_, _, _, _]) (yk rfl) rfl rfl rfl rfl ⟨_, rfl⟩) rfl ?_; refine Z35 ?_; refine z8 (yr (φ := KS tyC made true) L rfl rfl (zk rfl) rfl rfl rfl SlV.mono (fun u H hH _ _ v1 g1 => zvm hH g1)) rfl ?_; refine z8 (y8 L rfl rfl rfl rfl rfl rfl (by assumption) rfl) rfl ?_; refine Z90 ?_; refine Z177 ?_
     refine yd L (rs := [.cell 6 45, .tmp 7, .tmp 8]) rfl (fun _ _ h => h) hs3 fun u H hH hle => ?_
     exact ⟨_, yk rfl, rfl, fun mv hmv => ⟨_, mv, rfl, hT.le hle, hmv⟩⟩
   ·rw [if_neg h3] at hr
    cases hr
    refine Z341 ?_; refine Z263 ?_; refine Z157 ?_; refine Z4 ?_; refine z7 (zp L rfl rfl (zk rfl) rfl rfl rfl (fun u H hH _ _ v1 g1 => zf4 zl ll h1 hH g1)) rfl ?_; refine Z249 ?_; refine Z250 ?_; refine Z30 ?_; refine Z4 ?_; refine z7 (zp L rfl rfl (zk rfl) rfl rfl rfl (fun u H hH _ _ v1 g1 => zmx zc lc h2 hH g1)) rfl ?_; refine Z144 ?_; refine Z180 ?_; refine Z250 ?_; refine Z43 ?_; refine z7 (zz L (vs := [_, _, _, _]) (yk rfl) rfl rfl rfl rfl ⟨_, rfl⟩) rfl ?_; refine Z4 ?_; refine z7 (zp L rfl rfl (zk rfl) rfl rfl rfl (fun u H hH hle _ v1 g1 => first_ret zl ll hf hH (hs.le hle) g1)) rfl ?_; refine Z240 ?_; refine Z226 ?_; refine Z214 ?_; refine Z59 ?_; refine z7 (yv (cs := [_, _, _, _]) rfl rfl ztx rfl rfl) rfl ?_; refine Z1 ?_; refine Z19 ?_; refine Z185 ?_
    refine yd L (rs := [.cell 6 45, .tmp 7, .tmp 8]) rfl (fun _ _ h => h) Since.refl fun u H hH hle => ?_
    exact ⟨_, yk rfl, rfl, _, _, rfl, SetV.nil, SlV.nil⟩
  ·rw [if_neg h2] at hr
   cases hr
   refine Z341 ?_; refine Z263 ?_; refine Z157 ?_; refine Z4 ?_; refine z7 (zp L rfl rfl (zk rfl) rfl rfl rfl (fun u H hH _ _ v1 g1 => zf4 zl ll h1 hH g1)) rfl ?_; refine Z249 ?_; refine Z250 ?_; refine Z30 ?_; refine Z4 ?_; refine z7 (zp L rfl rfl (zk rfl) rfl rfl rfl (fun u H hH _ _ v1 g1 => zmx zc lc rfl hH g1)) rfl ?_; refine Z144 ?_; refine Z180 ?_; refine Z214 ?_; refine Z45 ?_; refine z7 (yv (cs := [_, _, _, _]) rfl rfl ztx rfl rfl) rfl ?_; refine Z1 ?_; refine Z19 ?_; refine Z185 ?_
   refine yd L (rs := [.cell 6 45, .tmp 7, .tmp 8]) rfl (fun _ _ h => h) Since.refl fun u H hH hle => ?_
   exact ⟨_, yk rfl, rfl, _, _, rfl, SetV.nil, SlV.nil⟩
 ·rw [if_neg h1] at hr
  cases hr
  refine Z341 ?_; refine Z263 ?_; refine Z157 ?_; refine Z4 ?_; refine z7 (zp L rfl rfl (zk rfl) rfl rfl rfl (fun u H hH _ _ v1 g1 => zf4 zl ll rfl hH g1)) rfl ?_; refine Z249 ?_; refine Z214 ?_; refine Z28 ?_; refine z7 (yv (cs := [_, _, _, _]) rfl rfl ztx rfl rfl) rfl ?_; refine Z1 ?_; refine Z19 ?_; refine Z185 ?_
  refine yd L (rs := [.cell 6 45, .tmp 7, .tmp 8]) rfl (fun _ _ h => h) Since.refl fun u H hH hle => ?_
  exact ⟨_, yk rfl, rfl, _, _, rfl, SetV.nil, SlV.nil⟩
end Go.V.L8
set_option maxRecDepth 20000
namespace Go.V.L8
open Go.Proofs Go.RowKit Go.V Go.V.L2 Go.V.L3 Go.V.L6
theorem zva (s : List U) (x : U) : (1 - (if x ∈ s then 1 else 0 : Int)) = if ze7 s (x, true) = true then 1 else 0 := by
 unfold ze7
 by_cases h : x ∈ s <;> simp [h]
theorem zsc (s : List U) (x : U) : (if x ∈ s then 1 else 0 : Int) = if ze7 s (x, false) = true then 1 else 0 := by
 unfold ze7
 by_cases h : x ∈ s <;> simp [h]
attribute [local irreducible] V N X VO Par StepOK Has Ret RetL RetO RetT Src
theorem ze4 {l : List CH} {fu : Bool} (hz : ∀ c ∈ l, TM c.1) (hl : l.length ≤ 9223372036854775807) {e : Int} (he : cE 32 l = e) {v : Value} {w : World} {B : Heap} (hB : B.Le (hp w)) (hv : KS tyM l fu v B) :
  Ret Tryz.prog 124 [v] w B (fun r _ => r = .int .i64 e) := by
 subst he
 refine yf Tryz.func124 rfl Tryz.ntmps124 (Nat.le_of_ble_eq_true rfl) hB ?_
 refine zaz 0 (KS tyM l fu) rfl SlV.mono hv ?_
 by_cases h32 : 32 < l.length
 ·have : cE 32 l = 3 := if_pos h32
  rw [this]
  refine Z146 ?_; refine Z306 ?_; refine Z39 ?_; refine Z337 ?_
  refine yd L (rs := [.tmp 2]) rfl (fun _ _ h => h) Since.refl fun u H hH hle => ?_
  rfl
 ·refine Z146 ?_; refine Z306 ?_; refine Z31 ?_; refine Z168 ?_; refine Z28 ?_; refine Z196 ?_
  refine zaj (fun i : Nat => [(0, .sat (KS tyM l fu)), (3, .is (.int .i64 i))]) (fun i => i ≤ l.length ∧ ∀ (j : Nat) c, j < i → l[j]? = some c → tE c.1 = 0) (fun i => l.length - i) 0 ⟨Nat.zero_le _, fun j c h => absurd h (Nat.not_lt_zero _)⟩ ⟨rfl, rfl, trivial⟩ ?_
  rintro i ⟨hi, hok⟩
  by_cases hlt : i < l.length
  ·obtain ⟨c, hc0⟩ := zae hlt
   have hc := zii hc0
   have hzc := hz c (List.mem_of_getElem? hc0)
   by_cases h0 : tE c.1 = 0
   ·refine Z273 ?_; refine Z45 ?_; refine Z200 ?_; refine z7 (qu L _ rfl rfl rfl rfl rfl rfl rfl (by first | omega | decide) (by assumption)) rfl ?_; refine Z78 ?_; refine z7 (yg L (vs := [_, _, _, _, _, _]) rfl rfl rfl rfl rfl ⟨_, rfl⟩) rfl ?_; refine z7 (zp L rfl rfl (zk rfl) rfl rfl rfl (fun u H hH _ _ => h0 ▸ zir hzc hH)) rfl ?_; refine Z388 ?_; refine Z320 ?_
    exact yh (x := i) (i + 1) ⟨hlt, fun j c' hj hc' => by
     rcases Nat.lt_or_ge j i with h | h
     ·exact hok j c' h hc'
     ·have : j = i := by omega
      subst this; rw [hc0] at hc'; cases hc'; exact h0⟩ (by omega) ⟨rfl, rfl, trivial⟩
   ·have h6 := (zpy c.1).resolve_left h0
    rw [z0m h32 hc0 h0]
    refine Z273 ?_; refine Z45 ?_; refine Z200 ?_; refine z7 (qu L _ rfl rfl rfl rfl rfl rfl rfl (by first | omega | decide) (by assumption)) rfl ?_; refine Z78 ?_; refine z7 (yg L (vs := [_, _, _, _, _, _]) rfl rfl rfl rfl rfl ⟨_, rfl⟩) rfl ?_; refine z7 (zp L rfl rfl (zk rfl) rfl rfl rfl (fun u H hH _ _ => h6 ▸ zir hzc hH)) rfl ?_; refine Z214 ?_; refine Z43 ?_; refine Z138 ?_
    refine yd L (rs := [.tmp 2]) rfl (fun _ _ h => h) Since.refl fun u H hH hle => ?_
    rfl
  ·rw [zvs h32 (fun j c hj => hok j c (by have := get_lt hj; omega) hj)]
   refine Z216 ?_; refine Z272 ?_; refine Z389 ?_
   refine yd L (rs := [.tmp 2]) rfl (fun _ _ h => h) Since.refl fun u H hH hle => ?_
   rfl
theorem zl8 {l : List CH} {fu : Bool} (hz : ∀ c ∈ l, TM c.1) (hl : l.length ≤ 9223372036854775807) {e : Int} (he : cE 32 l = e) {v : Value} {w : World} {B : Heap} (hB : B.Le (hp w)) (hv : KS tyC l fu v B) :
  Ret Tryz.prog 125 [v] w B (fun r _ => r = .int .i64 e) := by
 subst he
 refine yf Tryz.func125 rfl Tryz.ntmps125 (Nat.le_of_ble_eq_true rfl) hB ?_
 refine zaz 0 (KS tyC l fu) rfl SlV.mono hv ?_
 by_cases h32 : 32 < l.length
 ·have : cE 32 l = 3 := if_pos h32
  rw [this]
  refine Z146 ?_; refine Z306 ?_; refine Z39 ?_; refine Z337 ?_
  refine yd L (rs := [.tmp 2]) rfl (fun _ _ h => h) Since.refl fun u H hH hle => ?_
  rfl
 ·refine Z146 ?_; refine Z306 ?_; refine Z31 ?_; refine Z168 ?_; refine Z28 ?_; refine Z196 ?_
  refine zaj (fun i : Nat => [(0, .sat (KS tyC l fu)), (3, .is (.int .i64 i))]) (fun i => i ≤ l.length ∧ ∀ (j : Nat) c, j < i → l[j]? = some c → tE c.1 = 0) (fun i => l.length - i) 0 ⟨Nat.zero_le _, fun j c h => absurd h (Nat.not_lt_zero _)⟩ ⟨rfl, rfl, trivial⟩ ?_
  rintro i ⟨hi, hok⟩
  by_cases hlt : i < l.length
  ·obtain ⟨c, hc0⟩ := zae hlt
   have hc := zii hc0
   have hzc := hz c (List.mem_of_getElem? hc0)
   by_cases h0 : tE c.1 = 0
   ·refine Z273 ?_; refine Z45 ?_; refine Z200 ?_; refine z7 (qu L _ rfl rfl rfl rfl rfl rfl rfl (by first | omega | decide) (by assumption)) rfl ?_; refine Z78 ?_; refine z7 (yg L (vs := [_, _, _, _, _, _]) rfl rfl rfl rfl rfl ⟨_, rfl⟩) rfl ?_; refine z7 (zp L rfl rfl (zk rfl) rfl rfl rfl (fun u H hH _ _ => h0 ▸ zir hzc hH)) rfl ?_; refine Z388 ?_; refine Z320 ?_
    exact yh (x := i) (i + 1) ⟨hlt, fun j c' hj hc' => by
     rcases Nat.lt_or_ge j i with h | h
     ·exact hok j c' h hc'
     ·have : j = i := by omega
      subst this; rw [hc0] at hc'; cases hc'; exact h0⟩ (by omega) ⟨rfl, rfl, trivial⟩
   ·have h6 := (zpy c.1).resolve_left h0
    rw [z0m h32 hc0 h0]
    refine Z273 ?_; refine Z45 ?_; refine Z200 ?_; refine z7 (qu L _ rfl rfl rfl rfl rfl rfl rfl (by first | omega | decide) (by assumption)) rfl ?_; refine Z78 ?_; refine z7 (yg L (vs := [_, _, _, _, _, _]) rfl rfl rfl rfl rfl ⟨_, rfl⟩) rfl ?_; refine z7 (zp L rfl rfl (zk rfl) rfl rfl rfl (fun u H hH _ _ => h6 ▸ zir hzc hH)) rfl ?_; refine Z214 ?_; refine Z43 ?_; refine Z138 ?_
    refine yd L (rs := [.tmp 2]) rfl (fun _ _ h => h) Since.refl fun u H hH hle => ?_
    rfl
  ·rw [zvs h32 (fun j c hj => hok j c (by have := get_lt hj; omega) hj)]
   refine Z216 ?_; refine Z272 ?_; refine Z389 ?_
   refine yd L (rs := [.tmp 2]) rfl (fun _ _ h => h) Since.refl fun u H hH hle => ?_
   rfl
theorem zk9 {s : List U} {c : CH} {fs : Bool} (ls : s.length ≤ 90000) {b : Int} (hb : (if ze7 s c = true then 1 else 0) = b) {v : Value} {w : World} {B : Heap} (hB : B.Le (hp w)) (hv : US s fs v B) :
  Ret Tryz.prog 158 [v, chv c.1 c.2] w B (fun r _ => r = .int .i64 b) := by
 subst hb
 obtain ⟨x, d⟩ := c
 refine yf Tryz.func158 rfl Tryz.ntmps158 (Nat.le_of_ble_eq_true rfl) hB ?_
 refine zaz 0 (US s fs) rfl SlV.mono hv ?_
 obtain ⟨m, hm⟩ : ∃ m : Int, (if x ∈ s then 1 else 0 : Int) = m := ⟨_, rfl⟩
 have hm2 : m = 0 ∨ m = 1 := by rw [← hm]; split <;> simp
 cases d
 ·rw [← zsc, hm]
  refine Z366 ?_; refine Z181 ?_; refine Z158 ?_; refine Z28 ?_; refine Z4 ?_; refine Z16 ?_; refine z7 (zz L (vs := [_, _, _, _, _, _]) (qm rfl) rfl rfl rfl rfl ⟨_, rfl⟩) rfl ?_; refine z7 (zp L rfl rfl (zk rfl) rfl rfl rfl (fun u H hH _ _ v1 h1 => zbk (by omega) hm hH h1)) rfl ?_; refine Z138 ?_
  refine yd L (rs := [.tmp 4]) rfl (fun _ _ h => h) Since.refl fun u H hH hle => ?_
  rfl
 ·rw [← zva, hm]
  refine Z366 ?_; refine Z181 ?_; refine Z225 ?_; refine Z4 ?_; refine Z16 ?_; refine z7 (zz L (vs := [_, _, _, _, _, _]) (qm rfl) rfl rfl rfl rfl ⟨_, rfl⟩) rfl ?_; refine z7 (zp L rfl rfl (zk rfl) rfl rfl rfl (fun u H hH _ _ v1 h1 => zbk (by omega) hm hH h1)) rfl ?_; refine Z71 ?_; refine Z138 ?_
  refine yd L (rs := [.tmp 4]) rfl (fun _ _ h => h) Since.refl fun u H hH hle => ?_
  rfl
set_option maxHeartbeats 1000000 in
theorem zjr {s : List U} {l : List CH} {fs fu : Bool} (ls : s.length ≤ 90000) (hz : ∀ c ∈ l, TM c.1) (hl : l.length ≤ 9223372036854775807) {r : Nat} {e : Int} (hr : zev s l = (r, e)) {sv v : Value} {w : World} {B : Heap} (hB : B.Le (hp w)) (hs : US s fs sv B) (hv : KS tyM l fu v B) :
  Ret Tryz.prog 126 [sv, v] w B (fun x _ => x = .tuple #[.int .i64 r, .int .i64 e]) := by
 refine yf Tryz.func126 rfl Tryz.ntmps126 (Nat.le_of_ble_eq_true rfl) hB ?_
 refine zaz 0 (US s fs) rfl SlV.mono hs ?_
 refine zaz 1 (KS tyM l fu) rfl SlV.mono hv ?_
 by_cases h0 : cE 32 l = 0
 ·refine Z257 ?_; refine Z157 ?_; refine Z4 ?_; refine z7 (zp L rfl rfl (zk rfl) rfl rfl rfl (fun u H hH _ _ v1 h1 => ze4 hz hl h0 hH h1)) rfl ?_; refine Z250 ?_; refine Z28 ?_; refine Z196 ?_
  refine zaj (fun i : Nat => [(0, .sat (US s fs)), (1, .sat (KS tyM l fu)), (6, .is (.int .i64 i))]) (fun i => i ≤ l.length ∧ ∀ (j : Nat) x, j < i → l[j]? = some x → ze7 s x = true) (fun i => l.length - i) 0 ⟨Nat.zero_le _, fun j c h => absurd h (Nat.not_lt_zero _)⟩ ⟨rfl, rfl, rfl, trivial⟩ ?_
  rintro i ⟨hi, hok⟩
  by_cases hlt : i < l.length
  ·obtain ⟨c, hc0⟩ := zae hlt
   have hc := zii hc0
   cases hh : ze7 s c
   ·rw [zob h0 hok hc0 hh] at hr
    cases hr
    refine Z273 ?_; refine Z45 ?_; refine Z393 ?_; refine z7 (qu L _ rfl rfl rfl rfl rfl rfl rfl (by first | omega | decide) (by assumption)) rfl ?_; refine z7 (yg L (vs := [_, _, _, _, _, _, _]) rfl rfl rfl rfl rfl ⟨_, rfl⟩) rfl ?_; refine z7 (zp L rfl rfl (zk rfl) rfl rfl rfl (fun u H hH hle _ v1 h1 => zk9 (c := c) (b := 0) ls (by rw [hh]; rfl) hH h1)) rfl ?_; refine Z294 ?_; refine Z193 ?_; refine Z185 ?_
    refine yd L (rs := [.tmp 4, .tmp 5]) rfl (fun _ _ h => h) Since.refl fun u H hH hle => ?_
    rfl
   ·refine Z273 ?_; refine Z45 ?_; refine Z393 ?_; refine z7 (qu L _ rfl rfl rfl rfl rfl rfl rfl (by first | omega | decide) (by assumption)) rfl ?_; refine z7 (yg L (vs := [_, _, _, _, _, _, _]) rfl rfl rfl rfl rfl ⟨_, rfl⟩) rfl ?_; refine z7 (zp L rfl rfl (zk rfl) rfl rfl rfl (fun u H hH hle _ v1 h1 => zk9 (c := c) (b := 1) ls (by rw [hh]; rfl) hH h1)) rfl ?_; refine Z12 ?_; refine Z215 ?_; refine Z320 ?_
    exact yh (x := i) (i + 1) ⟨hlt, fun j c' hj hc' => by
     rcases Nat.lt_or_ge j i with h | h
     ·exact hok j c' h hc'
     ·have : j = i := by omega
      subst this; rw [hc0] at hc'; cases hc'; exact hh⟩ (by omega) ⟨rfl, rfl, rfl, trivial⟩
  ·rw [zlm h0 (fun j x hj => hok j x (by have := get_lt hj; omega) hj)] at hr
   cases hr
   refine Z216 ?_; refine Z272 ?_; refine Z57 ?_; refine Z150 ?_; refine Z185 ?_
   refine yd L (rs := [.tmp 4, .tmp 5]) rfl (fun _ _ h => h) Since.refl fun u H hH hle => ?_
   rfl
 ·have : zev s l = (0, cE 32 l) := if_neg h0
  rw [this] at hr
  cases hr
  refine Z257 ?_; refine Z157 ?_; refine Z4 ?_; refine z7 (zp L rfl rfl (zk rfl) rfl rfl rfl (fun u H hH _ _ v1 h1 => ze4 hz hl rfl hH h1)) rfl ?_; refine Z214 ?_; refine Z29 ?_; refine Z4 ?_; refine z7 (zp L rfl rfl (zk rfl) rfl rfl rfl (fun u H hH _ _ v1 h1 => ze4 hz hl rfl hH h1)) rfl ?_; refine Z185 ?_
  refine yd L (rs := [.tmp 4, .tmp 5]) rfl (fun _ _ h => h) Since.refl fun u H hH hle => ?_
  rfl
end Go.V.L8
set_option maxRecDepth 20000
namespace Go.V.L8
open Go.Proofs Go.RowKit Go.V Go.V.L2 Go.V.L3 Go.V.L6
attribute [local irreducible] V N X VO Par StepOK Has Ret RetL RetO RetT Src
end Go.V.L8
set_option maxRecDepth 20000
namespace Go.V.L8
open Go.Proofs Go.RowKit Go.V Go.V.L2 Go.V.L3 Go.V.L6
theorem _root_.Go.V.Z265 {A B : Prop} (h : B) (t : Wr B → A := by intro h; refine Z74 ?_; refine Z1 ?_; exact h.h) : A := t ⟨h⟩
theorem _root_.Go.V.Z350 {A B : Prop} (h : B) (t : Wr B → A := by intro h; refine Z147 ?_; refine Z190 ?_; exact h.h) : A := t ⟨h⟩
theorem _root_.Go.V.Z377 {A B : Prop} (h : B) (t : Wr B → A := by intro h; refine Z4 ?_; refine Z4 ?_; exact h.h) : A := t ⟨h⟩
def RWriteP (t : List U) (made : List CH) (e : Int) (r : Value) (H : Heap) : Prop := ∃ tv mv, r = .tuple #[tv, mv, .int .i64 e] ∧ US t false tv H ∧ KS tyC made false mv H
theorem RWriteP.mono {t : List U} {made : List CH} {e : Int} : Kn.mono (.sat (RWriteP t made e)) := fun _ _ _ ⟨tv, mv, h1, h2, h3⟩ hle => ⟨tv, mv, h1, h2.le hle, h3.le hle⟩
attribute [local irreducible] V N X VO Par StepOK Has Ret RetL RetO RetT Src
set_option maxHeartbeats 4000000 in
set_option maxRecDepth 10000 in
theorem zow {s t : List U} {l cs made : List CH} {fs fl fc : Bool} {e : Int} (zl : ∀ c ∈ l, TM c.1) (zc : ∀ c ∈ cs, TM c.1) (ll : l.length ≤ 9223372036854775807) (lc : cs.length ≤ 9223372036854775807) (hsl : s.length ≤ 4096) (hss : Sst zbd s) (hsz : ∀ t ∈ s, TZ t) (hr : zd5 s l cs = (t, made, e)) {sv lv cv : Value} {w : World} {B : Heap} (hB : B.Le (hp w))
  (hs : US s fs sv B) (hl : KS tyM l fl lv B) (hc : KS tyC cs fc cv B) : Ret Tryz.prog 84 [sv, lv, cv] w B (RWriteP t made e) := by
 refine yf Tryz.func84 rfl Tryz.ntmps84 (Nat.le_of_ble_eq_true rfl) hB ?_
 refine zaz 0 (US s false) rfl SlV.mono hs.nofu ?_
 refine zaz 1 (KS tyM l fl) rfl SlV.mono hl ?_
 refine zaz 2 (KS tyC cs fc) rfl SlV.mono hc ?_
 unfold zd5 at hr
 by_cases h1 : cE 32 l = 0
 ·rw [if_pos h1] at hr
  by_cases h2 : cE 32 cs = 0
  ·rw [if_pos h2] at hr
   obtain ⟨r, e1, hf⟩ : ∃ r e1, zev s l = (r, e1) := ⟨_, _, rfl⟩
   rw [hf] at hr
   dsimp only at hr
   by_cases h3 : e1 = 0
   ·subst h3
    rw [if_pos rfl] at hr
    obtain ⟨l32, hval⟩ := zy3 h2
    refine Z257 ?_; refine Z2 ?_; refine Z159 ?_; refine Z4 ?_; refine z7 (zp L rfl rfl (zk rfl) rfl rfl rfl (fun u H hH _ _ v1 g1 => ze4 zl ll h1 hH g1)) rfl ?_; refine Z147 ?_; refine Z175 ?_; refine Z280 ?_; refine Z28 ?_; refine Z4 ?_; refine z7 (zp L rfl rfl (zk rfl) rfl rfl rfl (fun u H hH _ _ v1 g1 => zl8 zc lc h2 hH g1)) rfl ?_; refine Z147 ?_; refine Z161 ?_; refine Z280 ?_; refine Z38 ?_; refine Z377 ?_; refine z7 (zp L rfl rfl (zk rfl) rfl rfl rfl (fun u H hH _ _ v1 g1 v2 g2 => zjr (by omega) zl ll hf hH g1 g2)) rfl ?_; refine Z173 ?_; refine Z350 ?_; refine Z231 ?_; refine Z57 ?_; refine Z147 ?_; refine Z59 ?_; refine Z196 ?_
    refine zd2 10 tyC 7 rfl ?_
    refine zaj (fun y : Nat × List U × List CH => [(0, .sat (US y.2.1 false)), (2, .sat (KS tyC cs fc)), (10, .own (SlR tyC 7 y.2.2.length (y.2.2.flatMap ccs))), (11, .is (.int .i64 y.1))])
     (fun y => y.1 ≤ cs.length ∧ zfe y.2.1 y.2.2 (cs.drop y.1) = (t, made, e) ∧ y.2.1.length ≤ 4096 ∧ y.2.2.length ≤ y.1 ∧ Sst zbd y.2.1 ∧ ∀ t ∈ y.2.1, TZ t) (fun y => cs.length - y.1) (0, s, []) ⟨Nat.zero_le _, hr, hsl, Nat.le_refl _, hss, hsz⟩ ⟨rfl, rfl, rfl, rfl, trivial⟩ ?_
    clear hr hs hsl hss hsz
    rintro ⟨k, s, md⟩ ⟨hk, he, hsl, hmd, hss, hsz⟩
    dsimp only at hk he hsl hmd hss hsz ⊢
    by_cases hlt : k < cs.length
    ·obtain ⟨c, hc0⟩ := zae hlt
     have hc := zii hc0
     have hv := hval c (List.mem_of_getElem? hc0)
     have hzt := zpw hv
     rw [zfc hc0, zfe] at he
     obtain ⟨x, d⟩ := c
     dsimp only at hc hv hzt he
     have hdf := zrf (l := s) x d
     have hss' := zm6 hss x d
     have hsl' := zm7 hsl x d
     have hsz' : ∀ z ∈ (zco s x d).1, TZ z := fun z hz => by
      rcases zi3 hz with h | h
      ·exact hsz z h
      ·exact h ▸ hzt
     rcases hw : zco s x d with ⟨s', e'⟩
     rw [hw] at he hdf hss' hsl' hsz'
     dsimp only at he hdf hss' hsl' hsz'
     have hmo : Kn.mono (.sat (US s' false)) := SlV.mono
     by_cases h0 : e' = 0
     ·subst h0
      rw [if_pos rfl] at he
      have hdf := hdf rfl
      by_cases hsame : s' = s
      ·rw [if_neg (hdf.1 hsame)] at he
       refine Z139 ?_; refine Z283 ?_; refine Z206 ?_; refine Z79 ?_; refine Z393 ?_; refine z7 (qu L _ rfl rfl rfl rfl rfl rfl rfl (by first | omega | decide) (by assumption)) rfl ?_; refine z7 (yg L (vs := [_, _, _, _, _, _, _]) rfl rfl rfl rfl rfl ⟨_, rfl⟩) rfl ?_; refine z7 (yr (φ := R6 s' 0) L rfl rfl (zk rfl) rfl rfl rfl (LE2.mono SlV.mono) (fun u H hH _ _ v1 g1 => zjl hw hss (by omega) hzt hsz hH g1)) rfl ?_; refine Z343 ?_; refine Z147 ?_; refine Z309 ?_; refine Z250 ?_; refine Z92 ?_; refine Z377 ?_; refine z7 (zp L rfl rfl (zk rfl) rfl rfl rfl (fun u H hH _ _ v1 g1 v2 g2 => zhk (e := 1) (by omega) (by omega) (by rw [if_pos hsame]) hH g1 g2)) rfl ?_; refine Z12 ?_; refine Z141 ?_; refine Z142 ?_; refine Z394 ?_; refine Z51 ?_; refine Z238 ?_; refine Z279 ?_; refine Z197 ?_
       exact yh (x := (k, s, md)) (k + 1, s', md) ⟨hlt, he, hsl', by dsimp only; omega, hss', hsz'⟩ (by dsimp only; omega) ⟨rfl, rfl, rfl, rfl, trivial⟩
      ·have hdd : decide (x ∈ s) = d := by
        by_cases h : decide (x ∈ s) = d
        ·exact h
        ·exact absurd (hdf.2 h) hsame
       rw [if_pos hdd] at he
       refine Z139 ?_; refine Z283 ?_; refine Z206 ?_; refine Z79 ?_; refine Z393 ?_; refine z7 (qu L _ rfl rfl rfl rfl rfl rfl rfl (by first | omega | decide) (by assumption)) rfl ?_; refine z7 (yg L (vs := [_, _, _, _, _, _, _]) rfl rfl rfl rfl rfl ⟨_, rfl⟩) rfl ?_; refine z7 (yr (φ := R6 s' 0) L rfl rfl (zk rfl) rfl rfl rfl (LE2.mono SlV.mono) (fun u H hH _ _ v1 g1 => zjl hw hss (by omega) hzt hsz hH g1)) rfl ?_; refine Z343 ?_; refine Z147 ?_; refine Z309 ?_; refine Z250 ?_; refine Z92 ?_; refine Z377 ?_; refine z7 (zp L rfl rfl (zk rfl) rfl rfl rfl (fun u H hH _ _ v1 g1 v2 g2 => zhk (e := 0) (by omega) (by omega) (by rw [if_neg hsame]) hH g1 g2)) rfl ?_; refine Z280 ?_; refine Z102 ?_; refine qo (yn (.inl rfl) rfl rfl rfl rfl) ?_; refine Z200 ?_; refine z7 (qu L _ rfl rfl rfl rfl rfl rfl rfl (by first | omega | decide) (by assumption)) rfl ?_; refine z7 (yg L (vs := [_, _, _, _, _, _, _]) rfl rfl rfl rfl rfl ⟨_, rfl⟩) rfl ?_; refine Z36 ?_; refine Z109 ?_; refine qo (yn (.inr rfl) rfl rfl rfl rfl) ?_; refine Z137 ?_; refine Z394 ?_; refine Z51 ?_; refine Z238 ?_; refine Z279 ?_; refine Z197 ?_
       exact yh (x := (k, s, md)) (k + 1, s', md ++ [(x, d)]) ⟨hlt, he, hsl', by dsimp only; rw [List.length_append]; show md.length + 1 ≤ k + 1; omega, hss', hsz'⟩ (by dsimp only; omega) ⟨rfl, rfl, zgr rfl, rfl, trivial⟩
     ·rw [if_neg h0] at he
      cases he
      refine Z139 ?_; refine Z283 ?_; refine Z206 ?_; refine Z79 ?_; refine Z393 ?_; refine z7 (qu L _ rfl rfl rfl rfl rfl rfl rfl (by first | omega | decide) (by assumption)) rfl ?_; refine z7 (yg L (vs := [_, _, _, _, _, _, _]) rfl rfl rfl rfl rfl ⟨_, rfl⟩) rfl ?_; refine z7 (yr (φ := R6 s' e) L rfl rfl (zk rfl) rfl rfl rfl (LE2.mono SlV.mono) (fun u H hH _ _ v1 g1 => zjl hw hss (by omega) hzt hsz hH g1)) rfl ?_; refine Z343 ?_; refine Z147 ?_; refine Z309 ?_; refine Z214 ?_; refine Z265 ?_; refine Z2 ?_; refine Z185 ?_
      refine yd L (rs := [.tmp 6, .tmp 7, .tmp 8]) rfl (fun _ _ h => h) Since.refl fun u H hH hle => ?_
      exact ⟨_, _, rfl, SlV.nil, SlV.nil⟩
    ·obtain rfl : k = cs.length := by omega
     rw [List.drop_length, zfe] at he
     cases he
     refine Z139 ?_; refine Z283 ?_; refine Z272 ?_
     refine zcj 10 rfl ?_
     refine Z103 ?_; refine Z377 ?_; refine Z51 ?_; refine Z51 ?_; refine Z138 ?_
     refine yd L (rs := [.tmp 6, .tmp 7, .tmp 8]) rfl (fun _ _ h => h) Since.refl fun u H hH hle => ?_
     exact fun tv htv mv hmv => ⟨tv, mv, rfl, htv, hmv⟩
   ·rw [if_neg h3] at hr
    cases hr
    refine Z257 ?_; refine Z2 ?_; refine Z159 ?_; refine Z4 ?_; refine z7 (zp L rfl rfl (zk rfl) rfl rfl rfl (fun u H hH _ _ v1 g1 => ze4 zl ll h1 hH g1)) rfl ?_; refine Z147 ?_; refine Z175 ?_; refine Z280 ?_; refine Z28 ?_; refine Z4 ?_; refine z7 (zp L rfl rfl (zk rfl) rfl rfl rfl (fun u H hH _ _ v1 g1 => zl8 zc lc h2 hH g1)) rfl ?_; refine Z147 ?_; refine Z161 ?_; refine Z280 ?_; refine Z38 ?_; refine Z377 ?_; refine z7 (zp L rfl rfl (zk rfl) rfl rfl rfl (fun u H hH _ _ v1 g1 v2 g2 => zjr (by omega) zl ll hf hH g1 g2)) rfl ?_; refine Z173 ?_; refine Z350 ?_; refine Z214 ?_; refine Z193 ?_; refine Z2 ?_; refine Z185 ?_
    refine yd L (rs := [.tmp 6, .tmp 7, .tmp 8]) rfl (fun _ _ h => h) Since.refl fun u H hH hle => ?_
    exact ⟨_, _, rfl, SlV.nil, SlV.nil⟩
  ·rw [if_neg h2] at hr
   cases hr
   refine Z257 ?_; refine Z2 ?_; refine Z159 ?_; refine Z4 ?_; refine z7 (zp L rfl rfl (zk rfl) rfl rfl rfl (fun u H hH _ _ v1 g1 => ze4 zl ll h1 hH g1)) rfl ?_; refine Z147 ?_; refine Z175 ?_; refine Z280 ?_; refine Z28 ?_; refine Z4 ?_; refine z7 (zp L rfl rfl (zk rfl) rfl rfl rfl (fun u H hH _ _ v1 g1 => zl8 zc lc rfl hH g1)) rfl ?_; refine Z147 ?_; refine Z161 ?_; refine Z274 ?_; refine Z190 ?_; refine Z214 ?_; refine Z193 ?_; refine Z2 ?_; refine Z185 ?_
   refine yd L (rs := [.tmp 6, .tmp 7, .tmp 8]) rfl (fun _ _ h => h) Since.refl fun u H hH hle => ?_
   exact ⟨_, _, rfl, SlV.nil, SlV.nil⟩
 ·rw [if_neg h1] at hr
  cases hr
  refine Z257 ?_; refine Z2 ?_; refine Z159 ?_; refine Z4 ?_; refine z7 (zp L rfl rfl (zk rfl) rfl rfl rfl (fun u H hH _ _ v1 g1 => ze4 zl ll rfl hH g1)) rfl ?_; refine Z147 ?_; refine Z175 ?_; refine Z274 ?_; refine Z161 ?_; refine Z274 ?_; refine Z190 ?_; refine Z214 ?_; refine Z193 ?_; refine Z2 ?_; refine Z185 ?_
  refine yd L (rs := [.tmp 6, .tmp 7, .tmp 8]) rfl (fun _ _ h => h) Since.refl fun u H hH hle => ?_
  exact ⟨_, _, rfl, SlV.nil, SlV.nil⟩
end Go.V.L8
set_option maxRecDepth 20000
namespace Go.V.L8
open Go.Proofs Go.RowKit Go.V Go.V.L2 Go.V.L3 Go.V.L6
attribute [local irreducible] V N X VO Par StepOK Has Ret RetL RetO RetT Src
end Go.V.L8
set_option maxRecDepth 20000
namespace Go.V.L8
open Go.Proofs Go.RowKit Go.V Go.V.L2 Go.V.L3 Go.V.L6
theorem _root_.Go.V.Z266 {A B : Prop} (h : B) (t : Wr B → A := by intro h; refine Z140 ?_; refine Z10 ?_; exact h.h) : A := t ⟨h⟩
theorem _root_.Go.V.Z311 {A B : Prop} (h : B) (t : Wr B → A := by intro h; refine Z140 ?_; refine Z7 ?_; exact h.h) : A := t ⟨h⟩
def fC (c : C3) : CH := (zt1 c.1 c.2.1, drB c.2.2)
def dOf (cs : List C3) : List CH := (cs.take 30).map fC
theorem zhy (cs : List C3) : (dOf cs).length ≤ 30 := by unfold dOf; rw [List.length_map, List.length_take]; omega
attribute [local irreducible] V N X VO Par StepOK Has Ret RetL RetO RetT Src
set_option maxHeartbeats 1000000 in
theorem zph {cs : List C3} {fc : Bool} {M : List CH} (hM : dOf cs = M) (hcs : ∀ c ∈ cs, c.1 ≤ 255 ∧ c.2.1 ≤ 255 ∧ c.2.2 ≤ 255) (lcs : cs.length ≤ 9223372036854775807)
  {cx : Value} {w : World} {B : Heap} (hB : B.Le (hp w)) (hc : PS3 cs fc cx B) : Ret Tryz.prog 38 [.agg #[cx]] w B (KS tyC M false) := by
 refine yf Tryz.func38 rfl Tryz.ntmps38 (Nat.le_of_ble_eq_true rfl) hB ?_
 refine Z271 ?_; refine Z147 ?_; refine Z338 ?_
 refine zd2 3 tyC 7 rfl ?_
 refine zaj (fun y : Nat × List CH => [(1, .sat (At [cx] 66 0)), (3, .own (SlR tyC 7 y.2.length (y.2.flatMap ccs))), (4, .is (.int .i64 y.1))])
  (fun y => y.1 ≤ (cs.take 30).length ∧ y.2 = (cs.take y.1).map fC) (fun y => (cs.take 30).length - y.1) (0, []) ⟨Nat.zero_le _, rfl⟩ ⟨rfl, rfl, rfl, trivial⟩ ?_
 rintro ⟨i, out⟩ ⟨hi, ho⟩
 dsimp only at hi ho ⊢
 have h30 : (cs.take 30).length = min 30 cs.length := List.length_take
 have hol : out.length = i := by rw [ho, List.length_map, List.length_take]; omega
 have hfin : i = (cs.take 30).length → out = M := fun e => by
  rw [← hM, ho, e, h30]
  unfold dOf
  congr 1
  exact (List.take_eq_take_min (l := cs) (i := 30)).symm
 by_cases h1 : i < cs.length
 ·by_cases h2 : i < 30
  ·obtain ⟨⟨a, b, c⟩, hn⟩ := zae h1
   have hcc := z1j hn
   obtain ⟨ka, kb, kc⟩ := hcs _ (List.mem_of_getElem? hn)
   dsimp only at ka kb kc
   have hnx : out ++ [(zt1 a b, drB c)] = (cs.take (i + 1)).map fC := by rw [List.take_add_one, hn, List.map_append, ho]; rfl
   generalize hxx : zt1 a b = x at hnx
   generalize hdd : drB c = d at hnx
   refine Z234 ?_; refine Z181 ?_; refine zfg 7 (PS3 cs fc) rfl SlV.mono hc ?_; refine Z11 ?_; refine Z7 ?_; refine Z311 ?_; refine Z248 ?_; refine Z230 ?_; refine Z38 ?_; refine qo (yn (.inl rfl) rfl rfl rfl rfl) ?_; refine Z181 ?_; refine zfg 18 (PS3 cs fc) rfl SlV.mono hc ?_; refine Z1 ?_; refine z7 (qu L _ rfl rfl rfl rfl rfl rfl rfl (by first | omega | decide) (by assumption)) rfl ?_; refine z7 (yg L (vs := [_, _, _]) rfl rfl rfl rfl rfl ⟨_, rfl⟩) rfl ?_; refine z7 (zp L rfl rfl (zk rfl) rfl rfl rfl (fun u H hH _ _ => zxs hxx hdd ka kb kc hH)) rfl ?_; refine Z36 ?_; refine Z109 ?_; refine qo (yn (.inr rfl) rfl rfl rfl rfl) ?_; refine Z238 ?_; refine Z369 ?_
   exact yh (x := (i, out)) (i + 1, out ++ [(x, d)]) ⟨by dsimp only; omega, hnx⟩ (by dsimp only; omega) ⟨rfl, zgr rfl, rfl, trivial⟩
  ·obtain he := hfin (by omega)
   subst he
   refine Z234 ?_; refine Z181 ?_; refine zfg 7 (PS3 cs fc) rfl SlV.mono hc ?_; refine Z11 ?_; refine Z7 ?_; refine Z266 ?_; refine Z8 ?_; refine Z386 ?_
   refine zcj 3 rfl ?_
   refine Z45 ?_; refine Z4 ?_; refine Z259 ?_
   refine yd L (rs := [.tmp 2]) rfl (fun _ _ h => h) Since.refl fun u H hH hle => ?_
   exact fun v hv => hv
 ·obtain he := hfin (by omega)
  subst he
  refine Z234 ?_; refine Z181 ?_; refine zfg 7 (PS3 cs fc) rfl SlV.mono hc ?_; refine Z11 ?_; refine Z10 ?_; refine Z183 ?_; refine Z8 ?_; refine Z386 ?_
  refine zcj 3 rfl ?_
  refine Z45 ?_; refine Z4 ?_; refine Z259 ?_
  refine yd L (rs := [.tmp 2]) rfl (fun _ _ h => h) Since.refl fun u H hH hle => ?_
  exact fun v hv => hv
end Go.V.L8
set_option maxRecDepth 20000
namespace Go.V.L8
open Go.Proofs Go.RowKit Go.V Go.V.L2 Go.V.L3 Go.V.L6
theorem zm3 : ∀ {cs : List CH} {s : List U} {md : List CH}, SOK s → (∀ c ∈ cs, TZ c.1 ∧ tE c.1 = 0) → s.length + cs.length < 4096 → ∃ t made, zfe s md cs = (t, made, 0) ∧ SOK t ∧ t.length ≤ s.length + cs.length
 | [], s, md, h, _, _ => ⟨s, md, rfl, h, Nat.le_refl _⟩
 | c :: r, s, md, h, hc, hl => by
  simp only [List.length_cons] at hl
  obtain ⟨hz, h0⟩ := hc c (List.mem_cons_self ..)
  obtain ⟨h1, h2, h3⟩ := zv4 h hz h0 c.2 (by omega)
  obtain ⟨t, made, e, ht, hlt⟩ := zm3 (cs := r) (s := (zco s c.1 c.2).1) (md := if decide (c.1 ∈ s) = c.2 then md ++ [c] else md) h1 (fun x hx => hc x (List.mem_cons_of_mem _ hx)) (by omega)
  refine ⟨t, made, by rw [zfe, if_pos h2, e], ht, ?_⟩
  simp only [List.length_cons]; omega
theorem writeR_ok {s : List U} {l cs : List CH} (h1 : cE 32 l = 0) (h2 : cE 32 cs = 0) (h3 : (zev s l).2 = 0) : zd5 s l cs = zfe s [] cs := by
 unfold zd5; rw [if_pos h1, if_pos h2, if_pos h3]
end Go.V.L8
set_option maxRecDepth 20000
namespace Go.V.L8
open Go.Proofs Go.RowKit Go.V Go.V.L2 Go.V.L3 Go.V.L6
theorem _root_.Go.V.Z118 {A B : Prop} (h : B) (t : Wr B → A := by intro h; refine z8 (znw L rfl rfl rfl rfl rfl) rfl ?_; exact h.h) : A := t ⟨h⟩
theorem _root_.Go.V.Z275 {A B : Prop} (h : B) (t : Wr B → A := by intro h; refine qs ?_; refine Z166 ?_; exact h.h) : A := t ⟨h⟩
theorem _root_.Go.V.Z351 {A B : Prop} (h : B) (t : Wr B → A := by intro h; refine Z51 ?_; refine Z188 ?_; exact h.h) : A := t ⟨h⟩
attribute [local irreducible] V N X VO Par StepOK Has Ret RetL RetO RetT Src
set_option maxHeartbeats 2000000 in
theorem zuq {cs : List C3} {fc : Bool} {M : List CH} (hM : dOf cs = M) (hcs : ∀ c ∈ cs, c.1 ≤ 255 ∧ c.2.1 ≤ 255 ∧ c.2.2 ≤ 255) (lcs : cs.length ≤ 9223372036854775807)
  {cx : Value} {w : World} {B : Heap} (hB : B.Le (hp w)) (hc : PS3 cs fc cx B) : Ret Tryz.prog 37 [.agg #[cx]] w B (KS tyM M false) := by
 have lM : M.length ≤ 30 := hM ▸ zhy cs
 refine yf Tryz.func37 rfl Tryz.ntmps37 (Nat.le_of_ble_eq_true rfl) hB ?_
 refine Z271 ?_; refine Z144 ?_; refine Z29 ?_; refine Z16 ?_; refine z7 (zz L (vs := [_]) (qm rfl) rfl rfl rfl rfl ⟨_, rfl⟩) rfl ?_; refine z7 (yr (φ := KS tyC M false) L rfl rfl (zk rfl) rfl rfl rfl SlV.mono (fun u H hH hle _ => zph hM hcs lcs hH (hc.le hle))) rfl ?_; refine Z351 ?_; refine Z28 ?_; refine Z196 ?_
 refine zd2 3 tyM 7 rfl ?_
 refine zaj (fun y : Nat × List CH => [(3, .own (SlR tyM 7 y.2.length (y.2.flatMap ccs))), (4, .sat (KS tyC M false)), (5, .is (.int .i64 y.1))])
  (fun y => y.1 ≤ M.length ∧ y.2 = M.take y.1) (fun y => M.length - y.1) (0, []) ⟨Nat.zero_le _, rfl⟩ ⟨rfl, rfl, rfl, trivial⟩ ?_
 rintro ⟨i, out⟩ ⟨hi, ho⟩
 dsimp only at hi ho ⊢
 have hol : out.length = i := by rw [ho, List.length_take]; omega
 by_cases hlt : i < M.length
 ·obtain ⟨c, hc0⟩ := zae hlt
  have hcc := zii hc0
  have hnx : out ++ [c] = M.take (i + 1) := by rw [List.take_add_one, hc0, ho]; rfl
  refine Z216 ?_; refine Z195 ?_; refine Z230 ?_; refine qd (id := 6) [(15, [3]), (28, [15]), (3, [28])] mixed (by kernel_rfl) ?_; refine za3 (yn (.inl rfl) rfl rfl rfl rfl) rfl rfl ?_; refine Z198 ?_; refine z8 (qu L _ rfl rfl rfl rfl rfl rfl rfl (by first | omega | decide) (by assumption)) rfl ?_; refine z8 (zhs L rfl rfl rfl rfl) rfl ?_; refine z8 (yg L (vs := [_, _, _, _, _, _]) rfl rfl rfl rfl rfl ⟨_, rfl⟩) rfl ?_; refine Z198 ?_; refine z8 (qu L _ rfl rfl rfl rfl rfl rfl rfl (by first | omega | decide) (by assumption)) rfl ?_; refine z8 (zhs L rfl rfl rfl rfl) rfl ?_; refine Z118 ?_; refine z8 (yv (cs := [_, _, _, _, _, _, _]) rfl rfl z1q rfl rfl) rfl ?_; refine Z120 ?_; refine za3 (zce L rfl rfl rfl (zh2 rfl) rfl z39 rfl rfl (by omega) (by omega)) rfl rfl ?_; refine za3 (yn (.inr rfl) rfl rfl rfl rfl) rfl rfl ?_; refine Z275 ?_; refine Z320 ?_
  exact yh (x := (i, out)) (i + 1, out ++ [c]) ⟨hlt, hnx⟩ (by dsimp only; omega) ⟨zgr rfl, rfl, rfl, trivial⟩
 ·have he : out = M := by rw [ho]; exact List.take_of_length_le (by omega)
  subst he
  refine Z216 ?_; refine Z272 ?_
  refine zcj 3 rfl ?_
  refine Z43 ?_; refine Z4 ?_; refine Z259 ?_
  refine yd L (rs := [.tmp 2]) rfl (fun _ _ h => h) Since.refl fun u H hH hle => ?_
  exact fun v hv => hv
end Go.V.L8
set_option maxRecDepth 20000
namespace Go.V.L10
open Go.Proofs Go.RowKit Go.V Go.V.L2 Go.V.L8 Go.V.L6
structure OO where
 wh : Nat
 ms : List C3
 cs : List C3
 rv : Nat
 kp : Int
def OO.rev (o : OO) : Int := if o.rv = 255 then 18446744073709551615 else (o.rv : Int)
def doS (S : Sto) (o : OO) : Sto :=
 if o.wh % 8 < 4 then (zej S (dOf o.ms) (dOf o.cs)).1 else if o.wh % 8 < 6 then (zns S o.rev false).1 else if o.wh % 8 = 6 then (zns S o.rev true).1 else (zdb S o.kp).1
structure JJ (n : Nat) (S : Sto) : Prop where
 last : (kpt S.R S.R.length).isSome = true
 pin : ∀ r ∈ S.P, (kpt S.R r).isSome = true
 so : ∀ r t, kpt S.R r = some t → SOK t ∧ t.length ≤ 30 * S.R.length
 hR : S.R.length ≤ n + 1
 hP : S.P.length ≤ n
theorem JJ.ne {n : Nat} {S : Sto} (h : JJ n S) : S.R.length ≠ 0 := by have := zet h.last; omega
theorem JJ.I {n : Nat} {S : Sto} (h : JJ n S) (hn : n ≤ 100) : z26 S := ⟨h.last, Nat.le_trans (zef _) (by have := h.hR; omega), h.pin, fun r t ht => by have := (h.so r t ht).2; have := h.hR; omega⟩
theorem JJ.mono {n m : Nat} {S : Sto} (h : JJ n S) (hm : n ≤ m) : JJ m S := ⟨h.last, h.pin, h.so, Nat.le_trans h.hR (by omega), Nat.le_trans h.hP hm⟩
theorem JJ.ss {n : Nat} {S : Sto} (h : JJ n S) : ∀ r t, kpt S.R r = some t → Sst zbd t ∧ ∀ x ∈ t, TZ x := fun r t ht => ⟨(h.so r t ht).1.sst, (h.so r t ht).1.tz⟩
theorem JJ.pos {n : Nat} {S : Sto} (h : JJ n S) : ∀ x ∈ S.P, 0 < x := fun x hx => (zet (h.pin x hx)).1
theorem zu8 : JJ 0 newS := ⟨rfl, fun _ h => (by cases h), fun r t h => by
 have hr := zet (R := newS.R) (r := r) (by rw [h]; rfl)
 have h1 : newS.R.length = 1 := rfl
 have : r = ((0 + 1 : Nat) : Int) := by omega
 subst this
 have h2 : kpt newS.R ((0 + 1 : Nat) : Int) = some [] := by rw [zfr]; rfl
 rw [h2] at h
 cases h
 exact ⟨⟨Sst.nil, fun _ h => (by cases h), fun _ h => (by cases h)⟩, Nat.zero_le _⟩, Nat.le_refl _, Nat.le_refl _⟩
theorem zyx (cs : List C3) : ∀ c ∈ dOf cs, TZ c.1 ∧ tE c.1 = 0 := fun c hc => by
 unfold dOf at hc
 obtain ⟨x, _, rfl⟩ := List.mem_map.1 hc
 exact ⟨zt0 _ _, zzz _ _⟩
theorem zzf {t : U} (h : TZ t) : TM t := by
 unfold TZ at h; unfold TM; omega
theorem zq1 (cs : List C3) : ∀ c ∈ dOf cs, TM c.1 := fun c hc => zzf (zyx cs c hc).1
theorem writeR_ok {s : List U} {l cs : List CH} {t : List U} {made : List CH} (h : zd5 s l cs = (t, made, 0)) (hs : SOK s) (hc : ∀ c ∈ cs, TZ c.1 ∧ tE c.1 = 0) (hl : s.length + cs.length < 4096) : SOK t ∧ t.length ≤ s.length + cs.length := by
 obtain ⟨t2, m2, h2, h3, h4⟩ := zm3 (md := []) hs hc hl
 unfold zd5 at h
 split at h
 ·split at h
  ·split at h
   ·rw [h2] at h; cases h; exact ⟨h3, h4⟩
   ·rename_i h1; exact absurd (congrArg (·.2.2) h) h1
  ·rename_i h1; exact absurd (congrArg (·.2.2) h) h1
 ·rename_i h1; exact absurd (congrArg (·.2.2) h) h1
theorem zxx {S : Sto} {t : List U} (h : kpt S.R S.R.length = some t) : atS S 0 = (t, 0) := by unfold atS; rw [if_pos rfl, h]
theorem zqt {n : Nat} {S : Sto} (h : JJ n S) (hn : n ≤ 100) {l cs : List CH} (hc : ∀ c ∈ cs, TZ c.1 ∧ tE c.1 = 0) (hcl : cs.length ≤ 30) : JJ (n + 1) (zej S l cs).1 := by
 obtain ⟨t0, ht0⟩ : ∃ t0, kpt S.R S.R.length = some t0 := Option.isSome_iff_exists.1 h.last
 obtain ⟨⟨t1, made, e1⟩, hwr⟩ : ∃ x, zd5 t0 l cs = x := ⟨_, rfl⟩
 unfold zej
 rw [zxx ht0, hwr]
 dsimp only
 by_cases he : e1 = 0
 ·subst he
  rw [if_pos rfl]
  split
  ·exact h.mono (Nat.le_succ _)
  ·have h0 := h.so _ _ ht0
   have hR := h.hR
   have h1 := writeR_ok hwr h0.1 hc (by omega)
   have hln : (S.R ++ [some t1]).length = S.R.length + 1 := by rw [List.length_append]; rfl
   refine ⟨?_, fun r hr => ?_, fun r t ht => ?_, ?_, Nat.le_succ_of_le h.hP⟩
   ·dsimp only; rw [hln, ziu, if_pos rfl]; rfl
   ·dsimp only; rw [ziu]
    split
    ·rfl
    ·exact h.pin r hr
   ·dsimp only at ht ⊢
    rw [ziu] at ht
    rw [hln]
    split at ht
    ·cases ht; exact ⟨h1.1, by omega⟩
    ·have h2 := h.so r t ht; exact ⟨h2.1, by omega⟩
   ·dsimp only; omega
 ·rw [if_neg he]; exact h.mono (Nat.le_succ _)
theorem zu7 {n : Nat} {S : Sto} (h : JJ n S) (r : Int) (un : Bool) : JJ (n + 1) (zns S r un).1 := by
 unfold zns
 by_cases hk : (kpt S.R r).isSome = true
 ·rw [if_pos hk]
  cases un with
  | true =>
   rw [if_pos rfl]
   split
   ·refine ⟨h.last, fun x hx => h.pin x ?_, h.so, Nat.le_succ_of_le h.hR, ?_⟩
    ·dsimp only at hx
     unfold zfi at hx
     split at hx
     ·cases hx
     ·exact List.mem_of_mem_erase hx
    ·dsimp only
     unfold zfi
     split
     ·exact Nat.zero_le _
     ·exact Nat.le_trans (List.length_erase_le ..) (Nat.le_succ_of_le h.hP)
   ·exact h.mono (Nat.le_succ _)
  | false =>
   rw [if_neg (by decide)]
   refine ⟨h.last, fun x hx => ?_, h.so, Nat.le_succ_of_le h.hR, ?_⟩
   ·rcases List.mem_append.1 hx with hx | hx
    ·exact h.pin x hx
    ·rw [List.mem_singleton.1 hx]; exact hk
   ·have := h.hP; dsimp only; rw [List.length_append, List.length_singleton]; omega
 ·rw [if_neg hk]; exact h.mono (Nat.le_succ _)
theorem zr5 {S : Sto} {k : Nat} (hk : 1 ≤ k) : ((S.R.length : Nat) : Int) ∉ zc9 S.P (zbj S.R) k := fun hm => by
 unfold zc9 at hm
 have h1 := (List.mem_filter.1 hm).1
 obtain ⟨i, hi⟩ := List.getElem?_of_mem h1
 have hil : i < (zbj S.R).length - k := by have := get_lt hi; rw [List.length_take] at this; omega
 rw [List.getElem?_take_of_lt hil] at hi
 obtain ⟨y, hy⟩ := zae (show i + 1 < (zbj S.R).length by omega)
 have h3 := List.pairwise_iff_getElem.1 (zja S.R) i (i + 1) (get_lt hi) (get_lt hy) (Nat.lt_succ_self i)
 rw [zd0 hi, zd0 hy, zxv] at h3
 have := zet (zeq.1 (List.mem_of_getElem? hy))
 omega
theorem zn9 {P0 : List Int} {R : List (Option (List U))} {k : Nat} {g : Int} (hg : g ∈ zc9 P0 (zbj R) k) : (kpt R g).isSome = true ∧ g ∉ P0 := by
 unfold zc9 at hg
 have h1 := List.mem_filter.1 hg
 exact ⟨zeq.1 (List.mem_of_mem_take h1.1), fun hm => by have := List.count_pos_iff.2 hm; have h2 := h1.2; simp at h2; omega⟩
theorem zu9 {n : Nat} {S : Sto} (h : JJ n S) (keep : Int) : JJ (n + 1) (zdb S keep).1 := by
 unfold zdb
 split
 ·rename_i hk
  have hp : ∀ g ∈ zc9 S.P (zbj S.R) keep.toNat, 0 < g := fun g hg => (zet (zn9 hg).1).1
  refine ⟨?_, fun r hr => ?_, fun r t ht => ?_, ?_, Nat.le_succ_of_le h.hP⟩
  ·dsimp only; rw [zdz, ziv hp, if_neg (zr5 (by omega))]; exact h.last
  ·dsimp only; rw [ziv hp, if_neg (fun hm => (zn9 hm).2 hr)]; exact h.pin r hr
  ·dsimp only at ht ⊢
   rw [ziv hp] at ht
   rw [zdz]
   split at ht
   ·cases ht
   ·exact h.so r t ht
  ·dsimp only; rw [zdz]; exact Nat.le_succ_of_le h.hR
 ·exact h.mono (Nat.le_succ _)
theorem z35 {n : Nat} {S : Sto} (h : JJ n S) (hn : n ≤ 100) (o : OO) : JJ (n + 1) (doS S o) := by
 unfold doS
 split
 ·exact zqt h hn (zyx _) (zhy _)
 ·split
  ·exact zu7 h _ _
  ·split
   ·exact zu7 h _ _
   ·exact zu9 h _
end Go.V.L10
set_option maxRecDepth 20000
namespace Go.V
open Go.RowKit
def z3h {V : Type} (m : Nat) (kd : IntKind) (vc : V → Value) (l left : List (Int × V)) (p : Int × V) : Res where
 P x _ u C := ∃ (i : Nat) (es : Array MapEntry) (ck since : Nat) (seen : Array Nat) (e : MapEntry), x = .pointer (some ⟨i, 0, none⟩) ∧ i ≠ m ∧ u.heap[m]? = some (.map es ck) ∧ MiE kd vc l es.toList ∧ Brn es.toList ck ∧ u.heap[i]? = some (.mapIter (some m) since (seen.push e.born) ck) ∧
  (∀ e ∈ es.toList, e.born < since) ∧ since ≤ ck ∧ MiE kd vc left (leftOf es (seen.push e.born)).toList ∧ e ∈ es.toList ∧ e.key = .int kd p.1 ∧ e.val = vc p.2 ∧ ∀ k, C k ↔ k = m ∨ k = i
 st := fun ⟨i, es, ck, since, seen, e, h1, h2, h3, h4, h5, h6, h7, h8, h9, h10, h11, h12, hC⟩ _ _ _ hk => ⟨i, es, ck, since, seen, e, h1, h2, (hk m ((hC m).2 (.inl rfl))).trans h3, h4, h5, (hk i ((hC i).2 (.inr rfl))).trans h6, h7, h8, h9, h10, h11, h12, hC⟩
theorem z1g {V : Type} {m : Nat} {kd : IntKind} {vc : V → Value} {l left : List (Int × V)} {p : Int × V} {B : Heap} : ∀ v H u C, B.Le H → (z3h m kd vc l left p).P v H u C → (zya m kd vc l left).P v H u C :=
 fun _ _ _ _ _ ⟨i, es, ck, since, seen, e, h1, h2, h3, h4, h5, h6, h7, h8, h9, _, _, _, hC⟩ => ⟨i, es, ck, since, seen.push e.born, ck, h1, h2, h3, h4, h5, h6, h7, h8, h8, h9, hC⟩
theorem zw3 {es : Array MapEntry} {seen : Array Nat} {j : Nat} {e : MapEntry} (h : (leftOf es seen)[j]? = some e) : e ∈ es.toList := by
 have h1 : e ∈ leftOf es seen := Array.mem_of_getElem? h
 unfold leftOf at h1
 rw [Array.mem_filter] at h1
 exact Array.mem_toList_iff.2 h1.1
theorem zvf {es : List MapEntry} (hn : (es.map (·.born)).Nodup) {e : MapEntry} (he : e ∈ es) : es.find? (fun x => x.born == e.born) = some e := by
 induction es with
 | nil => cases he
 | cons x es ih =>
  rw [List.map_cons, List.nodup_cons] at hn
  rw [List.find?_cons]
  rcases List.mem_cons.1 he with h | h
  ·subst h; simp
  ·have hne : x.born ≠ e.born := fun h2 => hn.1 (h2 ▸ List.mem_map_of_mem (f := (·.born)) h)
   have : (x.born == e.born) = false := by simpa using hne
   rw [this]
   exact ih hn.2 h
section
variable {P : Program} {F : Fr} {B : Heap} {O : Boxes} {n : Nat} {ops : Array Oper} {κ : Kap} {d : Nat} {ty : TypeId} {pos : String} {aft : Array Edge} {g : Option (Nat × Bool)} {a : Act} {u : World} {H : Heap} {os : List Oper} {Q : Exit → Act → World → Prop}
variable {Y : Type} {kd : IntKind} {vc : Y → Value} {l left : List (Int × Y)}
theorem zv5 {q m d : Nat} {o : Oper} (ho : o = ⟨some d, .next (.tmp q) false, ty, pos, aft, g⟩) (hq : κ q = some (.own (zya m kd vc l left))) (hl : left ≠ []) (hn : Nat.blt d n = true) (hdq : Nat.beq q d = false) (hg : gK ops κ o = some true)
  (h : ∀ (j : Nat) (p : Int × Y), left[j]? = some p → VO P F B n O ops (upd (upd κ q (.own (z3h m kd vc l (left.eraseIdx j) p))) d (.is (.tuple #[.bool true, .int kd p.1, vc p.2]))) os Q) : VO P F B n O ops κ (o :: os) Q := fun a u hh => by
 subst ho
 obtain ⟨H, fp, hh⟩ := hh
 obtain ⟨⟨i, es, ck, since, seen, last, h1, h2, h3, h4, h5, h6, h7, h8, h9, h10, hC⟩, hM⟩ := hh.slot q _ hq
 show After P ops _ _ a u
 unfold After
 rw [if_pos (zaf hh (fun _ _ => rfl) hg)]
 rcases znk (P := P) (ty := ty) h3 h6 h7 h8 with ⟨hz, _⟩ | ⟨j, e, he, u1, hu1, hr⟩
 ·exfalso
  have := congrArg List.length h10
  simp [hz] at this
  exact hl (List.eq_nil_of_length_eq_zero this.symm)
 ·have hrun : (execOp a.eval ⟨some d, .next (.tmp q) false, ty, pos, aft, g⟩).run P u = .ok (.value (.tuple #[.bool true, e.key, e.val])) (u1.putObj i (.mapIter (some m) since (seen.push e.born) ck)) := by
   simp only [execOp, h1, Sem.run_bind, hr, Result.andThen_ok]
   rfl
  rw [hrun]
  simp only [Upon]
  obtain ⟨p, hp, hk1, hv1⟩ := z15 h10 (by rw [Array.getElem?_toList]; exact he)
  rw [hk1, hv1]
  have him := hM i ((hC i).2 (.inr rfl))
  have hsub : H.Le (Go.V.hp u1) := by rcases hu1 with rfl | rfl <;> exact hh.sub
  have hgr : Grow (fp q) u H (u1.putObj i (.mapIter (some m) since (seen.push e.born) ck)) H := by
   have g1 := zkb (u := u1) (L := fp q) (o := .mapIter (some m) since (seen.push e.born) ck) hsub ((hC i).2 (.inr rfl)) him.2.1
   rcases hu1 with rfl | rfl
   ·exact g1
   ·exact ⟨⟨g1.keep.os, g1.keep.tape, g1.keep.output, g1.keep.size, g1.keep.block, Nat.le_trans (Nat.le_succ _) g1.keep.dr⟩, g1.sub, g1.le, g1.fresh⟩
  have hmm : u1.heap[m]? = some (.map es ck) := by rcases hu1 with rfl | rfl <;> exact h3
  have hsz : i < u1.heap.size := by rcases hu1 with rfl | rfl <;> exact him.1
  have h5' := hh.usePut (d := q) (a' := a) (r' := z3h m kd vc l (left.eraseIdx j) p) (C := fun k => k = m ∨ k = i) hq hgr rfl rfl (fun _ _ => rfl)
   ⟨i, es, ck, since, seen, e, h1, h2, by rw [World.putObj_heap_other (Ne.symm h2)]; exact hmm, h4, h5, World.putObj_heap_same hsz, h7, h9, by rw [zr3 h5 he]; exact zn1 h10 j, zw3 he, hk1, hv1, fun _ => Iff.rfl⟩
   (fun k hk => by
    have hkC : fp q k := (hC k).2 hk
    refine ⟨.inl hkC, ?_, (hM k hkC).2.1⟩
    rw [World.putObj_size]
    rcases hu1 with rfl | rfl <;> exact (hM k hkC).1)
  rw [za6] at h5'
  exact h j p hp _ _ ⟨H, _, h5'.put (k := .is _) (zk hn) trivial rfl⟩
theorem zug {q m : Nat} {p : Int × Y} (hq : κ q = some (.own (z3h m kd vc l left p))) (hn : Nat.blt d n = true) (hg : gK ops κ ⟨some d, .entry (.tmp q), ty, pos, aft, g⟩ = some true) :
  StepOK P F B n ops O κ ⟨some d, .entry (.tmp q), ty, pos, aft, g⟩ d (.is (.tuple #[.int kd p.1, vc p.2])) :=
 zaw rfl (zk hn) hg trivial fun a u H fp e => by
  obtain ⟨⟨i, es, ck, since, seen, x, h1, h2, h3, h4, h5, h6, h7, h8, h9, h10, h11, h12, hC⟩, hM⟩ := e.own_ q _ (by simp [Op.operands]) hq
  refine ⟨_, ?_, rfl⟩
  have hf := zvf h5.nd h10
  have hf2 : es.find? (fun y => y.born == x.born) = some x := by rw [← Array.find?_toList]; exact hf
  simp only [execOp, h1, Instr.entry, getObj, Sem.run_bind, Sem.run, h6, Result.andThen, Array.back?_push, h3, bne_self_eq_false, Bool.false_eq_true, if_false, hf2, h11, h12]
  rfl
theorem zrs {x y z : Operand} {q b : Nat} {t kt et : TypeId} (k : Int) (v : Y) {zv : Value} {l' : List (Int × Y)} (ht : P.underlying t = some (.map kt et)) (hkt : P.underlying kt = some (.int kd))
  (hx : evK κ x = some (.map (some b))) (hq : κ q = some (.own (zls b kd vc l))) (hy : evK κ y = some (.int kd k)) (hz : evK κ z = some zv) (hzv : vc v = zv) (hg : gK ops κ ⟨none, .insert t x y z, ty, pos, aft, g⟩ = some true)
  (hl' : zqg k v l = l') :
  zfx P F B n ops O κ ⟨none, .insert t x y z, ty, pos, aft, g⟩ q (.own (zls b kd vc l')) := by
 rintro κ' a u hlk hqk ⟨H, fp, hh⟩
 subst hl' hzv
 unfold After
 rw [if_pos (zaf hh hlk hg)]
 have e := hh.env hlk
 have h1 := e.is_ x _ (by simp [Op.operands]) hx
 have h2 := e.is_ y _ (by simp [Op.operands]) hy
 have h3 := e.is_ z _ (by simp [Op.operands]) hz
 have hqs := hqk.trans hq
 obtain ⟨⟨⟨es, ck, hb, he, hbn⟩, hC⟩, hM⟩ := hh.slot q _ hqs
 obtain ⟨es', ck', hr, he', hb'⟩ := zga ht hkt hb he hbn k v
 have hrun : (execOp a.eval ⟨none, .insert t x y z, ty, pos, aft, g⟩).run P u = .ok .skip (u.putObj b (.map es' ck')) := by
  simp only [execOp, h1, h2, h3, Sem.run_bind, hr, Result.andThen_ok]
  rfl
 rw [hrun]
 simp only [Upon, Act.put]
 exact ⟨H, _, hh.turnMap hqs he' hb'⟩
end
end Go.V
set_option maxRecDepth 20000
namespace Go.V.So
open Go.Proofs Go.RowKit Go.V Go.Sort
theorem _root_.Go.V.Z241 {A B : Prop} (h : B) (t : Wr B → A := by intro h; refine Z145 ?_; refine Z58 ?_; exact h.h) : A := t ⟨h⟩
theorem _root_.Go.V.Z267 {A B : Prop} (h : B) (t : Wr B → A := by intro h; refine Z204 ?_; refine Z164 ?_; exact h.h) : A := t ⟨h⟩
abbrev lt : Int → Int → Bool := ltInt
abbrev tyU : TypeId := 49
attribute [local irreducible] V N X VO Par StepOK Has Ret RetL RetO zcb zdt Src
theorem isnanU (a : Int) {w : World} {B : Heap} (hB : B.Le (hp w)) : Ret Tryz.prog 153 [.int .u64 a] w B (fun v _ => v = .bool false) := by
 refine yf Tryz.func153 rfl Tryz.ntmps153 (Nat.le_of_ble_eq_true rfl) hB ?_
 refine Z186 ?_; refine Z140 ?_; refine Z21 ?_; refine Z138 ?_
 refine yd L (rs := [.tmp 2]) rfl (fun _ _ h => h) Since.refl fun u H hH hle => ?_
 rfl
theorem z3w (a b : Int) {w : World} {B : Heap} (hB : B.Le (hp w)) : Ret Tryz.prog 107 [.int .u64 a, .int .u64 b] w B (fun v _ => v = .bool (lt a b)) := by
 unfold lt ltInt
 refine yf Tryz.func107 rfl Tryz.ntmps107 (Nat.le_of_ble_eq_true rfl) hB ?_
 by_cases h : a < b
 ·rw [decide_eq_true h]
  refine Z293 ?_; refine z7 (zp L rfl rfl (zk rfl) rfl rfl rfl (fun u H hH _ _ => isnanU _ hH)) rfl ?_; refine Z254 ?_; refine Z174 ?_; refine Z7 ?_; refine Z8 ?_; refine Z138 ?_
  refine yd L (rs := [.tmp 4]) rfl (fun _ _ h => h) Since.refl fun u H hH hle => ?_
  rfl
 ·rw [decide_eq_false h]
  refine Z293 ?_; refine z7 (zp L rfl rfl (zk rfl) rfl rfl rfl (fun u H hH _ _ => isnanU _ hH)) rfl ?_; refine Z254 ?_; refine Z174 ?_; refine Z10 ?_; refine Z8 ?_; refine Z138 ?_
  refine yd L (rs := [.tmp 4]) rfl (fun _ _ h => h) Since.refl fun u H hH hle => ?_
  rfl
theorem zbc {a b : Int} {f : Bool} (h : lt a b = f) {w : World} {B : Heap} (hB : B.Le (hp w)) : Ret Tryz.prog 107 [.int .u64 a, .int .u64 b] w B (fun v _ => v = .bool f) := h ▸ z3w a b hB
set_option maxHeartbeats 1000000 in
set_option maxRecDepth 20000 in
theorem ins_ret {d : Array Int} {rest : List Value} {b m cap a e : Nat} (hab : a ≤ e) (he : e ≤ d.size) (hm : d.size = m) (hm1 : m ≤ 100000) {w : World} {B : Heap} {C : Nat → Prop} (hB : B.Le (hp w))
  (hr : (zab b (uC d ++ rest) tyU).P B w C) (hC : ∀ k, C k → k < w.heap.size ∧ B k = none) :
  zcb Tryz.prog 101 [.slice (some ⟨b, 0, none⟩) m cap, .int .i64 a, .int .i64 e] w B C (zab b (uC (insertionSort lt d a e) ++ rest) tyU) := by
 unfold zcb
 refine zas 900 (zab b (uC d ++ rest) tyU) Tryz.func101 rfl Tryz.ntmps101 (Nat.le_of_ble_eq_true rfl) hB hr hC ?_
 rw [za1]
 have hw0 : IntKind.i64.wrap ((a : Int) + 1) = ((a + 1 : Nat) : Int) := zaa (by omega) (by omega)
 refine Z146 ?_; refine Z1 ?_; refine Z17 ?_; refine Z196 ?_
 refine zaj (fun s : Nat × Array Int => [(0, .is (.slice (some ⟨b, 0, none⟩) m cap)), (1, .is (.int .i64 a)), (2, .is (.int .i64 e)), (6, .is (.int .i64 s.1)), (900, .own (zal b (uC s.2 ++ rest) tyU))]) (fun s => s.1 ≤ e + 1 ∧ a < s.1 ∧ s.2.size = m ∧ insOuter lt a e s.1 s.2 = insertionSort lt d a e) (fun s => e + 1 - s.1) (a + 1, d) ⟨by omega, by omega, hm, rfl⟩ ⟨rfl, rfl, rfl, rfl, rfl, trivial⟩ ?_
 rintro ⟨i, D⟩ ⟨hi, hai, hD, hO⟩
 dsimp only at hi hai hD hO ⊢
 by_cases hlt : i < e
 ·rw [insOuter, if_pos hlt] at hO
  refine Z139 ?_; refine Z20 ?_; refine Z140 ?_; refine Z176 ?_; refine Z170 ?_; refine Z171 ?_; refine Z196 ?_
  refine zaj (fun t : Nat × Array Int => [(0, .is (.slice (some ⟨b, 0, none⟩) m cap)), (1, .is (.int .i64 a)), (2, .is (.int .i64 e)), (6, .is (.int .i64 i)), (7, .is (.int .i64 t.1)), (900, .own (zal b (uC t.2 ++ rest) tyU))]) (fun t => t.1 ≤ i ∧ t.2.size = m ∧ insInner lt a t.1 t.2 = insInner lt a i D) (fun t => t.1) (i, D) ⟨Nat.le_refl _, hD, rfl⟩ ⟨rfl, rfl, rfl, rfl, rfl, rfl, trivial⟩ ?_
  rintro ⟨j, E⟩ ⟨hj, hE, hI⟩
  dsimp only at hj hE hI ⊢
  rcases j with _ | j
  ·rw [insInner] at hI
   rw [hI]
   refine Z139 ?_; refine Z98 ?_; refine Z145 ?_; refine Z93 ?_; refine Z295 ?_; refine Z267 ?_; refine Z166 ?_; refine Z175 ?_; refine Z197 ?_
   exact yh (x := (i, D)) (i + 1, insInner lt a i D) ⟨by dsimp only; omega, by dsimp only; omega, by dsimp only; rw [← hI]; exact hE, hO⟩ (by dsimp only; omega) ⟨rfl, rfl, rfl, rfl, rfl, trivial⟩
  ·by_cases hja : a < j + 1
   ·have hw1 : IntKind.i64.wrap (((j + 1 : Nat) : Int) - 1) = (j : Int) := zaa (by omega) (by omega) |>.trans (by omega)
    obtain ⟨r1, q1⟩ := zcy (rest := rest) (show j + 1 < E.size by omega) (0 + (j + 1) * 1) rfl
    obtain ⟨r2, q2⟩ := zcy (rest := rest) (show j < E.size by omega) (0 + j * 1) rfl
    cases hc : lt E[j + 1]! E[j]! with
    | true =>
     rw [insInner, if_pos (by rw [hc]; simp; omega)] at hI
     have s1 := zb9 (rest := rest) E[j]! (show j + 1 < E.size by omega) (0 + (j + 1) * 1) rfl
     have b1 := zca (rest := rest) (show j + 1 < E.size by omega) (0 + (j + 1) * 1) rfl
     have hz : j < (E.setIfInBounds (j + 1) E[j]!).size := by rw [Array.size_setIfInBounds]; omega
     have s2 := zb9 (rest := rest) E[j + 1]! hz (0 + j * 1) rfl
     have b2 := zca (rest := rest) hz (0 + j * 1) rfl
     rw [zc5] at s2
     refine Z139 ?_; refine qd (id := 4) [(200023, [900]), (200028, [900])] mixed (by kernel_rfl) ?_; refine Z145 ?_; refine Z88 ?_; refine Z179 ?_; refine z8 (qg L _ rfl rfl rfl rfl rfl rfl rfl (by omega)) rfl ?_; refine qn (qp L (q := 900) rfl rfl rfl rfl rfl q1) rfl rfl ?_; refine Z241 ?_; refine z8 (qg L _ rfl rfl rfl rfl rfl rfl rfl (by omega)) rfl ?_; refine qn (qp L (q := 900) rfl rfl rfl rfl rfl q2) rfl rfl ?_; refine z8 (zp L rfl rfl (zk rfl) rfl rfl rfl (fun u H hH _ _ => zbc hc hH)) rfl ?_; refine Z264 ?_; refine Z230 ?_; refine qd (id := 6) [(200042, [900]), (200046, [900]), (100047, [900]), (100048, [900])] mixed (by kernel_rfl) ?_; refine Z145 ?_; refine Z241 ?_; refine Z241 ?_; refine z8 (qg L _ rfl rfl rfl rfl rfl rfl rfl (by omega)) rfl ?_; refine qn (qp L (q := 900) rfl rfl rfl rfl rfl q2) rfl rfl ?_; refine Z145 ?_; refine z8 (qg L _ rfl rfl rfl rfl rfl rfl rfl (by omega)) rfl ?_; refine qn (qp L (q := 900) rfl rfl rfl rfl rfl q1) rfl rfl ?_; refine z8 (qg L _ rfl rfl rfl rfl rfl rfl rfl (by omega)) rfl ?_; refine yy (yw L (q := 900) rfl rfl rfl rfl rfl rfl b1 rfl s1) rfl ?_; refine z8 (qg L _ rfl rfl rfl rfl rfl rfl rfl (by omega)) rfl ?_; refine yy (yw L (q := 900) rfl rfl rfl rfl rfl rfl b2 rfl s2) rfl ?_; refine Z275 ?_; refine Z180 ?_; refine Z26 ?_; refine Z152 ?_
     exact yh (x := (j + 1, E)) (j, swp E (j + 1) j) ⟨by dsimp only; omega, by dsimp only; rw [zbm]; exact hE, hI⟩ (by dsimp only; omega) ⟨rfl, rfl, rfl, rfl, rfl, rfl, trivial⟩
    | false =>
     rw [insInner, if_neg (by rw [hc]; simp)] at hI
     refine Z139 ?_; refine qd (id := 4) [(200023, [900]), (200028, [900])] mixed (by kernel_rfl) ?_; refine Z145 ?_; refine Z88 ?_; refine Z179 ?_; refine z8 (qg L _ rfl rfl rfl rfl rfl rfl rfl (by omega)) rfl ?_; refine qn (qp L (q := 900) rfl rfl rfl rfl rfl q1) rfl rfl ?_; refine Z241 ?_; refine z8 (qg L _ rfl rfl rfl rfl rfl rfl rfl (by omega)) rfl ?_; refine qn (qp L (q := 900) rfl rfl rfl rfl rfl q2) rfl rfl ?_; refine z8 (zp L rfl rfl (zk rfl) rfl rfl rfl (fun u H hH _ _ => zbc hc hH)) rfl ?_; refine Z267 ?_; refine Z166 ?_
     rw [hI]
     refine Z175 ?_; refine Z197 ?_
     exact yh (x := (i, D)) (i + 1, insInner lt a i D) ⟨by dsimp only; omega, by dsimp only; omega, by dsimp only; rw [← hI]; exact hE, hO⟩ (by dsimp only; omega) ⟨rfl, rfl, rfl, rfl, rfl, trivial⟩
   ·rw [insInner, if_neg (by simp; omega)] at hI
    rw [hI]
    refine Z139 ?_; refine Z98 ?_; refine Z145 ?_; refine Z93 ?_; refine Z295 ?_; refine Z267 ?_; refine Z166 ?_; refine Z175 ?_; refine Z197 ?_
    exact yh (x := (i, D)) (i + 1, insInner lt a i D) ⟨by dsimp only; omega, by dsimp only; omega, by dsimp only; rw [← hI]; exact hE, hO⟩ (by dsimp only; omega) ⟨rfl, rfl, rfl, rfl, rfl, trivial⟩
 ·rw [insOuter, if_neg hlt] at hO
  subst hO
  refine Z139 ?_; refine Z20 ?_; refine Z266 ?_; refine Z172 ?_
  exact zba L 900 (r := zab b _ tyU) rfl (fun _ _ h => h) Since.refl rfl rfl
end Go.V.So
set_option maxRecDepth 20000
namespace Go.V.So
open Go.Proofs Go.RowKit Go.V Go.Sort
theorem _root_.Go.V.Z52 {A B : Prop} (h : B) (t : Wr B → A := by intro h; refine z7 (zub rfl rfl rfl rfl (zaa (by omega) (by omega))) rfl ?_; exact h.h) : A := t ⟨h⟩
theorem _root_.Go.V.Z112 {A B : Prop} (h : B) (t : Wr B → A := by intro h; refine qd (id := 5) [(200044, [900]), (200050, [900])] mixed (by kernel_rfl) ?_; exact h.h) : A := t ⟨h⟩
theorem _root_.Go.V.Z123 {A B : Prop} (h : B) (t : Wr B → A := by intro h; refine qd (id := 6) [(200066, [900]), (200072, [900]), (100073, [900]), (100074, [900])] mixed (by kernel_rfl) ?_; exact h.h) : A := t ⟨h⟩
theorem _root_.Go.V.Z130 {A B : Prop} (h : B) (t : Wr B → A := by intro h; refine qd (id := 3) [(200027, [900]), (200034, [900])] mixed (by kernel_rfl) ?_; exact h.h) : A := t ⟨h⟩
theorem _root_.Go.V.Z205 {A B : Prop} (h : B) (t : Wr B → A := by intro h; refine Z179 ?_; refine Z32 ?_; exact h.h) : A := t ⟨h⟩
theorem _root_.Go.V.Z208 {A B : Prop} (h : B) (t : Wr B → A := by intro h; refine Z140 ?_; refine Z26 ?_; exact h.h) : A := t ⟨h⟩
theorem _root_.Go.V.Z222 {A B : Prop} (h : B) (t : Wr B → A := by intro h; refine Z52 ?_; refine Z17 ?_; exact h.h) : A := t ⟨h⟩
theorem _root_.Go.V.Z228 {A B : Prop} (h : B) (t : Wr B → A := by intro h; refine Z1 ?_; refine Z26 ?_; exact h.h) : A := t ⟨h⟩
theorem _root_.Go.V.Z290 {A B : Prop} (h : B) (t : Wr B → A := by intro h; refine Z149 ?_; refine zh ?_; exact h.h) : A := t ⟨h⟩
theorem _root_.Go.V.Z300 {A B : Prop} (h : B) (t : Wr B → A := by intro h; refine Z145 ?_; refine Z145 ?_; exact h.h) : A := t ⟨h⟩
theorem _root_.Go.V.Z327 {A B : Prop} (h : B) (t : Wr B → A := by intro h; refine Z147 ?_; refine Z171 ?_; exact h.h) : A := t ⟨h⟩
theorem _root_.Go.V.Z352 {A B : Prop} (h : B) (t : Wr B → A := by intro h; refine Z151 ?_; refine Z286 ?_; exact h.h) : A := t ⟨h⟩
theorem _root_.Go.V.Z398 {A B : Prop} (h : B) (t : Wr B → A := by intro h; refine Z176 ?_; refine Z227 ?_; exact h.h) : A := t ⟨h⟩
attribute [local irreducible] V N X VO Par StepOK Has Ret RetL RetO zcb zdt Src
set_option maxHeartbeats 1000000 in
set_option maxRecDepth 20000 in
theorem rev_ret {d : Array Int} {rest : List Value} {b m cap a e : Nat} (hab : a < e) (he : e ≤ d.size) (hm : d.size = m) (hm1 : m ≤ 100000) {w : World} {B : Heap} {C : Nat → Prop} (hB : B.Le (hp w))
  (hr : (zab b (uC d ++ rest) tyU).P B w C) (hC : ∀ k, C k → k < w.heap.size ∧ B k = none) :
  zcb Tryz.prog 105 [.slice (some ⟨b, 0, none⟩) m cap, .int .i64 a, .int .i64 e] w B C (zab b (uC (reverseRange d a e) ++ rest) tyU) := by
 unfold zcb
 refine zas 900 (zab b (uC d ++ rest) tyU) Tryz.func105 rfl Tryz.ntmps105 (Nat.le_of_ble_eq_true rfl) hB hr hC ?_
 rw [za1]
 have hw0 : IntKind.i64.wrap ((e : Int) - 1) = ((e - 1 : Nat) : Int) := zaa (by omega) (by omega) |>.trans (by omega)
 refine Z146 ?_; refine Z1 ?_; refine Z159 ?_; refine Z228 ?_; refine Z196 ?_
 refine zaj (fun s : (Nat × Nat) × Array Int => [(0, .is (.slice (some ⟨b, 0, none⟩) m cap)), (6, .is (.int .i64 s.1.1)), (7, .is (.int .i64 s.1.2)), (900, .own (zal b (uC s.2 ++ rest) tyU))]) (fun s => s.1.1 ≤ m ∧ s.1.2 < m ∧ s.2.size = m ∧ reverseLoop s.1.1 s.1.2 s.2 = reverseRange d a e) (fun s => s.1.2 - s.1.1) ((a, e - 1), d) ⟨by dsimp only; omega, by dsimp only; omega, hm, rfl⟩ ⟨rfl, rfl, rfl, rfl, trivial⟩ ?_
 rintro ⟨⟨i, j⟩, E⟩ ⟨hi, hj, hE, hO⟩
 dsimp only at hi hj hE hO ⊢
 by_cases hlt : i < j
 ·rw [reverseLoop, if_pos hlt] at hO
  have hw1 : IntKind.i64.wrap ((i : Int) + 1) = ((i + 1 : Nat) : Int) := zaa (by omega) (by omega)
  have hw2 : IntKind.i64.wrap ((j : Int) - 1) = ((j - 1 : Nat) : Int) := zaa (by omega) (by omega) |>.trans (by omega)
  obtain ⟨_, qj⟩ := zcy (rest := rest) (show j < E.size by omega) (0 + (j) * 1) rfl
  obtain ⟨_, qi⟩ := zcy (rest := rest) (show i < E.size by omega) (0 + (i) * 1) rfl
  have s1 := zb9 (rest := rest) E[j]! (show i < E.size by omega) (0 + (i) * 1) rfl
  have b1 := zca (rest := rest) (show i < E.size by omega) (0 + (i) * 1) rfl
  have hz : j < (E.setIfInBounds (i) E[j]!).size := by rw [Array.size_setIfInBounds]; omega
  have s2 := zb9 (rest := rest) E[i]! hz (0 + (j) * 1) rfl
  have b2 := zca (rest := rest) hz (0 + (j) * 1) rfl
  rw [zc5] at s2
  refine Z307 ?_; refine Z398 ?_; refine qd (id := 3) [(200021, [900]), (200025, [900]), (100026, [900]), (100027, [900])] mixed (by kernel_rfl) ?_; refine Z300 ?_; refine Z145 ?_; refine z8 (qg L _ rfl rfl rfl rfl rfl rfl rfl (by omega)) rfl ?_; refine qn (qp L (q := 900) rfl rfl rfl rfl rfl qj) rfl rfl ?_; refine Z145 ?_; refine z8 (qg L _ rfl rfl rfl rfl rfl rfl rfl (by omega)) rfl ?_; refine qn (qp L (q := 900) rfl rfl rfl rfl rfl qi) rfl rfl ?_; refine z8 (qg L _ rfl rfl rfl rfl rfl rfl rfl (by omega)) rfl ?_; refine yy (yw L (q := 900) rfl rfl rfl rfl rfl rfl b1 rfl s1) rfl ?_; refine z8 (qg L _ rfl rfl rfl rfl rfl rfl rfl (by omega)) rfl ?_; refine yy (yw L (q := 900) rfl rfl rfl rfl rfl rfl b2 rfl s2) rfl ?_; refine Z290 ?_; refine Z161 ?_; refine Z17 ?_; refine Z138 ?_; refine Z180 ?_; refine Z26 ?_; refine Z243 ?_
  exact yh (x := ((i, j), E)) ((i + 1, j - 1), swp E i j) ⟨by dsimp only; omega, by dsimp only; omega, by dsimp only; rw [zbm]; exact hE, hO⟩ (by dsimp only; omega) ⟨rfl, rfl, rfl, rfl, trivial⟩
 ·rw [reverseLoop, if_neg hlt] at hO
  subst hO
  refine Z307 ?_; refine Z10 ?_; refine Z172 ?_
  exact zba L 900 (r := zab b _ tyU) rfl (fun _ _ h => h) Since.refl rfl rfl
set_option maxHeartbeats 1000000 in
set_option maxRecDepth 20000 in
theorem zp5 {d : Array Int} {rest : List Value} {b m cap lo hi first : Nat} (hlo : lo ≤ hi) (hf : first + hi ≤ d.size) (hm : d.size = m) (hm1 : m ≤ 100000) {w : World} {B : Heap} {C : Nat → Prop} (hB : B.Le (hp w))
  (hr : (zab b (uC d ++ rest) tyU).P B w C) (hC : ∀ k, C k → k < w.heap.size ∧ B k = none) :
  zcb Tryz.prog 148 [.slice (some ⟨b, 0, none⟩) m cap, .int .i64 lo, .int .i64 hi, .int .i64 first] w B C (zab b (uC (siftDown lt hi first lo d) ++ rest) tyU) := by
 unfold zcb
 refine zas 900 (zab b (uC d ++ rest) tyU) Tryz.func148 rfl Tryz.ntmps148 (Nat.le_of_ble_eq_true rfl) hB hr hC ?_
 rw [za1]
 refine Z146 ?_; refine Z1 ?_; refine Z196 ?_
 refine zaj (fun s : Nat × Array Int => [(0, .is (.slice (some ⟨b, 0, none⟩) m cap)), (2, .is (.int .i64 hi)), (3, .is (.int .i64 first)), (8, .is (.int .i64 s.1)), (900, .own (zal b (uC s.2 ++ rest) tyU))]) (fun s => s.1 ≤ hi ∧ s.2.size = m ∧ siftDown lt hi first s.1 s.2 = siftDown lt hi first lo d) (fun s => hi - s.1) (lo, d) ⟨hlo, hm, rfl⟩ ⟨rfl, rfl, rfl, rfl, rfl, trivial⟩ ?_
 rintro ⟨r, E⟩ ⟨hr0, hE, hO⟩
 dsimp only at hr0 hE hO ⊢
 have hw1 : IntKind.i64.wrap (2 * (r : Int)) = ((2 * r : Nat) : Int) := zaa (by omega) (by omega) |>.trans (by omega)
 have hw2 : IntKind.i64.wrap (((2 * r : Nat) : Int) + 1) = ((2 * r + 1 : Nat) : Int) := zaa (by omega) (by omega)
 by_cases hend : hi ≤ 2 * r + 1
 ·rw [siftDown, dif_pos (by omega)] at hO
  subst hO
  refine Z352 ?_; refine Z222 ?_; refine Z147 ?_; refine Z233 ?_; refine Z255 ?_; refine Z162 ?_; refine zko rfl ?_; refine y7 ?_; refine yt ?_
  exact zba L 900 (r := zab b _ tyU) rfl (fun _ _ h => h) Since.refl rfl rfl
 ·rw [siftDown, dif_neg (by omega)] at hO
  have hw3 : IntKind.i64.wrap (((2 * r + 1 : Nat) : Int) + 1) = ((2 * r + 2 : Nat) : Int) := zaa (by omega) (by omega)
  have hw4 : IntKind.i64.wrap ((first : Int) + ((2 * r + 1 : Nat) : Int)) = ((first + (2 * r + 1) : Nat) : Int) := zaa (by omega) (by omega)
  have hw5 : IntKind.i64.wrap (((first + (2 * r + 1) : Nat) : Int) + 1) = ((first + (2 * r + 2) : Nat) : Int) := zaa (by omega) (by omega)
  have hw6 : IntKind.i64.wrap ((first : Int) + (r : Int)) = ((first + r : Nat) : Int) := zaa (by omega) (by omega)
  have hw7 : IntKind.i64.wrap ((first : Int) + ((2 * r + 2 : Nat) : Int)) = ((first + (2 * r + 2) : Nat) : Int) := zaa (by omega) (by omega)
  obtain ⟨_, qr⟩ := zcy (rest := rest) (show first + r < E.size by omega) (0 + (first + r) * 1) rfl
  by_cases h2 : 2 * r + 2 < hi
  ·obtain ⟨_, q1⟩ := zcy (rest := rest) (show first + (2 * r + 1) < E.size by omega) (0 + (first + (2 * r + 1)) * 1) rfl
   obtain ⟨_, q2⟩ := zcy (rest := rest) (show first + (2 * r + 2) < E.size by omega) (0 + (first + (2 * r + 2)) * 1) rfl
   have e2 : first + (2 * r + 1) + 1 = first + (2 * r + 2) := by omega
   rw [e2] at hO
   cases hc : lt E[first + (2 * r + 1)]! E[first + (2 * r + 2)]! with
   | true =>
    rw [if_pos (by rw [hc]; simp; omega)] at hO
    have qc := q2
    cases hc2 : lt E[first + r]! E[first + (2 * r + 2)]! with
    | false =>
     rw [hc2] at hO
     simp only [Bool.not_false, if_true] at hO
     subst hO
     refine Z352 ?_; refine Z222 ?_; refine Z147 ?_; refine Z233 ?_; refine Z46 ?_; refine Z168 ?_; refine Z130 ?_; refine Z3 ?_; refine Z32 ?_; refine Z3 ?_; refine Z72 ?_; refine Z300 ?_; refine Z32 ?_; refine z8 (qg L _ rfl rfl rfl rfl rfl rfl rfl (by omega)) rfl ?_; refine qn (qp L (q := 900) rfl rfl rfl rfl rfl q1) rfl rfl ?_; refine Z205 ?_; refine Z32 ?_; refine z8 (qg L _ rfl rfl rfl rfl rfl rfl rfl (by omega)) rfl ?_; refine qn (qp L (q := 900) rfl rfl rfl rfl rfl q2) rfl rfl ?_; refine z8 (zp L rfl rfl (zk rfl) rfl rfl rfl (fun u H hH _ _ => zbc hc hH)) rfl ?_; refine Z264 ?_; refine Z161 ?_; refine Z17 ?_; refine Z147 ?_; refine Z112 ?_; refine Z205 ?_; refine z8 (qg L _ rfl rfl rfl rfl rfl rfl rfl (by omega)) rfl ?_; refine qn (qp L (q := 900) rfl rfl rfl rfl rfl qr) rfl rfl ?_; refine Z205 ?_; refine z8 (qg L _ rfl rfl rfl rfl rfl rfl rfl (by omega)) rfl ?_; refine qn (qp L (q := 900) rfl rfl rfl rfl rfl qc) rfl rfl ?_; refine z8 (zp L rfl rfl (zk rfl) rfl rfl rfl (fun u H hH _ _ => zbc hc2 hH)) rfl ?_; refine Z64 ?_; refine Z213 ?_
     exact zbh L 900 (r := zab b _ tyU) rfl (fun _ _ h => h) Since.refl rfl rfl
    | true =>
     rw [hc2] at hO
     simp only [Bool.not_true, Bool.false_eq_true, if_false] at hO
     rw [dif_pos (by omega)] at hO
     obtain ⟨_, qj⟩ := zcy (rest := rest) (show first + (2 * r + 2) < E.size by omega) (0 + (first + (2 * r + 2)) * 1) rfl
     obtain ⟨_, qi⟩ := zcy (rest := rest) (show first + r < E.size by omega) (0 + (first + r) * 1) rfl
     have s1 := zb9 (rest := rest) E[first + (2 * r + 2)]! (show first + r < E.size by omega) (0 + (first + r) * 1) rfl
     have b1 := zca (rest := rest) (show first + r < E.size by omega) (0 + (first + r) * 1) rfl
     have hz : first + (2 * r + 2) < (E.setIfInBounds (first + r) E[first + (2 * r + 2)]!).size := by rw [Array.size_setIfInBounds]; omega
     have s2 := zb9 (rest := rest) E[first + r]! hz (0 + (first + (2 * r + 2)) * 1) rfl
     have b2 := zca (rest := rest) hz (0 + (first + (2 * r + 2)) * 1) rfl
     rw [zc5] at s2
     refine Z352 ?_; refine Z222 ?_; refine Z147 ?_; refine Z233 ?_; refine Z46 ?_; refine Z168 ?_; refine Z130 ?_; refine Z3 ?_; refine Z32 ?_; refine Z3 ?_; refine Z72 ?_; refine Z300 ?_; refine Z32 ?_; refine z8 (qg L _ rfl rfl rfl rfl rfl rfl rfl (by omega)) rfl ?_; refine qn (qp L (q := 900) rfl rfl rfl rfl rfl q1) rfl rfl ?_; refine Z205 ?_; refine Z32 ?_; refine z8 (qg L _ rfl rfl rfl rfl rfl rfl rfl (by omega)) rfl ?_; refine qn (qp L (q := 900) rfl rfl rfl rfl rfl q2) rfl rfl ?_; refine z8 (zp L rfl rfl (zk rfl) rfl rfl rfl (fun u H hH _ _ => zbc hc hH)) rfl ?_; refine Z264 ?_; refine Z161 ?_; refine Z17 ?_; refine Z147 ?_; refine Z112 ?_; refine Z205 ?_; refine z8 (qg L _ rfl rfl rfl rfl rfl rfl rfl (by omega)) rfl ?_; refine qn (qp L (q := 900) rfl rfl rfl rfl rfl qr) rfl rfl ?_; refine Z205 ?_; refine z8 (qg L _ rfl rfl rfl rfl rfl rfl rfl (by omega)) rfl ?_; refine qn (qp L (q := 900) rfl rfl rfl rfl rfl qc) rfl rfl ?_; refine z8 (zp L rfl rfl (zk rfl) rfl rfl rfl (fun u H hH _ _ => zbc hc2 hH)) rfl ?_; refine Z64 ?_; refine Z182 ?_; refine Z148 ?_; refine Z123 ?_; refine Z205 ?_; refine Z205 ?_; refine Z205 ?_; refine z8 (qg L _ rfl rfl rfl rfl rfl rfl rfl (by omega)) rfl ?_; refine qn (qp L (q := 900) rfl rfl rfl rfl rfl qj) rfl rfl ?_; refine Z205 ?_; refine z8 (qg L _ rfl rfl rfl rfl rfl rfl rfl (by omega)) rfl ?_; refine qn (qp L (q := 900) rfl rfl rfl rfl rfl qi) rfl rfl ?_; refine z8 (qg L _ rfl rfl rfl rfl rfl rfl rfl (by omega)) rfl ?_; refine yy (yw L (q := 900) rfl rfl rfl rfl rfl rfl b1 rfl s1) rfl ?_; refine z8 (qg L _ rfl rfl rfl rfl rfl rfl rfl (by omega)) rfl ?_; refine yy (yw L (q := 900) rfl rfl rfl rfl rfl rfl b2 rfl s2) rfl ?_; refine Z149 ?_; refine Z193 ?_; refine Z243 ?_
     exact yh (x := (r, E)) (2 * r + 2, swp E (first + r) (first + (2 * r + 2))) ⟨by dsimp only; omega, by dsimp only; rw [zbm]; exact hE, hO⟩ (by dsimp only; omega) ⟨rfl, rfl, rfl, rfl, rfl, trivial⟩
   | false =>
    rw [if_neg (by rw [hc]; simp)] at hO
    have qc := q1
    cases hc2 : lt E[first + r]! E[first + (2 * r + 1)]! with
    | false =>
     rw [hc2] at hO
     simp only [Bool.not_false, if_true] at hO
     subst hO
     refine Z352 ?_; refine Z222 ?_; refine Z147 ?_; refine Z233 ?_; refine Z46 ?_; refine Z168 ?_; refine Z130 ?_; refine Z3 ?_; refine Z32 ?_; refine Z3 ?_; refine Z72 ?_; refine Z300 ?_; refine Z32 ?_; refine z8 (qg L _ rfl rfl rfl rfl rfl rfl rfl (by omega)) rfl ?_; refine qn (qp L (q := 900) rfl rfl rfl rfl rfl q1) rfl rfl ?_; refine Z205 ?_; refine Z32 ?_; refine z8 (qg L _ rfl rfl rfl rfl rfl rfl rfl (by omega)) rfl ?_; refine qn (qp L (q := 900) rfl rfl rfl rfl rfl q2) rfl rfl ?_; refine z8 (zp L rfl rfl (zk rfl) rfl rfl rfl (fun u H hH _ _ => zbc hc hH)) rfl ?_; refine Z204 ?_; refine Z165 ?_; refine Z112 ?_; refine Z205 ?_; refine z8 (qg L _ rfl rfl rfl rfl rfl rfl rfl (by omega)) rfl ?_; refine qn (qp L (q := 900) rfl rfl rfl rfl rfl qr) rfl rfl ?_; refine Z205 ?_; refine z8 (qg L _ rfl rfl rfl rfl rfl rfl rfl (by omega)) rfl ?_; refine qn (qp L (q := 900) rfl rfl rfl rfl rfl qc) rfl rfl ?_; refine z8 (zp L rfl rfl (zk rfl) rfl rfl rfl (fun u H hH _ _ => zbc hc2 hH)) rfl ?_; refine Z64 ?_; refine Z213 ?_
     exact zbh L 900 (r := zab b _ tyU) rfl (fun _ _ h => h) Since.refl rfl rfl
    | true =>
     rw [hc2] at hO
     simp only [Bool.not_true, Bool.false_eq_true, if_false] at hO
     obtain ⟨_, qj⟩ := zcy (rest := rest) (show first + (2 * r + 1) < E.size by omega) (0 + (first + (2 * r + 1)) * 1) rfl
     obtain ⟨_, qi⟩ := zcy (rest := rest) (show first + r < E.size by omega) (0 + (first + r) * 1) rfl
     have s1 := zb9 (rest := rest) E[first + (2 * r + 1)]! (show first + r < E.size by omega) (0 + (first + r) * 1) rfl
     have b1 := zca (rest := rest) (show first + r < E.size by omega) (0 + (first + r) * 1) rfl
     have hz : first + (2 * r + 1) < (E.setIfInBounds (first + r) E[first + (2 * r + 1)]!).size := by rw [Array.size_setIfInBounds]; omega
     have s2 := zb9 (rest := rest) E[first + r]! hz (0 + (first + (2 * r + 1)) * 1) rfl
     have b2 := zca (rest := rest) hz (0 + (first + (2 * r + 1)) * 1) rfl
     rw [zc5] at s2
     refine Z352 ?_; refine Z222 ?_; refine Z147 ?_; refine Z233 ?_; refine Z46 ?_; refine Z168 ?_; refine Z130 ?_; refine Z3 ?_; refine Z32 ?_; refine Z3 ?_; refine Z72 ?_; refine Z300 ?_; refine Z32 ?_; refine z8 (qg L _ rfl rfl rfl rfl rfl rfl rfl (by omega)) rfl ?_; refine qn (qp L (q := 900) rfl rfl rfl rfl rfl q1) rfl rfl ?_; refine Z205 ?_; refine Z32 ?_; refine z8 (qg L _ rfl rfl rfl rfl rfl rfl rfl (by omega)) rfl ?_; refine qn (qp L (q := 900) rfl rfl rfl rfl rfl q2) rfl rfl ?_; refine z8 (zp L rfl rfl (zk rfl) rfl rfl rfl (fun u H hH _ _ => zbc hc hH)) rfl ?_; refine Z204 ?_; refine Z165 ?_; refine Z112 ?_; refine Z205 ?_; refine z8 (qg L _ rfl rfl rfl rfl rfl rfl rfl (by omega)) rfl ?_; refine qn (qp L (q := 900) rfl rfl rfl rfl rfl qr) rfl rfl ?_; refine Z205 ?_; refine z8 (qg L _ rfl rfl rfl rfl rfl rfl rfl (by omega)) rfl ?_; refine qn (qp L (q := 900) rfl rfl rfl rfl rfl qc) rfl rfl ?_; refine z8 (zp L rfl rfl (zk rfl) rfl rfl rfl (fun u H hH _ _ => zbc hc2 hH)) rfl ?_; refine Z64 ?_; refine Z182 ?_; refine Z148 ?_; refine Z123 ?_; refine Z205 ?_; refine Z205 ?_; refine Z205 ?_; refine z8 (qg L _ rfl rfl rfl rfl rfl rfl rfl (by omega)) rfl ?_; refine qn (qp L (q := 900) rfl rfl rfl rfl rfl qj) rfl rfl ?_; refine Z205 ?_; refine z8 (qg L _ rfl rfl rfl rfl rfl rfl rfl (by omega)) rfl ?_; refine qn (qp L (q := 900) rfl rfl rfl rfl rfl qi) rfl rfl ?_; refine z8 (qg L _ rfl rfl rfl rfl rfl rfl rfl (by omega)) rfl ?_; refine yy (yw L (q := 900) rfl rfl rfl rfl rfl rfl b1 rfl s1) rfl ?_; refine z8 (qg L _ rfl rfl rfl rfl rfl rfl rfl (by omega)) rfl ?_; refine yy (yw L (q := 900) rfl rfl rfl rfl rfl rfl b2 rfl s2) rfl ?_; refine Z149 ?_; refine Z193 ?_; refine Z243 ?_
     exact yh (x := (r, E)) (2 * r + 1, swp E (first + r) (first + (2 * r + 1))) ⟨by dsimp only; omega, by dsimp only; rw [zbm]; exact hE, hO⟩ (by dsimp only; omega) ⟨rfl, rfl, rfl, rfl, rfl, trivial⟩
  ·rw [if_neg (by simp; omega)] at hO
   obtain ⟨_, qc⟩ := zcy (rest := rest) (show first + (2 * r + 1) < E.size by omega) (0 + (first + (2 * r + 1)) * 1) rfl
   cases hc2 : lt E[first + r]! E[first + (2 * r + 1)]! with
   | false =>
    rw [hc2] at hO
    simp only [Bool.not_false, if_true] at hO
    subst hO
    refine Z352 ?_; refine Z222 ?_; refine Z147 ?_; refine Z233 ?_; refine Z46 ?_; refine Z168 ?_; refine Z83 ?_; refine Z3 ?_; refine Z32 ?_; refine Z3 ?_; refine Z86 ?_; refine Z246 ?_; refine Z191 ?_; refine Z153 ?_; refine Z204 ?_; refine Z165 ?_; refine Z112 ?_; refine Z205 ?_; refine z8 (qg L _ rfl rfl rfl rfl rfl rfl rfl (by omega)) rfl ?_; refine qn (qp L (q := 900) rfl rfl rfl rfl rfl qr) rfl rfl ?_; refine Z205 ?_; refine z8 (qg L _ rfl rfl rfl rfl rfl rfl rfl (by omega)) rfl ?_; refine qn (qp L (q := 900) rfl rfl rfl rfl rfl qc) rfl rfl ?_; refine z8 (zp L rfl rfl (zk rfl) rfl rfl rfl (fun u H hH _ _ => zbc hc2 hH)) rfl ?_; refine Z64 ?_; refine Z213 ?_
    exact zbh L 900 (r := zab b _ tyU) rfl (fun _ _ h => h) Since.refl rfl rfl
   | true =>
    rw [hc2] at hO
    simp only [Bool.not_true, Bool.false_eq_true, if_false] at hO
    obtain ⟨_, qj⟩ := zcy (rest := rest) (show first + (2 * r + 1) < E.size by omega) (0 + (first + (2 * r + 1)) * 1) rfl
    obtain ⟨_, qi⟩ := zcy (rest := rest) (show first + r < E.size by omega) (0 + (first + r) * 1) rfl
    have s1 := zb9 (rest := rest) E[first + (2 * r + 1)]! (show first + r < E.size by omega) (0 + (first + r) * 1) rfl
    have b1 := zca (rest := rest) (show first + r < E.size by omega) (0 + (first + r) * 1) rfl
    have hz : first + (2 * r + 1) < (E.setIfInBounds (first + r) E[first + (2 * r + 1)]!).size := by rw [Array.size_setIfInBounds]; omega
    have s2 := zb9 (rest := rest) E[first + r]! hz (0 + (first + (2 * r + 1)) * 1) rfl
    have b2 := zca (rest := rest) hz (0 + (first + (2 * r + 1)) * 1) rfl
    rw [zc5] at s2
    refine Z352 ?_; refine Z222 ?_; refine Z147 ?_; refine Z233 ?_; refine Z46 ?_; refine Z168 ?_; refine Z83 ?_; refine Z3 ?_; refine Z32 ?_; refine Z3 ?_; refine Z86 ?_; refine Z246 ?_; refine Z191 ?_; refine Z153 ?_; refine Z204 ?_; refine Z165 ?_; refine Z112 ?_; refine Z205 ?_; refine z8 (qg L _ rfl rfl rfl rfl rfl rfl rfl (by omega)) rfl ?_; refine qn (qp L (q := 900) rfl rfl rfl rfl rfl qr) rfl rfl ?_; refine Z205 ?_; refine z8 (qg L _ rfl rfl rfl rfl rfl rfl rfl (by omega)) rfl ?_; refine qn (qp L (q := 900) rfl rfl rfl rfl rfl qc) rfl rfl ?_; refine z8 (zp L rfl rfl (zk rfl) rfl rfl rfl (fun u H hH _ _ => zbc hc2 hH)) rfl ?_; refine Z64 ?_; refine Z182 ?_; refine Z148 ?_; refine Z123 ?_; refine Z205 ?_; refine Z205 ?_; refine Z205 ?_; refine z8 (qg L _ rfl rfl rfl rfl rfl rfl rfl (by omega)) rfl ?_; refine qn (qp L (q := 900) rfl rfl rfl rfl rfl qj) rfl rfl ?_; refine Z205 ?_; refine z8 (qg L _ rfl rfl rfl rfl rfl rfl rfl (by omega)) rfl ?_; refine qn (qp L (q := 900) rfl rfl rfl rfl rfl qi) rfl rfl ?_; refine z8 (qg L _ rfl rfl rfl rfl rfl rfl rfl (by omega)) rfl ?_; refine yy (yw L (q := 900) rfl rfl rfl rfl rfl rfl b1 rfl s1) rfl ?_; refine z8 (qg L _ rfl rfl rfl rfl rfl rfl rfl (by omega)) rfl ?_; refine yy (yw L (q := 900) rfl rfl rfl rfl rfl rfl b2 rfl s2) rfl ?_; refine Z149 ?_; refine Z193 ?_; refine Z243 ?_
    exact yh (x := (r, E)) (2 * r + 1, swp E (first + r) (first + (2 * r + 1))) ⟨by dsimp only; omega, by dsimp only; rw [zbm]; exact hE, hO⟩ (by dsimp only; omega) ⟨rfl, rfl, rfl, rfl, rfl, trivial⟩
theorem znf (hi first : Nat) : ∀ (n root : Nat) (d : Array Int), hi - root ≤ n → (siftDown lt hi first root d).size = d.size := by
 intro n
 induction n with
 | zero =>
  intro root d h
  rw [siftDown, dif_pos (by omega)]
 | succ n ih =>
  intro root d h
  rw [siftDown]
  split
  ·rfl
  ·split
   ·split
    ·rfl
    ·split
     ·rw [ih _ _ (by omega), zbm]
     ·rfl
   ·split
    ·rfl
    ·rw [ih _ _ (by omega), zbm]
set_option maxHeartbeats 1000000 in
set_option maxRecDepth 20000 in
theorem zxa {d : Array Int} {rest : List Value} {b m cap a e : Nat} (hab : a < e) (he : e ≤ d.size) (hm : d.size = m) (hm1 : m ≤ 100000) {w : World} {B : Heap} {C : Nat → Prop} (hB : B.Le (hp w))
  (hr : (zab b (uC d ++ rest) tyU).P B w C) (hC : ∀ k, C k → k < w.heap.size ∧ B k = none) :
  zcb Tryz.prog 102 [.slice (some ⟨b, 0, none⟩) m cap, .int .i64 a, .int .i64 e] w B C (zab b (uC (heapSort lt d a e) ++ rest) tyU) := by
 unfold zcb
 refine zas 900 (zab b (uC d ++ rest) tyU) Tryz.func102 rfl Tryz.ntmps102 (Nat.le_of_ble_eq_true rfl) hB hr hC ?_
 rw [za1]
 have hw0 : IntKind.i64.wrap ((e : Int) - (a : Int)) = ((e - a : Nat) : Int) := zaa (by omega) (by omega) |>.trans (by omega)
 have hw1 : IntKind.i64.wrap (((e - a : Nat) : Int) - 1) = ((e - a - 1 : Nat) : Int) := zaa (by omega) (by omega) |>.trans (by omega)
 have et : ((e - a - 1 : Nat) : Int).tdiv 2 = (((e - a - 1) / 2 + 1 : Nat) : Int) - 1 := by
  rw [Int.tdiv_eq_ediv_of_nonneg (by omega)]
  omega
 have hw2 : IntKind.i64.wrap (((e - a - 1 : Nat) : Int).tdiv 2) = (((e - a - 1) / 2 + 1 : Nat) : Int) - 1 := by rw [et]; exact zaa (by omega) (by omega)
 refine Z146 ?_; refine Z1 ?_; refine Z159 ?_; refine Z144 ?_; refine Z29 ?_; refine Z208 ?_; refine Z327 ?_; refine Z26 ?_; refine Z50 ?_; refine Z196 ?_
 refine zaj (fun s : Nat × Array Int => [(0, .is (.slice (some ⟨b, 0, none⟩) m cap)), (6, .is (.int .i64 a)), (7, .is (.int .i64 0)), (8, .is (.int .i64 (e - a : Nat))), (9, .is (.int .i64 ((s.1 : Int) - 1))), (900, .own (zal b (uC s.2 ++ rest) tyU))]) (fun s => s.1 ≤ (e - a - 1) / 2 + 1 ∧ s.2.size = m ∧ heapBuild lt (e - a) a s.1 s.2 = heapBuild lt (e - a) a ((e - a - 1) / 2 + 1) d) (fun s => s.1) ((e - a - 1) / 2 + 1, d) ⟨Nat.le_refl _, hm, rfl⟩ ⟨rfl, rfl, rfl, rfl, rfl, rfl, trivial⟩ ?_
 rintro ⟨k, E⟩ ⟨hk, hE, hO⟩
 dsimp only at hk hE hO ⊢
 rcases k with _ | k
 ·have e9 : (((0 : Nat) : Int) - 1) = -1 := rfl
  rw [e9]
  refine Z216 ?_; refine Z46 ?_; refine Z386 ?_
  rw [heapBuild] at hO
  have e10 : ((e - a - 1 : Nat) : Int) = ((e - a : Nat) : Int) - 1 := by omega
  rw [e10] at hw1
  refine Z193 ?_; refine Z26 ?_; refine Z196 ?_
  refine zaj (fun s : Nat × Array Int => [(0, .is (.slice (some ⟨b, 0, none⟩) m cap)), (6, .is (.int .i64 a)), (7, .is (.int .i64 0)), (10, .is (.int .i64 ((s.1 : Int) - 1))), (900, .own (zal b (uC s.2 ++ rest) tyU))]) (fun s => s.1 ≤ e - a ∧ s.2.size = m ∧ heapPop lt a s.1 s.2 = heapPop lt a (e - a) E) (fun s => s.1) (e - a, E) ⟨Nat.le_refl _, hE, rfl⟩ ⟨rfl, rfl, rfl, rfl, rfl, trivial⟩ ?_
  rintro ⟨j, G⟩ ⟨hj, hG, hP⟩
  dsimp only at hj hG hP ⊢
  rcases j with _ | j
  ·rw [e9]
   rw [heapPop] at hP
   have : G = heapSort lt d a e := by unfold heapSort; rw [← hO, hP]
   subst this
   refine Z317 ?_; refine Z46 ?_; refine Z172 ?_
   exact zba L 900 (r := zab b _ tyU) rfl (fun _ _ h => h) Since.refl rfl rfl
  ·have e8 : (((j + 1 : Nat) : Int) - 1) = (j : Int) := by omega
   rw [heapPop] at hP
   rw [e8]
   have hw3 : IntKind.i64.wrap ((a : Int) + (j : Int)) = ((a + j : Nat) : Int) := zaa (by omega) (by omega)
   have hw4 : IntKind.i64.wrap ((j : Int) - 1) = (j : Int) - 1 := zaa (by omega) (by omega)
   have hsz := zbm G a (a + j)
   have hss := znf j a j 0 (swp G a (a + j)) (by omega)
   obtain ⟨_, qj⟩ := zcy (rest := rest) (show a + j < G.size by omega) (0 + (a + j) * 1) rfl
   obtain ⟨_, qi⟩ := zcy (rest := rest) (show a < G.size by omega) (0 + (a) * 1) rfl
   have s1 := zb9 (rest := rest) G[a + j]! (show a < G.size by omega) (0 + (a) * 1) rfl
   have b1 := zca (rest := rest) (show a < G.size by omega) (0 + (a) * 1) rfl
   have hz : a + j < (G.setIfInBounds (a) G[a + j]!).size := by rw [Array.size_setIfInBounds]; omega
   have s2 := zb9 (rest := rest) G[a]! hz (0 + (a + j) * 1) rfl
   have b2 := zca (rest := rest) hz (0 + (a + j) * 1) rfl
   rw [zc5] at s2
   refine Z317 ?_; refine Z255 ?_; refine Z170 ?_; refine qd (id := 10) [(200044, [900]), (200048, [900]), (100049, [900]), (100050, [900])] mixed (by kernel_rfl) ?_; refine Z145 ?_; refine Z205 ?_; refine Z205 ?_; refine z8 (qg L _ rfl rfl rfl rfl rfl rfl rfl (by omega)) rfl ?_; refine qn (qp L (q := 900) rfl rfl rfl rfl rfl qj) rfl rfl ?_; refine Z145 ?_; refine z8 (qg L _ rfl rfl rfl rfl rfl rfl rfl (by omega)) rfl ?_; refine qn (qp L (q := 900) rfl rfl rfl rfl rfl qi) rfl rfl ?_; refine z8 (qg L _ rfl rfl rfl rfl rfl rfl rfl (by omega)) rfl ?_; refine yy (yw L (q := 900) rfl rfl rfl rfl rfl rfl b1 rfl s1) rfl ?_; refine z8 (qg L _ rfl rfl rfl rfl rfl rfl rfl (by omega)) rfl ?_; refine yy (yw L (q := 900) rfl rfl rfl rfl rfl rfl b2 rfl s2) rfl ?_; refine Z149 ?_; refine Z66 ?_; refine Z219 ?_; refine qo (za0 L 900 (zab b (uC (siftDown lt j a 0 (swp G a (a + j))) ++ rest) tyU) (r := zab b (uC (swp G a (a + j)) ++ rest) tyU) rfl rfl rfl rfl rfl (fun u H C hH _ hr hC => zp5 (Nat.zero_le _) (by omega) (by omega) hm1 hH hr hC)) ?_; refine Z238 ?_; refine Z59 ?_; refine Z228 ?_; refine Z152 ?_
   exact yh (x := (j + 1, G)) (j, siftDown lt j a 0 (swp G a (a + j))) ⟨by dsimp only; omega, by dsimp only; omega, hP⟩ (by dsimp only; omega) ⟨rfl, rfl, rfl, rfl, rfl, trivial⟩
 ·have e8 : (((k + 1 : Nat) : Int) - 1) = (k : Int) := by omega
  rw [heapBuild] at hO
  rw [e8]
  have hw4 : IntKind.i64.wrap ((k : Int) - 1) = (k : Int) - 1 := zaa (by omega) (by omega)
  have hss := znf (e - a) a (e - a) k E (by omega)
  refine Z216 ?_; refine Z255 ?_; refine Z230 ?_; refine Z45 ?_; refine Z219 ?_; refine qo (za0 L 900 (zab b (uC (siftDown lt (e - a) a k E) ++ rest) tyU) (r := zab b (uC E ++ rest) tyU) rfl rfl rfl rfl rfl (fun u H C hH _ hr hC => zp5 (by omega) (by omega) (by omega) hm1 hH hr hC)) ?_; refine Z238 ?_; refine Z180 ?_; refine Z26 ?_; refine Z152 ?_
  exact yh (x := (k + 1, E)) (k, siftDown lt (e - a) a k E) ⟨by dsimp only; omega, by dsimp only; omega, hO⟩ (by dsimp only; omega) ⟨rfl, rfl, rfl, rfl, rfl, rfl, trivial⟩
end Go.V.So
set_option maxRecDepth 20000
namespace Go.V.So
open Go.Proofs Go.RowKit Go.V Go.Sort
theorem _root_.Go.V.Z131 {A B : Prop} (h : B) (t : Wr B → A := by intro h; refine qd (id := 5) [(200053, [900]), (200057, [900])] mixed (by kernel_rfl) ?_; exact h.h) : A := t ⟨h⟩
theorem _root_.Go.V.Z209 {A B : Prop} (h : B) (t : Wr B → A := by intro h; refine Z17 ?_; refine Z152 ?_; exact h.h) : A := t ⟨h⟩
theorem _root_.Go.V.Z312 {A B : Prop} (h : B) (t : Wr B → A := by intro h; refine Z161 ?_; refine Z209 ?_; exact h.h) : A := t ⟨h⟩
theorem _root_.Go.V.Z353 {A B : Prop} (h : B) (t : Wr B → A := by intro h; refine Z145 ?_; refine Z80 ?_; exact h.h) : A := t ⟨h⟩
theorem _root_.Go.V.Z354 {A B : Prop} (h : B) (t : Wr B → A := by intro h; refine Z353 ?_; refine Z179 ?_; exact h.h) : A := t ⟨h⟩
attribute [local irreducible] V N X VO Par StepOK Has Ret RetL RetO zcb zdt Src
theorem zc7 {p : Int → Bool} {d : Array Int} {j i : Nat} (h : ¬ (i ≤ j ∧ p d[i]! = true)) : scanUp p d j i = i := by
 rw [scanUp, if_neg]
 simpa using h
theorem zjj {p : Int → Bool} {d : Array Int} {j i : Nat} (h1 : i ≤ j) (h2 : p d[i]! = true) : scanUp p d j i = scanUp p d j (i + 1) := by
 rw [scanUp, if_pos (by simp [h1, h2])]
theorem zck {p : Int → Bool} {d : Array Int} {i j : Nat} (h : ¬ (i ≤ j ∧ p d[j]! = true)) : scanDown p d i j = j := by
 cases j with
 | zero => rfl
 | succ j => rw [scanDown, if_neg]; simpa using h
theorem zgh {p : Int → Bool} {d : Array Int} {i j : Nat} (h1 : i ≤ j + 1) (h2 : p d[j + 1]! = true) : scanDown p d i (j + 1) = scanDown p d i j := by
 rw [scanDown, if_pos (by simp [h1, h2])]
set_option maxHeartbeats 2000000 in
set_option maxRecDepth 20000 in
theorem zea {d : Array Int} {rest : List Value} {b m cap a e p : Nat} (hap : a ≤ p) (hpe : p < e) (he : e ≤ d.size) (hm : d.size = m) (hm1 : m ≤ 100000) {w : World} {B : Heap} {C : Nat → Prop} (hB : B.Le (hp w))
  (hr : (zab b (uC d ++ rest) tyU).P B w C) (hC : ∀ k, C k → k < w.heap.size ∧ B k = none) :
  zdt Tryz.prog 109 [.slice (some ⟨b, 0, none⟩) m cap, .int .i64 a, .int .i64 e, .int .i64 p] w B C (zab b (uC (Go.Sort.partition lt d a e p).2.2 ++ rest) tyU) (.tuple #[.int .i64 (Go.Sort.partition lt d a e p).1, .bool (Go.Sort.partition lt d a e p).2.1]) := by
 unfold zdt
 refine zas 900 (zab b (uC d ++ rest) tyU) Tryz.func109 rfl Tryz.ntmps109 (Nat.le_of_ble_eq_true rfl) hB hr hC ?_
 rw [za1]
 obtain ⟨_, qj⟩ := zcy (rest := rest) (show p < d.size by omega) (0 + (p) * 1) rfl
 obtain ⟨_, qi⟩ := zcy (rest := rest) (show a < d.size by omega) (0 + (a) * 1) rfl
 have s1 := zb9 (rest := rest) d[p]! (show a < d.size by omega) (0 + (a) * 1) rfl
 have b1 := zca (rest := rest) (show a < d.size by omega) (0 + (a) * 1) rfl
 have hz : p < (d.setIfInBounds (a) d[p]!).size := by rw [Array.size_setIfInBounds]; omega
 have s2 := zb9 (rest := rest) d[a]! hz (0 + (p) * 1) rfl
 have b2 := zca (rest := rest) hz (0 + (p) * 1) rfl
 rw [zc5] at s2
 have hw1 : IntKind.i64.wrap ((a : Int) + 1) = ((a + 1 : Nat) : Int) := zaa (by omega) (by omega)
 obtain ⟨e1, rfl⟩ : ∃ e1, e = e1 + 1 := ⟨e - 1, by omega⟩
 have hw2 : IntKind.i64.wrap (((e1 + 1 : Nat) : Int) - 1) = (e1 : Int) := zaa (by omega) (by omega) |>.trans (by omega)
 obtain ⟨R, hR⟩ : ∃ R, R = Go.Sort.partition lt d a (e1 + 1) p := ⟨_, rfl⟩
 rw [← hR]
 have hR' := hR
 unfold Go.Sort.partition at hR'
 have hDs := zbm d a p
 refine Z146 ?_; refine Z199 ?_; refine qd (id := 1) [(200019, [900]), (200023, [900]), (100024, [900]), (100025, [900])] mixed (by kernel_rfl) ?_; refine Z300 ?_; refine Z145 ?_; refine z8 (qg L _ rfl rfl rfl rfl rfl rfl rfl (by omega)) rfl ?_; refine qn (qp L (q := 900) rfl rfl rfl rfl rfl qj) rfl rfl ?_; refine Z145 ?_; refine z8 (qg L _ rfl rfl rfl rfl rfl rfl rfl (by omega)) rfl ?_; refine qn (qp L (q := 900) rfl rfl rfl rfl rfl qi) rfl rfl ?_; refine z8 (qg L _ rfl rfl rfl rfl rfl rfl rfl (by omega)) rfl ?_; refine yy (yw L (q := 900) rfl rfl rfl rfl rfl rfl b1 rfl s1) rfl ?_; refine z8 (qg L _ rfl rfl rfl rfl rfl rfl rfl (by omega)) rfl ?_; refine yy (yw L (q := 900) rfl rfl rfl rfl rfl rfl b2 rfl s2) rfl ?_; refine Z290 ?_; refine Z175 ?_; refine Z17 ?_; refine Z228 ?_; refine Z199 ?_; refine qh ?_
 generalize swp d a p = D at *
 rw [Nat.add_sub_cancel] at hR'
 dsimp only at hR'
 refine zhc (zdk (fun i : Nat => [(0, .is (.slice (some ⟨b, 0, none⟩) m cap)), (1, .is (.int .i64 a)), (10, .is (.int .i64 i)), (11, .is (.int .i64 e1)), (900, .own (zal b (uC D ++ rest) tyU))]) (fun i => (a + 1) ≤ i ∧ i ≤ max (a + 1) (e1 + 1) ∧ i = scanUp (fun x => lt x D[a]!) D e1 (a + 1)) (fun _ => []) ?_) ?_
 rotate_left
 ·refine zaj (fun i : Nat => [(0, .is (.slice (some ⟨b, 0, none⟩) m cap)), (1, .is (.int .i64 a)), (10, .is (.int .i64 i)), (11, .is (.int .i64 e1)), (900, .own (zal b (uC D ++ rest) tyU))]) (fun i => (a + 1) ≤ i ∧ i ≤ max (a + 1) (e1 + 1) ∧ scanUp (fun x => lt x D[a]!) D e1 i = scanUp (fun x => lt x D[a]!) D e1 (a + 1)) (fun i => e1 + 1 - i) (a + 1) ⟨Nat.le_refl _, by omega, rfl⟩ ⟨rfl, rfl, rfl, rfl, rfl, trivial⟩ ?_
  rintro i ⟨hi1, hi2, hi3⟩
  by_cases hle : i ≤ e1
  ·obtain ⟨_, qx⟩ := zcy (rest := rest) (show i < D.size by omega) (0 + (i) * 1) rfl
   obtain ⟨_, qa⟩ := zcy (rest := rest) (show a < D.size by omega) (0 + (a) * 1) rfl
   cases hc : lt D[i]! D[a]! with
   | true =>
    have hw : IntKind.i64.wrap ((i : Int) + 1) = ((i + 1 : Nat) : Int) := zaa (by omega) (by omega)
    refine Z139 ?_; refine qd (id := 3) [(200037, [900]), (200041, [900])] mixed (by kernel_rfl) ?_; refine Z354 ?_; refine z8 (qg L _ rfl rfl rfl rfl rfl rfl rfl (by omega)) rfl ?_; refine qn (qp L (q := 900) rfl rfl rfl rfl rfl qx) rfl rfl ?_; refine Z145 ?_; refine z8 (qg L _ rfl rfl rfl rfl rfl rfl rfl (by omega)) rfl ?_; refine qn (qp L (q := 900) rfl rfl rfl rfl rfl qa) rfl rfl ?_; refine z8 (zp L rfl rfl (zk rfl) rfl rfl rfl (fun u H hH _ _ => zbc hc hH)) rfl ?_; refine Z264 ?_; refine Z142 ?_; refine qh ?_; refine Z312 ?_; refine ya ?_
    exact yh (x := i) (i + 1) ⟨by omega, by omega, by rw [← hi3]; exact (zjj hle (by simp [hc])).symm⟩ (by omega) ⟨rfl, rfl, rfl, rfl, rfl, trivial⟩
   | false =>
    refine Z139 ?_; refine qd (id := 3) [(200037, [900]), (200041, [900])] mixed (by kernel_rfl) ?_; refine Z354 ?_; refine z8 (qg L _ rfl rfl rfl rfl rfl rfl rfl (by omega)) rfl ?_; refine qn (qp L (q := 900) rfl rfl rfl rfl rfl qx) rfl rfl ?_; refine Z145 ?_; refine z8 (qg L _ rfl rfl rfl rfl rfl rfl rfl (by omega)) rfl ?_; refine qn (qp L (q := 900) rfl rfl rfl rfl rfl qa) rfl rfl ?_; refine z8 (zp L rfl rfl (zk rfl) rfl rfl rfl (fun u H hH _ _ => zbc hc hH)) rfl ?_; refine Z267 ?_
    exact za5 i Since.refl ⟨hi1, hi2, by rw [← hi3]; exact (zc7 (by rintro ⟨_, h⟩; simp [hc] at h)).symm⟩ rfl ⟨rfl, rfl, rfl, rfl, rfl, trivial⟩
  ·refine Z139 ?_; refine Z83 ?_; refine Z145 ?_; refine Z107 ?_; refine Z246 ?_; refine Z6 ?_; refine Z267 ?_
   exact za5 i Since.refl ⟨hi1, hi2, by rw [← hi3]; exact (zc7 (by rintro ⟨h, _⟩; exact hle h)).symm⟩ rfl ⟨rfl, rfl, rfl, rfl, rfl, trivial⟩
 rintro I ⟨hI1, hI2, hI3⟩
 refine zh (qh ?_)
 refine zhc (zdk (fun i : Nat => [(0, .is (.slice (some ⟨b, 0, none⟩) m cap)), (1, .is (.int .i64 a)), (10, .is (.int .i64 I)), (11, .is (.int .i64 i)), (900, .own (zal b (uC D ++ rest) tyU))]) (fun i => i ≤ e1 ∧ min (I - 1) e1 ≤ i ∧ i = scanDown (fun x => !lt x D[a]!) D I e1) (fun _ => []) ?_) ?_
 rotate_left
 ·refine zaj (fun i : Nat => [(0, .is (.slice (some ⟨b, 0, none⟩) m cap)), (1, .is (.int .i64 a)), (10, .is (.int .i64 I)), (11, .is (.int .i64 i)), (900, .own (zal b (uC D ++ rest) tyU))]) (fun i => i ≤ e1 ∧ min (I - 1) e1 ≤ i ∧ scanDown (fun x => !lt x D[a]!) D I i = scanDown (fun x => !lt x D[a]!) D I e1) (fun i => i) e1 ⟨Nat.le_refl _, by omega, rfl⟩ ⟨rfl, rfl, rfl, rfl, rfl, trivial⟩ ?_
  rintro i ⟨hi1, hi2, hi3⟩
  by_cases hle : I ≤ i
  ·obtain ⟨_, qx⟩ := zcy (rest := rest) (show i < D.size by omega) (0 + (i) * 1) rfl
   obtain ⟨_, qa⟩ := zcy (rest := rest) (show a < D.size by omega) (0 + (a) * 1) rfl
   cases hc : lt D[i]! D[a]! with
   | false =>
    obtain ⟨i, rfl⟩ : ∃ k, i = k + 1 := ⟨i - 1, by omega⟩
    have hw : IntKind.i64.wrap (((i + 1 : Nat) : Int) - 1) = (i : Int) := zaa (by omega) (by omega) |>.trans (by omega)
    refine Z139 ?_; refine Z131 ?_; refine Z354 ?_; refine z8 (qg L _ rfl rfl rfl rfl rfl rfl rfl (by omega)) rfl ?_; refine qn (qp L (q := 900) rfl rfl rfl rfl rfl qx) rfl rfl ?_; refine Z145 ?_; refine z8 (qg L _ rfl rfl rfl rfl rfl rfl rfl (by omega)) rfl ?_; refine qn (qp L (q := 900) rfl rfl rfl rfl rfl qa) rfl rfl ?_; refine z8 (zp L rfl rfl (zk rfl) rfl rfl rfl (fun u H hH _ _ => zbc hc hH)) rfl ?_; refine Z64 ?_; refine Z264 ?_; refine Z142 ?_; refine qh ?_; refine Z190 ?_; refine Z26 ?_; refine Z243 ?_
    exact yh (x := i + 1) i ⟨by omega, by omega, by rw [← hi3]; exact (zgh hle (by simp [hc])).symm⟩ (by omega) ⟨rfl, rfl, rfl, rfl, rfl, trivial⟩
   | true =>
    refine Z139 ?_; refine Z131 ?_; refine Z354 ?_; refine z8 (qg L _ rfl rfl rfl rfl rfl rfl rfl (by omega)) rfl ?_; refine qn (qp L (q := 900) rfl rfl rfl rfl rfl qx) rfl rfl ?_; refine Z145 ?_; refine z8 (qg L _ rfl rfl rfl rfl rfl rfl rfl (by omega)) rfl ?_; refine qn (qp L (q := 900) rfl rfl rfl rfl rfl qa) rfl rfl ?_; refine z8 (zp L rfl rfl (zk rfl) rfl rfl rfl (fun u H hH _ _ => zbc hc hH)) rfl ?_; refine Z64 ?_; refine Z267 ?_
    exact za5 i Since.refl ⟨hi1, hi2, by rw [← hi3]; exact (zck (by rintro ⟨_, h⟩; simp [hc] at h)).symm⟩ rfl ⟨rfl, rfl, rfl, rfl, rfl, trivial⟩
  ·refine Z139 ?_; refine Z124 ?_; refine Z145 ?_; refine Z107 ?_; refine Z295 ?_; refine Z267 ?_
   exact za5 i Since.refl ⟨hi1, hi2, by rw [← hi3]; exact (zck (by rintro ⟨h, _⟩; exact hle h)).symm⟩ rfl ⟨rfl, rfl, rfl, rfl, rfl, trivial⟩
 rintro J ⟨hJ1, hJ2, hJ3⟩
 rw [← hI3, ← hJ3] at hR'
 by_cases hIJ : J < I
 ·rw [if_pos hIJ] at hR'
  subst hR'
  obtain ⟨_, qj⟩ := zcy (rest := rest) (show a < D.size by omega) (0 + (a) * 1) rfl
  obtain ⟨_, qi⟩ := zcy (rest := rest) (show J < D.size by omega) (0 + (J) * 1) rfl
  have s1 := zb9 (rest := rest) D[a]! (show J < D.size by omega) (0 + (J) * 1) rfl
  have b1 := zca (rest := rest) (show J < D.size by omega) (0 + (J) * 1) rfl
  have hz : a < (D.setIfInBounds (J) D[a]!).size := by rw [Array.size_setIfInBounds]; omega
  have s2 := zb9 (rest := rest) D[J]! hz (0 + (a) * 1) rfl
  have b2 := zca (rest := rest) hz (0 + (a) * 1) rfl
  rw [zc5] at s2
  refine Z139 ?_; refine Z325 ?_; refine Z39 ?_; refine Z155 ?_; refine qd (id := 8) [(200073, [900]), (200077, [900]), (100078, [900]), (100079, [900])] mixed (by kernel_rfl) ?_; refine Z300 ?_; refine Z145 ?_; refine z8 (qg L _ rfl rfl rfl rfl rfl rfl rfl (by omega)) rfl ?_; refine qn (qp L (q := 900) rfl rfl rfl rfl rfl qj) rfl rfl ?_; refine Z145 ?_; refine z8 (qg L _ rfl rfl rfl rfl rfl rfl rfl (by omega)) rfl ?_; refine qn (qp L (q := 900) rfl rfl rfl rfl rfl qi) rfl rfl ?_; refine z8 (qg L _ rfl rfl rfl rfl rfl rfl rfl (by omega)) rfl ?_; refine yy (yw L (q := 900) rfl rfl rfl rfl rfl rfl b1 rfl s1) rfl ?_; refine z8 (qg L _ rfl rfl rfl rfl rfl rfl rfl (by omega)) rfl ?_; refine yy (yw L (q := 900) rfl rfl rfl rfl rfl rfl b2 rfl s2) rfl ?_; refine Z290 ?_; refine Z258 ?_; refine Z185 ?_
  exact zfw L 900 (r := zab b _ tyU) (rs := [.tmp 8, .tmp 9]) rfl (fun _ _ h => h) Since.refl rfl rfl (fun _ => rfl)
 ·rw [if_neg hIJ] at hR'
  have hw3 : IntKind.i64.wrap ((I : Int) + 1) = ((I + 1 : Nat) : Int) := zaa (by omega) (by omega)
  have hw4 : IntKind.i64.wrap ((J : Int) - 1) = ((J - 1 : Nat) : Int) := zaa (by omega) (by omega) |>.trans (by omega)
  obtain ⟨_, qj⟩ := zcy (rest := rest) (show J < D.size by omega) (0 + (J) * 1) rfl
  obtain ⟨_, qi⟩ := zcy (rest := rest) (show I < D.size by omega) (0 + (I) * 1) rfl
  have s1 := zb9 (rest := rest) D[J]! (show I < D.size by omega) (0 + (I) * 1) rfl
  have b1 := zca (rest := rest) (show I < D.size by omega) (0 + (I) * 1) rfl
  have hz : J < (D.setIfInBounds (I) D[J]!).size := by rw [Array.size_setIfInBounds]; omega
  have s2 := zb9 (rest := rest) D[I]! hz (0 + (J) * 1) rfl
  have b2 := zca (rest := rest) hz (0 + (J) * 1) rfl
  rw [zc5] at s2
  have hEs := zbm D I J
  refine Z139 ?_; refine Z325 ?_; refine Z31 ?_; refine Z158 ?_; refine qd (id := 10) [(200088, [900]), (200092, [900]), (100093, [900]), (100094, [900])] mixed (by kernel_rfl) ?_; refine Z300 ?_; refine Z145 ?_; refine z8 (qg L _ rfl rfl rfl rfl rfl rfl rfl (by omega)) rfl ?_; refine qn (qp L (q := 900) rfl rfl rfl rfl rfl qj) rfl rfl ?_; refine Z145 ?_; refine z8 (qg L _ rfl rfl rfl rfl rfl rfl rfl (by omega)) rfl ?_; refine qn (qp L (q := 900) rfl rfl rfl rfl rfl qi) rfl rfl ?_; refine z8 (qg L _ rfl rfl rfl rfl rfl rfl rfl (by omega)) rfl ?_; refine yy (yw L (q := 900) rfl rfl rfl rfl rfl rfl b1 rfl s1) rfl ?_; refine z8 (qg L _ rfl rfl rfl rfl rfl rfl rfl (by omega)) rfl ?_; refine yy (yw L (q := 900) rfl rfl rfl rfl rfl rfl b2 rfl s2) rfl ?_; refine Z290 ?_; refine Z279 ?_; refine Z17 ?_; refine Z144 ?_; refine Z79 ?_; refine Z228 ?_; refine Z144 ?_; refine qh ?_
  generalize swp D I J = E at *
  obtain ⟨X, hX⟩ : ∃ X, X = partLoop lt a (I + 1) (J - 1) E := ⟨_, rfl⟩
  rw [← hX] at hR'
  refine zhc (zdk (fun s : Nat × Array Int => [(0, .is (.slice (some ⟨b, 0, none⟩) m cap)), (1, .is (.int .i64 a)), (11, .is (.int .i64 s.1)), (900, .own (zal b (uC s.2 ++ rest) tyU))]) (fun s => s.2.size = m ∧ a ≤ s.1 ∧ s.1 ≤ e1 ∧ s = X) (fun _ => []) ?_) ?_
  rotate_left
  ·refine zaj (fun s : (Nat × Nat) × Array Int => [(0, .is (.slice (some ⟨b, 0, none⟩) m cap)), (1, .is (.int .i64 a)), (10, .is (.int .i64 s.1.1)), (11, .is (.int .i64 s.1.2)), (900, .own (zal b (uC s.2 ++ rest) tyU))]) (fun s => s.2.size = m ∧ a + 1 ≤ s.1.1 ∧ s.1.1 ≤ e1 + 1 ∧ a ≤ s.1.2 ∧ s.1.2 ≤ e1 ∧ partLoop lt a s.1.1 s.1.2 s.2 = X) (fun s => s.1.2 + 1 - s.1.1) ((I + 1, J - 1), E) ⟨by dsimp only; omega, by dsimp only; omega, by dsimp only; omega, by dsimp only; omega, by dsimp only; omega, hX.symm⟩ ⟨rfl, rfl, rfl, rfl, rfl, trivial⟩ ?_
   rintro ⟨⟨i0, j0⟩, G⟩ ⟨hG, hi1, hi2, hj1, hj2, hL⟩
   dsimp only at hG hi1 hi2 hj1 hj2 hL ⊢
   rw [partLoop] at hL
   clear hX hR' hEs hIJ hI3 hJ3
   refine qh (zh (qh ?_))
   refine zhc (zdk (fun i : Nat => [(0, .is (.slice (some ⟨b, 0, none⟩) m cap)), (1, .is (.int .i64 a)), (10, .is (.int .i64 i)), (11, .is (.int .i64 j0)), (900, .own (zal b (uC G ++ rest) tyU))]) (fun i => i0 ≤ i ∧ i ≤ max i0 (j0 + 1) ∧ i = scanUp (fun x => lt x G[a]!) G j0 i0) (fun _ => []) ?_) ?_
   rotate_left
   ·refine zaj (fun i : Nat => [(0, .is (.slice (some ⟨b, 0, none⟩) m cap)), (1, .is (.int .i64 a)), (10, .is (.int .i64 i)), (11, .is (.int .i64 j0)), (900, .own (zal b (uC G ++ rest) tyU))]) (fun i => i0 ≤ i ∧ i ≤ max i0 (j0 + 1) ∧ scanUp (fun x => lt x G[a]!) G j0 i = scanUp (fun x => lt x G[a]!) G j0 i0) (fun i => j0 + 1 - i) i0 ⟨Nat.le_refl _, by omega, rfl⟩ ⟨rfl, rfl, rfl, rfl, rfl, trivial⟩ ?_
    rintro i ⟨hi1, hi2, hi3⟩
    by_cases hle : i ≤ j0
    ·obtain ⟨_, qx⟩ := zcy (rest := rest) (show i < G.size by omega) (0 + (i) * 1) rfl
     obtain ⟨_, qa⟩ := zcy (rest := rest) (show a < G.size by omega) (0 + (a) * 1) rfl
     cases hc : lt G[i]! G[a]! with
     | true =>
      have hw : IntKind.i64.wrap ((i : Int) + 1) = ((i + 1 : Nat) : Int) := zaa (by omega) (by omega)
      refine Z139 ?_; refine qd (id := 13) [(200106, [900]), (200110, [900])] mixed (by kernel_rfl) ?_; refine Z354 ?_; refine z8 (qg L _ rfl rfl rfl rfl rfl rfl rfl (by omega)) rfl ?_; refine qn (qp L (q := 900) rfl rfl rfl rfl rfl qx) rfl rfl ?_; refine Z145 ?_; refine z8 (qg L _ rfl rfl rfl rfl rfl rfl rfl (by omega)) rfl ?_; refine qn (qp L (q := 900) rfl rfl rfl rfl rfl qa) rfl rfl ?_; refine z8 (zp L rfl rfl (zk rfl) rfl rfl rfl (fun u H hH _ _ => zbc hc hH)) rfl ?_; refine Z264 ?_; refine Z142 ?_; refine qh ?_; refine Z265 ?_; refine Z209 ?_; refine ya ?_
      exact yh (x := i) (i + 1) ⟨by omega, by omega, by rw [← hi3]; exact (zjj hle (by simp [hc])).symm⟩ (by omega) ⟨rfl, rfl, rfl, rfl, rfl, trivial⟩
     | false =>
      refine Z139 ?_; refine qd (id := 13) [(200106, [900]), (200110, [900])] mixed (by kernel_rfl) ?_; refine Z354 ?_; refine z8 (qg L _ rfl rfl rfl rfl rfl rfl rfl (by omega)) rfl ?_; refine qn (qp L (q := 900) rfl rfl rfl rfl rfl qx) rfl rfl ?_; refine Z145 ?_; refine z8 (qg L _ rfl rfl rfl rfl rfl rfl rfl (by omega)) rfl ?_; refine qn (qp L (q := 900) rfl rfl rfl rfl rfl qa) rfl rfl ?_; refine z8 (zp L rfl rfl (zk rfl) rfl rfl rfl (fun u H hH _ _ => zbc hc hH)) rfl ?_; refine Z267 ?_
      exact za5 i Since.refl ⟨hi1, hi2, by rw [← hi3]; exact (zc7 (by rintro ⟨_, h⟩; simp [hc] at h)).symm⟩ rfl ⟨rfl, rfl, rfl, rfl, rfl, trivial⟩
    ·refine Z139 ?_; refine Z122 ?_; refine Z145 ?_; refine Z107 ?_; refine Z246 ?_; refine Z6 ?_; refine Z267 ?_
     exact za5 i Since.refl ⟨hi1, hi2, by rw [← hi3]; exact (zc7 (by rintro ⟨h, _⟩; exact hle h)).symm⟩ rfl ⟨rfl, rfl, rfl, rfl, rfl, trivial⟩
   rintro K ⟨hK1, hK2, hK3⟩
   refine zh (qh ?_)
   refine zhc (zdk (fun i : Nat => [(0, .is (.slice (some ⟨b, 0, none⟩) m cap)), (1, .is (.int .i64 a)), (10, .is (.int .i64 K)), (11, .is (.int .i64 i)), (900, .own (zal b (uC G ++ rest) tyU))]) (fun i => i ≤ j0 ∧ min (K - 1) j0 ≤ i ∧ i = scanDown (fun x => !lt x G[a]!) G K j0) (fun _ => []) ?_) ?_
   rotate_left
   ·refine zaj (fun i : Nat => [(0, .is (.slice (some ⟨b, 0, none⟩) m cap)), (1, .is (.int .i64 a)), (10, .is (.int .i64 K)), (11, .is (.int .i64 i)), (900, .own (zal b (uC G ++ rest) tyU))]) (fun i => i ≤ j0 ∧ min (K - 1) j0 ≤ i ∧ scanDown (fun x => !lt x G[a]!) G K i = scanDown (fun x => !lt x G[a]!) G K j0) (fun i => i) j0 ⟨Nat.le_refl _, by omega, rfl⟩ ⟨rfl, rfl, rfl, rfl, rfl, trivial⟩ ?_
    rintro i ⟨hi1, hi2, hi3⟩
    by_cases hle : K ≤ i
    ·obtain ⟨_, qx⟩ := zcy (rest := rest) (show i < G.size by omega) (0 + (i) * 1) rfl
     obtain ⟨_, qa⟩ := zcy (rest := rest) (show a < G.size by omega) (0 + (a) * 1) rfl
     cases hc : lt G[i]! G[a]! with
     | false =>
      obtain ⟨i, rfl⟩ : ∃ k, i = k + 1 := ⟨i - 1, by omega⟩
      have hw : IntKind.i64.wrap (((i + 1 : Nat) : Int) - 1) = (i : Int) := zaa (by omega) (by omega) |>.trans (by omega)
      refine Z139 ?_; refine qd (id := 15) [(200122, [900]), (200126, [900])] mixed (by kernel_rfl) ?_; refine Z354 ?_; refine z8 (qg L _ rfl rfl rfl rfl rfl rfl rfl (by omega)) rfl ?_; refine qn (qp L (q := 900) rfl rfl rfl rfl rfl qx) rfl rfl ?_; refine Z145 ?_; refine z8 (qg L _ rfl rfl rfl rfl rfl rfl rfl (by omega)) rfl ?_; refine qn (qp L (q := 900) rfl rfl rfl rfl rfl qa) rfl rfl ?_; refine z8 (zp L rfl rfl (zk rfl) rfl rfl rfl (fun u H hH _ _ => zbc hc hH)) rfl ?_; refine Z64 ?_; refine Z264 ?_; refine Z142 ?_; refine qh ?_; refine Z102 ?_; refine Z228 ?_; refine Z243 ?_
      exact yh (x := i + 1) i ⟨by omega, by omega, by rw [← hi3]; exact (zgh hle (by simp [hc])).symm⟩ (by omega) ⟨rfl, rfl, rfl, rfl, rfl, trivial⟩
     | true =>
      refine Z139 ?_; refine qd (id := 15) [(200122, [900]), (200126, [900])] mixed (by kernel_rfl) ?_; refine Z354 ?_; refine z8 (qg L _ rfl rfl rfl rfl rfl rfl rfl (by omega)) rfl ?_; refine qn (qp L (q := 900) rfl rfl rfl rfl rfl qx) rfl rfl ?_; refine Z145 ?_; refine z8 (qg L _ rfl rfl rfl rfl rfl rfl rfl (by omega)) rfl ?_; refine qn (qp L (q := 900) rfl rfl rfl rfl rfl qa) rfl rfl ?_; refine z8 (zp L rfl rfl (zk rfl) rfl rfl rfl (fun u H hH _ _ => zbc hc hH)) rfl ?_; refine Z64 ?_; refine Z267 ?_
      exact za5 i Since.refl ⟨hi1, hi2, by rw [← hi3]; exact (zck (by rintro ⟨_, h⟩; simp [hc] at h)).symm⟩ rfl ⟨rfl, rfl, rfl, rfl, rfl, trivial⟩
    ·refine Z139 ?_; refine qd (id := 15) [] mixed (by kernel_rfl) ?_; refine Z145 ?_; refine Z107 ?_; refine Z295 ?_; refine Z267 ?_
     exact za5 i Since.refl ⟨hi1, hi2, by rw [← hi3]; exact (zck (by rintro ⟨h, _⟩; exact hle h)).symm⟩ rfl ⟨rfl, rfl, rfl, rfl, rfl, trivial⟩
   rintro M ⟨hM1, hM2, hM3⟩
   rw [← hK3, ← hM3] at hL
   by_cases hKM : M < K
   ·rw [if_pos hKM] at hL
    refine Z139 ?_; refine Z108 ?_; refine Z140 ?_; refine Z39 ?_; refine Z143 ?_; refine Z162 ?_; refine zko rfl ?_; refine y7 ?_; refine yt ?_
    exact za5 (M, G) Since.refl ⟨hG, by dsimp only; omega, by dsimp only; omega, hL⟩ rfl ⟨rfl, rfl, rfl, rfl, trivial⟩
   ·rw [if_neg hKM, dif_pos (by omega)] at hL
    have hw5 : IntKind.i64.wrap ((K : Int) + 1) = ((K + 1 : Nat) : Int) := zaa (by omega) (by omega)
    have hw6 : IntKind.i64.wrap ((M : Int) - 1) = ((M - 1 : Nat) : Int) := zaa (by omega) (by omega) |>.trans (by omega)
    have hGs := zbm G K M
    obtain ⟨_, qj⟩ := zcy (rest := rest) (show M < G.size by omega) (0 + (M) * 1) rfl
    obtain ⟨_, qi⟩ := zcy (rest := rest) (show K < G.size by omega) (0 + (K) * 1) rfl
    have s1 := zb9 (rest := rest) G[M]! (show K < G.size by omega) (0 + (K) * 1) rfl
    have b1 := zca (rest := rest) (show K < G.size by omega) (0 + (K) * 1) rfl
    have hz : M < (G.setIfInBounds (K) G[M]!).size := by rw [Array.size_setIfInBounds]; omega
    have s2 := zb9 (rest := rest) G[K]! hz (0 + (M) * 1) rfl
    have b2 := zca (rest := rest) hz (0 + (M) * 1) rfl
    rw [zc5] at s2
    refine Z139 ?_; refine Z108 ?_; refine Z140 ?_; refine Z31 ?_; refine Z158 ?_; refine qd (id := 18) [(200142, [900]), (200146, [900]), (100147, [900]), (100148, [900])] mixed (by kernel_rfl) ?_; refine Z300 ?_; refine Z145 ?_; refine z8 (qg L _ rfl rfl rfl rfl rfl rfl rfl (by omega)) rfl ?_; refine qn (qp L (q := 900) rfl rfl rfl rfl rfl qj) rfl rfl ?_; refine Z145 ?_; refine z8 (qg L _ rfl rfl rfl rfl rfl rfl rfl (by omega)) rfl ?_; refine qn (qp L (q := 900) rfl rfl rfl rfl rfl qi) rfl rfl ?_; refine z8 (qg L _ rfl rfl rfl rfl rfl rfl rfl (by omega)) rfl ?_; refine yy (yw L (q := 900) rfl rfl rfl rfl rfl rfl b1 rfl s1) rfl ?_; refine z8 (qg L _ rfl rfl rfl rfl rfl rfl rfl (by omega)) rfl ?_; refine yy (yw L (q := 900) rfl rfl rfl rfl rfl rfl b2 rfl s2) rfl ?_; refine Z290 ?_; refine Z119 ?_; refine Z1 ?_; refine Z17 ?_; refine Z138 ?_; refine Z97 ?_; refine Z228 ?_; refine Z243 ?_
    exact yh (x := ((i0, j0), G)) ((K + 1, M - 1), swp G K M) ⟨by dsimp only; omega, by dsimp only; omega, by dsimp only; omega, by dsimp only; omega, by dsimp only; omega, hL⟩ (by dsimp only; omega) ⟨rfl, rfl, rfl, rfl, rfl, trivial⟩
  ·rintro ⟨J2, G⟩ ⟨hG, hj1, hj2, hL⟩
   dsimp only at hG hj1 hj2 ⊢
   rw [← hL] at hR'
   dsimp only at hR'
   subst hR'
   obtain ⟨_, qj⟩ := zcy (rest := rest) (show a < G.size by omega) (0 + (a) * 1) rfl
   obtain ⟨_, qi⟩ := zcy (rest := rest) (show J2 < G.size by omega) (0 + (J2) * 1) rfl
   have s1 := zb9 (rest := rest) G[a]! (show J2 < G.size by omega) (0 + (J2) * 1) rfl
   have b1 := zca (rest := rest) (show J2 < G.size by omega) (0 + (J2) * 1) rfl
   have hz : a < (G.setIfInBounds (J2) G[a]!).size := by rw [Array.size_setIfInBounds]; omega
   have s2 := zb9 (rest := rest) G[J2]! hz (0 + (a) * 1) rfl
   have b2 := zca (rest := rest) hz (0 + (a) * 1) rfl
   rw [zc5] at s2
   refine zh ?_; refine qd (id := 21) [(200160, [900]), (200164, [900]), (100165, [900]), (100166, [900])] mixed (by kernel_rfl) ?_; refine Z300 ?_; refine Z145 ?_; refine z8 (qg L _ rfl rfl rfl rfl rfl rfl rfl (by omega)) rfl ?_; refine qn (qp L (q := 900) rfl rfl rfl rfl rfl qj) rfl rfl ?_; refine Z145 ?_; refine z8 (qg L _ rfl rfl rfl rfl rfl rfl rfl (by omega)) rfl ?_; refine qn (qp L (q := 900) rfl rfl rfl rfl rfl qi) rfl rfl ?_; refine z8 (qg L _ rfl rfl rfl rfl rfl rfl rfl (by omega)) rfl ?_; refine yy (yw L (q := 900) rfl rfl rfl rfl rfl rfl b1 rfl s1) rfl ?_; refine z8 (qg L _ rfl rfl rfl rfl rfl rfl rfl (by omega)) rfl ?_; refine yy (yw L (q := 900) rfl rfl rfl rfl rfl rfl b2 rfl s2) rfl ?_; refine Z290 ?_; refine zf (id := 22) ?_; refine Z1 ?_; refine Z185 ?_
   exact zfw L 900 (r := zab b _ tyU) (rs := [.tmp 8, .tmp 9]) rfl (fun _ _ h => h) Since.refl rfl rfl (fun _ => rfl)
end Go.V.So
set_option maxRecDepth 20000
namespace Go.V.So
open Go.Proofs Go.RowKit Go.V Go.Sort
attribute [local irreducible] V N X VO Par StepOK Has Ret RetL RetO zcb zdt Src
set_option maxHeartbeats 2000000 in
set_option maxRecDepth 20000 in
theorem zzt {d : Array Int} {rest : List Value} {b m cap a e p : Nat} (hap : a ≤ p) (hpe : p < e) (he : e ≤ d.size) (hm : d.size = m) (hm1 : m ≤ 100000) {w : World} {B : Heap} {C : Nat → Prop} (hB : B.Le (hp w))
  (hr : (zab b (uC d ++ rest) tyU).P B w C) (hC : ∀ k, C k → k < w.heap.size ∧ B k = none) :
  zdt Tryz.prog 108 [.slice (some ⟨b, 0, none⟩) m cap, .int .i64 a, .int .i64 e, .int .i64 p] w B C (zab b (uC (partitionEqual lt d a e p).2 ++ rest) tyU) (.int .i64 (partitionEqual lt d a e p).1) := by
 unfold zdt
 refine zas 900 (zab b (uC d ++ rest) tyU) Tryz.func108 rfl Tryz.ntmps108 (Nat.le_of_ble_eq_true rfl) hB hr hC ?_
 rw [za1]
 obtain ⟨_, qj⟩ := zcy (rest := rest) (show p < d.size by omega) (0 + (p) * 1) rfl
 obtain ⟨_, qi⟩ := zcy (rest := rest) (show a < d.size by omega) (0 + (a) * 1) rfl
 have s1 := zb9 (rest := rest) d[p]! (show a < d.size by omega) (0 + (a) * 1) rfl
 have b1 := zca (rest := rest) (show a < d.size by omega) (0 + (a) * 1) rfl
 have hz : p < (d.setIfInBounds (a) d[p]!).size := by rw [Array.size_setIfInBounds]; omega
 have s2 := zb9 (rest := rest) d[a]! hz (0 + (p) * 1) rfl
 have b2 := zca (rest := rest) hz (0 + (p) * 1) rfl
 rw [zc5] at s2
 have hw1 : IntKind.i64.wrap ((a : Int) + 1) = ((a + 1 : Nat) : Int) := zaa (by omega) (by omega)
 obtain ⟨e1, rfl⟩ : ∃ e1, e = e1 + 1 := ⟨e - 1, by omega⟩
 have hw2 : IntKind.i64.wrap (((e1 + 1 : Nat) : Int) - 1) = (e1 : Int) := zaa (by omega) (by omega) |>.trans (by omega)
 obtain ⟨X, hX⟩ : ∃ X, X = partitionEqual lt d a (e1 + 1) p := ⟨_, rfl⟩
 rw [← hX]
 have hR' := hX
 unfold partitionEqual at hR'
 rw [Nat.add_sub_cancel] at hR'
 have hDs := zbm d a p
 refine Z146 ?_; refine Z144 ?_; refine qd (id := 1) [(200018, [900]), (200022, [900]), (100023, [900]), (100024, [900])] mixed (by kernel_rfl) ?_; refine Z300 ?_; refine Z145 ?_; refine z8 (qg L _ rfl rfl rfl rfl rfl rfl rfl (by omega)) rfl ?_; refine qn (qp L (q := 900) rfl rfl rfl rfl rfl qj) rfl rfl ?_; refine Z145 ?_; refine z8 (qg L _ rfl rfl rfl rfl rfl rfl rfl (by omega)) rfl ?_; refine qn (qp L (q := 900) rfl rfl rfl rfl rfl qi) rfl rfl ?_; refine z8 (qg L _ rfl rfl rfl rfl rfl rfl rfl (by omega)) rfl ?_; refine yy (yw L (q := 900) rfl rfl rfl rfl rfl rfl b1 rfl s1) rfl ?_; refine z8 (qg L _ rfl rfl rfl rfl rfl rfl rfl (by omega)) rfl ?_; refine yy (yw L (q := 900) rfl rfl rfl rfl rfl rfl b2 rfl s2) rfl ?_; refine Z290 ?_; refine Z175 ?_; refine Z17 ?_; refine Z228 ?_; refine Z199 ?_; refine qh ?_
 generalize swp d a p = D at *
 refine zhc (zdk (fun s : Nat × Array Int => [(9, .is (.int .i64 s.1)), (900, .own (zal b (uC s.2 ++ rest) tyU))]) (fun s => s.2.size = m ∧ s = X) (fun _ => []) ?_) ?_
 rotate_left
 ·refine zaj (fun s : (Nat × Nat) × Array Int => [(0, .is (.slice (some ⟨b, 0, none⟩) m cap)), (1, .is (.int .i64 a)), (9, .is (.int .i64 s.1.1)), (10, .is (.int .i64 s.1.2)), (900, .own (zal b (uC s.2 ++ rest) tyU))]) (fun s => s.2.size = m ∧ a + 1 ≤ s.1.1 ∧ s.1.1 ≤ e1 + 1 ∧ a ≤ s.1.2 ∧ s.1.2 ≤ e1 ∧ partEqLoop lt a s.1.1 s.1.2 s.2 = X) (fun s => s.1.2 + 1 - s.1.1) ((a + 1, e1), D) ⟨by dsimp only; omega, by dsimp only; omega, by dsimp only; omega, by dsimp only; omega, by dsimp only; omega, hR'.symm⟩ ⟨rfl, rfl, rfl, rfl, rfl, trivial⟩ ?_
  rintro ⟨⟨i0, j0⟩, G⟩ ⟨hG, hi1, hi2, hj1, hj2, hL⟩
  dsimp only at hG hi1 hi2 hj1 hj2 hL ⊢
  rw [partEqLoop] at hL
  clear hX hR' hDs
  refine qh (zh (qh ?_))
  refine zhc (zdk (fun i : Nat => [(0, .is (.slice (some ⟨b, 0, none⟩) m cap)), (1, .is (.int .i64 a)), (9, .is (.int .i64 i)), (10, .is (.int .i64 j0)), (900, .own (zal b (uC G ++ rest) tyU))]) (fun i => i0 ≤ i ∧ i ≤ max i0 (j0 + 1) ∧ i = scanUp (fun x => !lt G[a]! x) G j0 i0) (fun _ => []) ?_) ?_
  rotate_left
  ·refine zaj (fun i : Nat => [(0, .is (.slice (some ⟨b, 0, none⟩) m cap)), (1, .is (.int .i64 a)), (9, .is (.int .i64 i)), (10, .is (.int .i64 j0)), (900, .own (zal b (uC G ++ rest) tyU))]) (fun i => i0 ≤ i ∧ i ≤ max i0 (j0 + 1) ∧ scanUp (fun x => !lt G[a]! x) G j0 i = scanUp (fun x => !lt G[a]! x) G j0 i0) (fun i => j0 + 1 - i) i0 ⟨Nat.le_refl _, by omega, rfl⟩ ⟨rfl, rfl, rfl, rfl, rfl, trivial⟩ ?_
   rintro i ⟨hi1, hi2, hi3⟩
   by_cases hle : i ≤ j0
   ·obtain ⟨_, qx⟩ := zcy (rest := rest) (show i < G.size by omega) (0 + (i) * 1) rfl
    obtain ⟨_, qa⟩ := zcy (rest := rest) (show a < G.size by omega) (0 + (a) * 1) rfl
    cases hc : lt G[a]! G[i]! with
    | false =>
     have hw : IntKind.i64.wrap ((i : Int) + 1) = ((i + 1 : Nat) : Int) := zaa (by omega) (by omega)
     refine Z139 ?_; refine qd (id := 3) [(200036, [900]), (200040, [900])] mixed (by kernel_rfl) ?_; refine Z354 ?_; refine z8 (qg L _ rfl rfl rfl rfl rfl rfl rfl (by omega)) rfl ?_; refine qn (qp L (q := 900) rfl rfl rfl rfl rfl qa) rfl rfl ?_; refine Z145 ?_; refine z8 (qg L _ rfl rfl rfl rfl rfl rfl rfl (by omega)) rfl ?_; refine qn (qp L (q := 900) rfl rfl rfl rfl rfl qx) rfl rfl ?_; refine z8 (zp L rfl rfl (zk rfl) rfl rfl rfl (fun u H hH _ _ => zbc hc hH)) rfl ?_; refine Z64 ?_; refine Z264 ?_; refine Z142 ?_; refine qh ?_; refine Z312 ?_; refine ya ?_
     exact yh (x := i) (i + 1) ⟨by omega, by omega, by rw [← hi3]; exact (zjj hle (by simp [hc])).symm⟩ (by omega) ⟨rfl, rfl, rfl, rfl, rfl, trivial⟩
    | true =>
     refine Z139 ?_; refine qd (id := 3) [(200036, [900]), (200040, [900])] mixed (by kernel_rfl) ?_; refine Z354 ?_; refine z8 (qg L _ rfl rfl rfl rfl rfl rfl rfl (by omega)) rfl ?_; refine qn (qp L (q := 900) rfl rfl rfl rfl rfl qa) rfl rfl ?_; refine Z145 ?_; refine z8 (qg L _ rfl rfl rfl rfl rfl rfl rfl (by omega)) rfl ?_; refine qn (qp L (q := 900) rfl rfl rfl rfl rfl qx) rfl rfl ?_; refine z8 (zp L rfl rfl (zk rfl) rfl rfl rfl (fun u H hH _ _ => zbc hc hH)) rfl ?_; refine Z64 ?_; refine Z267 ?_
     exact za5 i Since.refl ⟨hi1, hi2, by rw [← hi3]; exact (zc7 (by rintro ⟨_, h⟩; simp [hc] at h)).symm⟩ rfl ⟨rfl, rfl, rfl, rfl, rfl, trivial⟩
   ·refine Z139 ?_; refine Z83 ?_; refine Z145 ?_; refine Z107 ?_; refine Z295 ?_; refine Z267 ?_
    exact za5 i Since.refl ⟨hi1, hi2, by rw [← hi3]; exact (zc7 (by rintro ⟨h, _⟩; exact hle h)).symm⟩ rfl ⟨rfl, rfl, rfl, rfl, rfl, trivial⟩
  rintro K ⟨hK1, hK2, hK3⟩
  refine zh (qh ?_)
  refine zhc (zdk (fun i : Nat => [(0, .is (.slice (some ⟨b, 0, none⟩) m cap)), (1, .is (.int .i64 a)), (9, .is (.int .i64 K)), (10, .is (.int .i64 i)), (900, .own (zal b (uC G ++ rest) tyU))]) (fun i => i ≤ j0 ∧ min (K - 1) j0 ≤ i ∧ i = scanDown (fun x => lt G[a]! x) G K j0) (fun _ => []) ?_) ?_
  rotate_left
  ·refine zaj (fun i : Nat => [(0, .is (.slice (some ⟨b, 0, none⟩) m cap)), (1, .is (.int .i64 a)), (9, .is (.int .i64 K)), (10, .is (.int .i64 i)), (900, .own (zal b (uC G ++ rest) tyU))]) (fun i => i ≤ j0 ∧ min (K - 1) j0 ≤ i ∧ scanDown (fun x => lt G[a]! x) G K i = scanDown (fun x => lt G[a]! x) G K j0) (fun i => i) j0 ⟨Nat.le_refl _, by omega, rfl⟩ ⟨rfl, rfl, rfl, rfl, rfl, trivial⟩ ?_
   rintro i ⟨hi1, hi2, hi3⟩
   by_cases hle : K ≤ i
   ·obtain ⟨_, qx⟩ := zcy (rest := rest) (show i < G.size by omega) (0 + (i) * 1) rfl
    obtain ⟨_, qa⟩ := zcy (rest := rest) (show a < G.size by omega) (0 + (a) * 1) rfl
    cases hc : lt G[a]! G[i]! with
    | true =>
     obtain ⟨i, rfl⟩ : ∃ k, i = k + 1 := ⟨i - 1, by omega⟩
     have hw : IntKind.i64.wrap (((i + 1 : Nat) : Int) - 1) = (i : Int) := zaa (by omega) (by omega) |>.trans (by omega)
     refine Z139 ?_; refine Z131 ?_; refine Z354 ?_; refine z8 (qg L _ rfl rfl rfl rfl rfl rfl rfl (by omega)) rfl ?_; refine qn (qp L (q := 900) rfl rfl rfl rfl rfl qa) rfl rfl ?_; refine Z145 ?_; refine z8 (qg L _ rfl rfl rfl rfl rfl rfl rfl (by omega)) rfl ?_; refine qn (qp L (q := 900) rfl rfl rfl rfl rfl qx) rfl rfl ?_; refine z8 (zp L rfl rfl (zk rfl) rfl rfl rfl (fun u H hH _ _ => zbc hc hH)) rfl ?_; refine Z264 ?_; refine Z142 ?_; refine qh ?_; refine Z190 ?_; refine Z26 ?_; refine Z243 ?_
     exact yh (x := i + 1) i ⟨by omega, by omega, by rw [← hi3]; exact (zgh hle (by simp [hc])).symm⟩ (by omega) ⟨rfl, rfl, rfl, rfl, rfl, trivial⟩
    | false =>
     refine Z139 ?_; refine Z131 ?_; refine Z354 ?_; refine z8 (qg L _ rfl rfl rfl rfl rfl rfl rfl (by omega)) rfl ?_; refine qn (qp L (q := 900) rfl rfl rfl rfl rfl qa) rfl rfl ?_; refine Z145 ?_; refine z8 (qg L _ rfl rfl rfl rfl rfl rfl rfl (by omega)) rfl ?_; refine qn (qp L (q := 900) rfl rfl rfl rfl rfl qx) rfl rfl ?_; refine z8 (zp L rfl rfl (zk rfl) rfl rfl rfl (fun u H hH _ _ => zbc hc hH)) rfl ?_; refine Z267 ?_
     exact za5 i Since.refl ⟨hi1, hi2, by rw [← hi3]; exact (zck (by rintro ⟨_, h⟩; simp [hc] at h)).symm⟩ rfl ⟨rfl, rfl, rfl, rfl, rfl, trivial⟩
   ·refine Z139 ?_; refine Z124 ?_; refine Z145 ?_; refine Z107 ?_; refine Z246 ?_; refine Z6 ?_; refine Z267 ?_
    exact za5 i Since.refl ⟨hi1, hi2, by rw [← hi3]; exact (zck (by rintro ⟨h, _⟩; exact hle h)).symm⟩ rfl ⟨rfl, rfl, rfl, rfl, rfl, trivial⟩
  rintro M ⟨hM1, hM2, hM3⟩
  rw [← hK3, ← hM3] at hL
  by_cases hKM : M < K
  ·rw [if_pos hKM] at hL
   refine Z139 ?_; refine Z325 ?_; refine Z39 ?_; refine Z143 ?_; refine Z162 ?_; refine zko rfl ?_; refine y7 ?_; refine yt ?_
   exact za5 (K, G) Since.refl ⟨hG, hL⟩ rfl ⟨rfl, rfl, trivial⟩
  ·rw [if_neg hKM, dif_pos (by omega)] at hL
   have hw5 : IntKind.i64.wrap ((K : Int) + 1) = ((K + 1 : Nat) : Int) := zaa (by omega) (by omega)
   have hw6 : IntKind.i64.wrap ((M : Int) - 1) = ((M - 1 : Nat) : Int) := zaa (by omega) (by omega) |>.trans (by omega)
   have hGs := zbm G K M
   obtain ⟨_, qj⟩ := zcy (rest := rest) (show M < G.size by omega) (0 + (M) * 1) rfl
   obtain ⟨_, qi⟩ := zcy (rest := rest) (show K < G.size by omega) (0 + (K) * 1) rfl
   have s1 := zb9 (rest := rest) G[M]! (show K < G.size by omega) (0 + (K) * 1) rfl
   have b1 := zca (rest := rest) (show K < G.size by omega) (0 + (K) * 1) rfl
   have hz : M < (G.setIfInBounds (K) G[M]!).size := by rw [Array.size_setIfInBounds]; omega
   have s2 := zb9 (rest := rest) G[K]! hz (0 + (M) * 1) rfl
   have b2 := zca (rest := rest) hz (0 + (M) * 1) rfl
   rw [zc5] at s2
   refine Z139 ?_; refine Z325 ?_; refine Z31 ?_; refine Z158 ?_; refine qd (id := 8) [(200072, [900]), (200076, [900]), (100077, [900]), (100078, [900])] mixed (by kernel_rfl) ?_; refine Z300 ?_; refine Z145 ?_; refine z8 (qg L _ rfl rfl rfl rfl rfl rfl rfl (by omega)) rfl ?_; refine qn (qp L (q := 900) rfl rfl rfl rfl rfl qj) rfl rfl ?_; refine Z145 ?_; refine z8 (qg L _ rfl rfl rfl rfl rfl rfl rfl (by omega)) rfl ?_; refine qn (qp L (q := 900) rfl rfl rfl rfl rfl qi) rfl rfl ?_; refine z8 (qg L _ rfl rfl rfl rfl rfl rfl rfl (by omega)) rfl ?_; refine yy (yw L (q := 900) rfl rfl rfl rfl rfl rfl b1 rfl s1) rfl ?_; refine z8 (qg L _ rfl rfl rfl rfl rfl rfl rfl (by omega)) rfl ?_; refine yy (yw L (q := 900) rfl rfl rfl rfl rfl rfl b2 rfl s2) rfl ?_; refine Z290 ?_; refine Z258 ?_; refine Z17 ?_; refine Z138 ?_; refine Z68 ?_; refine Z228 ?_; refine Z243 ?_
   exact yh (x := ((i0, j0), G)) ((K + 1, M - 1), swp G K M) ⟨by dsimp only; omega, by dsimp only; omega, by dsimp only; omega, by dsimp only; omega, by dsimp only; omega, hL⟩ (by dsimp only; omega) ⟨rfl, rfl, rfl, rfl, rfl, trivial⟩
 ·rintro ⟨K, G⟩ ⟨hG, hL⟩
  dsimp only at hG ⊢
  rw [← hL]
  refine zh ?_; refine Z279 ?_; refine Z138 ?_
  exact zfw L 900 (r := zab b _ tyU) (rs := [.tmp 8]) rfl (fun _ _ h => h) Since.refl rfl rfl (fun _ => rfl)
end Go.V.So
