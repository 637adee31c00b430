/- Texts on the way to StoresPlay, part 6: one behind another. -/
import Derived.Test.YtcppaheijljnfaaGreatStoresPlayM5
set_option linter.unusedVariables false
set_option linter.unusedSimpArgs false
set_option maxRecDepth 20000
namespace Go.V.L8
open Go.Proofs Go.RowKit Go.V Go.V.L2 Go.V.L3 Go.V.L6
theorem _root_.Go.V.Z361 {A B : Prop} (h : B) (t : Wr B → A := by intro h; refine Z139 ?_; refine qd (id := 4) [(200026, [900]), (200031, [900])] mixed (by kernel_rfl) ?_; exact h.h) : A := t ⟨h⟩
def stC (l : List CH) : List CH := zks (fun c => c.1) zbd l
theorem zez (l : List CH) : (stC l).length = l.length := zp0 cmpT_ord l
attribute [local irreducible] V N X VO Par StepOK Has Ret RetL RetO RetT zcb Src
set_option maxHeartbeats 1000000 in
set_option maxRecDepth 20000 in
theorem zzm {P X Y R : List CH} {rest : List Value} {b m cap a mm e : Nat} (ha : P.length = a) (hmm : a + X.length = mm) (he : mm + Y.length = e) (hx : 0 < X.length) (hy : 0 < Y.length) (hm : (P ++ (X ++ (Y ++ R))).length = m) (hm1 : m ≤ 100000) (fv : Value) {w : World} {B : Heap} {C : Nat → Prop} (hB : B.Le (hp w))
  (hr : (zab b ((P ++ (X ++ (Y ++ R))).flatMap ccs ++ rest) tyC).P B w C) (hC : ∀ k, C k → k < w.heap.size ∧ B k = none) :
  zcb Tryz.prog 183 [.slice (some ⟨b, 0, none⟩) m cap, .int .i64 a, .int .i64 mm, .int .i64 e, fv] w B C (zab b ((P ++ (Y ++ (X ++ R))).flatMap ccs ++ rest) tyC) := by
 unfold zcb
 refine zas 900 (zab b ((P ++ (X ++ (Y ++ R))).flatMap ccs ++ rest) tyC) Tryz.func183 rfl Tryz.ntmps183 (Nat.le_of_ble_eq_true rfl) hB hr hC ?_
 rw [za1]
 simp only [List.length_append] at hm
 have s1 : IntKind.i64.wrap ((mm : Int) - (a : Int)) = (X.length : Int) := zaa (by omega) (by omega) |>.trans (by omega)
 have s2 : IntKind.i64.wrap ((e : Int) - (mm : Int)) = (Y.length : Int) := zaa (by omega) (by omega) |>.trans (by omega)
 refine Z146 ?_; refine Z208 ?_; refine Z159 ?_; refine Z208 ?_; refine Z144 ?_; refine qh ?_
 refine zaj (fun s : (List CH × List CH) × (List CH × List CH) => [(0, .is (.slice (some ⟨b, 0, none⟩) m cap)), (2, .is (.int .i64 mm)), (4, .is fv), (10, .is (.int .i64 s.1.2.length)), (11, .is (.int .i64 s.2.1.length)), (900, .own (zal b ((P ++ (s.1.1 ++ (s.1.2 ++ (s.2.1 ++ (s.2.2 ++ R))))).flatMap ccs ++ rest) tyC))])
  (fun s => a + s.1.1.length + s.1.2.length = mm ∧ mm + s.2.1.length + s.2.2.length = e ∧ 0 < s.1.2.length ∧ 0 < s.2.1.length ∧ s.1.1 ++ (s.2.1 ++ (s.1.2 ++ s.2.2)) = Y ++ X) (fun s => s.1.2.length + s.2.1.length) (([], X), (Y, [])) ⟨hmm, he, hx, hy, by simp⟩ ⟨rfl, rfl, rfl, rfl, rfl, rfl, trivial⟩ ?_
 rintro ⟨⟨D1, X1⟩, ⟨Y1, D2⟩⟩ ⟨h1, h2, h3, h4, h5⟩
 dsimp only at h1 h2 h3 h4 h5 ⊢
 have hs1 : IntKind.i64.wrap ((mm : Int) - (X1.length : Int)) = ((mm - X1.length : Nat) : Int) := zaa (by omega) (by omega) |>.trans (by omega)
 by_cases heq : X1.length = Y1.length
 ·have e0 : P ++ (D1 ++ (X1 ++ (Y1 ++ (D2 ++ R)))) = (P ++ D1) ++ (X1 ++ ([] ++ (Y1 ++ (D2 ++ R)))) := by simp
  have e1 : (P ++ D1) ++ (Y1 ++ ([] ++ (X1 ++ (D2 ++ R)))) = P ++ (Y ++ (X ++ R)) := by
   have : Y ++ (X ++ R) = D1 ++ (Y1 ++ (X1 ++ D2)) ++ R := by rw [h5]; simp
   rw [this]; simp
  have hlen : ((P ++ D1) ++ (X1 ++ ([] ++ (Y1 ++ (D2 ++ R))))).length = m := by simp only [List.length_append, List.length_nil]; omega
  rw [e0]
  refine Z307 ?_; refine Z21 ?_; refine Z184 ?_; refine Z57 ?_; refine Z174 ?_; refine Z26 ?_; refine Z174 ?_; refine qo (za0 L 900 (zab b (((P ++ D1) ++ (Y1 ++ ([] ++ (X1 ++ (D2 ++ R))))).flatMap ccs ++ rest) tyC) (r := zab b (((P ++ D1) ++ (X1 ++ ([] ++ (Y1 ++ (D2 ++ R))))).flatMap ccs ++ rest) tyC) rfl rfl rfl rfl rfl (fun u H C hH _ hr hC => (by have h := zou (cap := cap) (a := mm - X1.length) (e := mm) (n := X1.length) (by rw [List.length_append]; omega) (by simp only [List.length_nil]; omega) rfl heq.symm hlen hm1 fv hH hr hC; exact h))) ?_; refine zi ?_
  rw [e1]
  exact zba L 900 (r := zab b _ tyC) rfl (fun _ _ h => h) Since.refl rfl rfl
 ·by_cases hgt : Y1.length < X1.length
  ·have hs2 : IntKind.i64.wrap ((X1.length : Int) - (Y1.length : Int)) = ((X1.drop Y1.length).length : Int) := zaa (by omega) (by omega) |>.trans (by rw [List.length_drop]; omega)
   have lt : (X1.take Y1.length).length = Y1.length := by rw [List.length_take]; omega
   have e0 : P ++ (D1 ++ (X1 ++ (Y1 ++ (D2 ++ R)))) = (P ++ D1) ++ (X1.take Y1.length ++ (X1.drop Y1.length ++ (Y1 ++ (D2 ++ R)))) := by
    conv => lhs; rw [← List.take_append_drop Y1.length X1]
    simp only [List.append_assoc]
   have e1 : (P ++ D1) ++ (Y1 ++ (X1.drop Y1.length ++ (X1.take Y1.length ++ (D2 ++ R)))) = P ++ ((D1 ++ Y1) ++ (X1.drop Y1.length ++ (X1.take Y1.length ++ (D2 ++ R)))) := by simp
   have hlen : ((P ++ D1) ++ (X1.take Y1.length ++ (X1.drop Y1.length ++ (Y1 ++ (D2 ++ R))))).length = m := by rw [← e0]; simp only [List.length_append]; omega
   have hld : (X1.drop Y1.length).length = X1.length - Y1.length := List.length_drop
   rw [e0]
   refine Z307 ?_; refine Z48 ?_; refine Z298 ?_; refine Z202 ?_; refine Z39 ?_; refine Z321 ?_; refine Z174 ?_; refine Z26 ?_; refine Z174 ?_; refine qo (za0 L 900 (zab b (((P ++ D1) ++ (Y1 ++ (X1.drop Y1.length ++ (X1.take Y1.length ++ (D2 ++ R))))).flatMap ccs ++ rest) tyC) (r := zab b (((P ++ D1) ++ (X1.take Y1.length ++ (X1.drop Y1.length ++ (Y1 ++ (D2 ++ R))))).flatMap ccs ++ rest) tyC) rfl rfl rfl rfl rfl (fun u H C hH _ hr hC => (by have h := zou (cap := cap) (a := mm - X1.length) (e := mm) (n := Y1.length) (by rw [List.length_append]; omega) (by omega) lt rfl hlen hm1 fv hH hr hC; exact h))) ?_; refine Z137 ?_; refine Z38 ?_; refine Z208 ?_; refine Z243 ?_
   rw [e1]
   exact yh (x := ((D1, X1), (Y1, D2))) ((D1 ++ Y1, X1.drop Y1.length), (X1.take Y1.length, D2)) ⟨by dsimp only; rw [List.length_append]; omega, by dsimp only; omega, by dsimp only; omega, by dsimp only; omega, by
    dsimp only
    rw [← h5]
    conv => rhs; rw [← List.take_append_drop Y1.length X1]
    simp only [List.append_assoc]⟩ (by dsimp only; omega) ⟨rfl, rfl, rfl, rfl, by dsimp only; rw [lt]; rfl, rfl, trivial⟩
  ·have hs2 : IntKind.i64.wrap ((Y1.length : Int) - (X1.length : Int)) = ((Y1.take (Y1.length - X1.length)).length : Int) := zaa (by omega) (by omega) |>.trans (by rw [List.length_take]; omega)
   have hs3 : IntKind.i64.wrap ((mm : Int) + (Y1.length : Int)) = ((mm + Y1.length : Nat) : Int) := zaa (by omega) (by omega)
   have hs4 : IntKind.i64.wrap (((mm + Y1.length : Nat) : Int) - (X1.length : Int)) = ((mm + Y1.length - X1.length : Nat) : Int) := zaa (by omega) (by omega) |>.trans (by omega)
   have lt : (Y1.take (Y1.length - X1.length)).length = Y1.length - X1.length := by rw [List.length_take]; omega
   have ld : (Y1.drop (Y1.length - X1.length)).length = X1.length := by rw [List.length_drop]; omega
   have e0 : P ++ (D1 ++ (X1 ++ (Y1 ++ (D2 ++ R)))) = (P ++ D1) ++ (X1 ++ (Y1.take (Y1.length - X1.length) ++ (Y1.drop (Y1.length - X1.length) ++ (D2 ++ R)))) := by
    conv => lhs; rw [← List.take_append_drop (Y1.length - X1.length) Y1]
    simp only [List.append_assoc]
   have e1 : (P ++ D1) ++ (Y1.drop (Y1.length - X1.length) ++ (Y1.take (Y1.length - X1.length) ++ (X1 ++ (D2 ++ R)))) = P ++ (D1 ++ (Y1.drop (Y1.length - X1.length) ++ (Y1.take (Y1.length - X1.length) ++ ((X1 ++ D2) ++ R)))) := by simp
   have hlen : ((P ++ D1) ++ (X1 ++ (Y1.take (Y1.length - X1.length) ++ (Y1.drop (Y1.length - X1.length) ++ (D2 ++ R))))).length = m := by rw [← e0]; simp only [List.length_append]; omega
   rw [e0]
   refine Z307 ?_; refine Z48 ?_; refine Z298 ?_; refine Z202 ?_; refine Z31 ?_; refine Z365 ?_; refine Z45 ?_; refine Z174 ?_; refine Z26 ?_; refine Z285 ?_; refine Z228 ?_; refine Z140 ?_; refine qo (za0 L 900 (zab b (((P ++ D1) ++ (Y1.drop (Y1.length - X1.length) ++ (Y1.take (Y1.length - X1.length) ++ (X1 ++ (D2 ++ R))))).flatMap ccs ++ rest) tyC) (r := zab b (((P ++ D1) ++ (X1 ++ (Y1.take (Y1.length - X1.length) ++ (Y1.drop (Y1.length - X1.length) ++ (D2 ++ R))))).flatMap ccs ++ rest) tyC) rfl rfl rfl rfl rfl (fun u H C hH _ hr hC => (by have h := zou (cap := cap) (a := mm - X1.length) (e := mm + Y1.length - X1.length) (n := X1.length) (by rw [List.length_append]; omega) (by omega) rfl ld hlen hm1 fv hH hr hC; exact h))) ?_; refine Z137 ?_; refine Z43 ?_; refine Z208 ?_; refine Z243 ?_
   rw [e1]
   exact yh (x := ((D1, X1), (Y1, D2))) ((D1, Y1.drop (Y1.length - X1.length)), (Y1.take (Y1.length - X1.length), X1 ++ D2)) ⟨by dsimp only; omega, by dsimp only; rw [List.length_append]; omega, by dsimp only; omega, by dsimp only; omega, by
    dsimp only
    rw [← h5]
    conv => rhs; rw [← List.take_append_drop (Y1.length - X1.length) Y1]
    simp only [List.append_assoc]⟩ (by dsimp only; omega) ⟨rfl, rfl, rfl, by dsimp only; rw [ld]; rfl, rfl, rfl, trivial⟩
abbrev ORD : Nat := 134
abbrev zjy : Value := .func (.func ORD) #[] #[]
theorem zdd {x y : CH} {w : World} {B : Heap} (hB : B.Le (hp w)) : Ret Tryz.prog ORD ([chv x.1 x.2, chv y.1 y.2] ++ []) w B (fun r _ => r = .int .i64 (zbd x.1 y.1)) := by
 refine yf Tryz.func134 rfl Tryz.ntmps134 (Nat.le_of_ble_eq_true rfl) hB ?_
 refine Z211 ?_; refine Z159 ?_; refine Z16 ?_; refine z7 (zz L (vs := [_, _, _, _, _, _]) (qm rfl) rfl rfl rfl rfl ⟨_, rfl⟩) rfl ?_; refine Z16 ?_; refine z7 (zz L (vs := [_, _, _, _, _, _]) (qm rfl) rfl rfl rfl rfl ⟨_, rfl⟩) rfl ?_; refine z7 (zp L rfl rfl (zk rfl) rfl rfl rfl (fun u H hH _ _ => zdc (a := x.1) (b := y.1) hH)) rfl ?_; refine Z138 ?_
 refine yd L (rs := [.tmp 4]) rfl (fun _ _ h => h) Since.refl fun u H hH hle => ?_
 rfl
set_option maxHeartbeats 1000000 in
set_option maxRecDepth 20000 in
theorem ins_ret {P X R : List CH} {rest : List Value} {b m cap a e : Nat} (ha : P.length = a) (he : a + X.length = e) (hm : (P ++ (X ++ R)).length = m) (hm1 : m ≤ 100000) {w : World} {B : Heap} {C : Nat → Prop} (hB : B.Le (hp w))
  (hr : (zab b ((P ++ (X ++ R)).flatMap ccs ++ rest) tyC).P B w C) (hC : ∀ k, C k → k < w.heap.size ∧ B k = none) :
  zcb Tryz.prog 173 [.slice (some ⟨b, 0, none⟩) m cap, .int .i64 a, .int .i64 e, zjy] w B C (zab b ((P ++ (stC X ++ R)).flatMap ccs ++ rest) tyC) := by
 unfold zcb
 refine zas 900 (zab b ((P ++ (X ++ R)).flatMap ccs ++ rest) tyC) Tryz.func173 rfl Tryz.ntmps173 (Nat.le_of_ble_eq_true rfl) hB hr hC ?_
 rw [za1]
 simp only [List.length_append] at hm
 have hst1 : stC (X.take 1) = X.take 1 := by rcases X with _ | ⟨x, X⟩ <;> rfl
 refine Z146 ?_; refine Z1 ?_; refine Z22 ?_; refine Z196 ?_
 refine zaj (fun s : Nat => [(0, .is (.slice (some ⟨b, 0, none⟩) m cap)), (1, .is (.int .i64 a)), (2, .is (.int .i64 e)), (3, .is zjy), (8, .is (.int .i64 (a + s : Nat))), (900, .own (zal b ((P ++ (stC (X.take s) ++ (X.drop s ++ R))).flatMap ccs ++ rest) tyC))]) (fun s => 1 ≤ s ∧ s ≤ max X.length 1) (fun s => X.length - s) 1 ⟨Nat.le_refl _, by omega⟩ ⟨rfl, rfl, rfl, rfl, rfl, by rw [hst1, ← List.append_assoc (X.take 1), List.take_append_drop]; rfl, trivial⟩ ?_
 rintro s ⟨hs1, hs2⟩
 by_cases hlt : s < X.length
 ·obtain ⟨x, hx⟩ := zae hlt
  have hsl : (stC (X.take s)).length = s := by rw [zez, List.length_take]; omega
  refine Z139 ?_; refine Z20 ?_; refine Z140 ?_; refine Z176 ?_; refine Z170 ?_; refine Z171 ?_; refine Z196 ?_
  refine zaj (fun t : List CH × List CH => [(0, .is (.slice (some ⟨b, 0, none⟩) m cap)), (1, .is (.int .i64 a)), (2, .is (.int .i64 e)), (3, .is zjy), (8, .is (.int .i64 (a + s : Nat))), (9, .is (.int .i64 (a + t.1.length : Nat))), (900, .own (zal b ((P ++ (t.1 ++ (x :: (t.2 ++ (X.drop (s + 1) ++ R))))).flatMap ccs ++ rest) tyC))])
   (fun t => t.1 ++ t.2 = stC (X.take s) ∧ ∀ z ∈ t.2, zbd x.1 z.1 < 0) (fun t => t.1.length) (stC (X.take s), []) ⟨List.append_nil _, fun z hz => (by cases hz)⟩ ⟨rfl, rfl, rfl, rfl, rfl, by dsimp only; rw [hsl]; rfl, by dsimp only; rw [zfc hx]; rfl, trivial⟩ ?_
  rintro ⟨A, D⟩ ⟨hAD, hD⟩
  dsimp only at hAD hD ⊢
  have hAl : A.length + D.length = s := by rw [← List.length_append, hAD, hsl]
  have hfin : (∀ y, A.getLast? = some y → ¬ zbd x.1 y.1 < 0) → P ++ (A ++ (x :: (D ++ (X.drop (s + 1) ++ R)))) = P ++ (stC (X.take (s + 1)) ++ (X.drop (s + 1) ++ R)) := fun h => by
   have := zz9 (k := fun c : CH => c.1) cmpT_ord (x := x) hAD hD h
   rw [List.take_add_one, hx]
   unfold stC
   show _ = P ++ (zks (fun c : CH => c.1) zbd (X.take s ++ [x]) ++ _)
   rw [← this]; simp
  rcases List.eq_nil_or_concat A with hA | ⟨A', y, hA⟩
  ·subst hA
   rw [hfin (fun y hy => by simp at hy), List.length_nil, Nat.add_zero]
   refine Z361 ?_; refine Z145 ?_; refine Z93 ?_; refine Z246 ?_; refine Z191 ?_; refine Z267 ?_; refine Z166 ?_; refine Z175 ?_; refine Z197 ?_
   exact yh (x := s) (s + 1) ⟨by omega, by omega⟩ (by omega) ⟨rfl, rfl, rfl, rfl, rfl, rfl, trivial⟩
  ·rw [List.concat_eq_append] at hA
   subst hA
   have hl9 : (A' ++ [y]).length = A'.length + 1 := by rw [List.length_append, List.length_singleton]
   rw [hl9] at hAl
   have e0 : P ++ ((A' ++ [y]) ++ (x :: (D ++ (X.drop (s + 1) ++ R)))) = (P ++ A') ++ y :: ([] ++ x :: (D ++ (X.drop (s + 1) ++ R))) := by simp
   have l1 : (P ++ A').length = a + A'.length := by rw [List.length_append, ha]
   have l2 : (P ++ A').length + 1 + ([] : List CH).length = a + (A' ++ [y]).length := by rw [l1, hl9]; rfl
   have g1 := zim (x := y) (y := x) (M := []) (D := D ++ (X.drop (s + 1) ++ R)) l1
   have g2 := zil (x := y) (y := x) (D := D ++ (X.drop (s + 1) ++ R)) l2
   have g3 := zpx (x := y) (y := x) (D := D ++ (X.drop (s + 1) ++ R)) l1 l2
   have e1 : (P ++ A') ++ x :: ([] ++ y :: (D ++ (X.drop (s + 1) ++ R))) = P ++ (A' ++ (x :: ((y :: D) ++ (X.drop (s + 1) ++ R)))) := by simp
   have hlen : ((P ++ A') ++ y :: ([] ++ x :: (D ++ (X.drop (s + 1) ++ R)))).length = m := by rw [← e0]; simp only [List.length_append, List.length_cons, List.length_nil, List.length_drop]; omega
   have hw1 : IntKind.i64.wrap (((a + (A' ++ [y]).length : Nat) : Int) - 1) = ((a + A'.length : Nat) : Int) := zaa (by omega) (by omega) |>.trans (by omega)
   by_cases hc : zbd x.1 y.1 < 0
   ·rw [e0]
    rw [e1] at g3
    generalize (P ++ A') ++ y :: ([] ++ x :: (D ++ (X.drop (s + 1) ++ R))) = K at *
    have h1 := get_lt g1
    have h2 := get_lt g2
    have q1 := zbx (rest := rest) g1 (0 + (a + A'.length) * 7) (by omega)
    have q2 := zbx (rest := rest) g2 (0 + (a + (A' ++ [y]).length) * 7) (by omega)
    have s1 := zdf (rest := rest) (z := y) h2 (0 + (a + (A' ++ [y]).length) * 7) (by omega)
    have b1 := zdg (rest := rest) h2 (0 + (a + (A' ++ [y]).length) * 7) (by omega)
    have h3 : a + A'.length < (K.set (a + (A' ++ [y]).length) y).length := by rw [List.length_set]; exact h1
    have s2 := zdf (rest := rest) (z := x) h3 (0 + (a + A'.length) * 7) (by omega)
    have b2 := zdg (rest := rest) h3 (0 + (a + A'.length) * 7) (by omega)
    rw [g3] at s2
    refine Z361 ?_; refine Z145 ?_; refine Z88 ?_; refine Z300 ?_; refine z8 (qg L _ rfl rfl rfl rfl rfl rfl rfl (by omega)) rfl ?_; refine qn (zam L (q := 900) (vs := [_, _, _, _, _, _, _]) rfl rfl rfl rfl rfl rfl q2) rfl rfl ?_; refine Z241 ?_; refine z8 (qg L _ rfl rfl rfl rfl rfl rfl rfl (by omega)) rfl ?_; refine qn (zam L (q := 900) (vs := [_, _, _, _, _, _, _]) rfl rfl rfl rfl rfl rfl q1) rfl rfl ?_; refine z8 (zp L rfl rfl (zk rfl) rfl rfl rfl (fun u H hH _ _ => zdd hH)) rfl ?_; refine Z72 ?_; refine Z264 ?_; refine Z230 ?_; refine qd (id := 6) [(200046, [900]), (200050, [900]), (100051, [900]), (100052, [900])] mixed (by kernel_rfl) ?_; refine Z145 ?_; refine Z241 ?_; refine Z241 ?_; refine z8 (qg L _ rfl rfl rfl rfl rfl rfl rfl (by omega)) rfl ?_; refine qn (zam L (q := 900) (vs := [_, _, _, _, _, _, _]) rfl rfl rfl rfl rfl rfl q1) rfl rfl ?_; refine Z145 ?_; refine z8 (qg L _ rfl rfl rfl rfl rfl rfl rfl (by omega)) rfl ?_; refine qn (zam L (q := 900) (vs := [_, _, _, _, _, _, _]) rfl rfl rfl rfl rfl rfl q2) rfl rfl ?_; refine z8 (qg L _ rfl rfl rfl rfl rfl rfl rfl (by omega)) rfl ?_; refine yy (yw L (q := 900) rfl rfl rfl rfl rfl rfl b1 rfl s1) rfl ?_; refine z8 (qg L _ rfl rfl rfl rfl rfl rfl rfl (by omega)) rfl ?_; refine yy (yw L (q := 900) rfl rfl rfl rfl rfl rfl b2 rfl s2) rfl ?_; refine Z275 ?_; refine Z180 ?_; refine Z26 ?_; refine Z152 ?_
    exact yh (x := (A' ++ [y], D)) (A', y :: D) ⟨by rw [← hAD]; simp, fun z hz => by
     rcases List.mem_cons.1 hz with rfl | hz
     ·exact hc
     ·exact hD z hz⟩ (by dsimp only; omega) ⟨rfl, rfl, rfl, rfl, rfl, rfl, rfl, trivial⟩
   ·have hf := hfin (fun z hz => by rw [List.getLast?_append] at hz; simp at hz; subst hz; exact hc)
    rw [e0]
    rw [e0] at hf
    have q1 := zbx (rest := rest) g1 (0 + (a + A'.length) * 7) (by omega)
    have q2 := zbx (rest := rest) g2 (0 + (a + (A' ++ [y]).length) * 7) (by omega)
    rw [hf] at q1 q2 ⊢
    refine Z361 ?_; refine Z145 ?_; refine Z88 ?_; refine Z300 ?_; refine z8 (qg L _ rfl rfl rfl rfl rfl rfl rfl (by omega)) rfl ?_; refine qn (zam L (q := 900) (vs := [_, _, _, _, _, _, _]) rfl rfl rfl rfl rfl rfl q2) rfl rfl ?_; refine Z241 ?_; refine z8 (qg L _ rfl rfl rfl rfl rfl rfl rfl (by omega)) rfl ?_; refine qn (zam L (q := 900) (vs := [_, _, _, _, _, _, _]) rfl rfl rfl rfl rfl rfl q1) rfl rfl ?_; refine z8 (zp L rfl rfl (zk rfl) rfl rfl rfl (fun u H hH _ _ => zdd hH)) rfl ?_; refine Z86 ?_; refine Z267 ?_; refine Z166 ?_; refine Z175 ?_; refine Z197 ?_
    exact yh (x := s) (s + 1) ⟨by omega, by omega⟩ (by omega) ⟨rfl, rfl, rfl, rfl, rfl, rfl, trivial⟩
 ·have hX : P ++ (stC (X.take s) ++ (X.drop s ++ R)) = P ++ (stC X ++ R) := by
   rw [List.take_of_length_le (by omega), List.drop_eq_nil_of_le (by omega), List.nil_append]
  rw [hX]
  refine Z139 ?_; refine Z20 ?_; refine Z266 ?_; refine Z172 ?_
  exact zba L 900 (r := zab b _ tyC) rfl (fun _ _ h => h) Since.refl rfl rfl
end Go.V.L8
set_option maxRecDepth 20000
namespace Go.V
open Go.Proofs Go.RowKit
section
variable {α β : Type} [DecidableEq α] [DecidableEq β] {k : α → β} {c : β → β → Int}
omit [DecidableEq β] in
theorem zr4 (ho : Ord3 c) {z y x : β} (h1 : ¬ c y z < 0) (h2 : c y x < 0) : c z x < 0 := by
 by_cases h3 : c z y < 0
 ·exact ho.tr h3 h2
 ·have := ho.anti y z
  rw [ho.eq z y (by omega)]; exact h2
omit [DecidableEq β] in
theorem zr2 (ho : Ord3 c) {x y z : β} (h1 : c y x < 0) (h2 : ¬ c z x < 0) : c y z < 0 := by
 by_cases h3 : c x z < 0
 ·exact ho.tr h1 h3
 ·have := ho.anti x z
  rw [ho.eq z x (by omega)]; exact h1
structure SymI (k : α → β) (c : β → β → Int) (X Y : List α) (a mid lo hi s r : Nat) : Prop where
 ls : lo ≤ s
 sr : s ≤ r
 rh : r ≤ hi
 bef : ∀ i x y, lo ≤ i → i < s → X[i - a]? = some x → Y[mid - 1 - i]? = some y → ¬ c (k y) (k x) < 0
 aft : ∀ i x y, r ≤ i → i < hi → X[i - a]? = some x → Y[mid - 1 - i]? = some y → c (k y) (k x) < 0
structure z3g (X Y : List α) (a mm e mid lo hi : Nat) : Prop where
 lx : a + X.length = mm
 ly : mm + Y.length = e
 al : a ≤ lo
 nl : mid + mm ≤ lo + e
 hm : hi ≤ mid
 hx : hi ≤ mm
 lo_ : lo = a ∨ mid + mm = lo + e
 hi_ : hi = mm ∨ hi = mid
omit [DecidableEq α] [DecidableEq β] in
theorem SymI.start {X Y : List α} {a mid lo hi : Nat} (h : lo ≤ hi) : SymI k c X Y a mid lo hi lo hi := ⟨Nat.le_refl _, h, Nat.le_refl _, fun i x y h1 h2 => by omega, fun i x y h1 h2 => by omega⟩
omit [DecidableEq α] [DecidableEq β] in
theorem SymI.up (ho : Ord3 c) {X Y : List α} (hX : Srt k c X) (hY : Srt k c Y) {a mm e mid lo hi s r i : Nat} {x y : α} (hb : z3g X Y a mm e mid lo hi) (h : SymI k c X Y a mid lo hi s r) (h1 : s ≤ i) (h2 : i < r) (hx : X[i - a]? = some x) (hy : Y[mid - 1 - i]? = some y) (hc : ¬ c (k y) (k x) < 0) : SymI k c X Y a mid lo hi (i + 1) r := by
 obtain ⟨b1, b2, b3, b4, b5, b6, _, _⟩ := hb
 obtain ⟨i1, i2, i3, i4, i5⟩ := h
 refine ⟨by omega, by omega, i3, fun j x' y' hj hji hx' hy' hlt => hc ?_, i5⟩
 have e1 := zfb ho hX hx' hx (by omega)
 have e2 := zfb ho hY hy hy' (by omega)
 exact zr4 ho e2 (zr2 ho hlt e1)
omit [DecidableEq α] [DecidableEq β] in
theorem SymI.down (ho : Ord3 c) {X Y : List α} (hX : Srt k c X) (hY : Srt k c Y) {a mm e mid lo hi s r i : Nat} {x y : α} (hb : z3g X Y a mm e mid lo hi) (h : SymI k c X Y a mid lo hi s r) (h1 : s ≤ i) (h2 : i < r) (hx : X[i - a]? = some x) (hy : Y[mid - 1 - i]? = some y) (hc : c (k y) (k x) < 0) : SymI k c X Y a mid lo hi s i := by
 obtain ⟨b1, b2, b3, b4, b5, b6, _, _⟩ := hb
 obtain ⟨i1, i2, i3, i4, i5⟩ := h
 refine ⟨by omega, by omega, by omega, i4, fun j x' y' hj hji hx' hy' => ?_⟩
 have e1 := zfb ho hX hx hx' (by omega)
 have e2 := zfb ho hY hy' hy (by omega)
 exact zr4 ho e2 (zr2 ho hc e1)
theorem zv6 (ho : Ord3 c) {X Y : List α} (hX : Srt k c X) (hY : Srt k c Y) {a mm e mid lo hi s : Nat} (hb : z3g X Y a mm e mid lo hi) (h : SymI k c X Y a mid lo hi s s) :
  zks k c (X.take (s - a) ++ Y.take (mid - s)) ++ zks k c (X.drop (s - a) ++ Y.drop (mid - s)) = zks k c (X ++ Y) := by
 obtain ⟨b1, b2, b3, b4, b5, b6, b7, b8⟩ := hb
 obtain ⟨i1, i2, i3, i4, i5⟩ := h
 have hXt : X.take (s - a) ++ X.drop (s - a) = X := List.take_append_drop _ _
 have hYt : Y.take (mid - s) ++ Y.drop (mid - s) = Y := List.take_append_drop _ _
 have h12 : ∀ x ∈ X.drop (s - a), ∀ y ∈ Y.take (mid - s), c (k y) (k x) < 0 := fun x hx y hy => by
  obtain ⟨i, hi⟩ := List.getElem?_of_mem hx
  obtain ⟨j, hj⟩ := List.getElem?_of_mem hy
  have hjl := get_lt hj
  rw [List.length_take] at hjl
  rw [List.getElem?_drop] at hi
  rw [List.getElem?_take_of_lt (by omega)] at hj
  have hil := get_lt hi
  obtain ⟨x0, hx0⟩ := zae (l := X) (i := s - a) (by omega)
  obtain ⟨y0, hy0⟩ := zae (l := Y) (i := mid - 1 - s) (by omega)
  have h0 := i5 s x0 y0 (Nat.le_refl _) (by omega) hx0 hy0
  exact zr4 ho (zfb ho hY hj hy0 (by omega)) (zr2 ho h0 (zfb ho hX hx0 hi (by omega)))
 have h21 : ∀ x ∈ X.take (s - a), ∀ y ∈ Y.drop (mid - s), ¬ c (k y) (k x) < 0 := fun x hx y hy hlt => by
  obtain ⟨i, hi⟩ := List.getElem?_of_mem hx
  obtain ⟨j, hj⟩ := List.getElem?_of_mem hy
  have hil := get_lt hi
  rw [List.length_take] at hil
  rw [List.getElem?_drop] at hj
  rw [List.getElem?_take_of_lt (by omega)] at hi
  have hjl := get_lt hj
  obtain ⟨x1, hx1⟩ := zae (l := X) (i := s - 1 - a) (by omega)
  obtain ⟨y1, hy1⟩ := zae (l := Y) (i := mid - s) (by omega)
  have h0 := i4 (s - 1) x1 y1 (by omega) (by omega) hx1 (by rw [show mid - 1 - (s - 1) = mid - s by omega]; exact hy1)
  exact h0 (zr4 ho (zfb ho hY hy1 hj (by omega)) (zr2 ho hlt (zfb ho hX hi hx1 (by omega))))
 have := zwa ho (by rw [hXt]; exact hX) (by rw [hYt]; exact hY) h12 h21 (zcs ho _) (zcs ho _)
 rw [hXt, hYt] at this
 exact zk2 ho this
theorem zzy (ho : Ord3 c) {x : α} {Y : List α} (hY : Srt k c Y) {i : Nat} (h1 : ∀ j z, j < i → Y[j]? = some z → c (k z) (k x) < 0) (h2 : ∀ j z, i ≤ j → Y[j]? = some z → ¬ c (k z) (k x) < 0) :
  Y.take i ++ x :: Y.drop i = zks k c ([x] ++ Y) := by
 have hY' : Srt k c (Y.take i ++ Y.drop i) := by rw [List.take_append_drop]; exact hY
 have := zzj ho (x := x) hY' (fun z hz => by
  obtain ⟨j, hj⟩ := List.getElem?_of_mem hz
  have hjl := get_lt hj
  rw [List.length_take] at hjl
  rw [List.getElem?_take_of_lt (by omega)] at hj
  exact h1 j z (by omega) hj) (fun z hz => by
  obtain ⟨j, hj⟩ := List.getElem?_of_mem hz
  rw [List.getElem?_drop] at hj
  exact h2 _ z (by omega) hj)
 rw [List.take_append_drop] at this
 exact zk2 ho this
theorem zzx (ho : Ord3 c) {x : α} {X : List α} (hX : Srt k c X) {i : Nat} (h1 : ∀ j z, j < i → X[j]? = some z → ¬ c (k x) (k z) < 0) (h2 : ∀ j z, i ≤ j → X[j]? = some z → c (k x) (k z) < 0) :
  X.take i ++ x :: X.drop i = zks k c (X ++ [x]) := by
 have hX' : Srt k c (X.take i ++ X.drop i) := by rw [List.take_append_drop]; exact hX
 have := zov ho (x := x) hX' (fun z hz => by
  obtain ⟨j, hj⟩ := List.getElem?_of_mem hz
  have hjl := get_lt hj
  rw [List.length_take] at hjl
  rw [List.getElem?_take_of_lt (by omega)] at hj
  exact h1 j z (by omega) hj) (fun z hz => by
  obtain ⟨j, hj⟩ := List.getElem?_of_mem hz
  rw [List.getElem?_drop] at hj
  exact h2 _ z (by omega) hj)
 rw [List.take_append_drop] at this
 exact zk2 ho this
end
end Go.V
set_option maxRecDepth 20000
namespace Go.V.L8
open Go.Proofs Go.RowKit Go.V Go.V.L2 Go.V.L3 Go.V.L6
theorem zxe {P X D : List CH} {a : Nat} (ha : P.length = a) {j : Nat} {x : CH} (h : X[j]? = some x) (i : Nat) (hi : i = a + j) : (P ++ (X ++ D))[i]? = some x := by
 subst hi ha
 have := get_lt h
 rw [List.getElem?_append_right (by omega), show P.length + j - P.length = j by omega, List.getElem?_append_left this]; exact h
theorem z0d {P X Y D : List CH} {a mm : Nat} (ha : P.length = a) (hx : a + X.length = mm) {j : Nat} {y : CH} (h : Y[j]? = some y) (i : Nat) (hi : i = mm + j) : (P ++ (X ++ (Y ++ D)))[i]? = some y := by
 have e : P ++ (X ++ (Y ++ D)) = (P ++ X) ++ (Y ++ D) := by simp
 rw [e]
 exact zxe (by rw [List.length_append]; omega) h i hi
abbrev z03 (l : List CH) : Prop := Srt (fun c : CH => c.1) zbd l
theorem ziw (i j : Nat) : ((i : Int) + (j : Int)).fdiv (2 ^ min (1 : Int).toNat IntKind.u64.bits) = ((i + j) / 2 : Nat) := by
 show ((i : Int) + (j : Int)).fdiv 2 = _
 rw [Int.fdiv_eq_ediv_of_nonneg _ (by decide)]
 omega
attribute [local irreducible] V N X VO Par StepOK Has Ret RetL RetO RetT zcb Src
abbrev SYM : Nat := 174
set_option maxHeartbeats 4000000 in
set_option maxRecDepth 20000 in
theorem zzg {P Y R : List CH} {x : CH} {rest : List Value} {b m cap a mm e : Nat} (ha : P.length = a) (hmm : a + 1 = mm) (he : mm + Y.length = e) (hY : z03 Y) (hm : (P ++ ([x] ++ (Y ++ R))).length = m) (hm1 : m ≤ 100000) {w : World} {B : Heap} {C : Nat → Prop} (hB : B.Le (hp w))
  (hr : (zab b ((P ++ ([x] ++ (Y ++ R))).flatMap ccs ++ rest) tyC).P B w C) (hC : ∀ k, C k → k < w.heap.size ∧ B k = none) :
  zcb Tryz.prog SYM [.slice (some ⟨b, 0, none⟩) m cap, .int .i64 a, .int .i64 mm, .int .i64 e, zjy] w B C (zab b ((P ++ (stC ([x] ++ Y) ++ R)).flatMap ccs ++ rest) tyC) := by
 unfold zcb
 refine zas 900 (zab b ((P ++ ([x] ++ (Y ++ R))).flatMap ccs ++ rest) tyC) Tryz.func174 rfl Tryz.ntmps174 (Nat.le_of_ble_eq_true rfl) hB hr hC ?_
 rw [za1]
 have hm' := hm
 simp only [List.length_append, List.length_singleton] at hm'
 refine Z139 ?_; refine Z15 ?_; refine Z140 ?_; refine Z71 ?_; refine Z294 ?_; refine Z286 ?_; refine Z249 ?_; refine Z144 ?_; refine qh ?_
 refine zaj (fun s : Nat × Nat => [(0, .is (.slice (some ⟨b, 0, none⟩) m cap)), (1, .is (.int .i64 a)), (4, .is zjy), (10, .is (.int .i64 s.1)), (11, .is (.int .i64 s.2)), (900, .own (zal b ((P ++ ([x] ++ (Y ++ R))).flatMap ccs ++ rest) tyC))])
  (fun s => mm ≤ s.1 ∧ s.1 ≤ s.2 ∧ s.2 ≤ e ∧ (∀ (j : Nat) (z : CH), j < s.1 - mm → Y[j]? = some z → zbd z.1 x.1 < 0) ∧ ∀ (j : Nat) (z : CH), s.2 - mm ≤ j → Y[j]? = some z → ¬ zbd z.1 x.1 < 0) (fun s => s.2 - s.1) (mm, e)
  ⟨Nat.le_refl _, by dsimp only; omega, Nat.le_refl _, fun j z h => (by dsimp only at h; omega), fun j z h hz => (by have := get_lt hz; dsimp only at h; omega)⟩ ⟨rfl, rfl, rfl, rfl, rfl, rfl, trivial⟩ ?_
 rintro ⟨i, j⟩ ⟨h1, h2, h3, h4, h5⟩
 dsimp only at h1 h2 h3 h4 h5 ⊢
 by_cases hlt : i < j
 ·have hsh := ziw i j
  obtain ⟨h, hh⟩ : ∃ h, (i + j) / 2 = h := ⟨_, rfl⟩
  rw [hh] at hsh
  obtain ⟨y, hy⟩ := zae (l := Y) (show h - mm < Y.length by omega)
  have q1 := zbx (rest := rest) (z0d (X := [x]) (D := R) (mm := mm) ha hmm hy h (by omega)) (0 + h * 7) (by omega)
  have q2 := zbx (rest := rest) (zxe (X := [x]) (D := Y ++ R) ha (j := 0) rfl a (by omega)) (0 + a * 7) (by omega)
  by_cases hc : zbd y.1 x.1 < 0
  ·refine Z229 ?_; refine Z398 ?_; refine Z328 ?_; refine Z22 ?_; refine z7 (zau rfl rfl rfl zbn.1 zbn.2 (wrap_u64 (by omega) (by omega))) rfl ?_; refine Z101 ?_; refine z7 (zau rfl rfl rfl zbo.1 zbo.2 (zaa (by omega) (by omega))) rfl ?_; refine Z144 ?_; refine qd (id := 5) [(200044, [900]), (200048, [900])] mixed (by kernel_rfl) ?_; refine Z179 ?_; refine z8 (qg L _ rfl rfl rfl rfl rfl rfl rfl (by omega)) rfl ?_; refine qn (zam L (q := 900) (vs := [_, _, _, _, _, _, _]) rfl rfl rfl rfl rfl rfl q1) rfl rfl ?_; refine Z145 ?_; refine z8 (qg L _ rfl rfl rfl rfl rfl rfl rfl (by omega)) rfl ?_; refine qn (zam L (q := 900) (vs := [_, _, _, _, _, _, _]) rfl rfl rfl rfl rfl rfl q2) rfl rfl ?_; refine z8 (zp L rfl rfl (zk rfl) rfl rfl rfl (fun u H hH _ _ => zdd hH)) rfl ?_; refine Z72 ?_; refine Z213 ?_; refine Z190 ?_; refine Z197 ?_; refine ya ?_
   exact yh (x := (i, j)) (h + 1, j) ⟨by dsimp only; omega, by dsimp only; omega, h3, fun k z hk hz => by
    dsimp only at hk
    exact zr4 cmpT_ord (zfb cmpT_ord hY hz hy (by omega)) hc, h5⟩ (by dsimp only; omega) ⟨rfl, rfl, rfl, rfl, rfl, rfl, trivial⟩
  ·refine Z229 ?_; refine Z398 ?_; refine Z328 ?_; refine Z22 ?_; refine z7 (zau rfl rfl rfl zbn.1 zbn.2 (wrap_u64 (by omega) (by omega))) rfl ?_; refine Z101 ?_; refine z7 (zau rfl rfl rfl zbo.1 zbo.2 (zaa (by omega) (by omega))) rfl ?_; refine Z144 ?_; refine qd (id := 5) [(200044, [900]), (200048, [900])] mixed (by kernel_rfl) ?_; refine Z179 ?_; refine z8 (qg L _ rfl rfl rfl rfl rfl rfl rfl (by omega)) rfl ?_; refine qn (zam L (q := 900) (vs := [_, _, _, _, _, _, _]) rfl rfl rfl rfl rfl rfl q1) rfl rfl ?_; refine Z145 ?_; refine z8 (qg L _ rfl rfl rfl rfl rfl rfl rfl (by omega)) rfl ?_; refine qn (zam L (q := 900) (vs := [_, _, _, _, _, _, _]) rfl rfl rfl rfl rfl rfl q2) rfl rfl ?_; refine z8 (zp L rfl rfl (zk rfl) rfl rfl rfl (fun u H hH _ _ => zdd hH)) rfl ?_; refine Z86 ?_; refine Z182 ?_; refine Z193 ?_; refine Z243 ?_
   exact yh (x := (i, j)) (i, h) ⟨h1, by dsimp only; omega, by dsimp only; omega, h4, fun k z hk hz hcx => by
    dsimp only at hk
    exact hc (zr4 cmpT_ord (zfb cmpT_ord hY hy hz (by omega)) hcx)⟩ (by dsimp only; omega) ⟨rfl, rfl, rfl, rfl, rfl, rfl, trivial⟩
 ·obtain rfl : i = j := by omega
  have hfin := zzy (k := fun c : CH => c.1) cmpT_ord hY h4 h5
  have hal : (Y.take (i - mm)).length = i - mm := by rw [List.length_take]; omega
  have hYl : (Y.take (i - mm)).length + (Y.drop (i - mm)).length = Y.length := by rw [← List.length_append, List.take_append_drop]
  have e0 : P ++ ([x] ++ (Y ++ R)) = P ++ ([] ++ (x :: (Y.take (i - mm) ++ (Y.drop (i - mm) ++ R)))) := by
   rw [← List.append_assoc (Y.take _), List.take_append_drop]; rfl
  rw [e0]
  have e9 : P ++ (Y.take (i - mm) ++ (x :: (Y.drop (i - mm) ++ R))) = P ++ (stC ([x] ++ Y) ++ R) := by
   unfold stC
   rw [← hfin]; simp
  generalize Y.take (i - mm) = A at *
  generalize Y.drop (i - mm) = D at *
  clear hfin h4 h5 e0
  refine Z229 ?_; refine Z207 ?_; refine Z317 ?_; refine Z196 ?_
  refine zaj (fun t : Nat => [(0, .is (.slice (some ⟨b, 0, none⟩) m cap)), (10, .is (.int .i64 i)), (13, .is (.int .i64 (a + t : Nat))), (900, .own (zal b ((P ++ (A.take t ++ (x :: (A.drop t ++ (D ++ R))))).flatMap ccs ++ rest) tyC))]) (fun t => t ≤ A.length) (fun t => A.length - t) 0 (Nat.zero_le _) ⟨rfl, rfl, rfl, rfl, trivial⟩ ?_
  rintro t ht
  by_cases htl : t < A.length
  ·obtain ⟨z, hz⟩ := zae htl
   have e0 : P ++ (A.take t ++ (x :: (A.drop t ++ (D ++ R)))) = (P ++ A.take t) ++ x :: ([] ++ z :: (A.drop (t + 1) ++ (D ++ R))) := by rw [zfc hz]; simp
   have e1 : (P ++ A.take t) ++ z :: ([] ++ x :: (A.drop (t + 1) ++ (D ++ R))) = P ++ (A.take (t + 1) ++ (x :: (A.drop (t + 1) ++ (D ++ R)))) := by rw [List.take_add_one, hz]; simp
   have l1 : (P ++ A.take t).length = a + t := by rw [List.length_append, List.length_take]; omega
   have l2 : (P ++ A.take t).length + 1 + ([] : List CH).length = a + t + 1 := by rw [l1]; rfl
   have g1 := zim (x := x) (y := z) (M := []) (D := A.drop (t + 1) ++ (D ++ R)) l1
   have g2 := zil (x := x) (y := z) (D := A.drop (t + 1) ++ (D ++ R)) l2
   have g3 := zor (x := x) (y := z) (D := A.drop (t + 1) ++ (D ++ R)) l1 l2
   rw [e0]
   rw [e1] at g3
   generalize (P ++ A.take t) ++ x :: ([] ++ z :: (A.drop (t + 1) ++ (D ++ R))) = K at *
   have k1 := get_lt g1
   have k2 := get_lt g2
   have hKl : a + t + 1 < m := by
    have : a + 1 + A.length + D.length ≤ m := by omega
    omega
   have q1 := zbx (rest := rest) g1 (0 + (a + t) * 7) (by omega)
   have q2 := zbx (rest := rest) g2 (0 + (a + t + 1) * 7) (by omega)
   have s1 := zdf (rest := rest) (z := z) k1 (0 + (a + t) * 7) (by omega)
   have b1 := zdg (rest := rest) k1 (0 + (a + t) * 7) (by omega)
   have k3 : a + t + 1 < (K.set (a + t) z).length := by rw [List.length_set]; exact k2
   have s2 := zdf (rest := rest) (z := x) k3 (0 + (a + t + 1) * 7) (by omega)
   have b2 := zdg (rest := rest) k3 (0 + (a + t + 1) * 7) (by omega)
   rw [g3] at s2
   have a1 : IntKind.i64.wrap (((a + t : Nat) : Int) + 1) = ((a + t + 1 : Nat) : Int) := zaa (by omega) (by omega)
   refine Z139 ?_; refine Z59 ?_; refine Z140 ?_; refine Z71 ?_; refine Z176 ?_; refine Z230 ?_; refine qd (id := 11) [(200070, [900]), (200074, [900]), (100075, [900]), (100076, [900])] mixed (by kernel_rfl) ?_; refine Z300 ?_; refine Z32 ?_; refine Z145 ?_; refine Z32 ?_; refine z8 (qg L _ rfl rfl rfl rfl rfl rfl rfl (by omega)) rfl ?_; refine qn (zam L (q := 900) (vs := [_, _, _, _, _, _, _]) rfl rfl rfl rfl rfl rfl q2) rfl rfl ?_; refine Z145 ?_; refine z8 (qg L _ rfl rfl rfl rfl rfl rfl rfl (by omega)) rfl ?_; refine qn (zam L (q := 900) (vs := [_, _, _, _, _, _, _]) rfl rfl rfl rfl rfl rfl q1) rfl rfl ?_; refine z8 (qg L _ rfl rfl rfl rfl rfl rfl rfl (by omega)) rfl ?_; refine yy (yw L (q := 900) rfl rfl rfl rfl rfl rfl b1 rfl s1) rfl ?_; refine z8 (qg L _ rfl rfl rfl rfl rfl rfl rfl (by omega)) rfl ?_; refine yy (yw L (q := 900) rfl rfl rfl rfl rfl rfl b2 rfl s2) rfl ?_; refine Z275 ?_; refine Z283 ?_; refine Z209 ?_
   exact yh (x := t) (t + 1) (by omega) (by omega) ⟨rfl, rfl, rfl, rfl, trivial⟩
  ·have hA : P ++ (A.take t ++ (x :: (A.drop t ++ (D ++ R)))) = P ++ (stC ([x] ++ Y) ++ R) := by
    rw [List.take_of_length_le (by omega), List.drop_eq_nil_of_le (by omega), List.nil_append, e9]
   rw [hA]
   refine Z139 ?_; refine Z59 ?_; refine Z140 ?_; refine Z71 ?_; refine Z207 ?_
   exact zbh L 900 (r := zab b _ tyC) rfl (fun _ _ h => h) Since.refl rfl rfl
set_option maxHeartbeats 4000000 in
set_option maxRecDepth 20000 in
theorem zzh {P X R : List CH} {y : CH} {rest : List Value} {b m cap a mm e : Nat} (ha : P.length = a) (hmm : a + X.length = mm) (hx1 : ¬ X.length = 1) (he : mm + 1 = e) (hX : z03 X) (hm : (P ++ (X ++ ([y] ++ R))).length = m) (hm1 : m ≤ 100000) {w : World} {B : Heap} {C : Nat → Prop} (hB : B.Le (hp w))
  (hr : (zab b ((P ++ (X ++ ([y] ++ R))).flatMap ccs ++ rest) tyC).P B w C) (hC : ∀ k, C k → k < w.heap.size ∧ B k = none) :
  zcb Tryz.prog SYM [.slice (some ⟨b, 0, none⟩) m cap, .int .i64 a, .int .i64 mm, .int .i64 e, zjy] w B C (zab b ((P ++ (stC (X ++ [y]) ++ R)).flatMap ccs ++ rest) tyC) := by
 unfold zcb
 refine zas 900 (zab b ((P ++ (X ++ ([y] ++ R))).flatMap ccs ++ rest) tyC) Tryz.func174 rfl Tryz.ntmps174 (Nat.le_of_ble_eq_true rfl) hB hr hC ?_
 rw [za1]
 have hm' := hm
 simp only [List.length_append, List.length_singleton] at hm'
 refine Z139 ?_; refine Z15 ?_; refine Z140 ?_; refine Z71 ?_; refine Z274 ?_; refine Z79 ?_; refine Z140 ?_; refine Z71 ?_; refine Z294 ?_; refine Z309 ?_; refine Z144 ?_; refine Z265 ?_; refine Z144 ?_; refine qh ?_
 refine zaj (fun s : Nat × Nat => [(0, .is (.slice (some ⟨b, 0, none⟩) m cap)), (2, .is (.int .i64 mm)), (4, .is zjy), (14, .is (.int .i64 s.1)), (15, .is (.int .i64 s.2)), (900, .own (zal b ((P ++ (X ++ ([y] ++ R))).flatMap ccs ++ rest) tyC))])
  (fun s => a ≤ s.1 ∧ s.1 ≤ s.2 ∧ s.2 ≤ mm ∧ (∀ (j : Nat) (z : CH), j < s.1 - a → X[j]? = some z → ¬ zbd y.1 z.1 < 0) ∧ ∀ (j : Nat) (z : CH), s.2 - a ≤ j → X[j]? = some z → zbd y.1 z.1 < 0) (fun s => s.2 - s.1) (a, mm)
  ⟨Nat.le_refl _, by dsimp only; omega, Nat.le_refl _, fun j z h => (by dsimp only at h; omega), fun j z h hz => (by have := get_lt hz; dsimp only at h; omega)⟩ ⟨rfl, rfl, rfl, rfl, rfl, rfl, trivial⟩ ?_
 rintro ⟨i, j⟩ ⟨h1, h2, h3, h4, h5⟩
 dsimp only at h1 h2 h3 h4 h5 ⊢
 by_cases hlt : i < j
 ·have hsh := ziw i j
  obtain ⟨h, hh⟩ : ∃ h, (i + j) / 2 = h := ⟨_, rfl⟩
  rw [hh] at hsh
  obtain ⟨x, hx⟩ := zae (l := X) (show h - a < X.length by omega)
  have q1 := zbx (rest := rest) (z0d (Y := [y]) (D := R) ha hmm (j := 0) rfl mm (by omega)) (0 + mm * 7) (by omega)
  have q2 := zbx (rest := rest) (zxe (D := [y] ++ R) ha hx h (by omega)) (0 + h * 7) (by omega)
  by_cases hc : zbd y.1 x.1 < 0
  ·refine Z139 ?_; refine Z92 ?_; refine Z140 ?_; refine Z398 ?_; refine Z102 ?_; refine Z140 ?_; refine Z22 ?_; refine z7 (zau rfl rfl rfl zbn.1 zbn.2 (wrap_u64 (by omega) (by omega))) rfl ?_; refine Z101 ?_; refine z7 (zau rfl rfl rfl zbo.1 zbo.2 (zaa (by omega) (by omega))) rfl ?_; refine Z144 ?_; refine qd (id := 17) [(200096, [900]), (200100, [900])] mixed (by kernel_rfl) ?_; refine Z179 ?_; refine z8 (qg L _ rfl rfl rfl rfl rfl rfl rfl (by omega)) rfl ?_; refine qn (zam L (q := 900) (vs := [_, _, _, _, _, _, _]) rfl rfl rfl rfl rfl rfl q1) rfl rfl ?_; refine Z145 ?_; refine z8 (qg L _ rfl rfl rfl rfl rfl rfl rfl (by omega)) rfl ?_; refine qn (zam L (q := 900) (vs := [_, _, _, _, _, _, _]) rfl rfl rfl rfl rfl rfl q2) rfl rfl ?_; refine z8 (zp L rfl rfl (zk rfl) rfl rfl rfl (fun u H hH _ _ => zdd hH)) rfl ?_; refine Z72 ?_; refine Z64 ?_; refine Z182 ?_; refine Z119 ?_; refine Z1 ?_; refine Z243 ?_
   exact yh (x := (i, j)) (i, h) ⟨h1, by dsimp only; omega, by dsimp only; omega, h4, fun k z hk hz => by
    dsimp only at hk
    exact zr2 cmpT_ord hc (zfb cmpT_ord hX hx hz (by omega))⟩ (by dsimp only; omega) ⟨rfl, rfl, rfl, rfl, rfl, rfl, trivial⟩
  ·refine Z139 ?_; refine Z92 ?_; refine Z140 ?_; refine Z398 ?_; refine Z102 ?_; refine Z140 ?_; refine Z22 ?_; refine z7 (zau rfl rfl rfl zbn.1 zbn.2 (wrap_u64 (by omega) (by omega))) rfl ?_; refine Z101 ?_; refine z7 (zau rfl rfl rfl zbo.1 zbo.2 (zaa (by omega) (by omega))) rfl ?_; refine Z144 ?_; refine qd (id := 17) [(200096, [900]), (200100, [900])] mixed (by kernel_rfl) ?_; refine Z179 ?_; refine z8 (qg L _ rfl rfl rfl rfl rfl rfl rfl (by omega)) rfl ?_; refine qn (zam L (q := 900) (vs := [_, _, _, _, _, _, _]) rfl rfl rfl rfl rfl rfl q1) rfl rfl ?_; refine Z145 ?_; refine z8 (qg L _ rfl rfl rfl rfl rfl rfl rfl (by omega)) rfl ?_; refine qn (zam L (q := 900) (vs := [_, _, _, _, _, _, _]) rfl rfl rfl rfl rfl rfl q2) rfl rfl ?_; refine z8 (zp L rfl rfl (zk rfl) rfl rfl rfl (fun u H hH _ _ => zdd hH)) rfl ?_; refine Z86 ?_; refine Z64 ?_; refine Z213 ?_; refine Z289 ?_; refine Z197 ?_; refine ya ?_
   exact yh (x := (i, j)) (h + 1, j) ⟨by dsimp only; omega, by dsimp only; omega, h3, fun k z hk hz hcx => by
    dsimp only at hk
    exact hc (zr2 cmpT_ord hcx (zfb cmpT_ord hX hz hx (by omega))), h5⟩ (by dsimp only; omega) ⟨rfl, rfl, rfl, rfl, rfl, rfl, trivial⟩
 ·obtain rfl : i = j := by omega
  have hfin := zzx (k := fun c : CH => c.1) cmpT_ord hX h4 h5
  have hal : (X.take (i - a)).length = i - a := by rw [List.length_take]; omega
  have hXl : (X.take (i - a)).length + (X.drop (i - a)).length = X.length := by rw [← List.length_append, List.take_append_drop]
  have e0 : P ++ (X ++ ([y] ++ R)) = P ++ (X.take (i - a) ++ (X.drop (i - a) ++ (y :: ([] ++ R)))) := by
   rw [← List.append_assoc (X.take _), List.take_append_drop]; rfl
  rw [e0]
  have e9 : P ++ (X.take (i - a) ++ (y :: (X.drop (i - a) ++ R))) = P ++ (stC (X ++ [y]) ++ R) := by
   unfold stC
   rw [← hfin]; simp
  generalize X.take (i - a) = A at *
  generalize X.drop (i - a) = D at *
  clear hfin h4 h5 e0
  have hk0 : mm = i + D.length := by omega
  refine Z139 ?_; refine Z92 ?_; refine Z140 ?_; refine Z207 ?_; refine Z139 ?_; refine Z97 ?_; refine Z1 ?_; refine Z196 ?_
  refine zaj (fun t : Nat => [(0, .is (.slice (some ⟨b, 0, none⟩) m cap)), (14, .is (.int .i64 i)), (17, .is (.int .i64 (i + t : Nat))), (900, .own (zal b ((P ++ (A ++ (D.take t ++ (y :: (D.drop t ++ R))))).flatMap ccs ++ rest) tyC))]) (fun t => t ≤ D.length) (fun t => t) D.length (Nat.le_refl _) ⟨rfl, rfl, by rw [← hk0]; rfl, by rw [List.take_length, List.drop_length]; rfl, trivial⟩ ?_
  rintro t ht
  rcases t with _ | t
  ·rw [List.take_zero, List.drop_zero, List.nil_append, e9, Nat.add_zero]
   refine Z139 ?_; refine Z116 ?_; refine Z140 ?_; refine Z31 ?_; refine Z184 ?_
   exact zbh L 900 (r := zab b _ tyC) rfl (fun _ _ h => h) Since.refl rfl rfl
  ·obtain ⟨z, hz⟩ := zae (l := D) (show t < D.length by omega)
   have e0 : P ++ (A ++ (D.take (t + 1) ++ (y :: (D.drop (t + 1) ++ R)))) = (P ++ (A ++ D.take t)) ++ z :: ([] ++ y :: (D.drop (t + 1) ++ R)) := by rw [List.take_add_one, hz]; simp
   have e1 : (P ++ (A ++ D.take t)) ++ y :: ([] ++ z :: (D.drop (t + 1) ++ R)) = P ++ (A ++ (D.take t ++ (y :: (D.drop t ++ R)))) := by rw [zfc hz]; simp
   have l1 : (P ++ (A ++ D.take t)).length = i + t := by rw [List.length_append, List.length_append, List.length_take]; omega
   have l2 : (P ++ (A ++ D.take t)).length + 1 + ([] : List CH).length = i + (t + 1) := by rw [l1]; rfl
   have g1 := zim (x := z) (y := y) (M := []) (D := D.drop (t + 1) ++ R) l1
   have g2 := zil (x := z) (y := y) (D := D.drop (t + 1) ++ R) l2
   have g3 := zpx (x := z) (y := y) (D := D.drop (t + 1) ++ R) l1 l2
   rw [e0]
   rw [e1] at g3
   generalize (P ++ (A ++ D.take t)) ++ z :: ([] ++ y :: (D.drop (t + 1) ++ R)) = K at *
   have k1 := get_lt g1
   have k2 := get_lt g2
   have hKl : i + (t + 1) < m := by omega
   have q1 := zbx (rest := rest) g1 (0 + (i + t) * 7) (by omega)
   have q2 := zbx (rest := rest) g2 (0 + (i + (t + 1)) * 7) (by omega)
   have s1 := zdf (rest := rest) (z := z) k2 (0 + (i + (t + 1)) * 7) (by omega)
   have b1 := zdg (rest := rest) k2 (0 + (i + (t + 1)) * 7) (by omega)
   have k3 : i + t < (K.set (i + (t + 1)) z).length := by rw [List.length_set]; exact k1
   have s2 := zdf (rest := rest) (z := y) k3 (0 + (i + t) * 7) (by omega)
   have b2 := zdg (rest := rest) k3 (0 + (i + t) * 7) (by omega)
   rw [g3] at s2
   have a1 : IntKind.i64.wrap (((i + (t + 1) : Nat) : Int) - 1) = ((i + t : Nat) : Int) := zaa (by omega) (by omega) |>.trans (by omega)
   refine Z139 ?_; refine Z116 ?_; refine Z140 ?_; refine Z39 ?_; refine Z143 ?_; refine Z230 ?_; refine qd (id := 23) [(200122, [900]), (200126, [900]), (100127, [900]), (100128, [900])] mixed (by kernel_rfl) ?_; refine Z145 ?_; refine Z241 ?_; refine Z241 ?_; refine z8 (qg L _ rfl rfl rfl rfl rfl rfl rfl (by omega)) rfl ?_; refine qn (zam L (q := 900) (vs := [_, _, _, _, _, _, _]) rfl rfl rfl rfl rfl rfl q1) rfl rfl ?_; refine Z145 ?_; refine z8 (qg L _ rfl rfl rfl rfl rfl rfl rfl (by omega)) rfl ?_; refine qn (zam L (q := 900) (vs := [_, _, _, _, _, _, _]) rfl rfl rfl rfl rfl rfl q2) rfl rfl ?_; refine z8 (qg L _ rfl rfl rfl rfl rfl rfl rfl (by omega)) rfl ?_; refine yy (yw L (q := 900) rfl rfl rfl rfl rfl rfl b1 rfl s1) rfl ?_; refine z8 (qg L _ rfl rfl rfl rfl rfl rfl rfl (by omega)) rfl ?_; refine yy (yw L (q := 900) rfl rfl rfl rfl rfl rfl b2 rfl s2) rfl ?_; refine Z275 ?_; refine zf (id := 22) ?_; refine Z228 ?_; refine Z152 ?_
   exact yh (x := t + 1) t (by omega) (by omega) ⟨rfl, rfl, rfl, rfl, trivial⟩
end Go.V.L8
set_option maxRecDepth 20000
namespace Go.V.L8
open Go.Proofs Go.RowKit Go.V Go.V.L2 Go.V.L3 Go.V.L6
theorem zuz {l : List CH} (h : l.length = 1) : ∃ x, l = [x] := by
 rcases l with _ | ⟨x, _ | ⟨y, l⟩⟩
 ·simp at h
 ·exact ⟨x, rfl⟩
 ·simp at h
theorem zly {l : List CH} (h : z03 l) : stC l = l := zwb cmpT_ord h
attribute [local irreducible] V N X VO Par StepOK Has Ret RetL RetO RetT zcb Src
set_option maxHeartbeats 8000000 in
set_option maxRecDepth 20000 in
theorem zs9 (N0 : Nat) : ∀ {P X Y R : List CH} {rest : List Value} {b m cap a mm e : Nat}, X.length + Y.length ≤ N0 → P.length = a → a + X.length = mm → mm + Y.length = e → 0 < X.length → 0 < Y.length → z03 X → z03 Y → (P ++ (X ++ (Y ++ R))).length = m → m ≤ 100000 → ∀ {w : World} {B : Heap} {C : Nat → Prop}, B.Le (hp w) →
  (zab b ((P ++ (X ++ (Y ++ R))).flatMap ccs ++ rest) tyC).P B w C → (∀ k, C k → k < w.heap.size ∧ B k = none) →
  zcb Tryz.prog SYM [.slice (some ⟨b, 0, none⟩) m cap, .int .i64 a, .int .i64 mm, .int .i64 e, zjy] w B C (zab b ((P ++ (stC (X ++ Y) ++ R)).flatMap ccs ++ rest) tyC) := by
 induction N0 with
 | zero => intro P X Y R rest b m cap a mm e h1 h2 h3 h4 h5; omega
 | succ N0 ih =>
 intro P X Y R rest b m cap a mm e hN ha hmm he hx hy hX hY hm hm1 w B C hB hr hC
 by_cases hx1 : X.length = 1
 ·obtain ⟨x, rfl⟩ := zuz hx1
  exact zzg ha (by simpa using hmm) he hY hm hm1 hB hr hC
 by_cases hy1 : Y.length = 1
 ·obtain ⟨y, rfl⟩ := zuz hy1
  exact zzh ha hmm hx1 (by simpa using he) hX hm hm1 hB hr hC
 unfold zcb
 refine zas 900 (zab b ((P ++ (X ++ (Y ++ R))).flatMap ccs ++ rest) tyC) Tryz.func174 rfl Tryz.ntmps174 (Nat.le_of_ble_eq_true rfl) hB hr hC ?_
 rw [za1]
 have hm' := hm
 simp only [List.length_append] at hm'
 have hsh := ziw a e
 obtain ⟨mid, hmid⟩ : ∃ mid, (a + e) / 2 = mid := ⟨_, rfl⟩
 rw [hmid] at hsh
 have hnn : IntKind.i64.wrap ((mid : Int) + (mm : Int)) = ((mid + mm : Nat) : Int) := zaa (by omega) (by omega)
 refine Z139 ?_; refine Z15 ?_; refine Z140 ?_; refine Z71 ?_; refine Z274 ?_; refine Z79 ?_; refine Z140 ?_; refine Z71 ?_; refine Z245 ?_; refine zf (id := 24) ?_; refine Z140 ?_; refine Z22 ?_; refine z7 (zau rfl rfl rfl zbn.1 zbn.2 (wrap_u64 (by omega) (by omega))) rfl ?_; refine Z101 ?_; refine z7 (zau rfl rfl rfl zbo.1 zbo.2 (zaa (by omega) (by omega))) rfl ?_; refine Z144 ?_; refine zf (id := 25) ?_; refine Z285 ?_; refine Z144 ?_; refine zf (id := 26) ?_; refine Z221 ?_
 refine ze8 (fun s : Nat × Nat => [(0, .is (.slice (some ⟨b, 0, none⟩) m cap)), (1, .is (.int .i64 a)), (2, .is (.int .i64 mm)), (3, .is (.int .i64 e)), (4, .is zjy), (18, .is (.int .i64 mid)), (19, .is (.int .i64 (mid + mm : Nat))), (20, .is (.int .i64 s.1)), (21, .is (.int .i64 s.2)), (900, .own (zal b ((P ++ (X ++ (Y ++ R))).flatMap ccs ++ rest) tyC))]) (fun s => z3g X Y a mm e mid s.1 s.2 ∧ s.1 ≤ s.2) (fun _ => []) ?rest ?first
 case first =>
  by_cases hgt : mid < mm
  ·have hs : IntKind.i64.wrap (((mid + mm : Nat) : Int) - (e : Int)) = ((mid + mm - e : Nat) : Int) := zaa (by omega) (by omega) |>.trans (by omega)
   refine zf (id := 27) ?_; refine Z140 ?_; refine Z39 ?_; refine Z155 ?_; refine zf (id := 28) ?_; refine Z208 ?_; refine Z138 ?_; refine zf (id := 29) ?_; refine Z1 ?_; refine Z152 ?_
   exact za5 (mid + mm - e, mid) Since.refl ⟨⟨hmm, he, by dsimp only; omega, by dsimp only; omega, Nat.le_refl _, by dsimp only; omega, .inr (by dsimp only; omega), .inr rfl⟩, by dsimp only; omega⟩ rfl ⟨rfl, rfl, rfl, rfl, rfl, rfl, rfl, rfl, rfl, rfl, trivial⟩
  ·refine zf (id := 27) ?_; refine Z140 ?_; refine Z31 ?_; refine Z365 ?_; refine zf (id := 30) ?_; refine Z1 ?_; refine Z138 ?_; refine zf (id := 31) ?_; refine Z1 ?_; refine Z152 ?_
   exact za5 (a, mm) Since.refl ⟨⟨hmm, he, Nat.le_refl _, by dsimp only; omega, by dsimp only; omega, Nat.le_refl _, .inl rfl, .inl rfl⟩, by dsimp only; omega⟩ rfl ⟨rfl, rfl, rfl, rfl, rfl, rfl, rfl, rfl, rfl, rfl, trivial⟩
 case rest =>
 rintro ⟨lo, hi⟩ ⟨hb, hlh⟩
 dsimp only at hb hlh ⊢
 have hp : IntKind.i64.wrap (((mid + mm : Nat) : Int) - 1) = ((mid + mm - 1 : Nat) : Int) := zaa (by omega) (by omega) |>.trans (by omega)
 refine zh ?_; refine zf (id := 32) ?_; refine Z228 ?_; refine Z144 ?_; refine qh ?_
 refine zaj (fun s : Nat × Nat => [(0, .is (.slice (some ⟨b, 0, none⟩) m cap)), (1, .is (.int .i64 a)), (2, .is (.int .i64 mm)), (3, .is (.int .i64 e)), (4, .is zjy), (18, .is (.int .i64 mid)), (19, .is (.int .i64 (mid + mm : Nat))), (20, .is (.int .i64 s.1)), (21, .is (.int .i64 s.2)), (22, .is (.int .i64 (mid + mm - 1 : Nat))), (900, .own (zal b ((P ++ (X ++ (Y ++ R))).flatMap ccs ++ rest) tyC))])
  (fun s => SymI (fun c : CH => c.1) zbd X Y a mid lo hi s.1 s.2) (fun s => s.2 - s.1) (lo, hi) (SymI.start hlh) ⟨rfl, rfl, rfl, rfl, rfl, rfl, rfl, rfl, rfl, rfl, rfl, trivial⟩ ?_
 rintro ⟨i, j⟩ hI
 dsimp only at hI ⊢
 have hI' := hI
 have hb' := hb
 obtain ⟨b1, b2, b3, b4, b5, b6, _, _⟩ := hb'
 obtain ⟨i1, i2, i3, _, _⟩ := hI'
 by_cases hlt : i < j
 ·have hsc := ziw i j
  obtain ⟨c, hc⟩ : ∃ c, (i + j) / 2 = c := ⟨_, rfl⟩
  rw [hc] at hsc
  obtain ⟨x, hxc⟩ := zae (l := X) (show c - a < X.length by omega)
  obtain ⟨y, hyc⟩ := zae (l := Y) (show mid - 1 - c < Y.length by omega)
  have q1 := zbx (rest := rest) (z0d (D := R) ha hmm hyc (mid + mm - 1 - c) (by omega)) (0 + (mid + mm - 1 - c) * 7) (by omega)
  have q2 := zbx (rest := rest) (zxe (D := Y ++ R) ha hxc c (by omega)) (0 + c * 7) (by omega)
  have hpc : IntKind.i64.wrap (((mid + mm - 1 : Nat) : Int) - (c : Int)) = ((mid + mm - 1 - c : Nat) : Int) := zaa (by omega) (by omega) |>.trans (by omega)
  by_cases hcm : zbd y.1 x.1 < 0
  ·refine Z139 ?_; refine zf (id := 33) ?_; refine Z140 ?_; refine Z398 ?_; refine zf (id := 34) ?_; refine Z140 ?_; refine Z22 ?_; refine z7 (zau rfl rfl rfl zbn.1 zbn.2 (wrap_u64 (by omega) (by omega))) rfl ?_; refine Z101 ?_; refine z7 (zau rfl rfl rfl zbo.1 zbo.2 (zaa (by omega) (by omega))) rfl ?_; refine Z144 ?_; refine qd (id := 35) [(200164, [900]), (200168, [900])] mixed (by kernel_rfl) ?_; refine Z145 ?_; refine Z241 ?_; refine z8 (qg L _ rfl rfl rfl rfl rfl rfl rfl (by omega)) rfl ?_; refine qn (zam L (q := 900) (vs := [_, _, _, _, _, _, _]) rfl rfl rfl rfl rfl rfl q1) rfl rfl ?_; refine Z145 ?_; refine z8 (qg L _ rfl rfl rfl rfl rfl rfl rfl (by omega)) rfl ?_; refine qn (zam L (q := 900) (vs := [_, _, _, _, _, _, _]) rfl rfl rfl rfl rfl rfl q2) rfl rfl ?_; refine z8 (zp L rfl rfl (zk rfl) rfl rfl rfl (fun u H hH _ _ => zdd hH)) rfl ?_; refine Z72 ?_; refine Z64 ?_; refine Z182 ?_; refine zf (id := 37) ?_; refine Z1 ?_; refine Z243 ?_
   exact yh (x := (i, j)) (i, c) (hI.down cmpT_ord hX hY hb (by omega) (by omega) hxc hyc hcm) (by dsimp only; omega) ⟨rfl, rfl, rfl, rfl, rfl, rfl, rfl, rfl, rfl, rfl, rfl, trivial⟩
  ·refine Z139 ?_; refine zf (id := 33) ?_; refine Z140 ?_; refine Z398 ?_; refine zf (id := 34) ?_; refine Z140 ?_; refine Z22 ?_; refine z7 (zau rfl rfl rfl zbn.1 zbn.2 (wrap_u64 (by omega) (by omega))) rfl ?_; refine Z101 ?_; refine z7 (zau rfl rfl rfl zbo.1 zbo.2 (zaa (by omega) (by omega))) rfl ?_; refine Z144 ?_; refine qd (id := 35) [(200164, [900]), (200168, [900])] mixed (by kernel_rfl) ?_; refine Z145 ?_; refine Z241 ?_; refine z8 (qg L _ rfl rfl rfl rfl rfl rfl rfl (by omega)) rfl ?_; refine qn (zam L (q := 900) (vs := [_, _, _, _, _, _, _]) rfl rfl rfl rfl rfl rfl q1) rfl rfl ?_; refine Z145 ?_; refine z8 (qg L _ rfl rfl rfl rfl rfl rfl rfl (by omega)) rfl ?_; refine qn (zam L (q := 900) (vs := [_, _, _, _, _, _, _]) rfl rfl rfl rfl rfl rfl q2) rfl rfl ?_; refine z8 (zp L rfl rfl (zk rfl) rfl rfl rfl (fun u H hH _ _ => zdd hH)) rfl ?_; refine Z86 ?_; refine Z64 ?_; refine Z213 ?_; refine zf (id := 36) ?_; refine Z1 ?_; refine Z197 ?_; refine ya ?_
   exact yh (x := (i, j)) (c + 1, j) (hI.up cmpT_ord hX hY hb (by omega) (by omega) hxc hyc hcm) (by dsimp only; omega) ⟨rfl, rfl, rfl, rfl, rfl, rfl, rfl, rfl, rfl, rfl, rfl, trivial⟩
 ·obtain rfl : i = j := by omega
  have hj := zv6 cmpT_ord hX hY hb hI
  have hen : IntKind.i64.wrap (((mid + mm : Nat) : Int) - (i : Int)) = ((mid + mm - i : Nat) : Int) := zaa (by omega) (by omega) |>.trans (by omega)
  refine Z139 ?_; refine zf (id := 33) ?_; refine Z140 ?_; refine Z247 ?_; refine zf (id := 38) ?_; refine Z208 ?_; refine Z147 ?_
  have eX : X.take (i - a) ++ X.drop (i - a) = X := List.take_append_drop _ _
  have eY : Y.take (mid - i) ++ Y.drop (mid - i) = Y := List.take_append_drop _ _
  have lA1 : (X.take (i - a)).length = i - a := by rw [List.length_take]; omega
  have lA2 : (X.drop (i - a)).length = mm - i := by rw [List.length_drop]; omega
  have lB1 : (Y.take (mid - i)).length = mid - i := by rw [List.length_take]; omega
  have lB2 : (Y.drop (mid - i)).length = e - (mid + mm - i) := by rw [List.length_drop]; omega
  generalize X.take (i - a) = A1 at *
  generalize X.drop (i - a) = A2 at *
  generalize Y.take (mid - i) = B1 at *
  generalize Y.drop (mid - i) = B2 at *
  change stC (A1 ++ B1) ++ stC (A2 ++ B2) = stC (X ++ Y) at hj
  rw [← hj]
  subst eX eY
  obtain ⟨sA1, sA2, _⟩ := zdu.1 hX
  obtain ⟨sB1, sB2, _⟩ := zdu.1 hY
  clear hI hb hj hX hY
  obtain ⟨en, hend⟩ : ∃ en, mid + mm - i = en := ⟨_, rfl⟩
  rw [hend] at lB2 ⊢
  have e0 : P ++ ((A1 ++ A2) ++ ((B1 ++ B2) ++ R)) = (P ++ A1) ++ (A2 ++ (B1 ++ (B2 ++ R))) := by simp
  have e1 : (P ++ A1) ++ (B1 ++ (A2 ++ (B2 ++ R))) = P ++ (A1 ++ (B1 ++ (A2 ++ (B2 ++ R)))) := by simp
  have hlen1 : ((P ++ A1) ++ (A2 ++ (B1 ++ (B2 ++ R)))).length = m := by rw [← e0]; exact hm
  have hlen2 : (P ++ (A1 ++ (B1 ++ (A2 ++ (B2 ++ R))))).length = m := by simp only [List.length_append] at hm' ⊢; omega
  have hl3 := zez (A1 ++ B1)
  rw [List.length_append] at hl3
  have e3 : P ++ (stC (A1 ++ B1) ++ (A2 ++ (B2 ++ R))) = (P ++ stC (A1 ++ B1)) ++ (A2 ++ (B2 ++ R)) := by simp
  have hlen3 : ((P ++ stC (A1 ++ B1)) ++ (A2 ++ (B2 ++ R))).length = m := by simp only [List.length_append] at hm' ⊢; omega
  have e4 : (P ++ stC (A1 ++ B1)) ++ (stC (A2 ++ B2) ++ R) = P ++ ((stC (A1 ++ B1) ++ stC (A2 ++ B2)) ++ R) := by simp
  simp only [List.length_append] at hm' hmm he hN
  refine ze8 (fun _ : Unit => [(0, .is (.slice (some ⟨b, 0, none⟩) m cap)), (1, .is (.int .i64 a)), (3, .is (.int .i64 e)), (4, .is zjy), (18, .is (.int .i64 mid)), (20, .is (.int .i64 i)), (24, .is (.int .i64 en)), (900, .own (zal b ((P ++ (A1 ++ (B1 ++ (A2 ++ (B2 ++ R))))).flatMap ccs ++ rest) tyC))]) (fun _ => True) (fun _ => []) ?rest1 ?first1
  case first1 =>
   rw [e0]
   by_cases h1 : i < mm
   ·by_cases h2 : mm < en
    ·refine zf (id := 39) ?_; refine Z311 ?_; refine Z174 ?_; refine Z7 ?_; refine Z248 ?_; refine zf (id := 40) ?_; refine Z140 ?_; refine Z174 ?_; refine qo (za0 L 900 (zab b (((P ++ A1) ++ (B1 ++ (A2 ++ (B2 ++ R)))).flatMap ccs ++ rest) tyC) (r := zab b (((P ++ A1) ++ (A2 ++ (B1 ++ (B2 ++ R)))).flatMap ccs ++ rest) tyC) rfl rfl rfl rfl rfl (fun u H C hH _ hr hC => (by have h := zzm (cap := cap) (a := i) (mm := mm) (e := en) (by rw [List.length_append]; omega) (by omega) (by omega) (by omega) (by omega) hlen1 hm1 zjy hH hr hC; exact h))) ?_; refine zi ?_
     rw [e1]
     exact za5 () Since.refl trivial rfl ⟨rfl, rfl, rfl, rfl, rfl, rfl, rfl, rfl, trivial⟩
    ·have hB1 : B1 = [] := List.eq_nil_of_length_eq_zero (by omega)
     subst hB1
     have e9 : (P ++ A1) ++ (A2 ++ ([] ++ (B2 ++ R))) = P ++ (A1 ++ ([] ++ (A2 ++ (B2 ++ R)))) := by simp
     rw [e9]
     refine zf (id := 39) ?_; refine Z311 ?_; refine Z174 ?_; refine Z10 ?_; refine Z8 ?_; refine Z192 ?_
     exact za5 () Since.refl trivial rfl ⟨rfl, rfl, rfl, rfl, rfl, rfl, rfl, rfl, trivial⟩
   ·have hA2 : A2 = [] := List.eq_nil_of_length_eq_zero (by omega)
    subst hA2
    have e9 : (P ++ A1) ++ ([] ++ (B1 ++ (B2 ++ R))) = P ++ (A1 ++ (B1 ++ ([] ++ (B2 ++ R)))) := by simp
    rw [e9]
    refine zf (id := 39) ?_; refine Z266 ?_; refine Z254 ?_; refine Z192 ?_
    exact za5 () Since.refl trivial rfl ⟨rfl, rfl, rfl, rfl, rfl, rfl, rfl, rfl, trivial⟩
  case rest1 =>
  rintro _ _
  refine Z139 ?_
  refine ze8 (fun _ : Unit => [(0, .is (.slice (some ⟨b, 0, none⟩) m cap)), (3, .is (.int .i64 e)), (4, .is zjy), (18, .is (.int .i64 mid)), (24, .is (.int .i64 en)), (900, .own (zal b (((P ++ stC (A1 ++ B1)) ++ (A2 ++ (B2 ++ R))).flatMap ccs ++ rest) tyC))]) (fun _ => True) (fun _ => []) ?rest2 ?first2
  case first2 =>
   rw [← e3]
   by_cases h1 : a < i
   ·by_cases h2 : i < mid
    ·refine zf (id := 41) ?_; refine Z311 ?_; refine Z174 ?_; refine Z7 ?_; refine Z248 ?_; refine zf (id := 42) ?_; refine Z140 ?_; refine Z174 ?_; refine qo (za0 L 900 (zab b ((P ++ (stC (A1 ++ B1) ++ (A2 ++ (B2 ++ R)))).flatMap ccs ++ rest) tyC) (r := zab b ((P ++ (A1 ++ (B1 ++ (A2 ++ (B2 ++ R))))).flatMap ccs ++ rest) tyC) rfl rfl rfl rfl rfl (fun u H C hH _ hr hC => (by have h := ih (cap := cap) (a := a) (mm := i) (e := mid) (by omega) ha (by omega) (by omega) (by omega) (by omega) sA1 sB1 hlen2 hm1 hH hr hC; exact h))) ?_; refine zi ?_
     exact za5 () Since.refl trivial rfl ⟨rfl, rfl, rfl, rfl, rfl, rfl, trivial⟩
    ·have hB1 : B1 = [] := List.eq_nil_of_length_eq_zero (by omega)
     subst hB1
     have e9 : P ++ (A1 ++ ([] ++ (A2 ++ (B2 ++ R)))) = P ++ (stC (A1 ++ []) ++ (A2 ++ (B2 ++ R))) := by rw [List.append_nil, zly sA1]; rfl
     rw [e9]
     refine zf (id := 41) ?_; refine Z311 ?_; refine Z174 ?_; refine Z10 ?_; refine Z8 ?_; refine Z192 ?_
     exact za5 () Since.refl trivial rfl ⟨rfl, rfl, rfl, rfl, rfl, rfl, trivial⟩
   ·have hA1 : A1 = [] := List.eq_nil_of_length_eq_zero (by omega)
    subst hA1
    have e9 : P ++ ([] ++ (B1 ++ (A2 ++ (B2 ++ R)))) = P ++ (stC ([] ++ B1) ++ (A2 ++ (B2 ++ R))) := by rw [List.nil_append, List.nil_append, zly sB1]
    rw [e9]
    refine zf (id := 41) ?_; refine Z266 ?_; refine Z254 ?_; refine Z192 ?_
    exact za5 () Since.refl trivial rfl ⟨rfl, rfl, rfl, rfl, rfl, rfl, trivial⟩
  case rest2 =>
  rintro _ _
  by_cases h1 : mid < en
  ·by_cases h2 : en < e
   ·refine zh ?_; refine zf (id := 43) ?_; refine Z311 ?_; refine Z174 ?_; refine Z7 ?_; refine Z248 ?_; refine zf (id := 44) ?_; refine Z140 ?_; refine Z174 ?_; refine qo (za0 L 900 (zab b (((P ++ stC (A1 ++ B1)) ++ (stC (A2 ++ B2) ++ R)).flatMap ccs ++ rest) tyC) (r := zab b (((P ++ stC (A1 ++ B1)) ++ (A2 ++ (B2 ++ R))).flatMap ccs ++ rest) tyC) rfl rfl rfl rfl rfl (fun u H C hH _ hr hC => (by have h := ih (cap := cap) (a := mid) (mm := en) (e := e) (by omega) (by rw [List.length_append]; omega) (by omega) (by omega) (by omega) (by omega) sA2 sB2 hlen3 hm1 hH hr hC; exact h))) ?_; refine zi ?_
    rw [e4]
    exact zba L 900 (r := zab b _ tyC) rfl (fun _ _ h => h) Since.refl rfl rfl
   ·have hB2 : B2 = [] := List.eq_nil_of_length_eq_zero (by omega)
    subst hB2
    have e9 : (P ++ stC (A1 ++ B1)) ++ (A2 ++ ([] ++ R)) = P ++ ((stC (A1 ++ B1) ++ stC (A2 ++ [])) ++ R) := by rw [List.append_nil, zly sA2]; simp
    rw [e9]
    refine zh ?_; refine zf (id := 43) ?_; refine Z311 ?_; refine Z174 ?_; refine Z10 ?_; refine Z8 ?_; refine Z192 ?_
    exact zba L 900 (r := zab b _ tyC) rfl (fun _ _ h => h) Since.refl rfl rfl
  ·have hA2 : A2 = [] := List.eq_nil_of_length_eq_zero (by omega)
   subst hA2
   have e9 : (P ++ stC (A1 ++ B1)) ++ ([] ++ (B2 ++ R)) = P ++ ((stC (A1 ++ B1) ++ stC ([] ++ B2)) ++ R) := by rw [List.nil_append, List.nil_append, zly sB2]; simp
   rw [e9]
   refine zh ?_; refine zf (id := 43) ?_; refine Z266 ?_; refine Z254 ?_; refine Z192 ?_
   exact zba L 900 (r := zab b _ tyC) rfl (fun _ _ h => h) Since.refl rfl rfl
end Go.V.L8
set_option maxRecDepth 20000
namespace Go.V.L8
open Go.Proofs Go.RowKit Go.V Go.V.L2 Go.V.L3 Go.V.L6
abbrev chC (n : Nat) (l : List CH) : List CH := chL (fun c : CH => c.1) zbd n l
theorem ziz {n : Nat} (hn : 0 < n) (l : List CH) : chC n l = stC (l.take n) ++ chC n (l.drop n) := zmw hn l
theorem zh0 {n : Nat} (hn : 0 < n) {l : List CH} (h : l.length ≤ n) : chC n l = stC l := z0j hn h
theorem z0k {n : Nat} (hn : 0 < n) (l : List CH) : (chC n l).length = l.length := zvo cmpT_ord hn l.length (Nat.le_refl _)
theorem ztc (X Y : List CH) : stC (stC X ++ stC Y) = stC (X ++ Y) := zwd cmpT_ord X Y
theorem zio (X : List CH) : z03 (stC X) := (zcs cmpT_ord X).1
attribute [local irreducible] V N X VO Par StepOK Has Ret RetL RetO RetT zcb Src
set_option maxHeartbeats 8000000 in
set_option maxRecDepth 20000 in
theorem zwe {l : List CH} {rest : List Value} {b m cap : Nat} (hm : l.length = m) (hm1 : m ≤ 100000) {w : World} {B : Heap} {C : Nat → Prop} (hB : B.Le (hp w))
  (hr : (zab b (l.flatMap ccs ++ rest) tyC).P B w C) (hC : ∀ k, C k → k < w.heap.size ∧ B k = none) :
  zcb Tryz.prog 160 [.slice (some ⟨b, 0, none⟩) m cap, .int .i64 m, zjy] w B C (zab b ((stC l).flatMap ccs ++ rest) tyC) := by
 unfold zcb
 refine zas 900 (zab b (l.flatMap ccs ++ rest) tyC) Tryz.func160 rfl Tryz.ntmps160 (Nat.le_of_ble_eq_true rfl) hB hr hC ?_
 rw [za1]
 refine Z293 ?_; refine Z199 ?_; refine qh ?_
 refine zaj (fun s : Nat × List CH => [(0, .is (.slice (some ⟨b, 0, none⟩) m cap)), (1, .is (.int .i64 m)), (2, .is zjy), (6, .is (.int .i64 20)), (7, .is (.int .i64 s.1)), (8, .is (.int .i64 (s.1 + 20 : Nat))), (900, .own (zal b ((s.2 ++ l.drop s.1).flatMap ccs ++ rest) tyC))])
  (fun s => s.2.length = s.1 ∧ s.1 ≤ m ∧ s.2 ++ chC 20 (l.drop s.1) = chC 20 l) (fun s => m - s.1) (0, []) ⟨rfl, Nat.zero_le _, rfl⟩ ⟨rfl, rfl, rfl, rfl, rfl, rfl, rfl, trivial⟩ ?_
 rintro ⟨a, S1⟩ ⟨h1, h2, h3⟩
 dsimp only at h1 h2 h3 ⊢
 have hdl : (l.drop a).length = m - a := by rw [List.length_drop, hm]
 by_cases hlt : a + 20 ≤ m
 ·have e0 : S1 ++ l.drop a = S1 ++ ((l.drop a).take 20 ++ (l.drop a).drop 20) := by rw [List.take_append_drop]
  have e1 : S1 ++ (stC ((l.drop a).take 20) ++ (l.drop a).drop 20) = (S1 ++ stC ((l.drop a).take 20)) ++ l.drop (a + 20) := by rw [List.drop_drop, List.append_assoc]
  have hlen : (S1 ++ ((l.drop a).take 20 ++ (l.drop a).drop 20)).length = m := by rw [← e0, List.length_append]; omega
  have ltk : ((l.drop a).take 20).length = 20 := by rw [List.length_take]; omega
  have a1 : IntKind.i64.wrap (((a + 20 : Nat) : Int) + 20) = ((a + 20 + 20 : Nat) : Int) := zaa (by omega) (by omega)
  rw [e0]
  refine Z307 ?_; refine Z73 ?_; refine Z298 ?_; refine Z202 ?_; refine Z140 ?_; refine qo (za0 L 900 (zab b ((S1 ++ (stC ((l.drop a).take 20) ++ (l.drop a).drop 20)).flatMap ccs ++ rest) tyC) (r := zab b ((S1 ++ ((l.drop a).take 20 ++ (l.drop a).drop 20)).flatMap ccs ++ rest) tyC) rfl rfl rfl rfl rfl (fun u H C hH _ hr hC => (by have h := ins_ret (cap := cap) (a := a) (e := a + 20) h1 (by omega) hlen hm1 hH hr hC; exact h))) ?_; refine Z160 ?_; refine Z161 ?_; refine Z138 ?_; refine Z244 ?_; refine Z209 ?_; refine ya ?_
  rw [e1]
  exact yh (x := (a, S1)) (a + 20, S1 ++ stC ((l.drop a).take 20)) ⟨by dsimp only; rw [List.length_append, zez]; omega, hlt, by
   dsimp only
   rw [← h3, ziz (by omega) (l.drop a), List.drop_drop, List.append_assoc]⟩ (by dsimp only; omega) ⟨rfl, rfl, rfl, rfl, rfl, rfl, rfl, trivial⟩
 ·have e0 : S1 ++ l.drop a = S1 ++ (l.drop a ++ []) := by rw [List.append_nil]
  have e1 : S1 ++ (stC (l.drop a) ++ []) = chC 20 l := by rw [List.append_nil, ← h3, zh0 (by omega) (by omega)]
  have hlen : (S1 ++ (l.drop a ++ [])).length = m := by rw [← e0, List.length_append]; omega
  rw [e0]
  refine Z307 ?_; refine Z70 ?_; refine Z386 ?_; refine Z45 ?_; refine Z219 ?_; refine qo (za0 L 900 (zab b ((S1 ++ (stC (l.drop a) ++ [])).flatMap ccs ++ rest) tyC) (r := zab b ((S1 ++ (l.drop a ++ [])).flatMap ccs ++ rest) tyC) rfl rfl rfl rfl rfl (fun u H C hH _ hr hC => (by have h := ins_ret (cap := cap) (a := a) (e := m) h1 (by omega) hlen hm1 hH hr hC; exact h))) ?_; refine Z268 ?_
  rw [e1]
  clear e0 e1 hlen hlt hdl h1 h2 h3
  refine zaj (fun s : Nat => [(0, .is (.slice (some ⟨b, 0, none⟩) m cap)), (1, .is (.int .i64 m)), (2, .is zjy), (6, .is (.int .i64 s)), (900, .own (zal b ((chC s l).flatMap ccs ++ rest) tyC))]) (fun s => 0 < s ∧ s ≤ 20 + 2 * m) (fun s => m - s) 20 ⟨by omega, by omega⟩ ⟨rfl, rfl, rfl, rfl, rfl, trivial⟩ ?_
  rintro s ⟨hs0, hs1⟩
  by_cases hsm : s < m
  ·refine Z139 ?_; refine Z325 ?_; refine Z398 ?_; refine Z226 ?_; refine Z52 ?_; refine Z199 ?_; refine qh ?_
   refine zaj (fun t : Nat × List CH => [(0, .is (.slice (some ⟨b, 0, none⟩) m cap)), (1, .is (.int .i64 m)), (2, .is zjy), (6, .is (.int .i64 s)), (7, .is (.int .i64 t.1)), (8, .is (.int .i64 (t.1 + 2 * s : Nat))), (900, .own (zal b ((t.2 ++ chC s (l.drop t.1)).flatMap ccs ++ rest) tyC))])
    (fun t => t.2.length = t.1 ∧ t.1 ≤ m ∧ t.2 ++ chC (2 * s) (l.drop t.1) = chC (2 * s) l) (fun t => m - t.1) (0, []) ⟨rfl, Nat.zero_le _, rfl⟩ ⟨rfl, rfl, rfl, rfl, rfl, by dsimp only; rw [Nat.zero_add]; rfl, rfl, trivial⟩ ?_
   rintro ⟨a, S1⟩ ⟨h1, h2, h3⟩
   dsimp only at h1 h2 h3 ⊢
   have hdl : (l.drop a).length = m - a := by rw [List.length_drop, hm]
   have hcs := ziz hs0 (l.drop a)
   by_cases hlt : a + 2 * s ≤ m
   ·have hcs2 := ziz hs0 ((l.drop a).drop s)
    have e0 : S1 ++ chC s (l.drop a) = S1 ++ (stC ((l.drop a).take s) ++ (stC (((l.drop a).drop s).take s) ++ chC s (l.drop (a + 2 * s)))) := by
     rw [hcs, hcs2, List.drop_drop, List.drop_drop, show a + s + s = a + 2 * s by omega]
    have ht2 : (l.drop a).take (2 * s) = (l.drop a).take s ++ ((l.drop a).drop s).take s := by rw [show 2 * s = s + s by omega, List.take_add]
    have e1 : S1 ++ (stC (stC ((l.drop a).take s) ++ stC (((l.drop a).drop s).take s)) ++ chC s (l.drop (a + 2 * s))) = (S1 ++ stC ((l.drop a).take (2 * s))) ++ chC s (l.drop (a + 2 * s)) := by rw [ztc, ← ht2, List.append_assoc]
    have l1 : (stC ((l.drop a).take s)).length = s := by rw [zez, List.length_take]; omega
    have l2 : (stC (((l.drop a).drop s).take s)).length = s := by rw [zez, List.length_take, List.length_drop]; omega
    have l3 : (chC s (l.drop (a + 2 * s))).length = m - (a + 2 * s) := by rw [z0k hs0, List.length_drop, hm]
    have hlen : (S1 ++ (stC ((l.drop a).take s) ++ (stC (((l.drop a).drop s).take s) ++ chC s (l.drop (a + 2 * s))))).length = m := by simp only [List.length_append]; omega
    have a1 : IntKind.i64.wrap ((a : Int) + (s : Int)) = ((a + s : Nat) : Int) := zaa (by omega) (by omega)
    have a2 : IntKind.i64.wrap (((a + 2 * s : Nat) : Int) + 2 * (s : Int)) = ((a + 2 * s + 2 * s : Nat) : Int) := zaa (by omega) (by omega)
    rw [e0]
    refine Z139 ?_; refine Z59 ?_; refine Z140 ?_; refine Z73 ?_; refine Z298 ?_; refine Z68 ?_; refine Z219 ?_; refine Z17 ?_; refine Z140 ?_; refine qo (za0 L 900 (zab b ((S1 ++ (stC (stC ((l.drop a).take s) ++ stC (((l.drop a).drop s).take s)) ++ chC s (l.drop (a + 2 * s)))).flatMap ccs ++ rest) tyC) (r := zab b ((S1 ++ (stC ((l.drop a).take s) ++ (stC (((l.drop a).drop s).take s) ++ chC s (l.drop (a + 2 * s))))).flatMap ccs ++ rest) tyC) rfl rfl rfl rfl rfl (fun u H C hH _ hr hC => (by have h := zs9 _ (cap := cap) (a := a) (mm := a + s) (e := a + 2 * s) (Nat.le_refl _) h1 (by omega) (by omega) (by omega) (by omega) (zio _) (zio _) hlen hm1 hH hr hC; exact h))) ?_; refine Z160 ?_; refine Z279 ?_; refine Z138 ?_; refine Z79 ?_; refine Z140 ?_; refine Z52 ?_; refine Z209 ?_; refine ya ?_
    rw [e1]
    exact yh (x := (a, S1)) (a + 2 * s, S1 ++ stC ((l.drop a).take (2 * s))) ⟨by dsimp only; rw [List.length_append, zez, List.length_take]; omega, hlt, by
     dsimp only
     rw [← h3, ziz (by omega) (l.drop a), List.drop_drop, List.append_assoc]⟩ (by dsimp only; omega) ⟨rfl, rfl, rfl, rfl, rfl, rfl, rfl, trivial⟩
   ·have a1 : IntKind.i64.wrap ((a : Int) + (s : Int)) = ((a + s : Nat) : Int) := zaa (by omega) (by omega)
    have a2 : IntKind.i64.wrap ((s : Int) * 2) = ((2 * s : Nat) : Int) := zaa (by omega) (by omega) |>.trans (by omega)
    by_cases hlm : a + s < m
    ·have e0 : S1 ++ chC s (l.drop a) = S1 ++ (stC ((l.drop a).take s) ++ (stC ((l.drop a).drop s) ++ [])) := by
      rw [hcs, zh0 hs0 (l := (l.drop a).drop s) (by rw [List.length_drop]; omega), List.append_nil]
     have e1 : S1 ++ (stC (stC ((l.drop a).take s) ++ stC ((l.drop a).drop s)) ++ []) = chC (2 * s) l := by
      rw [ztc, List.take_append_drop, List.append_nil, ← h3, zh0 (n := 2 * s) (by omega) (by omega)]
     have l1 : (stC ((l.drop a).take s)).length = s := by rw [zez, List.length_take]; omega
     have l2 : (stC ((l.drop a).drop s)).length = m - a - s := by rw [zez, List.length_drop]; omega
     have hlen : (S1 ++ (stC ((l.drop a).take s) ++ (stC ((l.drop a).drop s) ++ []))).length = m := by simp only [List.length_append, List.length_nil]; omega
     rw [e0]
     refine Z139 ?_; refine Z59 ?_; refine Z140 ?_; refine Z70 ?_; refine Z184 ?_; refine Z139 ?_; refine Z84 ?_; refine Z285 ?_; refine Z144 ?_; refine Z74 ?_; refine Z140 ?_; refine Z176 ?_; refine Z92 ?_; refine Z140 ?_; refine Z174 ?_; refine qo (za0 L 900 (zab b ((S1 ++ (stC (stC ((l.drop a).take s) ++ stC ((l.drop a).drop s)) ++ [])).flatMap ccs ++ rest) tyC) (r := zab b ((S1 ++ (stC ((l.drop a).take s) ++ (stC ((l.drop a).drop s) ++ []))).flatMap ccs ++ rest) tyC) rfl rfl rfl rfl rfl (fun u H C hH _ hr hC => (by have h := zs9 _ (cap := cap) (a := a) (mm := a + s) (e := m) (Nat.le_refl _) h1 (by omega) (by omega) (by omega) (by omega) (zio _) (zio _) hlen hm1 hH hr hC; exact h))) ?_; refine Z137 ?_; refine Z102 ?_; refine Z1 ?_; refine z7 (zub rfl rfl rfl rfl a2) rfl ?_; refine Z243 ?_
     rw [e1]
     exact yh (x := s) (2 * s) ⟨by omega, by omega⟩ (by omega) ⟨rfl, rfl, rfl, rfl, rfl, trivial⟩
    ·have e1 : S1 ++ chC s (l.drop a) = chC (2 * s) l := by
      rw [← h3, zh0 hs0 (by omega), zh0 (n := 2 * s) (by omega) (by omega)]
     rw [e1]
     refine Z139 ?_; refine Z59 ?_; refine Z140 ?_; refine Z70 ?_; refine Z184 ?_; refine Z139 ?_; refine Z84 ?_; refine Z285 ?_; refine Z144 ?_; refine Z74 ?_; refine Z266 ?_; refine Z141 ?_; refine Z142 ?_; refine Z102 ?_; refine Z1 ?_; refine z7 (zub rfl rfl rfl rfl a2) rfl ?_; refine Z243 ?_
     exact yh (x := s) (2 * s) ⟨by omega, by omega⟩ (by omega) ⟨rfl, rfl, rfl, rfl, rfl, trivial⟩
  ·rw [zh0 hs0 (by omega)]
   refine Z139 ?_; refine Z43 ?_; refine Z266 ?_; refine Z172 ?_
   exact zba L 900 (r := zab b _ tyC) rfl (fun _ _ h => h) Since.refl rfl rfl
abbrev SSF : Nat := 135
set_option maxHeartbeats 1000000 in
set_option maxRecDepth 20000 in
theorem ztf {l : List CH} {rest : List Value} {b m cap : Nat} (hm : l.length = m) (hm1 : m ≤ 100000) {w : World} {B : Heap} {C : Nat → Prop} (hB : B.Le (hp w))
  (hr : (zab b (l.flatMap ccs ++ rest) tyC).P B w C) (hC : ∀ k, C k → k < w.heap.size ∧ B k = none) :
  zcb Tryz.prog SSF [.slice (some ⟨b, 0, none⟩) m cap, zjy] w B C (zab b ((stC l).flatMap ccs ++ rest) tyC) := by
 unfold zcb
 refine zas 900 (zab b (l.flatMap ccs ++ rest) tyC) Tryz.func135 rfl Tryz.ntmps135 (Nat.le_of_ble_eq_true rfl) hB hr hC ?_
 rw [za1]
 refine Z15 ?_; refine Z140 ?_; refine Z85 ?_; refine Z1 ?_; refine qo (za0 L 900 (zab b ((stC l).flatMap ccs ++ rest) tyC) (r := zab b (l.flatMap ccs ++ rest) tyC) rfl rfl rfl rfl rfl (fun u H C hH _ hr hC => (by have h := zwe (cap := cap) hm hm1 hH hr hC; exact h))) ?_; refine zi ?_
 exact zba L 900 (r := zab b _ tyC) rfl (fun _ _ h => h) Since.refl rfl rfl
set_option maxRecDepth 20000 in
theorem zw9 {w : World} {B : Heap} (hB : B.Le (hp w)) : Ret Tryz.prog 173 [.slice none 0 0, .int .i64 0, .int .i64 0, zjy] w B (fun _ _ => True) := by
 refine yf Tryz.func173 rfl Tryz.ntmps173 (Nat.le_of_ble_eq_true rfl) hB ?_
 refine Z146 ?_; refine Z1 ?_; refine Z22 ?_; refine Z196 ?_
 refine zaj (fun _ : Nat => [(2, .is (.int .i64 0)), (8, .is (.int .i64 1))]) (fun _ => True) (fun s => s) 0 trivial ⟨rfl, rfl, trivial⟩ ?_
 rintro s _
 refine Z139 ?_; refine Z20 ?_; refine Z266 ?_; refine Z172 ?_
 exact zvx L rfl (fun _ _ h => h) Since.refl
set_option maxRecDepth 20000 in
theorem ztb {w : World} {B : Heap} (hB : B.Le (hp w)) : Ret Tryz.prog 160 [.slice none 0 0, .int .i64 0, zjy] w B (fun _ _ => True) := by
 refine yf Tryz.func160 rfl Tryz.ntmps160 (Nat.le_of_ble_eq_true rfl) hB ?_
 refine Z293 ?_; refine Z199 ?_; refine qh ?_
 refine zaj (fun _ : Nat => [(0, .is (.slice none 0 0)), (1, .is (.int .i64 0)), (2, .is zjy), (6, .is (.int .i64 20)), (7, .is (.int .i64 0)), (8, .is (.int .i64 20))]) (fun _ => True) (fun s => s) 0 trivial ⟨rfl, rfl, rfl, rfl, rfl, rfl, trivial⟩ ?_
 rintro s _
 refine Z307 ?_; refine Z70 ?_; refine Z386 ?_; refine Z45 ?_; refine Z219 ?_; refine z7 (yr (φ := fun _ _ => True) L rfl rfl (zk rfl) rfl rfl rfl (fun _ _ _ _ _ => trivial) (fun u H hH _ _ => zw9 hH)) rfl ?_; refine Z268 ?_
 refine zaj (fun _ : Nat => [(1, .is (.int .i64 0)), (6, .is (.int .i64 20))]) (fun _ => True) (fun s => s) 0 trivial ⟨rfl, rfl, trivial⟩ ?_
 rintro s _
 refine Z139 ?_; refine Z43 ?_; refine Z266 ?_; refine Z172 ?_
 exact zvx L rfl (fun _ _ h => h) Since.refl
set_option maxRecDepth 20000 in
theorem zrk {w : World} {B : Heap} (hB : B.Le (hp w)) : Ret Tryz.prog SSF [.slice none 0 0, zjy] w B (fun _ _ => True) := by
 refine yf Tryz.func135 rfl Tryz.ntmps135 (Nat.le_of_ble_eq_true rfl) hB ?_
 refine Z15 ?_; refine Z140 ?_; refine Z85 ?_; refine Z1 ?_; refine z7 (yr (φ := fun _ _ => True) L rfl rfl (zk rfl) rfl rfl rfl (fun _ _ _ _ _ => trivial) (fun u H hH _ _ => ztb hH)) rfl ?_; refine zi ?_
 exact zvx L rfl (fun _ _ h => h) Since.refl
end Go.V.L8
set_option maxRecDepth 20000
namespace Go.V.L8
open Go.Proofs Go.RowKit Go.V Go.V.L2 Go.V.L3 Go.V.L6
abbrev zC : CH := ((n3, n3), false)
def zu3 (l : List CH) (t : U) (z : CH) : CH := l.foldl (fun a c => if c.1 = t then c else a) z
def zgq (l : List CH) (t : U) : Option CH := (l.filter fun c => decide (c.1 = t)).getLast?
theorem zes (c : CH) (l : List CH) (t : U) : zgq (c :: l) t = (zgq l t).or (if c.1 = t then some c else none) := by
 unfold zgq
 by_cases h : c.1 = t
 ·rw [if_pos h, List.filter_cons_of_pos (by simpa using h), List.getLast?_cons]
  cases (l.filter fun c => decide (c.1 = t)).getLast? <;> rfl
 ·rw [if_neg h, List.filter_cons_of_neg (by simpa using h)]
  cases (l.filter fun c => decide (c.1 = t)).getLast? <;> rfl
theorem zfq {l : List CH} {t : U} {c : CH} (h : zgq l t = some c) : c.1 = t ∧ c ∈ l := by
 have := List.mem_of_getLast? h
 rw [List.mem_filter] at this
 exact ⟨by simpa using this.2, this.1⟩
theorem zlh {l : List CH} {t : U} : zgq l t = none ↔ ∀ c ∈ l, c.1 ≠ t := by
 unfold zgq
 rw [List.getLast?_eq_none_iff, List.filter_eq_nil_iff]
 simp
theorem zqs (l : List CH) (t : U) (z : CH) : zu3 l t z = (zgq l t).getD z := by
 induction l generalizing z with
 | nil => rfl
 | cons c r ih =>
  have : zu3 (c :: r) t z = zu3 r t (if c.1 = t then c else z) := rfl
  rw [this, ih, zes]
  cases zgq r t with
  | some d => rfl
  | none => by_cases h : c.1 = t <;> simp [h]
theorem zn5 {l : List CH} {t : U} {z : CH} (h : ∃ c ∈ l, c.1 = t) : zgq l t = some (zu3 l t z) := by
 rw [zqs]
 cases hk : zgq l t with
 | some d => rfl
 | none => obtain ⟨c, hc, he⟩ := h; exact absurd he (zlh.1 hk c hc)
def zj3 (l : List CH) : List CH := (zjf (l.map (·.1))).map fun t => zu3 l t zC
theorem zje {l : List U} {t : U} : t ∈ zjf l ↔ t ∈ l := by unfold zjf; rw [zfo]; simp
theorem zte (l : List U) : Sst zbd (zjf l) := zfk cmpT_ord Sst.nil
theorem zuo {l : List CH} {c : CH} : c ∈ zj3 l ↔ zgq l c.1 = some c := by
 unfold zj3
 rw [List.mem_map]
 constructor
 ·rintro ⟨t, ht, rfl⟩
  rw [zje, List.mem_map] at ht
  have := zn5 (z := zC) ht
  rw [(zfq this).1]
  exact this
 ·intro h
  have hm := zfq h
  exact ⟨c.1, zje.2 (List.mem_map.2 ⟨c, hm.2, rfl⟩), by rw [zqs, h]; rfl⟩
theorem zrz (l : List CH) : (zj3 l).map (·.1) = zjf (l.map (·.1)) := by
 unfold zj3
 rw [List.map_map]
 conv => rhs; rw [← List.map_id (zjf (l.map (·.1)))]
 refine List.map_congr_left fun t ht => ?_
 rw [zje, List.mem_map] at ht
 exact (zfq (zn5 (z := zC) ht)).1
def zyb (l : List CH) : Prop := Sst zbd (l.map (·.1))
theorem zun (l : List CH) : zyb (zj3 l) := by unfold zyb; rw [zrz]; exact zte _
theorem zwx {l : List CH} (h : zyb l) : l.Pairwise fun a b => a.1 ≠ b.1 := by
 unfold zyb Sst at h
 rw [List.pairwise_map] at h
 exact h.imp fun h1 => cmpT_ord.ne h1
theorem zz3 {l m : List CH} (hl : zyb l) (hm : zyb m) (h : ∀ c, c ∈ l ↔ c ∈ m) : l = m := by
 have hk : l.map (·.1) = m.map (·.1) := ze1 cmpT_ord hl hm fun t => by
  rw [List.mem_map, List.mem_map]
  exact ⟨fun ⟨c, hc, e⟩ => ⟨c, (h c).1 hc, e⟩, fun ⟨c, hc, e⟩ => ⟨c, (h c).2 hc, e⟩⟩
 have uni : ∀ {l : List CH}, zyb l → ∀ a ∈ l, ∀ b ∈ l, a.1 = b.1 → a = b := fun {l} hn a ha b hb e => by
  by_cases hab : a = b
  ·exact hab
  ·exfalso
   obtain ⟨i, hi⟩ := List.getElem?_of_mem ha
   obtain ⟨j, hj⟩ := List.getElem?_of_mem hb
   obtain ⟨hi', rfl⟩ := List.getElem?_eq_some_iff.1 hi
   obtain ⟨hj', rfl⟩ := List.getElem?_eq_some_iff.1 hj
   have hp := List.pairwise_iff_getElem.1 (zwx hn)
   rcases Nat.lt_trichotomy i j with h | h | h
   ·exact hp i j hi' hj' h e
   ·subst h; exact hab rfl
   ·exact hp j i hj' hi' h e.symm
 have hlen : l.length = m.length := by rw [← List.length_map (f := (·.1)), hk, List.length_map]
 refine List.ext_getElem hlen fun i h1 h2 => ?_
 have e : l[i].1 = m[i].1 := by
  have := congrArg (·[i]?) hk
  simp only [List.getElem?_map, List.getElem?_eq_getElem h1, List.getElem?_eq_getElem h2, Option.map_some, Option.some.injEq] at this
  exact this
 exact uni hm _ ((h _).1 (List.getElem_mem h1)) _ (List.getElem_mem h2) e
def ze5 : List CH → List CH
 | [] => []
 | [c] => [c]
 | c :: d :: r => if zbd c.1 d.1 = 0 then ze5 (d :: r) else c :: ze5 (d :: r)
theorem zr8 {l : List CH} {i : Nat} {c : CH} (h : l[i]? = some c) : ze5 (l.drop i) = (match l[i + 1]? with | none => [c] | some d => if zbd c.1 d.1 = 0 then [] else [c]) ++ ze5 (l.drop (i + 1)) := by
 have h1 : l.drop i = c :: l.drop (i + 1) := zfc h
 rw [h1]
 cases h2 : l[i + 1]? with
 | none =>
  have : l.drop (i + 1) = [] := List.drop_eq_nil_of_le (by simpa using h2)
  rw [this]; rfl
 | some d =>
  have h3 : l.drop (i + 1) = d :: l.drop (i + 1 + 1) := zfc h2
  rw [h3]
  show (if zbd c.1 d.1 = 0 then _ else _) = (if zbd c.1 d.1 = 0 then _ else _) ++ _
  split <;> rfl
theorem zli : ∀ {S : List CH}, Srt (·.1) zbd S → (∀ c ∈ ze5 S, zgq S c.1 = some c) ∧ (∀ x ∈ S, ∃ c ∈ ze5 S, c.1 = x.1) ∧ zyb (ze5 S)
 | [], _ => ⟨fun c hc => (by cases hc), fun c hc => (by cases hc), Sst.nil⟩
 | [c], _ => by
  have e : ze5 [c] = [c] := rfl
  rw [e]
  refine ⟨fun d hd => ?_, fun x hx => ⟨x, hx, rfl⟩, List.pairwise_singleton _ _⟩
  rw [List.mem_singleton] at hd; subst hd
  rw [zes, if_pos rfl]; rfl
 | c :: d :: r, h => by
  obtain ⟨h1, h2⟩ := List.pairwise_cons.1 h
  obtain ⟨g1, g2, g3⟩ := zli (S := d :: r) h2
  have e : ze5 (c :: d :: r) = if zbd c.1 d.1 = 0 then ze5 (d :: r) else c :: ze5 (d :: r) := rfl
  by_cases h0 : zbd c.1 d.1 = 0
  ·rw [e, if_pos h0]
   have hcd := cmpT_ord.eq _ _ h0
   refine ⟨fun x hx => by rw [zes, g1 x hx]; rfl, fun x hx => ?_, g3⟩
   rcases List.mem_cons.1 hx with rfl | hx
   ·obtain ⟨y, hy, e⟩ := g2 d (List.mem_cons_self ..)
    exact ⟨y, hy, e.trans hcd.symm⟩
   ·exact g2 x hx
  ·rw [e, if_neg h0]
   have hlt : ∀ y ∈ d :: r, zbd c.1 y.1 < 0 := fun y hy => by
    have hcd : zbd c.1 d.1 < 0 := by
     have h3 := h1 d (List.mem_cons_self ..)
     have := cmpT_ord.anti c.1 d.1
     dsimp only at h3
     omega
    rcases List.mem_cons.1 hy with rfl | hy
    ·exact hcd
    ·have h3 := (List.pairwise_cons.1 h2).1 y hy
     dsimp only at h3
     by_cases h5 : zbd d.1 y.1 < 0
     ·exact cmpT_ord.tr hcd h5
     ·have h6 : zbd d.1 y.1 = 0 := by have := cmpT_ord.anti d.1 y.1; omega
      rw [← cmpT_ord.eq _ _ h6]; exact hcd
   refine ⟨fun x hx => ?_, fun x hx => ?_, ?_⟩
   ·rcases List.mem_cons.1 hx with rfl | hx
    ·rw [zes, if_pos rfl, zlh.2 fun y hy e => cmpT_ord.irr x.1 (by rw [← e] ; exact absurd (hlt y hy) (by rw [e]; exact cmpT_ord.irr _))]; rfl
    ·rw [zes, g1 x hx]; rfl
   ·rcases List.mem_cons.1 hx with rfl | hx
    ·exact ⟨x, List.mem_cons_self .., rfl⟩
    ·obtain ⟨y, hy, e⟩ := g2 x hx
     exact ⟨y, List.mem_cons_of_mem _ hy, e⟩
   ·unfold zyb
    rw [List.map_cons]
    refine List.pairwise_cons.2 ⟨fun t ht => ?_, g3⟩
    obtain ⟨y, hy, rfl⟩ := List.mem_map.1 ht
    exact hlt y (zfq (g1 y hy)).2
theorem zu5 {l S : List CH} (h : Stb (·.1) zbd l S) : ze5 S = zj3 l := by
 obtain ⟨g1, g2, g3⟩ := zli h.1
 have hK : ∀ t, zgq S t = zgq l t := fun t => by unfold zgq; rw [h.2 t]
 refine zz3 g3 (zun l) fun c => ?_
 rw [zuo]
 constructor
 ·exact fun hc => by rw [← hK]; exact g1 c hc
 ·intro hc
  rw [← hK] at hc
  obtain ⟨d, hd, e⟩ := g2 c (zfq hc).2
  have := g1 d hd
  rw [e, hc] at this
  cases this; exact hd
end Go.V.L8
set_option maxRecDepth 20000
namespace Go.V.L8
open Go.Proofs Go.RowKit Go.V Go.V.L2 Go.V.L3 Go.V.L6
theorem _root_.Go.V.Z113 {A B : Prop} (h : B) (t : Wr B → A := by intro h; refine z8 (yo rfl rfl rfl rfl (decide_eq_false (by omega))) rfl ?_; exact h.h) : A := t ⟨h⟩
theorem zw6 (l : List CH) : ze5 (stC l) = zj3 l := zu5 (zcs cmpT_ord l)
theorem zn6 : ∀ (l : List CH), (ze5 l).length ≤ l.length
 | [] => Nat.le_refl _
 | [c] => Nat.le_refl _
 | c :: d :: r => by
  show (if zbd c.1 d.1 = 0 then ze5 (d :: r) else c :: ze5 (d :: r)).length ≤ _
  have := zn6 (d :: r)
  split
  ·simp only [List.length_cons] at this ⊢; omega
  ·simp only [List.length_cons] at this ⊢; omega
attribute [local irreducible] V N X VO Par StepOK Has Ret RetL RetO RetT zcb Src
set_option maxHeartbeats 1000000 in
theorem zsl {l : List CH} {fu : Bool} (hz : l.length ≤ 100000) {v : Value} {w : World} {B : Heap} (hB : B.Le (hp w)) (hv : KS tyC l fu v B) :
  RetO Tryz.prog 133 [v] w B (SlR tyC 7 l.length (l.flatMap ccs)) := by
 have hv0 := hv
 have hlen := zlo l
 have hpl := zxn l
 obtain ⟨p, c, rfl⟩ := zao hv
 rcases p with _ | b
 ·obtain ⟨h0, rfl⟩ : l.length = 0 ∧ c = 0 := zp4 hv
  have hn : l = [] := List.eq_nil_of_length_eq_zero h0
  subst hn
  refine zeg Tryz.func133 rfl Tryz.ntmps133 (Nat.le_of_ble_eq_true rfl) hB ?_
  refine Z276 ?_; refine z7 (zgj rfl rfl rfl rfl z4o rfl) rfl ?_; refine Z337 ?_
  refine zd2 2 tyC 7 rfl ?_
  exact zif rfl (fun _ _ h => h) Since.refl rfl
 ·refine zeg Tryz.func133 rfl Tryz.ntmps133 (Nat.le_of_ble_eq_true rfl) hB ?_
  refine Z276 ?_; refine z7 (zgj rfl rfl rfl rfl z4o rfl) rfl ?_; refine Z158 ?_
  refine zaz 0 (KS tyC l fu) rfl SlV.mono hv0 ?_
  refine Z28 ?_; refine z7 (zgc L rfl rfl rfl rfl rfl) rfl ?_; refine Z4 ?_; refine qo (zce L rfl rfl rfl (zh1 rfl) rfl zxk (by assumption) (by assumption) (by omega) (by omega)) ?_; refine qo (yn (.inr rfl) rfl rfl rfl rfl) ?_; refine Z137 ?_
  rw [Nat.zero_add, List.nil_append]
  exact zif rfl (fun _ _ h => h) Since.refl rfl
set_option maxHeartbeats 8000000 in
set_option maxRecDepth 20000 in
theorem zpi {l m : List CH} {fu : Bool} (hm : zj3 l = m) (hz : l.length ≤ 50000) {v : Value} {w : World} {B : Heap} (hB : B.Le (hp w)) (hv : KS tyC l fu v B) :
  Ret Tryz.prog 90 [v] w B (KS tyC m true) := by
 subst hm
 have hsl := zez l
 refine yf Tryz.func90 rfl Tryz.ntmps90 (Nat.le_of_ble_eq_true rfl) hB ?_
 refine zaz 0 (KS tyC l fu) rfl SlV.mono hv ?_
 refine Z186 ?_; refine Z4 ?_; refine z7 (zeb L rfl rfl (zk rfl) rfl rfl rfl (fun u H hH _ _ v1 hv1 => zsl (by omega) hH hv1)) rfl ?_; refine qo (yn (.inr rfl) rfl rfl rfl rfl) ?_; refine Z160 ?_; refine Z29 ?_; refine Z144 ?_
 refine zgt 3 900 rfl (fun h0 hn => ?_) fun b cap rest hl hmc hcm hcl => ?_
 ·have hl0 : l = [] := List.eq_nil_of_length_eq_zero h0
  subst hl0
  refine Z202 ?_; refine z7 (yr (φ := fun _ _ => True) L rfl rfl (zk rfl) rfl rfl rfl (fun _ _ _ _ _ => trivial) (fun u H hH _ _ => zrk hH)) rfl ?_; refine Z160 ?_
  refine zaz 3 (KS tyC [] false) rfl SlV.mono SlV.nil ?_
  refine Z30 ?_; refine Z4 ?_; refine z7 (za8 L (kl := .i64) (pl := 0) 0 0 true rfl rfl rfl rfl rfl rfl ⟨rfl, rfl⟩ ⟨rfl, rfl⟩ (by decide) (by decide) rfl) rfl ?_; refine Z351 ?_; refine Z38 ?_; refine Z150 ?_; refine Z305 ?_
  refine zaj (fun _ : Nat => [(5, .sat (KS tyC [] true)), (15, .sat (KS tyC [] false)), (16, .is (.int .i64 0)), (17, .is (.int .i64 0))]) (fun _ => True) (fun s => s) 0 trivial ⟨rfl, rfl, rfl, rfl, trivial⟩ ?_
  rintro s _
  refine zh ?_; refine Z45 ?_; refine Z314 ?_; refine Z66 ?_; refine Z4 ?_; refine Z150 ?_; refine Z150 ?_; refine Z121 ?_; refine Z259 ?_
  refine yd L (rs := [.tmp 2]) rfl (fun _ _ h => h) Since.refl fun u H hH hle => ?_
  exact fun v hv => hv
 ·refine Z202 ?_; refine qo (za0 L 900 (zab b ((stC l).flatMap ccs ++ rest) tyC) (r := zab b (l.flatMap ccs ++ rest) tyC) rfl rfl rfl rfl rfl (fun u H C hH _ hr hC => (by have h := ztf (cap := cap) rfl (by omega) hH hr hC; exact h))) ?_; refine Z160 ?_
  refine zb7 (xs := (stC l).flatMap ccs) (rest := rest) (s := 7) 3 900 rfl rfl rfl (by rw [zlo, hsl]) hmc hcm (by
   rw [List.length_append] at hcl ⊢
   rw [zlo] at hcl ⊢
   rw [hsl]; exact hcl) ?_
  rw [← hsl]
  have hkn := zw6 l
  have hkl := zn6 (stC l)
  rw [← hkn]
  generalize stC l = S at *
  refine zcj 3 rfl ?_
  refine Z30 ?_; refine Z4 ?_; refine z7 (za8 L (kl := .i64) (pl := 0) 0 0 true rfl rfl rfl rfl rfl rfl ⟨rfl, rfl⟩ ⟨rfl, rfl⟩ (by omega) (by omega) rfl) rfl ?_; refine Z351 ?_; refine Z38 ?_; refine Z150 ?_; refine Z305 ?_
  refine zx5 5 (SlV tyC 7 [] 0 true) rfl SlV.mono (fun v H h => h) ?_
  refine z4e 5 rfl ?_
  refine zaj (fun i : Nat × List CH => [(3, .sat (KS tyC S false)), (4, .is zjy), (5, .own (SlG tyC 7 i.2.length (i.2.flatMap ccs))), (15, .sat (KS tyC S false)), (16, .is (.int .i64 S.length)), (17, .is (.int .i64 i.1))]) (fun i => i.1 ≤ S.length ∧ i.2.length ≤ i.1 ∧ i.2 ++ ze5 (S.drop i.1) = ze5 S) (fun i => S.length - i.1) (0, []) ⟨Nat.zero_le _, Nat.le_refl _, rfl⟩ ⟨rfl, rfl, rfl, rfl, rfl, rfl, trivial⟩ ?_
  rintro ⟨i, kp⟩ ⟨h1, h2, h3⟩
  dsimp only at h1 h2 h3 ⊢
  by_cases hlt : i < S.length
  ·obtain ⟨c, hc0⟩ := zae hlt
   have hc := zii hc0
   have hst := zr8 hc0
   have a1 : IntKind.i64.wrap ((i : Int) + 1) = ((i + 1 : Nat) : Int) := zaa (by omega) (by omega)
   by_cases hlast : i + 1 < S.length
   ·obtain ⟨d, hd0⟩ := zae hlast
    have hd := zii hd0
    rw [hd0] at hst
    dsimp only at hst
    by_cases heq : zbd c.1 d.1 = 0
    ·rw [if_pos heq, List.nil_append] at hst
     refine zh ?_; refine Z45 ?_; refine Z224 ?_; refine Z193 ?_; refine z7 (qu L _ rfl rfl rfl rfl rfl rfl rfl (by first | omega | decide) (by assumption)) rfl ?_; refine z7 (yg L (vs := [_, _, _, _, _, _, _]) rfl rfl rfl rfl rfl ⟨_, rfl⟩) rfl ?_; refine Z263 ?_; refine Z19 ?_; refine Z160 ?_; refine Z95 ?_; refine Z3 ?_; refine Z32 ?_; refine Z35 ?_; refine z8 (qv L rfl rfl rfl rfl) rfl ?_; refine Z87 ?_; refine Z145 ?_; refine z8 (zz L (vs := [_, _, _, _, _, _, _]) (yk rfl) rfl rfl rfl rfl ⟨_, rfl⟩) rfl ?_; refine Z198 ?_; refine Z32 ?_; refine z8 (qu L _ rfl rfl rfl rfl rfl rfl rfl (by first | omega | decide) (by assumption)) rfl ?_; refine z8 (yg L (vs := [_, _, _, _, _, _, _]) rfl rfl rfl rfl rfl ⟨_, rfl⟩) rfl ?_; refine z8 (zp L rfl rfl (zk rfl) rfl rfl rfl (fun u H hH _ _ => zdd hH)) rfl ?_; refine Z113 ?_; refine Z204 ?_; refine Z335 ?_; refine Z68 ?_; refine Z17 ?_; refine Z269 ?_
     exact yh (x := (i, kp)) (i + 1, kp) ⟨hlt, by dsimp only; omega, by dsimp only; rw [← hst]; exact h3⟩ (by dsimp only; omega) ⟨rfl, rfl, rfl, rfl, rfl, rfl, trivial⟩
    ·rw [if_neg heq] at hst
     refine zh ?_; refine Z45 ?_; refine Z224 ?_; refine Z193 ?_; refine z7 (qu L _ rfl rfl rfl rfl rfl rfl rfl (by first | omega | decide) (by assumption)) rfl ?_; refine z7 (yg L (vs := [_, _, _, _, _, _, _]) rfl rfl rfl rfl rfl ⟨_, rfl⟩) rfl ?_; refine Z263 ?_; refine Z19 ?_; refine Z160 ?_; refine Z95 ?_; refine Z3 ?_; refine Z32 ?_; refine Z35 ?_; refine z8 (qv L rfl rfl rfl rfl) rfl ?_; refine Z87 ?_; refine Z145 ?_; refine z8 (zz L (vs := [_, _, _, _, _, _, _]) (yk rfl) rfl rfl rfl rfl ⟨_, rfl⟩) rfl ?_; refine Z198 ?_; refine Z32 ?_; refine z8 (qu L _ rfl rfl rfl rfl rfl rfl rfl (by first | omega | decide) (by assumption)) rfl ?_; refine z8 (yg L (vs := [_, _, _, _, _, _, _]) rfl rfl rfl rfl rfl ⟨_, rfl⟩) rfl ?_; refine z8 (zp L rfl rfl (zk rfl) rfl rfl rfl (fun u H hH _ _ => zdd hH)) rfl ?_; refine z8 (yo rfl rfl rfl rfl (decide_eq_true (by omega))) rfl ?_; refine Z264 ?_; refine Z59 ?_; refine qo (yn (.inl rfl) rfl rfl rfl rfl) ?_; refine z7 (zz L (vs := [_, _, _, _, _, _, _]) (yk rfl) rfl rfl rfl rfl ⟨_, rfl⟩) rfl ?_; refine Z36 ?_; refine qo (zld L (by decide) rfl rfl rfl (zh2 rfl) rfl zxk rfl rfl (by omega) (by omega)) ?_; refine qo (yn (.inr rfl) rfl rfl rfl rfl) ?_; refine Z238 ?_; refine Z68 ?_; refine Z17 ?_; refine Z269 ?_
     exact yh (x := (i, kp)) (i + 1, kp ++ [c]) ⟨hlt, by dsimp only; rw [List.length_append, List.length_singleton]; omega, by dsimp only; rw [List.append_assoc, ← hst]; exact h3⟩ (by dsimp only; omega) ⟨rfl, rfl, by dsimp only; rw [List.flatMap_append, List.length_append]; rfl, rfl, rfl, rfl, trivial⟩
   ·have hend : i + 1 = S.length := by omega
    rw [List.getElem?_eq_none (by omega)] at hst
    dsimp only at hst
    refine zh ?_; refine Z45 ?_; refine Z224 ?_; refine Z193 ?_; refine z7 (qu L _ rfl rfl rfl rfl rfl rfl rfl (by first | omega | decide) (by assumption)) rfl ?_; refine z7 (yg L (vs := [_, _, _, _, _, _, _]) rfl rfl rfl rfl rfl ⟨_, rfl⟩) rfl ?_; refine Z263 ?_; refine Z19 ?_; refine Z160 ?_; refine Z95 ?_; refine Z3 ?_; refine Z32 ?_; refine Z35 ?_; refine z8 (qv L rfl rfl rfl rfl) rfl ?_; refine Z100 ?_; refine Z246 ?_; refine Z6 ?_; refine Z264 ?_; refine Z59 ?_; refine qo (yn (.inl rfl) rfl rfl rfl rfl) ?_; refine z7 (zz L (vs := [_, _, _, _, _, _, _]) (yk rfl) rfl rfl rfl rfl ⟨_, rfl⟩) rfl ?_; refine Z36 ?_; refine qo (zld L (by decide) rfl rfl rfl (zh2 rfl) rfl zxk rfl rfl (by omega) (by omega)) ?_; refine qo (yn (.inr rfl) rfl rfl rfl rfl) ?_; refine Z238 ?_; refine Z68 ?_; refine Z17 ?_; refine Z269 ?_
    exact yh (x := (i, kp)) (i + 1, kp ++ [c]) ⟨hlt, by dsimp only; rw [List.length_append, List.length_singleton]; omega, by dsimp only; rw [List.append_assoc, ← hst]; exact h3⟩ (by dsimp only; omega) ⟨rfl, rfl, by dsimp only; rw [List.flatMap_append, List.length_append]; rfl, rfl, rfl, rfl, trivial⟩
  ·rw [List.drop_eq_nil_of_le (by omega), show ze5 [] = [] from rfl, List.append_nil] at h3
   subst h3
   refine z22 5 rfl ?_
   refine zh ?_; refine Z45 ?_; refine Z314 ?_; refine Z66 ?_; refine Z4 ?_; refine Z150 ?_; refine Z150 ?_; refine Z121 ?_; refine Z259 ?_
   refine yd L (rs := [.tmp 2]) rfl (fun _ _ h => h) Since.refl fun u H hH hle => ?_
   exact fun v hv => hv
end Go.V.L8
set_option maxRecDepth 20000
namespace Go.V.L2
open Go.Proofs Go.RowKit Go.V
theorem _root_.Go.V.Z69 {A B : Prop} (h : B) (t : Wr B → A := by intro h; refine z8 (qu L 0 rfl rfl rfl rfl rfl rfl rfl (by first | omega | decide) (by assumption)) rfl ?_; exact h.h) : A := t ⟨h⟩
theorem _root_.Go.V.Z76 {A B : Prop} (h : B) (t : Wr B → A := by intro h; refine z7 (qu L 0 rfl rfl rfl rfl rfl rfl rfl (by first | omega | decide) (by assumption)) rfl ?_; exact h.h) : A := t ⟨h⟩
theorem _root_.Go.V.Z359 {A B : Prop} (h : B) (t : Wr B → A := by intro h; refine Z45 ?_; refine Z150 ?_; exact h.h) : A := t ⟨h⟩
theorem _root_.Go.V.Z360 {A B : Prop} (h : B) (t : Wr B → A := by intro h; refine Z35 ?_; refine Z69 ?_; exact h.h) : A := t ⟨h⟩
theorem _root_.Go.V.Z378 {A B : Prop} (h : B) (t : Wr B → A := by intro h; refine Z31 ?_; refine Z1 ?_; exact h.h) : A := t ⟨h⟩
theorem _root_.Go.V.Z379 {A B : Prop} (h : B) (t : Wr B → A := by intro h; refine Z139 ?_; refine Z359 ?_; exact h.h) : A := t ⟨h⟩
theorem _root_.Go.V.Z380 {A B : Prop} (h : B) (t : Wr B → A := by intro h; refine Z242 ?_; refine Z66 ?_; exact h.h) : A := t ⟨h⟩
theorem _root_.Go.V.Z387 {A B : Prop} (h : B) (t : Wr B → A := by intro h; refine zh ?_; refine Z84 ?_; exact h.h) : A := t ⟨h⟩
theorem _root_.Go.V.Z400 {A B : Prop} (h : B) (t : Wr B → A := by intro h; refine Z43 ?_; refine Z144 ?_; exact h.h) : A := t ⟨h⟩
theorem _root_.Go.V.Z401 {A B : Prop} (h : B) (t : Wr B → A := by intro h; refine Z400 ?_; refine Z344 ?_; exact h.h) : A := t ⟨h⟩
theorem _root_.Go.V.Z402 {A B : Prop} (h : B) (t : Wr B → A := by intro h; refine Z401 ?_; refine Z150 ?_; exact h.h) : A := t ⟨h⟩
theorem _root_.Go.V.Z403 {A B : Prop} (h : B) (t : Wr B → A := by intro h; refine Z376 ?_; refine Z265 ?_; exact h.h) : A := t ⟨h⟩
theorem _root_.Go.V.Z404 {A B : Prop} (h : B) (t : Wr B → A := by intro h; refine Z4 ?_; refine Z76 ?_; exact h.h) : A := t ⟨h⟩
theorem zrh {φ : Value → Heap → Prop} {a tv : Value} {H : Heap} (h : φ tv H) : TupS [φ, fun v _ => v = a] (.tuple #[tv, a]) H :=
 ⟨[tv, a], rfl, rfl, fun i ψ x hi hx => by
  rcases i with _ | _ | i
  ·simp at hi hx; subst hi hx; exact h
  ·simp at hi hx; subst hi hx; rfl
  ·simp at hi⟩
theorem zk0 {φ : Value → Heap → Prop} {a : Value} (h : Kn.mono (.sat φ)) : Kn.mono (.sat (TupS [φ, fun v _ => v = a])) := TupS.mono fun ψ hψ => by
 rcases List.mem_cons.1 hψ with rfl | hψ
 ·exact h
 ·rw [List.mem_singleton] at hψ
  subst hψ
  exact fun _ _ _ h _ => h
theorem zc8 {α : Type} {c : α → α → Int} {f : Bool → Bool → Bool} : ∀ (n : Nat) (l m : List α), l.length + m.length ≤ n → (zec c f n l m).length ≤ l.length + m.length
 | 0, _, _, _ => by simp [zec]
 | n + 1, [], [], _ => by simp [zec]
 | n + 1, a :: l, [], h => by
  have := zc8 (c := c) (f := f) n l [] (by simp only [List.length_cons, List.length_nil] at h ⊢; omega)
  simp only [zec, List.length_append, List.length_cons, List.length_nil] at this ⊢
  split <;> simp only [List.length_cons, List.length_nil] <;> omega
 | n + 1, [], b :: m, h => by
  have := zc8 (c := c) (f := f) n [] m (by simp only [List.length_cons, List.length_nil] at h ⊢; omega)
  simp only [zec, List.length_append, List.length_cons, List.length_nil] at this ⊢
  split <;> simp only [List.length_cons, List.length_nil] <;> omega
 | n + 1, a :: l, b :: m, h => by
  simp only [List.length_cons] at h
  have h1 := zc8 (c := c) (f := f) n l (b :: m) (by simp only [List.length_cons]; omega)
  have h2 := zc8 (c := c) (f := f) n (a :: l) m (by simp only [List.length_cons]; omega)
  have h3 := zc8 (c := c) (f := f) n l m (by omega)
  simp only [List.length_cons] at h1 h2
  simp only [zec]
  split
  ·rw [List.length_append]; split <;> simp only [List.length_cons, List.length_nil] <;> omega
  ·split
   ·rw [List.length_append]; split <;> simp only [List.length_cons, List.length_nil] <;> omega
   ·rw [List.length_append]; split <;> simp only [List.length_cons, List.length_nil] <;> omega
def z14 (f : Bool → Bool → Bool) (l m : List U) : List U × Int :=
 if 4096 < l.length ∨ 4096 < m.length then ([], 3) else if (isB l && isB m) = true then (zec zbd f (l.length + m.length) l m, 0) else ([], 18)
abbrev LE (r : List U × Int) : Value → Heap → Prop := TupS [US r.1 true, fun v _ => v = .int .i64 r.2]
theorem LE.mono {r : List U × Int} : Kn.mono (.sat (LE r)) := zk0 SlV.mono
theorem zlw (a : U) (l : List U) : (((a :: l).flatMap ucs).drop (1 * 6)).take (((a :: l).length - 1) * 6) = l.flatMap ucs := by
 rw [List.flatMap_cons, List.drop_left' (by rfl), List.length_cons, Nat.add_sub_cancel, List.take_of_length_le (Nat.le_of_eq (zch zlu l))]
theorem zi4 {κ : Kap} {s : Nat} {out : List U} {t : U} (h : κ s = some (.own (SlR tyU 6 (out.length + 1) (out.flatMap ucs ++ [.string t.1.1.1, .string t.1.1.2, .string t.1.2, .string t.2.1.1, .string t.2.1.2, .string t.2.2])))) : κ s = some (.own (SlR tyU 6 (out ++ [t]).length ((out ++ [t]).flatMap ucs))) := by
 rw [h, List.flatMap_append, List.length_append]; simp [ucs]
attribute [local irreducible] V N X VO Par StepOK Has Ret RetL Src
set_option maxHeartbeats 4000000 in
theorem zus {f : Bool → Bool → Bool} {tf : Nat} (hfn : L.fn tf = some ()) (hf : ∀ (p q : Bool) (u : World) (H : Heap), H.Le (hp u) → Ret Tryz.prog tf [.bool p, .bool q] u H (fun v _ => v = .bool (f p q))) {l m : List U} {fa fb : Bool}
  {r : List U × Int} (hr : z14 f l m = r) {v v2 : Value} {w : World} {B : Heap} (hB : B.Le (hp w)) (hv : US l fa v B) (hv2 : US m fb v2 B) :
  Ret Tryz.prog 131 [v, v2, .func (.func tf) #[] #[]] w B (LE r) := by
 subst hr
 unfold z14
 refine yf Tryz.func131 rfl Tryz.ntmps131 (Nat.le_of_ble_eq_true rfl) hB ?_
 refine zaz 0 (US l fa) rfl SlV.mono hv ?_
 refine zaz 1 (US m fb) rfl SlV.mono hv2 ?_
 by_cases z1 : 4096 < l.length
 ·rw [if_pos (.inl z1)]
  refine Z257 ?_; refine Z306 ?_; refine Z39 ?_; refine Z254 ?_; refine Z225 ?_; refine Z185 ?_
  refine yd L (rs := [.tmp 6, .tmp 7]) rfl (fun _ _ h => h) Since.refl fun u H hH hle => ?_
  exact zrh SlV.nil
 ·by_cases z2 : 4096 < m.length
  ·rw [if_pos (.inr z2)]
   refine Z257 ?_; refine Z306 ?_; refine Z378 ?_; refine Z150 ?_; refine Z39 ?_; refine Z8 ?_; refine Z225 ?_; refine Z185 ?_
   refine yd L (rs := [.tmp 6, .tmp 7]) rfl (fun _ _ h => h) Since.refl fun u H hH hle => ?_
   exact zrh SlV.nil
  ·rw [if_neg (by omega)]
   cases h1 : isB l
   ·rw [if_neg (by simp)]
    refine Z257 ?_; refine Z306 ?_; refine Z378 ?_; refine Z150 ?_; refine Z304 ?_; refine Z168 ?_; refine Z28 ?_; refine Z4 ?_; refine z7 (zp L rfl rfl (zk rfl) rfl rfl rfl (fun u H hH _ _ v1 hv1 => zi7 (by omega) h1 hH hv1)) rfl ?_; refine Z53 ?_; refine Z254 ?_; refine Z321 ?_; refine Z185 ?_
    refine yd L (rs := [.tmp 6, .tmp 7]) rfl (fun _ _ h => h) Since.refl fun u H hH hle => ?_
    exact zrh SlV.nil
   ·cases h2 : isB m
    ·rw [if_neg (by simp)]
     refine Z257 ?_; refine Z306 ?_; refine Z378 ?_; refine Z150 ?_; refine Z304 ?_; refine Z168 ?_; refine Z28 ?_; refine Z4 ?_; refine z7 (zp L rfl rfl (zk rfl) rfl rfl rfl (fun u H hH _ _ v1 hv1 => zi7 (by omega) h1 hH hv1)) rfl ?_; refine Z53 ?_; refine Z1 ?_; refine Z4 ?_; refine z7 (zp L rfl rfl (zk rfl) rfl rfl rfl (fun u H hH _ _ v1 hv1 => zi7 (by omega) h2 hH hv1)) rfl ?_; refine Z392 ?_; refine Z321 ?_; refine Z185 ?_
     refine yd L (rs := [.tmp 6, .tmp 7]) rfl (fun _ _ h => h) Since.refl fun u H hH hle => ?_
     exact zrh SlV.nil
    ·rw [if_pos (by rfl)]
     refine Z257 ?_; refine Z306 ?_; refine Z378 ?_; refine Z150 ?_; refine Z304 ?_; refine Z168 ?_; refine Z28 ?_; refine Z4 ?_; refine z7 (zp L rfl rfl (zk rfl) rfl rfl rfl (fun u H hH _ _ v1 hv1 => zi7 (by omega) h1 hH hv1)) rfl ?_; refine Z53 ?_; refine Z1 ?_; refine Z4 ?_; refine z7 (zp L rfl rfl (zk rfl) rfl rfl rfl (fun u H hH _ _ v1 hv1 => zi7 (by omega) h2 hH hv1)) rfl ?_; refine Z53 ?_; refine Z284 ?_; refine Z38 ?_; refine Z144 ?_; refine qh ?_
     refine zx5 0 (US l false) rfl SlV.mono (fun _ _ h => h.nofu) ?_
     refine zx5 1 (US m false) rfl SlV.mono (fun _ _ h => h.nofu) ?_
     refine zd2 8 tyU 6 rfl ?_
     refine zaj (fun s : Nat × List U × List U × List U => [(0, .sat (US s.2.1 false)), (1, .sat (US s.2.2.1 false)), (2, .is (.func (.func tf) #[] #[])), (8, .own (SlR tyU 6 s.2.2.2.length (s.2.2.2.flatMap ucs)))])
      (fun s => s.2.1.length + s.2.2.1.length ≤ s.1 ∧ s.2.2.2 ++ zec zbd f s.1 s.2.1 s.2.2.1 = zec zbd f (l.length + m.length) l m ∧ s.2.2.2.length + s.2.1.length + s.2.2.1.length ≤ 8192) (fun s => s.1) (l.length + m.length, l, m, []) ⟨Nat.le_refl _, rfl, by simp only [List.length_nil]; omega⟩ ⟨rfl, rfl, rfl, rfl, trivial⟩ ?_
     generalize zec zbd f (l.length + m.length) l m = R
     clear h1 h2 z1 z2 hv hv2
     rintro ⟨n, x, y, out⟩ ⟨hn, hR, hz⟩
     dsimp only at hn hR hz ⊢
     rcases x with _ | ⟨a, x⟩
     ·rcases y with _ | ⟨b, y⟩
      ·have hR : out = R := by rw [← hR]; cases n <;> simp [zec]
       subst hR
       have l0 : ([] : List U).length = 0 := rfl
       refine Z379 ?_; refine Z378 ?_; refine Z150 ?_; refine Z304 ?_; refine Z386 ?_
       refine zcj 8 rfl ?_
       refine zf (id := 22) ?_; refine Z4 ?_; refine Z150 ?_; refine Z150 ?_; refine Z121 ?_; refine Z51 ?_; refine Z138 ?_
       refine yd L (rs := [.tmp 6, .tmp 7]) rfl (fun _ _ h => h) Since.refl fun u H hH hle => ?_
       exact fun v hv => zrh hv
      ·have l0 : ([] : List U).length = 0 := rfl
       have lb : (b :: y).length = y.length + 1 := rfl
       have hb := zge (l := b :: y) (i := 0) (t := b) rfl
       have tb := zlw b y
       rcases n with _ | n
       ·simp only [List.length_cons, List.length_nil] at hn; omega
       cases hft : f false true
       ·have hR : out ++ zec zbd f n [] y = R := by rw [← hR]; simp [zec, hft]
        have hfv : ∀ (u : World) (H : Heap), H.Le (hp u) → Ret Tryz.prog tf [.bool false, .bool true] u H (fun v _ => v = .bool false) := fun u H h => by have := hf false true u H h; rwa [hft] at this
        refine Z379 ?_; refine Z378 ?_; refine Z150 ?_; refine Z39 ?_; refine Z248 ?_; refine Z227 ?_; refine Z402 ?_; refine Z329 ?_; refine Z68 ?_; refine Z368 ?_; refine Z387 ?_; refine z7 (yv (cs := [_, _, _, _, _, _]) rfl rfl zfd rfl rfl) rfl ?_; refine Z403 ?_; refine Z39 ?_; refine Z143 ?_; refine Z92 ?_; refine Z404 ?_; refine z7 (yg L (vs := [_, _, _, _, _, _]) rfl rfl rfl rfl rfl ⟨_, rfl⟩) rfl ?_; refine Z19 ?_; refine Z188 ?_; refine Z289 ?_; refine Z255 ?_; refine Z119 ?_; refine Z4 ?_; refine z7 (za8 L (kh := .i64) (ph := 0) (km := .i64) (pm := 0) 1 _ false rfl rfl rfl rfl rfl ⟨rfl, rfl⟩ ⟨rfl, rfl⟩ (fun h => by cases h) (by omega) (by omega) (by assumption)) rfl ?_; refine Z396 ?_; refine Z355 ?_; refine Z70 ?_; refine Z1 ?_; refine Z42 ?_; refine z7 (zp L rfl rfl (zk rfl) rfl rfl hfn (fun u H hH _ _ => hfv u H hH)) rfl ?_; refine Z192 ?_; refine ya ?_
        exact yh (x := (n + 1, [], b :: y, out)) (n, [], y, out) ⟨by simp only [List.length_cons, List.length_nil] at hn ⊢; omega, hR, by simp only [List.length_cons, List.length_nil, List.length_append] at hz ⊢; omega⟩ (by dsimp only; omega) ⟨rfl, rfl, rfl, rfl, trivial⟩
       ·have hR : out ++ [b] ++ zec zbd f n [] y = R := by rw [← hR]; simp [zec, hft]
        have hfv : ∀ (u : World) (H : Heap), H.Le (hp u) → Ret Tryz.prog tf [.bool false, .bool true] u H (fun v _ => v = .bool true) := fun u H h => by have := hf false true u H h; rwa [hft] at this
        refine Z379 ?_; refine Z378 ?_; refine Z150 ?_; refine Z39 ?_; refine Z248 ?_; refine Z227 ?_; refine Z402 ?_; refine Z329 ?_; refine Z68 ?_; refine Z368 ?_; refine Z387 ?_; refine z7 (yv (cs := [_, _, _, _, _, _]) rfl rfl zfd rfl rfl) rfl ?_; refine Z403 ?_; refine Z39 ?_; refine Z143 ?_; refine Z92 ?_; refine Z404 ?_; refine z7 (yg L (vs := [_, _, _, _, _, _]) rfl rfl rfl rfl rfl ⟨_, rfl⟩) rfl ?_; refine Z19 ?_; refine Z188 ?_; refine Z289 ?_; refine Z255 ?_; refine Z119 ?_; refine Z4 ?_; refine z7 (za8 L (kh := .i64) (ph := 0) (km := .i64) (pm := 0) 1 _ false rfl rfl rfl rfl rfl ⟨rfl, rfl⟩ ⟨rfl, rfl⟩ (fun h => by cases h) (by omega) (by omega) (by assumption)) rfl ?_; refine Z396 ?_; refine Z355 ?_; refine Z70 ?_; refine Z1 ?_; refine Z42 ?_; refine z7 (zp L rfl rfl (zk rfl) rfl rfl hfn (fun u H hH _ _ => hfv u H hH)) rfl ?_; refine Z143 ?_; refine Z116 ?_; refine qo (yn (.inl rfl) rfl rfl rfl rfl) ?_; refine z7 (zz L (vs := [_, _, _, _, _, _]) (yk rfl) rfl rfl rfl rfl ⟨_, rfl⟩) rfl ?_; refine Z310 ?_; refine qo (yn (.inr rfl) rfl rfl rfl rfl) ?_; refine zi ?_; refine ya ?_
        exact yh (x := (n + 1, [], b :: y, out)) (n, [], y, out ++ [b]) ⟨by simp only [List.length_cons, List.length_nil] at hn ⊢; omega, hR, by simp only [List.length_cons, List.length_nil, List.length_append] at hz ⊢; omega⟩ (by dsimp only; omega) ⟨rfl, rfl, rfl, zi4 rfl, trivial⟩
     ·have la : (a :: x).length = x.length + 1 := rfl
      have ha := zge (l := a :: x) (i := 0) (t := a) rfl
      have ta := zlw a x
      rcases y with _ | ⟨b, y⟩
      ·have l0 : ([] : List U).length = 0 := rfl
       rcases n with _ | n
       ·simp only [List.length_cons, List.length_nil] at hn; omega
       cases hft : f true false
       ·have hR : out ++ zec zbd f n x [] = R := by rw [← hR]; simp [zec, hft]
        have hfv : ∀ (u : World) (H : Heap), H.Le (hp u) → Ret Tryz.prog tf [.bool true, .bool false] u H (fun v _ => v = .bool false) := fun u H h => by have := hf true false u H h; rwa [hft] at this
        refine Z379 ?_; refine Z39 ?_; refine Z254 ?_; refine Z298 ?_; refine Z402 ?_; refine Z380 ?_; refine Z150 ?_; refine Z329 ?_; refine Z79 ?_; refine Z368 ?_; refine Z387 ?_; refine z7 (yv (cs := [_, _, _, _, _, _]) rfl rfl zfd rfl rfl) rfl ?_; refine Z403 ?_; refine Z31 ?_; refine Z365 ?_; refine Z102 ?_; refine Z404 ?_; refine z7 (yg L (vs := [_, _, _, _, _, _]) rfl rfl rfl rfl rfl ⟨_, rfl⟩) rfl ?_; refine Z252 ?_; refine Z394 ?_; refine z7 (za8 L (kh := .i64) (ph := 0) (km := .i64) (pm := 0) 1 _ false rfl rfl rfl rfl rfl ⟨rfl, rfl⟩ ⟨rfl, rfl⟩ (fun h => by cases h) (by omega) (by omega) (by assumption)) rfl ?_; refine Z351 ?_; refine Z289 ?_; refine Z46 ?_; refine Z158 ?_; refine Z355 ?_; refine Z73 ?_; refine Z1 ?_; refine Z46 ?_; refine z7 (zp L rfl rfl (zk rfl) rfl rfl hfn (fun u H hH _ _ => hfv u H hH)) rfl ?_; refine Z192 ?_; refine ya ?_
        exact yh (x := (n + 1, a :: x, [], out)) (n, x, [], out) ⟨by simp only [List.length_cons, List.length_nil] at hn ⊢; omega, hR, by simp only [List.length_cons, List.length_nil, List.length_append] at hz ⊢; omega⟩ (by dsimp only; omega) ⟨rfl, rfl, rfl, rfl, trivial⟩
       ·have hR : out ++ [a] ++ zec zbd f n x [] = R := by rw [← hR]; simp [zec, hft]
        have hfv : ∀ (u : World) (H : Heap), H.Le (hp u) → Ret Tryz.prog tf [.bool true, .bool false] u H (fun v _ => v = .bool true) := fun u H h => by have := hf true false u H h; rwa [hft] at this
        refine Z379 ?_; refine Z39 ?_; refine Z254 ?_; refine Z298 ?_; refine Z402 ?_; refine Z380 ?_; refine Z150 ?_; refine Z329 ?_; refine Z79 ?_; refine Z368 ?_; refine Z387 ?_; refine z7 (yv (cs := [_, _, _, _, _, _]) rfl rfl zfd rfl rfl) rfl ?_; refine Z403 ?_; refine Z31 ?_; refine Z365 ?_; refine Z102 ?_; refine Z404 ?_; refine z7 (yg L (vs := [_, _, _, _, _, _]) rfl rfl rfl rfl rfl ⟨_, rfl⟩) rfl ?_; refine Z252 ?_; refine Z394 ?_; refine z7 (za8 L (kh := .i64) (ph := 0) (km := .i64) (pm := 0) 1 _ false rfl rfl rfl rfl rfl ⟨rfl, rfl⟩ ⟨rfl, rfl⟩ (fun h => by cases h) (by omega) (by omega) (by assumption)) rfl ?_; refine Z351 ?_; refine Z289 ?_; refine Z46 ?_; refine Z158 ?_; refine Z355 ?_; refine Z73 ?_; refine Z1 ?_; refine Z46 ?_; refine z7 (zp L rfl rfl (zk rfl) rfl rfl hfn (fun u H hH _ _ => hfv u H hH)) rfl ?_; refine Z143 ?_; refine Z116 ?_; refine qo (yn (.inl rfl) rfl rfl rfl rfl) ?_; refine z7 (zz L (vs := [_, _, _, _, _, _]) (yk rfl) rfl rfl rfl rfl ⟨_, rfl⟩) rfl ?_; refine Z310 ?_; refine qo (yn (.inr rfl) rfl rfl rfl rfl) ?_; refine zi ?_; refine ya ?_
        exact yh (x := (n + 1, a :: x, [], out)) (n, x, [], out ++ [a]) ⟨by simp only [List.length_cons, List.length_nil] at hn ⊢; omega, hR, by simp only [List.length_cons, List.length_nil, List.length_append] at hz ⊢; omega⟩ (by dsimp only; omega) ⟨rfl, rfl, rfl, zi4 rfl, trivial⟩
      ·have lb : (b :: y).length = y.length + 1 := rfl
       have hb := zge (l := b :: y) (i := 0) (t := b) rfl
       have tb := zlw b y
       by_cases c1 : zbd a b < 0
       ·rcases n with _ | n
        ·simp only [List.length_cons, List.length_nil] at hn; omega
        cases hft : f true false
        ·have hR : out ++ zec zbd f n x (b :: y) = R := by rw [← hR]; simp [zec, c1, hft]
         have hfv : ∀ (u : World) (H : Heap), H.Le (hp u) → Ret Tryz.prog tf [.bool true, .bool false] u H (fun v _ => v = .bool false) := fun u H h => by have := hf true false u H h; rwa [hft] at this
         refine Z379 ?_; refine Z39 ?_; refine Z254 ?_; refine Z298 ?_; refine Z402 ?_; refine Z380 ?_; refine Z150 ?_; refine Z358 ?_; refine Z95 ?_; refine Z360 ?_; refine z8 (yg L (vs := [_, _, _, _, _, _]) rfl rfl rfl rfl rfl ⟨_, rfl⟩) rfl ?_; refine Z360 ?_; refine z8 (yg L (vs := [_, _, _, _, _, _]) rfl rfl rfl rfl rfl ⟨_, rfl⟩) rfl ?_; refine z8 (zp L rfl rfl (zk rfl) rfl rfl rfl (fun u H hH _ _ => zdc hH)) rfl ?_; refine Z37 ?_; refine Z275 ?_; refine Z387 ?_; refine z7 (yv (cs := [_, _, _, _, _, _]) rfl rfl zfd rfl rfl) rfl ?_; refine Z403 ?_; refine Z31 ?_; refine Z365 ?_; refine Z102 ?_; refine Z404 ?_; refine z7 (yg L (vs := [_, _, _, _, _, _]) rfl rfl rfl rfl rfl ⟨_, rfl⟩) rfl ?_; refine Z252 ?_; refine Z394 ?_; refine z7 (za8 L (kh := .i64) (ph := 0) (km := .i64) (pm := 0) 1 _ false rfl rfl rfl rfl rfl ⟨rfl, rfl⟩ ⟨rfl, rfl⟩ (fun h => by cases h) (by omega) (by omega) (by assumption)) rfl ?_; refine Z351 ?_; refine Z289 ?_; refine Z46 ?_; refine Z158 ?_; refine Z355 ?_; refine Z73 ?_; refine Z1 ?_; refine Z46 ?_; refine z7 (zp L rfl rfl (zk rfl) rfl rfl hfn (fun u H hH _ _ => hfv u H hH)) rfl ?_; refine Z192 ?_; refine ya ?_
         exact yh (x := (n + 1, a :: x, b :: y, out)) (n, x, (b :: y), out) ⟨by simp only [List.length_cons, List.length_nil] at hn ⊢; omega, hR, by simp only [List.length_cons, List.length_nil, List.length_append] at hz ⊢; omega⟩ (by dsimp only; omega) ⟨rfl, rfl, rfl, rfl, trivial⟩
        ·have hR : out ++ [a] ++ zec zbd f n x (b :: y) = R := by rw [← hR]; simp [zec, c1, hft]
         have hfv : ∀ (u : World) (H : Heap), H.Le (hp u) → Ret Tryz.prog tf [.bool true, .bool false] u H (fun v _ => v = .bool true) := fun u H h => by have := hf true false u H h; rwa [hft] at this
         refine Z379 ?_; refine Z39 ?_; refine Z254 ?_; refine Z298 ?_; refine Z402 ?_; refine Z380 ?_; refine Z150 ?_; refine Z358 ?_; refine Z95 ?_; refine Z360 ?_; refine z8 (yg L (vs := [_, _, _, _, _, _]) rfl rfl rfl rfl rfl ⟨_, rfl⟩) rfl ?_; refine Z360 ?_; refine z8 (yg L (vs := [_, _, _, _, _, _]) rfl rfl rfl rfl rfl ⟨_, rfl⟩) rfl ?_; refine z8 (zp L rfl rfl (zk rfl) rfl rfl rfl (fun u H hH _ _ => zdc hH)) rfl ?_; refine Z37 ?_; refine Z275 ?_; refine Z387 ?_; refine z7 (yv (cs := [_, _, _, _, _, _]) rfl rfl zfd rfl rfl) rfl ?_; refine Z403 ?_; refine Z31 ?_; refine Z365 ?_; refine Z102 ?_; refine Z404 ?_; refine z7 (yg L (vs := [_, _, _, _, _, _]) rfl rfl rfl rfl rfl ⟨_, rfl⟩) rfl ?_; refine Z252 ?_; refine Z394 ?_; refine z7 (za8 L (kh := .i64) (ph := 0) (km := .i64) (pm := 0) 1 _ false rfl rfl rfl rfl rfl ⟨rfl, rfl⟩ ⟨rfl, rfl⟩ (fun h => by cases h) (by omega) (by omega) (by assumption)) rfl ?_; refine Z351 ?_; refine Z289 ?_; refine Z46 ?_; refine Z158 ?_; refine Z355 ?_; refine Z73 ?_; refine Z1 ?_; refine Z46 ?_; refine z7 (zp L rfl rfl (zk rfl) rfl rfl hfn (fun u H hH _ _ => hfv u H hH)) rfl ?_; refine Z143 ?_; refine Z116 ?_; refine qo (yn (.inl rfl) rfl rfl rfl rfl) ?_; refine z7 (zz L (vs := [_, _, _, _, _, _]) (yk rfl) rfl rfl rfl rfl ⟨_, rfl⟩) rfl ?_; refine Z310 ?_; refine qo (yn (.inr rfl) rfl rfl rfl rfl) ?_; refine zi ?_; refine ya ?_
         exact yh (x := (n + 1, a :: x, b :: y, out)) (n, x, (b :: y), out ++ [a]) ⟨by simp only [List.length_cons, List.length_nil] at hn ⊢; omega, hR, by simp only [List.length_cons, List.length_nil, List.length_append] at hz ⊢; omega⟩ (by dsimp only; omega) ⟨rfl, rfl, rfl, zi4 rfl, trivial⟩
       ·by_cases c2 : 0 < zbd a b
        ·rcases n with _ | n
         ·simp only [List.length_cons, List.length_nil] at hn; omega
         cases hft : f false true
         ·have hR : out ++ zec zbd f n (a :: x) y = R := by rw [← hR]; simp [zec, c1, c2, hft]
          have hfv : ∀ (u : World) (H : Heap), H.Le (hp u) → Ret Tryz.prog tf [.bool false, .bool true] u H (fun v _ => v = .bool false) := fun u H h => by have := hf false true u H h; rwa [hft] at this
          refine Z379 ?_; refine Z39 ?_; refine Z254 ?_; refine Z298 ?_; refine Z402 ?_; refine Z380 ?_; refine Z150 ?_; refine Z358 ?_; refine Z95 ?_; refine Z360 ?_; refine z8 (yg L (vs := [_, _, _, _, _, _]) rfl rfl rfl rfl rfl ⟨_, rfl⟩) rfl ?_; refine Z360 ?_; refine z8 (yg L (vs := [_, _, _, _, _, _]) rfl rfl rfl rfl rfl ⟨_, rfl⟩) rfl ?_; refine z8 (zp L rfl rfl (zk rfl) rfl rfl rfl (fun u H hH _ _ => zdc hH)) rfl ?_; refine Z37 ?_; refine Z275 ?_; refine Z387 ?_; refine z7 (yv (cs := [_, _, _, _, _, _]) rfl rfl zfd rfl rfl) rfl ?_; refine Z403 ?_; refine Z39 ?_; refine Z143 ?_; refine Z92 ?_; refine Z404 ?_; refine z7 (yg L (vs := [_, _, _, _, _, _]) rfl rfl rfl rfl rfl ⟨_, rfl⟩) rfl ?_; refine Z19 ?_; refine Z188 ?_; refine Z289 ?_; refine Z255 ?_; refine Z119 ?_; refine Z4 ?_; refine z7 (za8 L (kh := .i64) (ph := 0) (km := .i64) (pm := 0) 1 _ false rfl rfl rfl rfl rfl ⟨rfl, rfl⟩ ⟨rfl, rfl⟩ (fun h => by cases h) (by omega) (by omega) (by assumption)) rfl ?_; refine Z396 ?_; refine Z355 ?_; refine Z70 ?_; refine Z1 ?_; refine Z42 ?_; refine z7 (zp L rfl rfl (zk rfl) rfl rfl hfn (fun u H hH _ _ => hfv u H hH)) rfl ?_; refine Z192 ?_; refine ya ?_
          exact yh (x := (n + 1, a :: x, b :: y, out)) (n, (a :: x), y, out) ⟨by simp only [List.length_cons, List.length_nil] at hn ⊢; omega, hR, by simp only [List.length_cons, List.length_nil, List.length_append] at hz ⊢; omega⟩ (by dsimp only; omega) ⟨rfl, rfl, rfl, rfl, trivial⟩
         ·have hR : out ++ [b] ++ zec zbd f n (a :: x) y = R := by rw [← hR]; simp [zec, c1, c2, hft]
          have hfv : ∀ (u : World) (H : Heap), H.Le (hp u) → Ret Tryz.prog tf [.bool false, .bool true] u H (fun v _ => v = .bool true) := fun u H h => by have := hf false true u H h; rwa [hft] at this
          refine Z379 ?_; refine Z39 ?_; refine Z254 ?_; refine Z298 ?_; refine Z402 ?_; refine Z380 ?_; refine Z150 ?_; refine Z358 ?_; refine Z95 ?_; refine Z360 ?_; refine z8 (yg L (vs := [_, _, _, _, _, _]) rfl rfl rfl rfl rfl ⟨_, rfl⟩) rfl ?_; refine Z360 ?_; refine z8 (yg L (vs := [_, _, _, _, _, _]) rfl rfl rfl rfl rfl ⟨_, rfl⟩) rfl ?_; refine z8 (zp L rfl rfl (zk rfl) rfl rfl rfl (fun u H hH _ _ => zdc hH)) rfl ?_; refine Z37 ?_; refine Z275 ?_; refine Z387 ?_; refine z7 (yv (cs := [_, _, _, _, _, _]) rfl rfl zfd rfl rfl) rfl ?_; refine Z403 ?_; refine Z39 ?_; refine Z143 ?_; refine Z92 ?_; refine Z404 ?_; refine z7 (yg L (vs := [_, _, _, _, _, _]) rfl rfl rfl rfl rfl ⟨_, rfl⟩) rfl ?_; refine Z19 ?_; refine Z188 ?_; refine Z289 ?_; refine Z255 ?_; refine Z119 ?_; refine Z4 ?_; refine z7 (za8 L (kh := .i64) (ph := 0) (km := .i64) (pm := 0) 1 _ false rfl rfl rfl rfl rfl ⟨rfl, rfl⟩ ⟨rfl, rfl⟩ (fun h => by cases h) (by omega) (by omega) (by assumption)) rfl ?_; refine Z396 ?_; refine Z355 ?_; refine Z70 ?_; refine Z1 ?_; refine Z42 ?_; refine z7 (zp L rfl rfl (zk rfl) rfl rfl hfn (fun u H hH _ _ => hfv u H hH)) rfl ?_; refine Z143 ?_; refine Z116 ?_; refine qo (yn (.inl rfl) rfl rfl rfl rfl) ?_; refine z7 (zz L (vs := [_, _, _, _, _, _]) (yk rfl) rfl rfl rfl rfl ⟨_, rfl⟩) rfl ?_; refine Z310 ?_; refine qo (yn (.inr rfl) rfl rfl rfl rfl) ?_; refine zi ?_; refine ya ?_
          exact yh (x := (n + 1, a :: x, b :: y, out)) (n, (a :: x), y, out ++ [b]) ⟨by simp only [List.length_cons, List.length_nil] at hn ⊢; omega, hR, by simp only [List.length_cons, List.length_nil, List.length_append] at hz ⊢; omega⟩ (by dsimp only; omega) ⟨rfl, rfl, rfl, zi4 rfl, trivial⟩
        ·rcases n with _ | n
         ·simp only [List.length_cons, List.length_nil] at hn; omega
         cases hft : f true true
         ·have hR : out ++ zec zbd f n x y = R := by rw [← hR]; simp [zec, c1, c2, hft]
          have hfv : ∀ (u : World) (H : Heap), H.Le (hp u) → Ret Tryz.prog tf [.bool true, .bool true] u H (fun v _ => v = .bool false) := fun u H h => by have := hf true true u H h; rwa [hft] at this
          refine Z379 ?_; refine Z39 ?_; refine Z254 ?_; refine Z298 ?_; refine Z402 ?_; refine Z380 ?_; refine Z150 ?_; refine Z358 ?_; refine Z95 ?_; refine Z360 ?_; refine z8 (yg L (vs := [_, _, _, _, _, _]) rfl rfl rfl rfl rfl ⟨_, rfl⟩) rfl ?_; refine Z360 ?_; refine z8 (yg L (vs := [_, _, _, _, _, _]) rfl rfl rfl rfl rfl ⟨_, rfl⟩) rfl ?_; refine z8 (zp L rfl rfl (zk rfl) rfl rfl rfl (fun u H hH _ _ => zdc hH)) rfl ?_; refine Z37 ?_; refine Z275 ?_; refine Z387 ?_; refine z7 (yv (cs := [_, _, _, _, _, _]) rfl rfl zfd rfl rfl) rfl ?_; refine Z403 ?_; refine Z31 ?_; refine Z365 ?_; refine Z102 ?_; refine Z404 ?_; refine z7 (yg L (vs := [_, _, _, _, _, _]) rfl rfl rfl rfl rfl ⟨_, rfl⟩) rfl ?_; refine Z252 ?_; refine Z394 ?_; refine z7 (za8 L (kh := .i64) (ph := 0) (km := .i64) (pm := 0) 1 _ false rfl rfl rfl rfl rfl ⟨rfl, rfl⟩ ⟨rfl, rfl⟩ (fun h => by cases h) (by omega) (by omega) (by assumption)) rfl ?_; refine Z351 ?_; refine Z289 ?_; refine Z255 ?_; refine Z119 ?_; refine Z4 ?_; refine z7 (za8 L (kh := .i64) (ph := 0) (km := .i64) (pm := 0) 1 _ false rfl rfl rfl rfl rfl ⟨rfl, rfl⟩ ⟨rfl, rfl⟩ (fun h => by cases h) (by omega) (by omega) (by assumption)) rfl ?_; refine Z396 ?_; refine Z355 ?_; refine Z73 ?_; refine Z1 ?_; refine Z42 ?_; refine z7 (zp L rfl rfl (zk rfl) rfl rfl hfn (fun u H hH _ _ => hfv u H hH)) rfl ?_; refine Z192 ?_; refine ya ?_
          exact yh (x := (n + 1, a :: x, b :: y, out)) (n, x, y, out) ⟨by simp only [List.length_cons, List.length_nil] at hn ⊢; omega, hR, by simp only [List.length_cons, List.length_nil, List.length_append] at hz ⊢; omega⟩ (by dsimp only; omega) ⟨rfl, rfl, rfl, rfl, trivial⟩
         ·have hR : out ++ [a] ++ zec zbd f n x y = R := by rw [← hR]; simp [zec, c1, c2, hft]
          have hfv : ∀ (u : World) (H : Heap), H.Le (hp u) → Ret Tryz.prog tf [.bool true, .bool true] u H (fun v _ => v = .bool true) := fun u H h => by have := hf true true u H h; rwa [hft] at this
          refine Z379 ?_; refine Z39 ?_; refine Z254 ?_; refine Z298 ?_; refine Z402 ?_; refine Z380 ?_; refine Z150 ?_; refine Z358 ?_; refine Z95 ?_; refine Z360 ?_; refine z8 (yg L (vs := [_, _, _, _, _, _]) rfl rfl rfl rfl rfl ⟨_, rfl⟩) rfl ?_; refine Z360 ?_; refine z8 (yg L (vs := [_, _, _, _, _, _]) rfl rfl rfl rfl rfl ⟨_, rfl⟩) rfl ?_; refine z8 (zp L rfl rfl (zk rfl) rfl rfl rfl (fun u H hH _ _ => zdc hH)) rfl ?_; refine Z37 ?_; refine Z275 ?_; refine Z387 ?_; refine z7 (yv (cs := [_, _, _, _, _, _]) rfl rfl zfd rfl rfl) rfl ?_; refine Z403 ?_; refine Z31 ?_; refine Z365 ?_; refine Z102 ?_; refine Z404 ?_; refine z7 (yg L (vs := [_, _, _, _, _, _]) rfl rfl rfl rfl rfl ⟨_, rfl⟩) rfl ?_; refine Z252 ?_; refine Z394 ?_; refine z7 (za8 L (kh := .i64) (ph := 0) (km := .i64) (pm := 0) 1 _ false rfl rfl rfl rfl rfl ⟨rfl, rfl⟩ ⟨rfl, rfl⟩ (fun h => by cases h) (by omega) (by omega) (by assumption)) rfl ?_; refine Z351 ?_; refine Z289 ?_; refine Z255 ?_; refine Z119 ?_; refine Z4 ?_; refine z7 (za8 L (kh := .i64) (ph := 0) (km := .i64) (pm := 0) 1 _ false rfl rfl rfl rfl rfl ⟨rfl, rfl⟩ ⟨rfl, rfl⟩ (fun h => by cases h) (by omega) (by omega) (by assumption)) rfl ?_; refine Z396 ?_; refine Z355 ?_; refine Z73 ?_; refine Z1 ?_; refine Z42 ?_; refine z7 (zp L rfl rfl (zk rfl) rfl rfl hfn (fun u H hH _ _ => hfv u H hH)) rfl ?_; refine Z143 ?_; refine Z116 ?_; refine qo (yn (.inl rfl) rfl rfl rfl rfl) ?_; refine z7 (zz L (vs := [_, _, _, _, _, _]) (yk rfl) rfl rfl rfl rfl ⟨_, rfl⟩) rfl ?_; refine Z310 ?_; refine qo (yn (.inr rfl) rfl rfl rfl rfl) ?_; refine zi ?_; refine ya ?_
          exact yh (x := (n + 1, a :: x, b :: y, out)) (n, x, y, out ++ [a]) ⟨by simp only [List.length_cons, List.length_nil] at hn ⊢; omega, hR, by simp only [List.length_cons, List.length_nil, List.length_append] at hz ⊢; omega⟩ (by dsimp only; omega) ⟨rfl, rfl, rfl, zi4 rfl, trivial⟩
end Go.V.L2
set_option maxRecDepth 20000
namespace Go.V.L2
open Go.Proofs Go.RowKit Go.V
abbrev fWo : Bool → Bool → Bool := fun _ b => !b
attribute [local irreducible] V N X VO Par StepOK Has Ret RetL RetO Src
theorem z0e (p q : Bool) (w : World) (B : Heap) (hB : B.Le (hp w)) : Ret Tryz.prog 132 [.bool p, .bool q] w B (fun v _ => v = .bool (fWo p q)) := by
 refine yf Tryz.func132 rfl Tryz.ntmps132 (Nat.le_of_ble_eq_true rfl) hB ?_
 refine Z293 ?_; refine Z53 ?_; refine Z138 ?_
 refine yd L (rs := [.tmp 4]) rfl (fun _ _ h => h) Since.refl fun u H hH hle => ?_
 rfl
theorem zh3 {l m : List U} {fa fb : Bool} {r : List U × Int} {v v2 : Value} {w : World} {B : Heap} (hr : z14 fWo l m = r) (hB : B.Le (hp w)) (hv : US l fa v B) (hv2 : US m fb v2 B) : Ret Tryz.prog 89 [v, v2] w B (LE r) := by
 refine yf Tryz.func89 rfl Tryz.ntmps89 (Nat.le_of_ble_eq_true rfl) hB ?_
 refine zaz 0 (US l fa) rfl SlV.mono hv ?_
 refine zaz 1 (US m fb) rfl SlV.mono hv2 ?_
 refine Z257 ?_; refine Z159 ?_; refine Z377 ?_; refine z7 (yr (φ := LE r) L rfl rfl (zk rfl) rfl rfl rfl LE.mono (fun u H hH _ _ v1 h1 v2 h2 => zus rfl z0e hr hH h1 h2)) rfl ?_; refine z7 (zgl rfl rfl rfl rfl SlV.mono) rfl ?_; refine Z324 ?_; refine Z138 ?_
 refine yd L (rs := [.tmp 4, .tmp 5]) rfl (fun _ _ h => h) Since.refl fun u H hH hle => ?_
 exact fun v hv => zrh hv
end Go.V.L2
set_option maxRecDepth 20000
namespace Go.V.L8
open Go.Proofs Go.RowKit Go.V Go.V.L2 Go.V.L3 Go.V.L6
def z3f (a b : List U) : List CH := zj3 ((zec zbd fWo (a.length + b.length) a b).map (fun t => (t, true)) ++ (zec zbd fWo (b.length + a.length) b a).map (fun t => (t, false)))
end Go.V.L8
set_option maxRecDepth 20000
namespace Go.V.L8
open Go.Proofs Go.RowKit Go.V Go.V.L2 Go.V.L3 Go.V.L6
attribute [local irreducible] V N X VO Par StepOK Has Ret RetL RetO RetT zcb Src
abbrev KE (m : List CH) (e : Int) : Value → Heap → Prop := TupS [KS tyC m true, fun v _ => v = .int .i64 e]
theorem KE.mono {m : List CH} {e : Int} : Kn.mono (.sat (KE m e)) := zk0 SlV.mono
end Go.V.L8
set_option maxRecDepth 20000
namespace Go.V.L8
open Go.Proofs Go.RowKit Go.V Go.V.L2 Go.V.L3 Go.V.L6
attribute [local irreducible] V N X VO Par StepOK Has Ret RetL RetO RetT zcb Src
end Go.V.L8
set_option maxRecDepth 20000
namespace Go.V.L8
open Go.Proofs Go.RowKit Go.V Go.V.L2 Go.V.L3 Go.V.L6
attribute [local irreducible] V N X VO Par StepOK Has Ret RetL RetO RetT zcb Src
end Go.V.L8
set_option maxRecDepth 20000
namespace Go.V.L8
open Go.Proofs Go.RowKit Go.V Go.V.L2 Go.V.L3 Go.V.L6
attribute [local irreducible] V N X VO Par StepOK Has Ret RetL RetO RetT zcb Src
end Go.V.L8
set_option maxRecDepth 20000
namespace Go.V.L8
open Go.Proofs Go.RowKit Go.V Go.V.L2 Go.V.L3 Go.V.L6
theorem zyf (a b : List U) : (zec zbd fWo (a.length + b.length) a b).length ≤ a.length + b.length := zc8 _ _ _ (Nat.le_refl _)
theorem zup {a b : List U} (la : a.length ≤ 4096) (lb : b.length ≤ 4096) (sa : Sst zbd a) (sb : Sst zbd b) : z14 fWo a b = (zec zbd fWo (a.length + b.length) a b, 0) := by
 unfold z14
 have h1 : isB a = true := decide_eq_true sa
 have h2 : isB b = true := decide_eq_true sb
 rw [if_neg (by omega), h1, h2, if_pos (by decide)]
attribute [local irreducible] V N X VO Par StepOK Has Ret RetL RetO RetT zcb Src
set_option maxHeartbeats 4000000 in
theorem zof {a b : List U} {m : List CH} (la : a.length ≤ 4096) (lb : b.length ≤ 4096) (sa : Sst zbd a) (sb : Sst zbd b) (hr : z3f a b = m) {av bv : Value} {w : World} {B : Heap} (hB : B.Le (hp w)) (ha : SetV a av B) (hb : SetV b bv B) :
  Ret Tryz.prog 59 [av, bv] w B (KS tyC m true) := by
 subst hr
 obtain ⟨f1, p1, k1, q1, rfl, hp1⟩ := ha.shape
 obtain ⟨f2, p2, k2, q2, rfl, hp2⟩ := hb.shape
 have w1 := zup la lb sa sb
 have w2 := zup lb la sb sa
 have l1 := zyf a b
 have l2 := zyf b a
 have hbp : z3f a b = zj3 ((zec zbd fWo (a.length + b.length) a b).map (fun t => (t, true)) ++ (zec zbd fWo (b.length + a.length) b a).map (fun t => (t, false))) := rfl
 rw [hbp]
 generalize zec zbd fWo (a.length + b.length) a b = G at *
 generalize zec zbd fWo (b.length + a.length) b a = K at *
 have mG : Kn.mono (.sat (US G true)) := SlV.mono
 have mK : Kn.mono (.sat (US K true)) := SlV.mono
 refine yf Tryz.func59 rfl Tryz.ntmps59 (Nat.le_of_ble_eq_true rfl) hB ?_
 refine Z211 ?_; refine Z367 ?_; refine z8 (zz L (vs := [_, _, _, _]) (qm rfl) rfl rfl rfl rfl ⟨_, rfl⟩) rfl ?_; refine z8 (yr (φ := US a true) L rfl rfl (zk rfl) rfl rfl rfl SlV.mono (fun u H hH hle _ => zjh (by omega) hH (ha.le hle))) rfl ?_; refine z8 (zz L (vs := [_, _, _, _]) (qm rfl) rfl rfl rfl rfl ⟨_, rfl⟩) rfl ?_; refine z8 (yr (φ := US b true) L rfl rfl (zk rfl) rfl rfl rfl SlV.mono (fun u H hH hle _ => zjh (by omega) hH (hb.le hle))) rfl ?_; refine Z90 ?_; refine Z90 ?_; refine Z290 ?_; refine Z29 ?_; refine Z377 ?_; refine z7 (yr (φ := LE (G, 0)) L rfl rfl (zk rfl) rfl rfl rfl LE.mono (fun u H hH _ _ v1 h1 v2 h2 => zh3 w1 hH h1 h2)) rfl ?_; refine Z343 ?_; refine Z144 ?_; refine Z28 ?_; refine Z377 ?_; refine z7 (yr (φ := LE (K, 0)) L rfl rfl (zk rfl) rfl rfl rfl LE.mono (fun u H hH _ _ v1 h1 v2 h2 => zh3 w2 hH h1 h2)) rfl ?_; refine Z343 ?_; refine Z144 ?_; refine Z30 ?_; refine Z147 ?_
 refine zd2 11 tyC 7 rfl ?_
 refine Z38 ?_; refine Z150 ?_; refine Z305 ?_
 refine zaj (fun i : Nat => [(9, .sat (US K true)), (11, .own (SlR tyC 7 ((G.take i).map fun t => ((t, true) : CH)).length (((G.take i).map fun t => ((t, true) : CH)).flatMap ccs))), (32, .sat (US G true)), (33, .is (.int .i64 G.length)), (34, .is (.int .i64 i))]) (fun i => i ≤ G.length) (fun i => G.length - i) 0 (Nat.zero_le _) ⟨rfl, rfl, rfl, rfl, rfl, trivial⟩ ?_
 rintro i hi
 have hli : ((G.take i).map fun t => ((t, true) : CH)).length ≤ 8192 := by rw [List.length_map, List.length_take]; omega
 by_cases hlt : i < G.length
 ·obtain ⟨t, ht⟩ := zae hlt
  have hct := zge ht
  have e1 : ((G.take (i + 1)).map fun t => ((t, true) : CH)) = ((G.take i).map fun t => ((t, true) : CH)) ++ [(t, true)] := by rw [List.take_add_one, ht, List.map_append]; rfl
  refine zh ?_; refine Z45 ?_; refine Z224 ?_; refine Z43 ?_; refine z7 (qu L _ rfl rfl rfl rfl rfl rfl rfl (by first | omega | decide) (by assumption)) rfl ?_; refine z7 (yg L (vs := [_, _, _, _, _, _]) rfl rfl rfl rfl rfl ⟨_, rfl⟩) rfl ?_; refine Z203 ?_; refine Z137 ?_; refine Z57 ?_; refine qo (yn (.inl rfl) rfl rfl rfl rfl) ?_; refine z7 (zz L (vs := [_, _, _, _, _, _]) (yk rfl) rfl rfl rfl rfl ⟨_, rfl⟩) rfl ?_; refine z7 (yv (cs := [_, _, _, _, _, _, _]) rfl rfl zo0 rfl rfl) rfl ?_; refine Z36 ?_; refine Z109 ?_; refine qo (yn (.inr rfl) rfl rfl rfl rfl) ?_; refine Z238 ?_; refine Z59 ?_; refine Z316 ?_
  exact yh (x := i) (i + 1) hlt (by omega) ⟨rfl, by rw [e1]; exact zgr rfl, rfl, rfl, rfl, trivial⟩
 ·obtain rfl : i = G.length := by omega
  rw [List.take_length]
  have lG : (G.map fun t => ((t, true) : CH)).length ≤ 8192 := by rw [List.length_map]; omega
  refine zh ?_; refine Z45 ?_; refine Z303 ?_; refine Z139 ?_; refine Z68 ?_; refine Z150 ?_; refine Z305 ?_
  refine zaj (fun j : Nat => [(11, .own (SlR tyC 7 ((G.map fun t => ((t, true) : CH)) ++ ((K.take j).map fun t => ((t, false) : CH))).length (((G.map fun t => ((t, true) : CH)) ++ ((K.take j).map fun t => ((t, false) : CH))).flatMap ccs))), (44, .sat (US K true)), (45, .is (.int .i64 K.length)), (46, .is (.int .i64 j))]) (fun j => j ≤ K.length) (fun j => K.length - j) 0 (Nat.zero_le _) ⟨by rw [List.take_zero, List.map_nil, List.append_nil]; rfl, rfl, rfl, rfl, trivial⟩ ?_
  rintro j hj
  have hlj : ((G.map fun t => ((t, true) : CH)) ++ ((K.take j).map fun t => ((t, false) : CH))).length ≤ 16384 := by rw [List.length_append, List.length_map, List.length_map, List.length_take]; omega
  by_cases hjl : j < K.length
  ·obtain ⟨t, ht⟩ := zae hjl
   have hct := zge ht
   have e1 : ((G.map fun t => ((t, true) : CH)) ++ ((K.take (j + 1)).map fun t => ((t, false) : CH))) = ((G.map fun t => ((t, true) : CH)) ++ ((K.take j).map fun t => ((t, false) : CH))) ++ [(t, false)] := by rw [List.take_add_one, ht, List.map_append, List.append_assoc]; rfl
   refine zh ?_; refine Z66 ?_; refine Z224 ?_; refine Z79 ?_; refine z7 (qu L _ rfl rfl rfl rfl rfl rfl rfl (by first | omega | decide) (by assumption)) rfl ?_; refine z7 (yg L (vs := [_, _, _, _, _, _]) rfl rfl rfl rfl rfl ⟨_, rfl⟩) rfl ?_; refine Z203 ?_; refine Z137 ?_; refine Z84 ?_; refine qo (yn (.inl rfl) rfl rfl rfl rfl) ?_; refine z7 (zz L (vs := [_, _, _, _, _, _]) (yk rfl) rfl rfl rfl rfl ⟨_, rfl⟩) rfl ?_; refine z7 (yv (cs := [_, _, _, _, _, _, _]) rfl rfl zo0 rfl rfl) rfl ?_; refine Z36 ?_; refine Z109 ?_; refine qo (yn (.inr rfl) rfl rfl rfl rfl) ?_; refine Z238 ?_; refine Z74 ?_; refine Z316 ?_
   exact yh (x := j) (j + 1) hjl (by omega) ⟨by rw [e1]; exact zgr rfl, rfl, rfl, rfl, trivial⟩
  ·obtain rfl : j = K.length := by omega
   rw [List.take_length]
   rw [List.take_length] at hlj
   refine zcj 11 rfl ?_
   refine zh ?_; refine Z66 ?_; refine Z314 ?_; refine Z92 ?_; refine Z4 ?_; refine z7 (yr (φ := KS tyC (zj3 ((G.map fun t => ((t, true) : CH)) ++ (K.map fun t => ((t, false) : CH)))) true) L rfl rfl (zk rfl) rfl rfl rfl SlV.mono (fun u H hH _ _ v1 h1 => zpi rfl (by omega) hH h1)) rfl ?_; refine Z259 ?_
   refine yd L (rs := [.tmp 4]) rfl (fun _ _ h => h) Since.refl fun u H hH hle => ?_
   exact fun v hv => hv
end Go.V.L8
set_option maxRecDepth 20000
namespace Go.V.L10
open Go.Proofs Go.RowKit Go.V Go.V.L2 Go.V.L8 Go.V.L6
theorem _root_.Go.V.Z330 {A B : Prop} (h : B) (t : Wr B → A := by intro h; refine Z178 ?_; refine Z60 ?_; exact h.h) : A := t ⟨h⟩
theorem zpz (S : Sto) : zhe fun (x : Nat × Value × Ent) (H : Heap) => MapOK x.2.2 S.R ∧ EsV x.2.2 H ∧ PsV (zai S.P) x.2.1 H := fun _ _ _ ⟨h1, h2, h3⟩ hle => ⟨h1, h2.le hle, h3.le hle⟩
abbrev StG (b : Nat) (S : Sto) : GR := GEx (fun x : Nat × Value × Ent => StO b S.R.length x.1 x.2.1 S.P.length x.2.2) (fun x H => MapOK x.2.2 S.R ∧ EsV x.2.2 H ∧ PsV (zai S.P) x.2.1 H) (zpz S)
theorem zlx (b : Nat) (S : Sto) : (StG b S).res = ExR (fun x : Nat × Value × Ent => (StO b S.R.length x.1 x.2.1 S.P.length x.2.2).res) (fun x H => MapOK x.2.2 S.R ∧ EsV x.2.2 H ∧ PsV (zai S.P) x.2.1 H) (zpz S) := rfl
theorem zf9 {S : Sto} {b m : Nat} {s : Value} {es : Ent} {B : Heap} (hm : MapOK es S.R) (hes : EsV es B) (hps : PsV (zai S.P) s B) : ∀ (v : Value) H u C, B.Le H → (StO b S.R.length m s S.P.length es).res.P v H u C → (StG b S).res.P v H u C := fun _ _ _ _ hle h => ⟨(m, s, es), ⟨hm, hes.le hle, hps.le hle⟩, h⟩
theorem EsV.snoc {es : Ent} {H : Heap} (h : EsV es H) {k : Int} {t : List U} {v : Value} (hv : SetV t v H) : EsV (es ++ [(k, (t, v))]) H := fun e he => by
 rcases List.mem_append.1 he with he | he
 ·exact h e he
 ·rw [List.mem_singleton.1 he]; exact hv
theorem zdx {P : Program} {f : FuncId} {args : List Value} {w : World} {B : Heap} {C : Nat → Prop} {r : GR} {v : Value} (h : RetY P f args w B C r (fun x _ => x = v)) : zdt P f args w B C r v := RetL.mono h fun _ _ _ _ hp => hp
attribute [local irreducible] V N X VO Par StepOK Has Ret RetL RetO RetT zcb zdt RetY Src
set_option maxHeartbeats 4000000 in
set_option maxRecDepth 20000 in
theorem zel {S S' : Sto} {b : Nat} {l cs : List CH} {rev e : Int} {fl fc : Bool} (hI : z26 S) (hR : S.R.length ≤ 100000) (hn : S.R.length ≠ 0) (zl : ∀ c ∈ l, TM c.1) (zc : ∀ c ∈ cs, TM c.1) (ll : l.length ≤ 9223372036854775807) (lc : cs.length ≤ 9223372036854775807) (hw : zej S l cs = (S', rev, e)) {lv cv : Value} {w : World} {B : Heap} {C : Nat → Prop} (hB : B.Le (hp w))
  (hl : KS tyM l fl lv B) (hc : KS tyC cs fc cv B) (hr : (StG b S).P B w C) (hC : ∀ k, C k → k < w.heap.size ∧ B k = none) :
  RetY Tryz.prog 19 [.pointer (some ⟨b, 0, none⟩), lv, cv] w B C (StG b S') (fun v _ => v = .tuple #[.int .u64 rev, .int .i64 e]) := by
 unfold RetY
 refine zas 900 (StG b S) Tryz.func19 rfl Tryz.ntmps19 (Nat.le_of_ble_eq_true rfl) hB hr hC ?_
 refine zaz 1 (KS tyM l fl) rfl SlV.mono hl ?_
 refine zaz 2 (KS tyC cs fc) rfl SlV.mono hc ?_
 rw [zlx]
 refine zd1 900 rfl fun x H hs0 hφ => ?_
 obtain ⟨m, s, es⟩ := x
 obtain ⟨hm, hes, hps⟩ := hφ
 dsimp only at hm hes hps ⊢
 obtain ⟨ps, pc, rfl⟩ := zao hps
 obtain ⟨t0, ht0⟩ : ∃ t0, kpt S.R S.R.length = some t0 := Option.isSome_iff_exists.1 hI.last
 have hA : atS S 0 = (t0, 0) := by unfold atS; rw [if_pos rfl, ht0]
 have ht4 := hI.tl _ _ ht0
 obtain ⟨⟨t1, made, e1⟩, hwr⟩ : ∃ x, zd5 t0 l cs = x := ⟨_, rfl⟩
 unfold zej at hw
 rw [hA, hwr] at hw
 dsimp only at hw
 refine Z257 ?_; refine Z159 ?_; refine Z1 ?_; refine yq (zbb L 900 (WithP t0 0) (r := StO b S.R.length m _ S.P.length es) rfl rfl rfl rfl rfl WithP.mono (fun u H2 C2 hH hle hr2 hC2 => by have h := zfj (S := S) (r := 0) hm hn (hes.le hle) hH hr2 hC2; rw [hA] at h; exact h)) ?_; refine zbq 14 rfl fun v1 H1 hs1 hp1 => ?_; obtain ⟨sv, rfl, hsv⟩ := hp1; obtain ⟨f1, p1, f2, p2, rfl, hpl⟩ := hsv.shape; refine Z299 ?_; refine Z147 ?_; refine Z175 ?_; refine Z231 ?_; refine Z30 ?_; refine z7 (zz L (vs := [_, _, _, _]) (yk rfl) rfl rfl rfl rfl ⟨_, rfl⟩) rfl ?_; refine Z377 ?_; refine z7 (yr L rfl rfl (zk rfl) rfl rfl rfl WriteP.mono (fun u H2 hH hle _ v1 h1 v2 h2 => zss zl zc ll lc ht4 hwr hH (hsv.le hle) h1 h2)) rfl ?_; refine zbq 24 rfl fun v3 H3 hs3 hp3 => ?_; obtain ⟨tv, mv, rfl, htv, hmv⟩ := hp3; obtain ⟨f3, p3, f4, p4, rfl, hpl4⟩ := htv.shape; refine Z173 ?_; refine Z14 ?_; refine Z288 ?_; refine Z221 ?_
 have hs13 := hs1.trans hs3
 have hes3 := hes.le hs13.le
 have hps3 := hps.le hs13.le
 by_cases he : e1 = 0
 ·subst he
  rw [if_pos rfl] at hw
  have hlen := hm.len
  have hkl := hI.kl
  rw [zey]
  refine zew 900 901 rfl (zar _) ?_
  by_cases hk : 1024 ≤ (zbj S.R).length
  ·rw [if_pos hk] at hw
   cases hw
   refine Z180 ?_; refine Z250 ?_; refine Z193 ?_; refine Z261 ?_; refine yq (zo6 (q := 901) (vc := vcE) mpS rfl rfl rfl rfl rfl) ?_; refine Z294 ?_; refine Z57 ?_; refine Z185 ?_
   refine zb0 900 901 rfl rfl (zar _) ?_
   refine zcn 900 (StG b S).res rfl (zf9 hm hes3 hps3) ?_
   exact zb3 L 900 (r := StG b S) (rs := [.tmp 6, .tmp 7]) rfl (fun _ _ h => h) (hs0.trans hs13) rfl rfl (fun H hle => rfl)
  ·rw [if_neg hk] at hw
   cases hw
   have hadd := hm.add t1 (.agg #[f3, .pointer p3, f4, .pointer p4])
   have hwn : IntKind.u64.wrap ((S.R.length : Int) + 1) = ((S.R.length + 1 : Nat) : Int) := wrap_u64 (by omega) (by omega)
   have hln : (S.R ++ [some t1]).length = S.R.length + 1 := by rw [List.length_append]; rfl
   refine Z180 ?_; refine Z250 ?_; refine Z193 ?_; refine Z261 ?_; refine yq (zo6 (q := 901) (vc := vcE) mpS rfl rfl rfl rfl rfl) ?_; refine Z274 ?_; refine Z258 ?_; refine Z261 ?_; refine Z17 ?_; refine Z245 ?_; refine Z279 ?_; refine Z261 ?_; refine Z17 ?_; refine Z201 ?_; refine zcr (yw L (q := 900) (cs' := stc (S.R.length + 1) m (.slice ps (zai S.P).length pc) S.P.length) rfl rfl rfl rfl rfl rfl rfl rfl rfl) ?_; refine Z160 ?_
   refine qd (id := 12) [(200053, [900]), (200057, [900]), (100053, [901])] mixed (by kernel_rfl) ?_; refine Z330 ?_; refine Z330 ?_; refine z8 (zz L (vs := [_, _, _, _]) (yk rfl) rfl rfl rfl rfl ⟨_, rfl⟩) rfl ?_; refine yy (zrr (q := 901) (vc := vcE) ((S.R.length + 1 : Nat) : Int) (t1, .agg #[f3, .pointer p3, f4, .pointer p4]) mpS kyS rfl rfl rfl rfl rfl rfl hadd.2) rfl ?_; refine Z290 ?_
   refine Z309 ?_; refine Z261 ?_; refine Z185 ?_
   refine zb0 900 901 rfl rfl (zar _) ?_
   refine zcn 900 (StG b ⟨S.R ++ [some t1], S.P⟩).res rfl (fun v H u C hle h => zf9 (S := ⟨S.R ++ [some t1], S.P⟩) (by have h2 := hadd.1; rw [hadd.2] at h2; exact h2) (hes3.snoc htv) hps3 v H u C hle (by dsimp only; rw [hln]; exact h)) ?_
   exact zb3 L 900 (r := StG b ⟨S.R ++ [some t1], S.P⟩) (rs := [.tmp 6, .tmp 7]) rfl (fun _ _ h => h) (hs0.trans hs13) rfl rfl (fun H hle => rfl)
 ·rw [if_neg he] at hw
  cases hw
  refine Z180 ?_; refine Z214 ?_; refine Z190 ?_; refine Z185 ?_
  refine zcn 900 (StG b S).res rfl (zf9 hm hes3 hps3) ?_
  exact zb3 L 900 (r := StG b S) (rs := [.tmp 6, .tmp 7]) rfl (fun _ _ h => h) (hs0.trans hs13) rfl rfl (fun H hle => rfl)
set_option maxHeartbeats 4000000 in
set_option maxRecDepth 20000 in
theorem zji {S : Sto} {b f : Nat} {r : Int} {P' : List Int} {e : Int} (hn : S.R.length ≠ 0) (hk : (kpt S.R r).isSome = true) (hfn : L.fn f = some ()) (hf : ∀ {s : Value} {u : World} {H : Heap}, H.Le (hp u) → PsV (zai S.P) s H → Ret Tryz.prog f [pnv s S.P.length, .int .u64 r] u H (PinP P' e)) {w : World} {B : Heap} {C : Nat → Prop} (hB : B.Le (hp w))
  (hr : (StG b S).P B w C) (hC : ∀ k, C k → k < w.heap.size ∧ B k = none) :
  RetY Tryz.prog 50 [.pointer (some ⟨b, 0, none⟩), .int .u64 r, .func (.func f) #[] #[]] w B C (StG b (if e = 0 then ⟨S.R, P'⟩ else S)) (fun v _ => v = .int .i64 e) := by
 unfold RetY
 refine zas 900 (StG b S) Tryz.func50 rfl Tryz.ntmps50 (Nat.le_of_ble_eq_true rfl) hB hr hC ?_
 rw [zlx]
 refine zd1 900 rfl fun x H hs0 hφ => ?_
 obtain ⟨m, s, es⟩ := x
 obtain ⟨hm, hes, hps⟩ := hφ
 dsimp only at hm hes hps ⊢
 obtain ⟨ps, pc, rfl⟩ := zao hps
 rw [zey]
 refine zew 900 901 rfl (zar _) ?_
 have hg := hm.get r
 obtain ⟨⟨t0, sv⟩, hgk⟩ : ∃ x, zed r es = some x := by
  rw [← hg, Option.isSome_map] at hk
  exact Option.isSome_iff_exists.1 hk
 have hsv : SetV t0 sv H := hes _ (zf3 hgk)
 obtain ⟨f1, p1, f2, p2, rfl, hpl⟩ := hsv.shape
 have q1 : (zed r es).elim nilSet vcE = .agg #[f1, .pointer p1, f2, .pointer p2] := by rw [hgk]; rfl
 have q2 : (zed r es).isSome = true := by rw [hgk]; rfl
 refine Z276 ?_; refine yq (zav L 900 (Φ := fun H => H b = some (.cells (stc S.R.length m _ S.P.length).toArray tyS)) (c := .bool false) rfl rfl (zk rfl) rfl rfl rfl rfl rfl zib (fun u H hH hle hb => zcm hn hb hH)) ?_; refine Z168 ?_; refine Z171 ?_; refine Z261 ?_; refine Z1 ?_; refine yq (zdq (q := 901) (vc := vcE) r mpS kyS zrS rfl rfl rfl rfl rfl q1 q2) ?_; refine Z299 ?_; refine Z144 ?_; refine Z161 ?_; refine Z53 ?_; refine Z158 ?_; refine Z277 ?_; refine Z201 ?_; refine yq (zam L (q := 900) (vs := [_, _]) rfl rfl rfl rfl rfl rfl ⟨_, rfl⟩) ?_; refine Z1 ?_; refine z7 (yr (φ := PinP P' e) L rfl rfl (zk rfl) rfl (cap := []) rfl hfn PinP.mono (fun u H2 hH hle _ => hf hH (hps.le hle))) rfl ?_; refine zbq 31 rfl fun v1 H1 hs1 hp1 => ?_; obtain ⟨s2, rfl, hs2⟩ := hp1; obtain ⟨p5, c5, rfl⟩ := zao hs2; refine Z173 ?_; refine Z203 ?_; refine Z147 ?_
 by_cases he : e = 0
 ·subst he
  rw [if_pos rfl]
  refine Z193 ?_; refine Z280 ?_; refine Z226 ?_; refine z7 (zz L (vs := [_, _]) (yk rfl) rfl rfl rfl rfl ⟨_, rfl⟩) rfl ?_; refine Z201 ?_; refine zcr (yw L (q := 900) (cs' := stc S.R.length m (.slice p5 (zai P').length c5) P'.length) rfl rfl rfl rfl rfl rfl rfl rfl rfl) ?_; refine Z160 ?_; refine Z258 ?_; refine Z138 ?_
  refine zb0 900 901 rfl rfl (zar _) ?_
  refine zcn 900 (StG b ⟨S.R, P'⟩).res rfl (zf9 (S := ⟨S.R, P'⟩) hm (hes.le hs1.le) hs2) ?_
  exact zb3 L 900 (r := StG b ⟨S.R, P'⟩) (rs := [.tmp 6]) rfl (fun _ _ h => h) (hs0.trans hs1) rfl rfl (fun H hle => rfl)
 ·rw [if_neg he]
  refine Z193 ?_; refine Z245 ?_; refine Z258 ?_; refine Z138 ?_
  refine zb0 900 901 rfl rfl (zar _) ?_
  refine zcn 900 (StG b S).res rfl (zf9 hm (hes.le hs1.le) (hps.le hs1.le)) ?_
  exact zb3 L 900 (r := StG b S) (rs := [.tmp 6]) rfl (fun _ _ h => h) (hs0.trans hs1) rfl rfl (fun H hle => rfl)
set_option maxHeartbeats 4000000 in
theorem zh6 {S : Sto} {b : Nat} {r : Int} {fv : Value} (hn : S.R.length ≠ 0) (hk : ¬ (kpt S.R r).isSome = true) {w : World} {B : Heap} {C : Nat → Prop} (hB : B.Le (hp w))
  (hr : (StG b S).P B w C) (hC : ∀ k, C k → k < w.heap.size ∧ B k = none) :
  RetY Tryz.prog 50 [.pointer (some ⟨b, 0, none⟩), .int .u64 r, fv] w B C (StG b S) (fun v _ => v = .int .i64 14) := by
 refine RetY.ex hr fun x hφ hr => ?_
 obtain ⟨m, s, es⟩ := x
 obtain ⟨hm, hes, hps⟩ := hφ
 dsimp only at hm hes hps hr ⊢
 unfold RetY
 refine zas 900 (StO b S.R.length m s S.P.length es) Tryz.func50 rfl Tryz.ntmps50 (Nat.le_of_ble_eq_true rfl) hB hr hC ?_
 rw [zey]
 refine zew 900 901 rfl (zar _) ?_
 have hg := hm.get r
 have hgk : zed r es = none := by
  rw [← hg, Option.isSome_map] at hk
  cases h : zed r es with
  | none => rfl
  | some y => rw [h] at hk; exact absurd rfl hk
 have q1 : (zed r es).elim nilSet vcE = nilSet := by rw [hgk]; rfl
 have q2 : (zed r es).isSome = false := by rw [hgk]; rfl
 refine Z276 ?_; refine yq (zav L 900 (Φ := fun H => H b = some (.cells (stc S.R.length m _ S.P.length).toArray tyS)) (c := .bool false) rfl rfl (zk rfl) rfl rfl rfl rfl rfl zib (fun u H hH hle hb => zcm hn hb hH)) ?_; refine Z168 ?_; refine Z171 ?_; refine Z261 ?_; refine Z1 ?_; refine yq (zdq (q := 901) (vc := vcE) r mpS kyS zrS rfl rfl rfl rfl rfl q1 q2) ?_; refine Z173 ?_; refine Z203 ?_; refine Z144 ?_; refine Z161 ?_; refine Z53 ?_; refine Z155 ?_; refine Z38 ?_; refine Z138 ?_
 refine zb0 900 901 rfl rfl (zar _) ?_
 exact zb3 L 900 (r := StO b S.R.length m s S.P.length es) (rs := [.tmp 6]) rfl (fun _ _ h => h) Since.refl rfl rfl (fun H hle => rfl)
theorem zl0 {S S' : Sto} {b : Nat} {r e : Int} (hn : S.R.length ≠ 0) (hz : S.P.length ≤ 1000) (hpn : zns S r false = (S', e)) {w : World} {B : Heap} {C : Nat → Prop} (hB : B.Le (hp w)) (hr : (StG b S).P B w C) (hC : ∀ k, C k → k < w.heap.size ∧ B k = none) :
  RetY Tryz.prog 20 [.pointer (some ⟨b, 0, none⟩), .int .u64 r] w B C (StG b S') (fun v _ => v = .int .i64 e) := by
 unfold zns at hpn
 unfold RetY
 refine zas 900 (StG b S) Tryz.func20 rfl Tryz.ntmps20 (Nat.le_of_ble_eq_true rfl) hB hr hC ?_
 by_cases hk : (kpt S.R r).isSome = true
 ·rw [if_pos hk] at hpn
  rw [if_neg (by decide)] at hpn
  cases hpn
  have hr0 : r ≠ 0 := by have := zet hk; omega
  refine Z186 ?_; refine Z140 ?_; refine qo (zah L 900 (StG b ⟨S.R, S.P ++ [r]⟩) (.int .i64 0) (r := StG b S) rfl rfl rfl rfl rfl (fun u H2 C2 hH hle hr2 hC2 => by have h := zji (P' := S.P ++ [r]) (e := 0) hn hk rfl (fun hH hv => zzr hr0 hz hH hv) hH hr2 hC2; rw [if_pos rfl] at h; exact zdx h)) ?_; refine Z138 ?_
  exact zb3 L 900 (r := StG b ⟨S.R, S.P ++ [r]⟩) (rs := [.tmp 4]) rfl (fun _ _ h => h) Since.refl rfl rfl (fun H hle => rfl)
 ·rw [if_neg hk] at hpn
  cases hpn
  refine Z186 ?_; refine Z140 ?_; refine yq (zfn L 900 (.int .i64 14) (r := StG b S) rfl rfl rfl rfl rfl (fun u H2 C2 hH hle hr2 hC2 => zh6 hn hk hH hr2 hC2)) ?_; refine Z138 ?_
  exact zb3 L 900 (r := StG b S) (rs := [.tmp 4]) rfl (fun _ _ h => h) Since.refl rfl rfl (fun H hle => rfl)
theorem zhj {S S' : Sto} {b : Nat} {r e : Int} (hn : S.R.length ≠ 0) (hz : S.P.length ≤ 1000) (hpn : zns S r true = (S', e)) {w : World} {B : Heap} {C : Nat → Prop} (hB : B.Le (hp w)) (hr : (StG b S).P B w C) (hC : ∀ k, C k → k < w.heap.size ∧ B k = none) :
  RetY Tryz.prog 39 [.pointer (some ⟨b, 0, none⟩), .int .u64 r] w B C (StG b S') (fun v _ => v = .int .i64 e) := by
 unfold zns at hpn
 unfold RetY
 refine zas 900 (StG b S) Tryz.func39 rfl Tryz.ntmps39 (Nat.le_of_ble_eq_true rfl) hB hr hC ?_
 by_cases hk : (kpt S.R r).isSome = true
 ·rw [if_pos hk] at hpn
  rw [if_pos rfl] at hpn
  obtain ⟨⟨P', e'⟩, hu⟩ : ∃ x, zfi S.P r = x := ⟨_, rfl⟩
  rw [hu] at hpn
  dsimp only at hpn
  have hS : S' = (if ((e' : Nat) : Int) = 0 then ⟨S.R, P'⟩ else S) ∧ e = ((e' : Nat) : Int) := by
   by_cases h0 : e' = 0
   ·subst h0; rw [if_pos rfl] at hpn; rw [if_pos (show ((0 : Nat) : Int) = 0 from rfl)]; cases hpn; exact ⟨rfl, rfl⟩
   ·rw [if_neg h0] at hpn; rw [if_neg (by omega)]; cases hpn; exact ⟨rfl, rfl⟩
  obtain ⟨rfl, rfl⟩ := hS
  refine Z186 ?_; refine Z140 ?_; refine qo (zah L 900 (StG b (if ((e' : Nat) : Int) = 0 then ⟨S.R, P'⟩ else S)) (.int .i64 e') (r := StG b S) rfl rfl rfl rfl rfl (fun u H2 C2 hH hle hr2 hC2 => zdx (zji (P' := P') (e := e') hn hk rfl (fun hH hv => zs4 hu hz hH hv) hH hr2 hC2))) ?_; refine Z138 ?_
  exact zb3 L 900 (r := StG b (if ((e' : Nat) : Int) = 0 then ⟨S.R, P'⟩ else S)) (rs := [.tmp 4]) rfl (fun _ _ h => h) Since.refl rfl rfl (fun H hle => rfl)
 ·rw [if_neg hk] at hpn
  cases hpn
  refine Z186 ?_; refine Z140 ?_; refine yq (zfn L 900 (.int .i64 14) (r := StG b S) rfl rfl rfl rfl rfl (fun u H2 C2 hH hle hr2 hC2 => zh6 hn hk hH hr2 hC2)) ?_; refine Z138 ?_
  exact zb3 L 900 (r := StG b S) (rs := [.tmp 4]) rfl (fun _ _ h => h) Since.refl rfl rfl (fun H hle => rfl)
end Go.V.L10
set_option maxRecDepth 20000
namespace Go.V.L10
open Go.Proofs Go.RowKit Go.V
theorem _root_.Go.V.Z405 {A B : Prop} (h : B) (t : Wr B → A := by intro h; refine Z56 ?_; refine Z1 ?_; exact h.h) : A := t ⟨h⟩
theorem zsj {l : List Int} {i : Nat} {x r : Int} (h : l[i]? = some x) : (l.take (i + 1)).count r = (l.take i).count r + if x = r then 1 else 0 := by
 rw [zbr h, List.count_append, List.count_singleton]
 congr 1
 by_cases e : x = r <;> simp [e]
theorem z2r {l : List Int} {i : Nat} {r : Int} : (l.take i).count r ≤ l.length := Nat.le_trans List.count_le_length (by rw [List.length_take]; omega)
def nxF (last n x : Int) : Int := if last < x ∧ (n = 0 ∨ x < n) then x else n
def nxS (last : Int) (l : List Int) : Int := l.foldl (nxF last) 0
theorem zwv {last : Int} {l : List Int} {i : Nat} {x : Int} (h : l[i]? = some x) : nxS last (l.take (i + 1)) = nxF last (nxS last (l.take i)) x := by
 unfold nxS; rw [zbr h, List.foldl_append]; rfl
theorem zwu {last : Int} (h0 : 0 ≤ last) (l : List Int) : (nxS last l = 0 ∧ ∀ x ∈ l, ¬ last < x) ∨ (nxS last l ∈ l ∧ last < nxS last l ∧ ∀ x ∈ l, last < x → nxS last l ≤ x) := by
 have key : ∀ (m : List Int) (n : Int) (seen : List Int), ((n = 0 ∧ ∀ x ∈ seen, ¬ last < x) ∨ (n ∈ seen ∧ last < n ∧ ∀ x ∈ seen, last < x → n ≤ x)) → ((m.foldl (nxF last) n = 0 ∧ ∀ x ∈ seen ++ m, ¬ last < x) ∨ (m.foldl (nxF last) n ∈ seen ++ m ∧ last < m.foldl (nxF last) n ∧ ∀ x ∈ seen ++ m, last < x → m.foldl (nxF last) n ≤ x)) := by
  intro m
  induction m with
  | nil => intro n seen h; simpa using h
  | cons y m ih =>
   intro n seen h
   have h1 := ih (nxF last n y) (seen ++ [y]) (by
    unfold nxF
    by_cases hc : last < y ∧ (n = 0 ∨ y < n)
    ·rw [if_pos hc]
     refine .inr ⟨by simp, hc.1, fun x hx hl => ?_⟩
     rcases List.mem_append.1 hx with hx | hx
     ·rcases h with ⟨_, h3⟩ | ⟨_, h3, h4⟩
      ·exact absurd hl (h3 x hx)
      ·have := h4 x hx hl; rcases hc.2 with h5 | h5 <;> omega
     ·rw [List.mem_singleton.1 hx]; exact Int.le_refl _
    ·rw [if_neg hc]
     rcases h with ⟨h2, h3⟩ | ⟨h2, h3, h4⟩
     ·refine .inl ⟨h2, fun x hx => ?_⟩
      rcases List.mem_append.1 hx with hx | hx
      ·exact h3 x hx
      ·rw [List.mem_singleton.1 hx]; exact fun hl => hc ⟨hl, .inl h2⟩
     ·refine .inr ⟨List.mem_append_left _ h2, h3, fun x hx hl => ?_⟩
      rcases List.mem_append.1 hx with hx | hx
      ·exact h4 x hx hl
      ·rw [List.mem_singleton.1 hx] at hl ⊢
       rcases Int.lt_or_le y n with h5 | h5
       ·exact absurd ⟨hl, .inr h5⟩ hc
       ·exact h5)
   simpa using h1
 simpa [nxS] using key l 0 [] (.inl ⟨rfl, fun x hx => by cases hx⟩)
def zg2 (h : List Int) (k : Nat) : Int := if k = 0 then 0 else (h[k - 1]?).getD 0
theorem zr6 {h : List Int} {k : Nat} {x : Int} (hx : h[k]? = some x) : zg2 h (k + 1) = x := by
 unfold zg2
 rw [if_neg (by omega), Nat.add_sub_cancel, hx]; rfl
theorem zpc {L0 : List Int} {i j : Nat} {x y : Int} (hi : (zak L0)[i]? = some x) (hj : (zak L0)[j]? = some y) (hij : i < j) : x < y := by
 have h1 := List.pairwise_iff_getElem.1 (za7 L0) i j (get_lt hi) (get_lt hj) hij
 rw [zd0 hi, zd0 hj] at h1
 exact zxv.1 h1
theorem zu1 {L0 : List Int} (hp : ∀ x ∈ L0, 0 < x) {k : Nat} {x : Int} (hx : (zak L0)[k]? = some x) : zg2 (zak L0) k < x := by
 unfold zg2
 by_cases h : k = 0
 ·rw [if_pos h]; exact hp x (zax.1 (List.mem_of_getElem? hx))
 ·rw [if_neg h]
  have hk : k - 1 < (zak L0).length := by have := get_lt hx; omega
  rw [List.getElem?_eq_getElem hk]
  exact zpc (List.getElem?_eq_getElem hk) hx (by omega)
theorem zw5 {L0 : List Int} (hp : ∀ x ∈ L0, 0 < x) {k : Nat} (hk : k ≤ (zak L0).length) : 0 ≤ zg2 (zak L0) k := by
 unfold zg2
 by_cases h : k = 0
 ·rw [if_pos h]; exact Int.le_refl _
 ·rw [if_neg h]
  have hk2 : k - 1 < (zak L0).length := by omega
  rw [List.getElem?_eq_getElem hk2]
  exact Int.le_of_lt (hp _ (zax.1 (List.getElem_mem hk2)))
theorem zww {L0 : List Int} (hp : ∀ x ∈ L0, 0 < x) {k : Nat} (hk : k ≤ (zak L0).length) : (nxS (zg2 (zak L0) k) L0 = 0 ∧ k = (zak L0).length) ∨ (nxS (zg2 (zak L0) k) L0 ≠ 0 ∧ (zak L0)[k]? = some (nxS (zg2 (zak L0) k) L0)) := by
 rcases zwu (zw5 hp hk) L0 with ⟨h1, h2⟩ | ⟨h1, h2, h3⟩
 ·refine .inl ⟨h1, ?_⟩
  by_cases hlt : k < (zak L0).length
  ·obtain ⟨x, hx⟩ := zae hlt
   exact absurd (zu1 hp hx) (h2 x (zax.1 (List.mem_of_getElem? hx)))
  ·omega
 ·generalize hn : nxS (zg2 (zak L0) k) L0 = n at *
  refine .inr ⟨fun e => by have := hp _ h1; omega, ?_⟩
  obtain ⟨j, hj⟩ := List.getElem?_of_mem (zax.2 h1)
  have hjk : k ≤ j := by
   rcases Nat.lt_or_ge j k with hlt | hge
   ·have : n ≤ zg2 (zak L0) k := by
     unfold zg2
     have hk2 : k - 1 < (zak L0).length := by omega
     rw [if_neg (by omega), List.getElem?_eq_getElem hk2]
     by_cases e : j = k - 1
     ·subst e; rw [zd0 hj]; exact Int.le_refl _
     ·exact Int.le_of_lt (zpc hj (List.getElem?_eq_getElem hk2) (by omega))
    omega
   ·exact hge
  obtain ⟨x, hx⟩ := zae (show k < (zak L0).length by have := get_lt hj; omega)
  have h4 := h3 x (zax.1 (List.mem_of_getElem? hx)) (zu1 hp hx)
  by_cases e : j = k
  ·subst e; exact hj
  ·have := zpc hx hj (by omega); omega
theorem zd4 {φ : Value → Heap → Prop} {a tv : Value} {H : Heap} (h : φ tv H) : TupS [φ, fun v _ => v = a] (.tuple #[tv, a]) H := by
 refine ⟨[tv, a], rfl, rfl, fun i φ' x hi hx => ?_⟩
 rcases i with _ | _ | i
 ·cases hi; cases hx; exact h
 ·cases hi; cases hx; rfl
 ·cases hi
theorem ze3 {φ : Value → Heap → Prop} {a : Value} (h : Kn.mono (.sat φ)) : Kn.mono (.sat (TupS [φ, fun v _ => v = a])) := TupS.mono fun ψ hψ => by
 simp only [List.mem_cons, List.mem_nil_iff, or_false] at hψ
 rcases hψ with rfl | rfl
 ·exact h
 ·exact fun _ _ _ h _ => h
attribute [local irreducible] V N X VO Par StepOK Has Ret RetL RetO RetT zcb zdt Src
theorem zdp {l : List Int} {r : Int} {fu : Bool} {c : Nat} (hc : l.count r = c) (hz : l.length ≤ 100000) {v : Value} {w : World} {B : Heap} (hB : B.Le (hp w)) (hv : RsV l fu v B) :
  Ret Tryz.prog 35 [v, .int .u64 r] w B (fun v _ => v = .int .i64 (c : Nat)) := by
 subst hc
 refine yf Tryz.func35 rfl Tryz.ntmps35 (Nat.le_of_ble_eq_true rfl) hB ?_
 refine zaz 0 (RsV l fu) rfl SlV.mono hv ?_
 refine Z186 ?_; refine Z147 ?_; refine Z338 ?_
 refine zaj (fun s : Nat × Nat => [(0, .sat (RsV l fu)), (1, .is (.int .u64 r)), (5, .is (.int .i64 s.2)), (6, .is (.int .i64 s.1))]) (fun s => s.1 ≤ l.length ∧ s.2 = (l.take s.1).count r) (fun s => l.length - s.1) (0, 0) ⟨Nat.zero_le _, rfl⟩ ⟨rfl, rfl, rfl, rfl, trivial⟩ ?_
 rintro ⟨i, c⟩ ⟨hi, hc⟩
 dsimp only at hi hc ⊢
 have hcl : (l.take i).count r ≤ l.length := z2r
 by_cases hlt : i < l.length
 ·obtain ⟨x, hx⟩ := zae hlt
  have hq := zjq hx
  have hs := zsj (r := r) hx
  have hwi : IntKind.i64.wrap ((i : Int) + 1) = ((i + 1 : Nat) : Int) := zaa (by omega) (by omega)
  have hwc : IntKind.i64.wrap ((c : Int) + 1) = ((c + 1 : Nat) : Int) := zaa (by omega) (by omega)
  by_cases hxr : x = r
  ·rw [if_pos hxr] at hs
   refine Z234 ?_; refine Z206 ?_; refine Z38 ?_; refine Z200 ?_; refine z7 (qu L _ rfl rfl rfl rfl rfl rfl rfl (by first | omega | decide) (by assumption)) rfl ?_; refine Z405 ?_; refine Z280 ?_; refine Z190 ?_; refine Z209 ?_; refine Z166 ?_; refine Z312 ?_
   exact yh (x := (i, c)) (i + 1, c + 1) ⟨hlt, by dsimp only; omega⟩ (by dsimp only; omega) ⟨rfl, rfl, rfl, rfl, trivial⟩
  ·rw [if_neg hxr] at hs
   refine Z234 ?_; refine Z206 ?_; refine Z38 ?_; refine Z200 ?_; refine z7 (qu L _ rfl rfl rfl rfl rfl rfl rfl (by first | omega | decide) (by assumption)) rfl ?_; refine Z405 ?_; refine Z12 ?_; refine Z215 ?_; refine Z312 ?_
   exact yh (x := (i, c)) (i + 1, c) ⟨hlt, by dsimp only; omega⟩ (by dsimp only; omega) ⟨rfl, rfl, rfl, rfl, trivial⟩
 ·obtain rfl : i = l.length := by omega
  rw [List.take_length] at hc
  subst hc
  refine Z234 ?_; refine Z272 ?_; refine Z193 ?_; refine Z138 ?_
  refine yd L (rs := [.tmp 4]) rfl (fun _ _ h => h) Since.refl fun u H hH hle => ?_
  rfl
set_option maxHeartbeats 2000000 in
set_option maxRecDepth 10000 in
theorem zno {l : List Int} {fu : Bool} (hpos : ∀ x ∈ l, 0 < x) (hz : l.length ≤ 100000) {v : Value} {w : World} {B : Heap} (hB : B.Le (hp w)) (hv : RsV l fu v B) :
  Ret Tryz.prog 57 [v] w B (RsV (zak l) false) := by
 have hhl : (zak l).length ≤ 100000 := Nat.le_trans (zbt l) hz
 refine yf Tryz.func57 rfl Tryz.ntmps57 (Nat.le_of_ble_eq_true rfl) hB ?_
 refine zaz 0 (RsV l fu) rfl SlV.mono hv ?_
 refine Z186 ?_; refine Z144 ?_; refine Z338 ?_
 refine zd2 3 zi6 1 rfl ?_
 refine zaj (fun k : Nat => [(0, .sat (RsV l fu)), (3, .own (SlR zi6 1 ((zak l).take k).length (((zak l).take k).map (Value.int .u64)))), (4, .is (.int .u64 (zg2 (zak l) k)))]) (fun k => k ≤ (zak l).length) (fun k => (zak l).length - k) 0 (Nat.zero_le _) ⟨rfl, rfl, rfl, trivial⟩ ?_
 rintro k hk
 have hspec := zww hpos hk
 obtain ⟨last, hlast⟩ : ∃ x, x = zg2 (zak l) k := ⟨_, rfl⟩
 have hln : ((zak l).take k).length = k := by rw [List.length_take]; omega
 rw [← hlast] at hspec ⊢
 refine Z151 ?_; refine Z28 ?_; refine Z147 ?_; refine Z30 ?_; refine Z196 ?_
 refine zaj (fun i : Nat => [(0, .sat (RsV l fu)), (3, .own (SlR zi6 1 ((zak l).take k).length (((zak l).take k).map (Value.int .u64)))), (4, .is (.int .u64 last)), (5, .is (.int .u64 (nxS last (l.take i)))), (6, .is (.int .i64 i))]) (fun i => i ≤ l.length) (fun i => l.length - i) 0 (Nat.zero_le _) ⟨rfl, rfl, rfl, rfl, rfl, trivial⟩ ?_
 rintro i hi
 by_cases hlt : i < l.length
 ·obtain ⟨x, hx⟩ := zae hlt
  have hq := zjq hx
  have hs := zwv (last := last) hx
  have hwi : IntKind.i64.wrap ((i : Int) + 1) = ((i + 1 : Nat) : Int) := zaa (by omega) (by omega)
  generalize nxS last (l.take i) = nx at hs ⊢
  unfold nxF at hs
  by_cases h1 : last < x
  ·by_cases h2 : nx = 0
   ·rw [if_pos ⟨h1, .inl h2⟩] at hs
    refine Z139 ?_; refine Z180 ?_; refine Z206 ?_; refine Z43 ?_; refine Z200 ?_; refine z7 (qu L _ rfl rfl rfl rfl rfl rfl rfl (by first | omega | decide) (by assumption)) rfl ?_; refine Z405 ?_; refine Z39 ?_; refine Z140 ?_; refine Z23 ?_; refine Z291 ?_; refine Z217 ?_; refine Z248 ?_; refine Z57 ?_; refine Z200 ?_; refine z7 (qu L _ rfl rfl rfl rfl rfl rfl rfl (by first | omega | decide) (by assumption)) rfl ?_; refine Z56 ?_; refine Z368 ?_; refine Z190 ?_; refine Z209 ?_
    exact yh (x := i) (i + 1) hlt (by omega) ⟨rfl, rfl, rfl, by rw [hs]; rfl, rfl, trivial⟩
   ·by_cases h3 : x < nx
    ·rw [if_pos ⟨h1, .inr h3⟩] at hs
     refine Z139 ?_; refine Z180 ?_; refine Z206 ?_; refine Z43 ?_; refine Z200 ?_; refine z7 (qu L _ rfl rfl rfl rfl rfl rfl rfl (by first | omega | decide) (by assumption)) rfl ?_; refine Z405 ?_; refine Z39 ?_; refine Z140 ?_; refine Z12 ?_; refine Z1 ?_; refine Z200 ?_; refine z7 (qu L _ rfl rfl rfl rfl rfl rfl rfl (by first | omega | decide) (by assumption)) rfl ?_; refine Z405 ?_; refine Z7 ?_; refine Z8 ?_; refine Z248 ?_; refine Z57 ?_; refine Z200 ?_; refine z7 (qu L _ rfl rfl rfl rfl rfl rfl rfl (by first | omega | decide) (by assumption)) rfl ?_; refine Z56 ?_; refine Z368 ?_; refine Z190 ?_; refine Z209 ?_
     exact yh (x := i) (i + 1) hlt (by omega) ⟨rfl, rfl, rfl, by rw [hs]; rfl, rfl, trivial⟩
    ·rw [if_neg (fun h => h.2.elim h2 h3)] at hs
     refine Z139 ?_; refine Z180 ?_; refine Z206 ?_; refine Z43 ?_; refine Z200 ?_; refine z7 (qu L _ rfl rfl rfl rfl rfl rfl rfl (by first | omega | decide) (by assumption)) rfl ?_; refine Z405 ?_; refine Z39 ?_; refine Z140 ?_; refine Z12 ?_; refine Z1 ?_; refine Z200 ?_; refine z7 (qu L _ rfl rfl rfl rfl rfl rfl rfl (by first | omega | decide) (by assumption)) rfl ?_; refine Z405 ?_; refine Z10 ?_; refine Z8 ?_; refine Z8 ?_; refine Z215 ?_; refine Z190 ?_; refine Z209 ?_
     exact yh (x := i) (i + 1) hlt (by omega) ⟨rfl, rfl, rfl, by rw [hs]; rfl, rfl, trivial⟩
  ·rw [if_neg (fun h => h1 h.1)] at hs
   refine Z139 ?_; refine Z180 ?_; refine Z206 ?_; refine Z43 ?_; refine Z200 ?_; refine z7 (qu L _ rfl rfl rfl rfl rfl rfl rfl (by first | omega | decide) (by assumption)) rfl ?_; refine Z405 ?_; refine Z31 ?_; refine Z336 ?_; refine Z154 ?_; refine Z217 ?_; refine Z215 ?_; refine Z190 ?_; refine Z209 ?_
   exact yh (x := i) (i + 1) hlt (by omega) ⟨rfl, rfl, rfl, by rw [hs]; rfl, rfl, trivial⟩
 ·obtain rfl : i = l.length := by omega
  rw [List.take_length]
  generalize nxS last l = nx at hspec ⊢
  rcases hspec with ⟨h1, h2⟩ | ⟨h1, h2⟩
  ·subst h2
   rw [List.take_length]
   refine zcj 3 rfl ?_
   refine Z139 ?_; refine Z180 ?_; refine Z150 ?_; refine Z207 ?_; refine Z370 ?_; refine Z294 ?_; refine Z68 ?_; refine Z4 ?_; refine Z259 ?_
   refine yd L (rs := [.tmp 2]) rfl (fun _ _ h => h) Since.refl fun u H hH hle => ?_
   exact fun v hv => hv
  ·have hlt2 := get_lt h2
   refine Z139 ?_; refine Z180 ?_; refine Z150 ?_; refine Z207 ?_; refine Z370 ?_; refine Z245 ?_; refine Z66 ?_; refine qo (yn (.inl rfl) rfl rfl rfl rfl) ?_; refine Z1 ?_; refine Z36 ?_; refine Z110 ?_; refine qo (yn (.inr rfl) rfl rfl rfl rfl) ?_; refine Z137 ?_; refine Z79 ?_; refine Z1 ?_; refine Z243 ?_
   exact yh (x := k) (k + 1) hlt2 (by omega) ⟨rfl, by rw [zbr h2]; exact zl5, by rw [zr6 h2]; rfl, trivial⟩
theorem zp6 {l : List Int} {x : Int} {fu : Bool} {v : Value} {H : Heap} (h : SlV zi6 1 (l.map (Value.int .u64) ++ [Value.int .u64 x]) (l.length + 1) fu v H) : RsV (l ++ [x]) fu v H := by
 unfold RsV; rw [List.map_append, List.length_append]; exact h
abbrev RP2 (l : List Int) (e : Int) : Value → Heap → Prop := TupS [RsV l false, fun v _ => v = .int .i64 e]
theorem zp8 {l : List Int} {e : Int} : Kn.mono (.sat (RP2 l e)) := ze3 SlV.mono
set_option maxHeartbeats 1000000 in
theorem zwi {l : List Int} {r : Int} {fu : Bool} (hr : r ≠ 0) (hpos : ∀ x ∈ l, 0 < x) (hz : l.length ≤ 1000) {v : Value} {w : World} {B : Heap} (hB : B.Le (hp w)) (hv : RsV l fu v B) :
  Ret Tryz.prog 85 [v, .int .u64 r] w B (RP2 (l ++ [r]) 0) := by
 obtain ⟨c, hc⟩ : ∃ c, l.count r = c := ⟨_, rfl⟩
 have hcz : c ≤ 1000 := by rw [← hc]; exact Nat.le_trans List.count_le_length hz
 have hhl : (zak l).length ≤ 1000 := Nat.le_trans (zbt l) hz
 have hlen : (l.map (Value.int .u64)).length = l.length * 1 := by simp
 have hpl := zl6 l
 refine yf Tryz.func85 rfl Tryz.ntmps85 (Nat.le_of_ble_eq_true rfl) hB ?_
 refine zaz 0 (RsV l fu) rfl SlV.mono hv ?_
 by_cases h0 : c = 0
 ·refine Z257 ?_; refine Z189 ?_; refine Z245 ?_; refine Z28 ?_; refine Z200 ?_; refine z7 (zp L rfl rfl (zk rfl) rfl rfl rfl (fun u H hH hle _ v1 h1 => zdp hc (by omega) hH h1)) rfl ?_; refine Z147 ?_; refine Z161 ?_; refine Z46 ?_; refine Z140 ?_; refine Z23 ?_; refine Z1 ?_; refine Z4 ?_; refine z7 (yr (φ := RsV (zak l) false) L rfl rfl (zk rfl) rfl rfl rfl SlV.mono (fun u H hH hle _ v1 h1 => zno hpos (by omega) hH h1)) rfl ?_; refine Z11 ?_; refine Z46 ?_; refine Z8 ?_; refine Z284 ?_; refine Z45 ?_; refine Z4 ?_; refine z7 (zcw L rfl rfl rfl (zh1 rfl) rfl zxj hlen hpl (by omega) (by omega)) rfl ?_; refine Z1 ?_; refine Z36 ?_; refine Z110 ?_; refine qo (yn (.inr rfl) rfl rfl rfl rfl) ?_; refine Z138 ?_
  refine zcj 4 rfl ?_
  refine yd L (rs := [.tmp 4, .tmp 5]) rfl (fun _ _ h => h) Since.refl fun u H hH hle => ?_
  exact fun v hv => zd4 (zp6 hv)
 ·refine Z257 ?_; refine Z189 ?_; refine Z245 ?_; refine Z28 ?_; refine Z200 ?_; refine z7 (zp L rfl rfl (zk rfl) rfl rfl rfl (fun u H hH hle _ v1 h1 => zdp hc (by omega) hH h1)) rfl ?_; refine Z147 ?_; refine Z161 ?_; refine Z46 ?_; refine Z140 ?_; refine Z12 ?_; refine Z315 ?_; refine Z284 ?_; refine Z45 ?_; refine Z4 ?_; refine z7 (zcw L rfl rfl rfl (zh1 rfl) rfl zxj hlen hpl (by omega) (by omega)) rfl ?_; refine Z1 ?_; refine Z36 ?_; refine Z110 ?_; refine qo (yn (.inr rfl) rfl rfl rfl rfl) ?_; refine Z138 ?_
  refine zcj 4 rfl ?_
  refine yd L (rs := [.tmp 4, .tmp 5]) rfl (fun _ _ h => h) Since.refl fun u H hH hle => ?_
  exact fun v hv => zd4 (zp6 hv)
theorem zxf {l : List Int} {i : Nat} {r : Int} (h : ∀ x ∈ l.take i, x ≠ r) (hx : l[i]? = some r) : l.erase r = l.take i ++ l.drop (i + 1) := by
 have hi := get_lt hx
 have e : l = l.take i ++ r :: l.drop (i + 1) := by
  rw [show r :: l.drop (i + 1) = l.drop i by rw [List.drop_eq_getElem_cons hi, zd0 hx], List.take_append_drop]
 conv => lhs; rw [e]
 rw [List.erase_append_right _ (fun hm => h _ hm rfl), List.erase_cons_head]
set_option maxHeartbeats 1000000 in
theorem zrm {l l1 : List Int} {r : Int} {e : Nat} {fu : Bool} (hr : zfi l r = (l1, e)) (hz : l.length ≤ 1000) {v : Value} {w : World} {B : Heap} (hB : B.Le (hp w)) (hv : RsV l fu v B) :
  Ret Tryz.prog 86 [v, .int .u64 r] w B (RP2 l1 e) := by
 unfold zfi at hr
 refine yf Tryz.func86 rfl Tryz.ntmps86 (Nat.le_of_ble_eq_true rfl) hB ?_
 refine zaz 0 (RsV l fu) rfl SlV.mono hv ?_
 refine Z257 ?_; refine Z157 ?_; refine Z196 ?_
 refine zaj (fun i : Nat => [(0, .sat (RsV l fu)), (1, .is (.int .u64 r)), (4, .is (.slice none 0 0)), (5, .is (.int .i64 0)), (6, .is (.int .i64 i))]) (fun i => i ≤ l.length ∧ ∀ x ∈ l.take i, x ≠ r) (fun i => l.length - i) 0 ⟨Nat.zero_le _, fun x hx => by cases hx⟩ ⟨rfl, rfl, rfl, rfl, rfl, trivial⟩ ?_
 rintro i ⟨hi, hn⟩
 by_cases hlt : i < l.length
 ·obtain ⟨x, hx⟩ := zae hlt
  have hq := zjq hx
  have hwi : IntKind.i64.wrap ((i : Int) + 1) = ((i + 1 : Nat) : Int) := zaa (by omega) (by omega)
  by_cases hxr : x = r
  ·subst hxr
   have hc : ¬ l.count x = 0 := by have := List.count_pos_iff.2 (List.mem_of_getElem? hx); omega
   rw [if_neg hc] at hr
   cases hr
   have he := zxf hn hx
   have q1 : ((l.map (Value.int .u64)).drop (0 * 1)).take ((i - 0) * 1) = (l.take i).map (Value.int .u64) := by simp
   have q2 : ((l.map (Value.int .u64)).drop ((i + 1) * 1)).take ((l.length - (i + 1)) * 1) = (l.drop (i + 1)).map (Value.int .u64) := by
    rw [Nat.mul_one, Nat.mul_one, ← List.map_drop, List.take_of_length_le (by simp)]
   have hl1 : ((l.take i).map (Value.int .u64)).length = (i - 0) * 1 := by rw [List.length_map, List.length_take]; omega
   have hl2 : ((l.drop (i + 1)).map (Value.int .u64)).length = (l.length - (i + 1)) * 1 := by rw [List.length_map, List.length_drop]; omega
   have hp1 := zl6 (l.take i)
   have hp2 := zl6 (l.drop (i + 1))
   have hlen : i - 0 + (l.length - (i + 1)) = (l.erase x).length := by rw [he, List.length_append, List.length_take, List.length_drop]; omega
   refine Z319 ?_; refine Z206 ?_; refine Z30 ?_; refine Z200 ?_; refine z7 (qu L _ rfl rfl rfl rfl rfl rfl rfl (by first | omega | decide) (by assumption)) rfl ?_; refine Z405 ?_; refine Z294 ?_; refine qd (id := 5) [(27, [22]), (4, [27])] mixed (by kernel_rfl) ?_; refine Z198 ?_; refine z8 (za8 L (kl := .i64) (pl := 0) (km := .i64) (pm := 0) 0 i false rfl rfl rfl rfl rfl rfl ⟨rfl, rfl⟩ (fun h => by cases h) (by omega) (by omega) q1) rfl ?_; refine z8 (zcw L rfl rfl rfl (zh1 rfl) rfl zxj hl1 hp1 (by omega) (by omega)) rfl ?_; refine Z198 ?_; refine Z32 ?_; refine z8 (za8 L (kh := .i64) (ph := 0) (km := .i64) (pm := 0) (i + 1) l.length false rfl rfl rfl rfl rfl ⟨rfl, rfl⟩ ⟨rfl, rfl⟩ (fun h => by cases h) (by omega) (by omega) q2) rfl ?_; refine za3 (zce L rfl rfl rfl (zh1 rfl) rfl zxj hl2 hp2 (by omega) (by omega)) rfl rfl ?_; refine za3 (yn (.inr rfl) rfl rfl rfl rfl) rfl rfl ?_; refine Z177 ?_
   rw [← List.map_append, ← he, hlen]
   refine zcj 4 rfl ?_
   refine yd L (rs := [.tmp 4, .tmp 5]) rfl (fun _ _ h => h) Since.refl fun u H hH hle => ?_
   exact fun v hv => zd4 hv
  ·refine Z319 ?_; refine Z206 ?_; refine Z30 ?_; refine Z200 ?_; refine z7 (qu L _ rfl rfl rfl rfl rfl rfl rfl (by first | omega | decide) (by assumption)) rfl ?_; refine Z405 ?_; refine Z12 ?_; refine Z215 ?_; refine Z171 ?_; refine Z209 ?_
   exact yh (x := i) (i + 1) ⟨hlt, fun y hy => by
    rw [zbr hx] at hy
    rcases List.mem_append.1 hy with hy | hy
    ·exact hn y hy
    ·rw [List.mem_singleton.1 hy]; exact hxr⟩ (by omega) ⟨rfl, rfl, rfl, rfl, rfl, trivial⟩
 ·obtain rfl : i = l.length := by omega
  rw [List.take_length] at hn
  rw [if_pos (List.count_eq_zero.2 fun hm => hn r hm rfl)] at hr
  cases hr
  refine Z319 ?_; refine Z272 ?_; refine Z45 ?_; refine Z185 ?_
  refine yd L (rs := [.tmp 4, .tmp 5]) rfl (fun _ _ h => h) Since.refl fun u H hH hle => ?_
  exact zd4 SlV.nil
theorem zvd {l R : List Int} {keep i : Nat} {x : Int} (h : R[i]? = some x) : (List.filter (fun r => decide (l.count r = 0)) ((R.take (i + 1)).take (R.length - keep))) = (List.filter (fun r => decide (l.count r = 0)) ((R.take i).take (R.length - keep))) ++ if l.count x = 0 ∧ keep < R.length - i then [x] else [] := by
 rw [List.take_take, List.take_take]
 by_cases hk : keep < R.length - i
 ·rw [Nat.min_eq_right (show i + 1 ≤ R.length - keep by omega), Nat.min_eq_right (show i ≤ R.length - keep by omega), zbr h, List.filter_append]
  congr 1
  by_cases h0 : l.count x = 0
  ·rw [if_pos ⟨h0, hk⟩]; simp [h0]
  ·rw [if_neg (fun h => h0 h.1)]; simp [h0]
 ·rw [Nat.min_eq_left (show R.length - keep ≤ i + 1 by omega), Nat.min_eq_left (show R.length - keep ≤ i by omega), if_neg (fun h => hk h.2), List.append_nil]
set_option maxHeartbeats 1000000 in
set_option maxRecDepth 10000 in
theorem ztj {l R : List Int} {keep : Nat} {fu fr : Bool} (hz : l.length ≤ 100000) (hR : R.length ≤ 100000) (hkp : keep ≤ 100000) {v1 v2 : Value} {w : World} {B : Heap} (hB : B.Le (hp w)) (hv : RsV l fu v1 B) (hr : RsV R fr v2 B) :
  Ret Tryz.prog 87 [v1, v2, .int .i64 keep] w B (RsV (zc9 l R keep) false) := by
 have hgo : zc9 l R keep = (R.take (R.length - keep)).filter fun r => decide (l.count r = 0) := rfl
 rw [hgo]
 clear hgo
 refine yf Tryz.func87 rfl Tryz.ntmps87 (Nat.le_of_ble_eq_true rfl) hB ?_
 refine zaz 0 (RsV l fu) rfl SlV.mono hv ?_
 refine zaz 1 (RsV R fr) rfl SlV.mono hr ?_
 refine Z186 ?_; refine Z147 ?_
 refine zd2 7 zi6 1 rfl ?_
 refine Z338 ?_
 refine zaj (fun y : Nat × List Int => [(0, .sat (RsV l fu)), (1, .sat (RsV R fr)), (2, .is (.int .i64 keep)), (7, .own (SlR zi6 1 y.2.length (y.2.map (Value.int .u64)))), (8, .is (.int .i64 y.1))])
  (fun y => y.1 ≤ R.length ∧ y.2 = List.filter (fun r => decide (l.count r = 0)) ((R.take y.1).take (R.length - keep))) (fun y => R.length - y.1) (0, []) ⟨Nat.zero_le _, by simp⟩ ⟨rfl, rfl, rfl, rfl, rfl, trivial⟩ ?_
 rintro ⟨i, out⟩ ⟨hi, hout⟩
 dsimp only at hi hout ⊢
 have hol : out.length ≤ i := by rw [hout]; exact Nat.le_trans (List.length_filter_le ..) (by rw [List.length_take, List.length_take]; omega)
 by_cases hlt : i < R.length
 ·obtain ⟨x, hx⟩ := zae hlt
  have hq := zjq hx
  have hs := zvd (l := l) (keep := keep) hx
  obtain ⟨c, hc⟩ : ∃ c, l.count x = c := ⟨_, rfl⟩
  have hcz : c ≤ 100000 := by rw [← hc]; exact Nat.le_trans List.count_le_length hz
  have hwi : IntKind.i64.wrap ((i : Int) + 1) = ((i + 1 : Nat) : Int) := zaa (by omega) (by omega)
  have hws : IntKind.i64.wrap ((R.length : Int) - (i : Int)) = ((R.length - i : Nat) : Int) := zaa (by omega) (by omega) |>.trans (by omega)
  rw [hc] at hs
  by_cases h0 : c = 0
  ·by_cases hk : keep < R.length - i
   ·rw [if_pos ⟨h0, hk⟩, ← hout] at hs
    refine Z234 ?_; refine Z206 ?_; refine Z38 ?_; refine Z393 ?_; refine z7 (qu L _ rfl rfl rfl rfl rfl rfl rfl (by first | omega | decide) (by assumption)) rfl ?_; refine Z56 ?_; refine z7 (zp L rfl rfl (zk rfl) rfl rfl rfl (fun u H hH hle _ v1 h1 => zdp hc hz hH h1)) rfl ?_; refine Z23 ?_; refine Z1 ?_; refine Z150 ?_; refine Z228 ?_; refine Z1 ?_; refine Z39 ?_; refine Z248 ?_; refine Z45 ?_; refine qo (yn (.inl rfl) rfl rfl rfl rfl) ?_; refine Z200 ?_; refine z7 (qu L _ rfl rfl rfl rfl rfl rfl rfl (by first | omega | decide) (by assumption)) rfl ?_; refine Z56 ?_; refine Z36 ?_; refine Z110 ?_; refine qo (yn (.inr rfl) rfl rfl rfl rfl) ?_; refine Z238 ?_; refine Z312 ?_
    exact yh (x := (i, out)) (i + 1, out ++ [x]) ⟨hlt, hs.symm⟩ (by dsimp only; omega) ⟨rfl, rfl, rfl, zl5, rfl, trivial⟩
   ·rw [if_neg (fun h => hk h.2), List.append_nil, ← hout] at hs
    refine Z234 ?_; refine Z206 ?_; refine Z38 ?_; refine Z393 ?_; refine z7 (qu L _ rfl rfl rfl rfl rfl rfl rfl (by first | omega | decide) (by assumption)) rfl ?_; refine Z56 ?_; refine z7 (zp L rfl rfl (zk rfl) rfl rfl rfl (fun u H hH hle _ v1 h1 => zdp hc hz hH h1)) rfl ?_; refine Z23 ?_; refine Z1 ?_; refine Z150 ?_; refine Z228 ?_; refine Z1 ?_; refine Z304 ?_; refine Z215 ?_; refine Z312 ?_
    exact yh (x := (i, out)) (i + 1, out) ⟨hlt, hs.symm⟩ (by dsimp only; omega) ⟨rfl, rfl, rfl, rfl, rfl, trivial⟩
  ·rw [if_neg (fun h => h0 h.1), List.append_nil, ← hout] at hs
   refine Z234 ?_; refine Z206 ?_; refine Z38 ?_; refine Z393 ?_; refine z7 (qu L _ rfl rfl rfl rfl rfl rfl rfl (by first | omega | decide) (by assumption)) rfl ?_; refine Z56 ?_; refine z7 (zp L rfl rfl (zk rfl) rfl rfl rfl (fun u H hH hle _ v1 h1 => zdp hc hz hH h1)) rfl ?_; refine Z12 ?_; refine Z291 ?_; refine Z217 ?_; refine Z215 ?_; refine Z312 ?_
   exact yh (x := (i, out)) (i + 1, out) ⟨hlt, hs.symm⟩ (by dsimp only; omega) ⟨rfl, rfl, rfl, rfl, rfl, trivial⟩
 ·obtain rfl : i = R.length := by omega
  rw [List.take_length] at hout
  rw [← hout]
  refine zcj 7 rfl ?_
  refine Z234 ?_; refine Z272 ?_; refine Z43 ?_; refine Z4 ?_; refine Z259 ?_
  refine yd L (rs := [.tmp 6]) rfl (fun _ _ h => h) Since.refl fun u H hH hle => ?_
  exact fun v hv => hv
def b01 (b : Bool) : Int := if b then 1 else 0
set_option maxHeartbeats 1000000 in
theorem zen {a b : List Int} {f : Bool} {fa fb : Bool} (hf : decide (a = b) = f) (ha : a.length ≤ 100000) (hb : b.length ≤ 100000) {v1 v2 : Value} {w : World} {B : Heap} (hB : B.Le (hp w)) (h1 : RsV a fa v1 B) (h2 : RsV b fb v2 B) :
  Ret Tryz.prog 22 [v1, v2] w B (fun v _ => v = .int .i64 (b01 f)) := by
 subst hf
 refine yf Tryz.func22 rfl Tryz.ntmps22 (Nat.le_of_ble_eq_true rfl) hB ?_
 refine zaz 0 (RsV a fa) rfl SlV.mono h1 ?_
 refine zaz 1 (RsV b fb) rfl SlV.mono h2 ?_
 by_cases hl : a.length = b.length
 ·refine Z146 ?_; refine Z306 ?_; refine Z150 ?_; refine Z250 ?_; refine Z28 ?_; refine Z196 ?_
  refine zaj (fun i : Nat => [(0, .sat (RsV a fa)), (1, .sat (RsV b fb)), (5, .is (.int .i64 i))]) (fun i => i ≤ a.length ∧ a.take i = b.take i) (fun i => a.length - i) 0 ⟨Nat.zero_le _, rfl⟩ ⟨rfl, rfl, rfl, trivial⟩ ?_
  rintro i ⟨hi, ht⟩
  by_cases hlt : i < a.length
  ·obtain ⟨x, hx⟩ := zae hlt
   obtain ⟨y, hy⟩ := zae (show i < b.length by omega)
   have hc1 := zjq hx
   have hc2 := zjq hy
   have hwk : IntKind.i64.wrap ((i : Int) + 1) = ((i + 1 : Nat) : Int) := zaa (by omega) (by omega)
   by_cases hxy : x = y
   ·refine Z339 ?_; refine Z198 ?_; refine z8 (qu L _ rfl rfl rfl rfl rfl rfl rfl (by first | omega | decide) (by assumption)) rfl ?_; refine Z118 ?_; refine Z198 ?_; refine z8 (qu L _ rfl rfl rfl rfl rfl rfl rfl (by first | omega | decide) (by assumption)) rfl ?_; refine Z118 ?_; refine Z113 ?_; refine Z182 ?_; refine Z335 ?_; refine Z180 ?_; refine Z209 ?_
    exact yh (x := i) (i + 1) ⟨hlt, by rw [zbr hx, zbr hy, ht, hxy]⟩ (by omega) ⟨rfl, rfl, rfl, trivial⟩
   ·rw [decide_eq_false (z4d hx hy hxy)]
    refine Z339 ?_; refine Z198 ?_; refine z8 (qu L _ rfl rfl rfl rfl rfl rfl rfl (by first | omega | decide) (by assumption)) rfl ?_; refine Z118 ?_; refine Z198 ?_; refine z8 (qu L _ rfl rfl rfl rfl rfl rfl rfl (by first | omega | decide) (by assumption)) rfl ?_; refine Z118 ?_; refine z8 (yo rfl rfl rfl rfl (decide_eq_true (by omega))) rfl ?_; refine Z213 ?_; refine zh ?_; refine Z43 ?_; refine Z138 ?_
    refine yd L (rs := [.tmp 4]) rfl (fun _ _ h => h) Since.refl fun u H hH hle => ?_
    rfl
  ·obtain rfl : i = a.length := by omega
   have hab : a = b := by rw [List.take_length, hl, List.take_length] at ht; exact ht
   rw [decide_eq_true hab]
   refine Z216 ?_; refine Z272 ?_; refine Z389 ?_
   refine yd L (rs := [.tmp 4]) rfl (fun _ _ h => h) Since.refl fun u H hH hle => ?_
   rfl
 ·rw [decide_eq_false (z18 hl)]
  refine Z146 ?_; refine Z306 ?_; refine Z150 ?_; refine Z214 ?_; refine Z29 ?_; refine Z138 ?_
  refine yd L (rs := [.tmp 4]) rfl (fun _ _ h => h) Since.refl fun u H hH hle => ?_
  rfl
end Go.V.L10
set_option maxRecDepth 20000
namespace Go.V.L10
open Go.Proofs Go.RowKit Go.V Go.V.L2 Go.V.L8 Go.V.L6
def z01 (es : Ent) (l : List Int) : Ent := l.foldl (fun e g => zr1 g e) es
theorem zvi {es : Ent} {l : List Int} {i : Nat} {g : Int} (h : l[i]? = some g) : z01 es (l.take (i + 1)) = zr1 g (z01 es (l.take i)) := by unfold z01; rw [zbr h, List.foldl_append]; rfl
theorem MapOK.dels : ∀ {l : List Int} {es : Ent} {R : List (Option (List U))}, MapOK es R → (∀ g ∈ l, 0 < g) → MapOK (z01 es l) (clrL R l)
 | [], _, _, h, _ => h
 | g :: l, _, _, h, hg => MapOK.dels (l := l) (h.del (hg g (List.mem_cons_self ..))) fun x hx => hg x (List.mem_cons_of_mem _ hx)
theorem EsV.dels : ∀ {l : List Int} {es : Ent} {H : Heap}, EsV es H → EsV (z01 es l) H
 | [], _, _, h => h
 | g :: l, _, _, h => EsV.dels (l := l) fun e he => h e ((zmh g _).subset he)
theorem zxc {P0 : List Int} {R : List (Option (List U))} {k : Nat} : ∀ g ∈ zc9 P0 (zbj R) k, 0 < g := fun g hg => by
 unfold zc9 at hg
 have h1 := List.mem_of_mem_take (List.mem_filter.1 hg).1
 exact (zet (zeq.1 h1)).1
theorem SetV.sst {l : List U} {v : Value} {H : Heap} (h : SetV l v H) : Sst zbd l := by
 obtain ⟨_, _, _, _, ht, _⟩ := h
 exact ht.st
theorem zee {b n m t : Nat} {s : Value} {es : Ent} : ∀ v H u C, (StO b n m s t es).res.P v H u C → joinH H u C b = some (.cells (stc n m s t).toArray tyS) := by rw [zey]; exact zuy
theorem zxt {b n m t : Nat} {s : Value} {es : Ent} : ∀ v H u C, (StO b n m s t es).res.P v H u C → u.heap[b]? = some (.cells (stc n m s t).toArray tyS) := by rw [zey]; exact zvt
def zq0 (S : Sto) (a b : Int) : List CH × Int := if (atS S a).2 = 0 then (if (atS S b).2 = 0 then (z3f (atS S a).1 (atS S b).1, 0) else ([], (atS S b).2)) else ([], (atS S a).2)
theorem zpn {S : Sto} (hI : z26 S) (r : Int) : (atS S r).1.length ≤ 4096 := by
 unfold atS
 split
 ·rename_i t h; exact hI.tl _ _ h
 ·exact Nat.zero_le _
attribute [local irreducible] V N X VO Par StepOK Has Ret RetL RetO RetT zcb zdt RetY Src
abbrev zv0 (g : List Int) (e : Int) : Value → Heap → Prop := TupS [RsV g true, fun v _ => v = .int .i64 e]
set_option maxHeartbeats 4000000 in
set_option maxRecDepth 20000 in
theorem zd6 {S : Sto} {b : Nat} {keep : Int} (hn : S.R.length ≠ 0) (hz : S.P.length ≤ 100000) (hR : S.R.length ≤ 100000) {w : World} {B : Heap} {C : Nat → Prop} (hB : B.Le (hp w)) (hr : (StG b S).P B w C) (hC : ∀ k, C k → k < w.heap.size ∧ B k = none) :
  RetY Tryz.prog 21 [.pointer (some ⟨b, 0, none⟩), .int .i64 keep] w B C (StG b (zdb S keep).1) (zv0 (zdb S keep).2.1 (zdb S keep).2.2) := by
 unfold RetY
 refine zas 900 (StG b S) Tryz.func21 rfl Tryz.ntmps21 (Nat.le_of_ble_eq_true rfl) hB hr hC ?_
 rw [zlx]
 refine zd1 900 rfl fun x H hs0 hφ => ?_
 obtain ⟨m, s, es⟩ := x
 obtain ⟨hm, hes, hps⟩ := hφ
 dsimp only at hm hes hps ⊢
 obtain ⟨ps, pc, rfl⟩ := zao hps
 have hlen := hm.len
 have hkl := zef S.R
 by_cases hk1 : keep < 1
 ·have hS : zdb S keep = (S, [], 4) := by unfold zdb; rw [if_neg (by omega)]
  rw [hS]
  refine Z146 ?_; refine Z199 ?_; refine Z352 ?_; refine yq (zav L 900 (Φ := fun H => H b = some (.cells (stc S.R.length m (.slice ps (zai S.P).length pc) S.P.length).toArray tyS)) (c := .bool false) rfl rfl (zk rfl) rfl rfl rfl rfl rfl zee (fun u H hH hle hb => zcm hn hb hH)) ?_; refine Z210 ?_; refine Z171 ?_; refine Z7 ?_; refine Z183 ?_; refine Z8 ?_; refine Z251 ?_; refine Z313 ?_; refine Z185 ?_
  refine zcn 900 (StG b S).res rfl (zf9 hm hes hps) ?_
  exact zb3 L 900 (r := StG b S) (rs := [.tmp 4, .tmp 5]) rfl (fun _ _ h => h) hs0 rfl rfl (fun H hle => zd4 SlV.nil)
 ·by_cases hk2 : 1024 < keep
  ·have hS : zdb S keep = (S, [], 4) := by unfold zdb; rw [if_neg (by omega)]
   rw [hS]
   refine Z146 ?_; refine Z199 ?_; refine Z352 ?_; refine yq (zav L 900 (Φ := fun H => H b = some (.cells (stc S.R.length m (.slice ps (zai S.P).length pc) S.P.length).toArray tyS)) (c := .bool false) rfl rfl (zk rfl) rfl rfl rfl rfl rfl zee (fun u H hH hle hb => zcm hn hb hH)) ?_; refine Z210 ?_; refine Z171 ?_; refine Z10 ?_; refine Z140 ?_; refine Z39 ?_; refine Z8 ?_; refine Z251 ?_; refine Z313 ?_; refine Z185 ?_
   refine zcn 900 (StG b S).res rfl (zf9 hm hes hps) ?_
   exact zb3 L 900 (r := StG b S) (rs := [.tmp 4, .tmp 5]) rfl (fun _ _ h => h) hs0 rfl rfl (fun H hle => zd4 SlV.nil)
  ·obtain ⟨k, rfl⟩ : ∃ k : Nat, keep = (k : Int) := ⟨keep.toNat, by omega⟩
   have hS : zdb S k = (⟨clrL S.R (zc9 S.P (zbj S.R) k), S.P⟩, zc9 S.P (zbj S.R) k, 0) := by unfold zdb; rw [if_pos (by omega)]; rfl
   rw [hS]
   have hgp : ∀ x ∈ zc9 S.P (zbj S.R) k, 0 < x := zxc
   have hgl : (zc9 S.P (zbj S.R) k).length ≤ 100000 := by
    unfold zc9
    refine Nat.le_trans (List.length_filter_le ..) ?_
    rw [List.length_take]; omega
   generalize hg : zc9 S.P (zbj S.R) k = g at hgp hgl
   refine Z146 ?_; refine Z199 ?_; refine Z352 ?_; refine yq (zav L 900 (Φ := fun H => H b = some (.cells (stc S.R.length m (.slice ps (zai S.P).length pc) S.P.length).toArray tyS)) (c := .bool false) rfl rfl (zk rfl) rfl rfl rfl rfl rfl zee (fun u H hH hle hb => zcm hn hb hH)) ?_; refine Z210 ?_; refine Z171 ?_; refine Z10 ?_; refine Z140 ?_; refine Z304 ?_; refine Z187 ?_; refine Z335 ?_; refine zh ?_
   refine qd (id := 5) [(200022, [900]), (200024, [900])] mixed (by kernel_rfl) ?_; refine Z178 ?_; refine qn (zue L (q := 900) (vs := [_, _]) rfl rfl zxt rfl rfl rfl rfl ⟨_, rfl⟩) rfl rfl ?_; refine Z3 ?_; refine qn (zbb L 900 (RsV (zbj S.R) true) (r := StO b S.R.length m _ S.P.length es) rfl rfl rfl rfl rfl SlV.mono (fun u H2 C2 hH hle hr2 hC2 => (zmm hm hn (by omega) hH hr2 hC2).pubY zit)) rfl rfl ?_; refine Z3 ?_; refine z8 (yr (φ := RsV g true) L rfl rfl (zk rfl) rfl rfl rfl SlV.mono (fun u H2 hH hle _ v1 h1 => by rw [← hg]; exact zxb hz (by omega) (by omega) hH (hps.le hle) h1)) rfl ?_; refine Z372 ?_; refine Z139 ?_
   rw [zey]
   refine zew 900 901 rfl (zar _) ?_
   refine Z359 ?_; refine Z305 ?_
   refine zaj (fun y : Nat × Ent => [(0, .is (.pointer (some ⟨b, 0, none⟩))), (6, .sat (RsV g true)), (27, .sat (RsV g true)), (28, .is (.int .i64 g.length)), (29, .is (.int .i64 y.1)), (900, .own (zal b (stc S.R.length m (.slice ps (zai S.P).length pc) S.P.length) tyS)), (901, .own (zls m .u64 vcE y.2))])
    (fun y => y.1 ≤ g.length ∧ y.2 = z01 es (g.take y.1)) (fun y => g.length - y.1) (0, es) ⟨Nat.zero_le _, rfl⟩ ⟨rfl, rfl, rfl, rfl, rfl, rfl, rfl, trivial⟩ ?_
   rintro ⟨i, ec⟩ ⟨hi, hec⟩
   dsimp only at hi hec ⊢
   by_cases hlt : i < g.length
   ·obtain ⟨x, hx⟩ := zae hlt
    have hc := zjq hx
    have hnx := zvi (es := es) hx
    have hwk : IntKind.i64.wrap ((i : Int) + 1) = ((i + 1 : Nat) : Int) := zaa (by omega) (by omega)
    refine zh ?_; refine Z43 ?_; refine Z224 ?_; refine Z57 ?_; refine z7 (qu L _ rfl rfl rfl rfl rfl rfl rfl (by first | omega | decide) (by assumption)) rfl ?_; refine Z56 ?_; refine Z138 ?_; refine Z258 ?_; refine Z261 ?_; refine Z1 ?_; refine zcr (zrv (q := 901) (vc := vcE) x mpS kyS rfl rfl rfl rfl rfl) ?_; refine Z238 ?_; refine Z68 ?_; refine Z17 ?_; refine Z269 ?_
    exact yh (x := (i, ec)) (i + 1, zr1 x ec) ⟨hlt, by rw [hnx, hec]⟩ (by dsimp only; omega) ⟨rfl, rfl, rfl, rfl, rfl, rfl, rfl, trivial⟩
   ·obtain rfl : i = g.length := by omega
    rw [List.take_length] at hec
    subst hec
    refine zh ?_; refine Z43 ?_; refine Z314 ?_; refine Z66 ?_; refine Z4 ?_; refine Z51 ?_; refine Z138 ?_
    refine zb0 900 901 rfl rfl (zar _) ?_
    refine zcn 900 (StG b ⟨clrL S.R g, S.P⟩).res rfl (fun v H u C hle h => zf9 (S := ⟨clrL S.R g, S.P⟩) (hm.dels hgp) hes.dels hps v H u C hle (by dsimp only; rw [zdz]; exact h)) ?_
    exact zb3 L 900 (r := StG b ⟨clrL S.R g, S.P⟩) (rs := [.tmp 4, .tmp 5]) rfl (fun _ _ h => h) hs0 rfl rfl (fun H hle => fun v hv => zd4 hv)
abbrev z4w (l : List CH) (e : Int) : Value → Heap → Prop := TupS [KS tyC l true, fun v _ => v = .int .i64 e]
set_option maxHeartbeats 4000000 in
set_option maxRecDepth 20000 in
theorem zrl {S : Sto} {b : Nat} {p q : Int} (hI : z26 S) (hn : S.R.length ≠ 0) {w : World} {B : Heap} {C : Nat → Prop} (hB : B.Le (hp w)) (hr : (StG b S).P B w C) (hC : ∀ k, C k → k < w.heap.size ∧ B k = none) :
  RetY Tryz.prog 28 [.pointer (some ⟨b, 0, none⟩), .int .u64 p, .int .u64 q] w B C (StG b S) (z4w (zq0 S p q).1 (zq0 S p q).2) := by
 refine RetY.ex hr fun x hφ hr => ?_
 obtain ⟨m, s, es⟩ := x
 obtain ⟨hm, hes, hps⟩ := hφ
 dsimp only at hm hes hps hr ⊢
 unfold RetY
 refine zas 900 (StO b S.R.length m s S.P.length es) Tryz.func28 rfl Tryz.ntmps28 (Nat.le_of_ble_eq_true rfl) hB hr hC ?_
 have la := zpn hI p
 have lb := zpn hI q
 unfold zq0
 obtain ⟨⟨ta, ea⟩, ha⟩ : ∃ x, atS S p = x := ⟨_, rfl⟩
 obtain ⟨⟨tb, eb⟩, hb⟩ : ∃ x, atS S q = x := ⟨_, rfl⟩
 rw [ha] at la ⊢
 rw [hb] at lb ⊢
 dsimp only at la lb ⊢
 refine Z257 ?_; refine Z159 ?_; refine Z140 ?_; refine yq (zbb L 900 (WithP ta ea) (r := StO b S.R.length m _ S.P.length es) rfl rfl rfl rfl rfl WithP.mono (fun u H2 C2 hH hle hr2 hC2 => by have h := zfj (S := S) (r := p) hm hn (hes.le hle) hH hr2 hC2; rw [ha] at h; exact h)) ?_; refine zbq 14 rfl fun v1 H1 hs1 hp1 => ?_; obtain ⟨sv, rfl, hsv⟩ := hp1; obtain ⟨f1, p1, f2, p2, rfl, hpl⟩ := hsv.shape; refine Z299 ?_; refine Z147 ?_
 by_cases h1 : ea = 0
 ·subst h1
  rw [if_pos rfl]
  have hes1 := hes.le hs1.le
  refine Z175 ?_; refine Z231 ?_; refine Z328 ?_; refine yq (zbb L 900 (WithP tb eb) (r := StO b S.R.length m _ S.P.length es) rfl rfl rfl rfl rfl WithP.mono (fun u H2 C2 hH hle hr2 hC2 => by have h := zfj (S := S) (r := q) hm hn (hes1.le hle) hH hr2 hC2; rw [hb] at h; exact h)) ?_; refine zbq 23 rfl fun v2 H2 hs2 hp2 => ?_; obtain ⟨sw, rfl, hsw⟩ := hp2; obtain ⟨f3, p3, f4, p4, rfl, hpl2⟩ := hsw.shape; refine Z299 ?_; refine Z147 ?_
  by_cases h2 : eb = 0
  ·subst h2
   rw [if_pos rfl]
   refine Z180 ?_; refine Z231 ?_; refine Z43 ?_; refine z7 (zz L (vs := [_, _, _, _]) (yk rfl) rfl rfl rfl rfl ⟨_, rfl⟩) rfl ?_; refine z7 (zz L (vs := [_, _, _, _]) (yk rfl) rfl rfl rfl rfl ⟨_, rfl⟩) rfl ?_; refine z7 (yr (φ := KS tyC (z3f ta tb) true) L rfl rfl (zk rfl) rfl rfl rfl SlV.mono (fun u H3 hH hle _ => zof la lb hsv.sst hsw.sst rfl hH (hsv.le (hs2.le.trans hle)) (hsw.le hle))) rfl ?_; refine Z51 ?_; refine Z138 ?_
   exact zb3 L 900 (r := StO b S.R.length m s S.P.length es) (rs := [.tmp 6, .tmp 7]) rfl (fun _ _ h => h) (hs1.trans hs2) rfl rfl (fun H hle => fun v hv => zd4 hv)
  ·rw [if_neg h2]
   refine Z180 ?_; refine Z214 ?_; refine Z190 ?_; refine Z185 ?_
   exact zb3 L 900 (r := StO b S.R.length m s S.P.length es) (rs := [.tmp 6, .tmp 7]) rfl (fun _ _ h => h) (hs1.trans hs2) rfl rfl (fun H hle => zd4 SlV.nil)
 ·rw [if_neg h1]
  refine Z175 ?_; refine Z214 ?_; refine Z171 ?_; refine Z185 ?_
  exact zb3 L 900 (r := StO b S.R.length m s S.P.length es) (rs := [.tmp 6, .tmp 7]) rfl (fun _ _ h => h) hs1 rfl rfl (fun H hle => zd4 SlV.nil)
end Go.V.L10
set_option maxRecDepth 20000
namespace Go.V
open Go.RowKit
def zpq {X : Type} (vf : X → Value) (g : X → GR) : Res where
 P v H u C := ∃ x, v = vf x ∧ (g x).P H u C
 st := fun ⟨x, h1, h2⟩ a b c d => ⟨x, h1, (g x).st h2 a b c d⟩
abbrev zyd {X : Type} (vf : X → Value) (g : X → GR) (ty : TypeId) : Res := zpq (fun p : Nat × X => .pointer (some ⟨p.1, 0, none⟩)) fun p => zyc (zab p.1 (zat (vf p.2)) ty) (g p.2)
def MapVis {V : Type} (b : Nat) (kd : IntKind) (vc : V → Value) (l : List (Int × V)) (H : Heap) : Prop := ∃ es ck, H b = some (.map es ck) ∧ MiE kd vc l es.toList
theorem MapVis.le {V : Type} {b : Nat} {kd : IntKind} {vc : V → Value} {l : List (Int × V)} {H H' : Heap} (h : MapVis b kd vc l H) (hle : H.Le H') : MapVis b kd vc l H' := let ⟨es, ck, h1, h2⟩ := h; ⟨es, ck, hle _ _ h1, h2⟩
section
variable {P : Program} {F : Fr} {B : Heap} {O : Boxes} {n : Nat} {ops : Array Oper} {κ : Kap} {d : Nat} {ty : TypeId} {pos : String} {aft : Array Edge} {g : Option (Nat × Bool)} {Q : Exit → Act → World → Prop} {a : Act} {u : World} {os : List Oper}
theorem znm {t : TypeId} {parts : Array (Nat × Operand)} {places : List (Nat × Nat)} {z cs : List Value} {vs : List (Nat × Value)} {a : Act} {u : World} {H : Heap} {fp : Nat → Nat → Prop} (e : Env F B O κ ⟨some d, .build t parts, ty, pos, aft, g⟩ a u H fp)
  (hp : PL P t places z) (hv : evP κ parts.toList = some vs) (hc : zhb places z vs = some cs) : (execOp a.eval ⟨some d, .build t parts, ty, pos, aft, g⟩).run P u = .ok (.value (.agg cs.toArray)) u := by
 have hm := zmt e parts.toList vs (fun p hp' => by simp [Op.operands]; exact ⟨p.1, by simpa using hp'⟩) hv
 obtain ⟨zv, hz1, hz2⟩ := hp.zr
 have hbt : P.built t vs = some cs.toArray := by
  have hpl := hp.pl
  unfold plI at hpl
  unfold zrI at hz1
  split at hz1
  ·rename_i it hit
   unfold Program.built
   split at hpl
   ·rename_i fs hu
    simp only [hit, hu, hz1, hpl]
    rw [zbv, hz2]
    exact zcv (fun i p h => by simpa using h) vs z cs hc
   ·rename_i m el hu
    split at hpl
    ·rename_i ie hie
     simp only [hit, hu, hz1, hie]
     cases hpl
     rw [zbv, hz2]
     exact zcv (fun i p h => by
      rw [List.getElem?_map] at h
      cases hr : (List.range m)[i]? with
      | none => rw [hr] at h; cases h
      | some j =>
       rw [hr] at h
       have : j = i := by
        have := List.getElem?_eq_some_iff.1 hr
        obtain ⟨h1, h2⟩ := this
        simpa using h2.symm
       subst this
       simpa using h) vs z cs hc
    ·cases hpl
   ·cases hpl
  ·cases hz1
 have hr := run_build (P := P) u t vs.toArray cs.toArray (by simpa using hbt)
 have harr : (parts.map fun (p : Nat × Operand) => (p.1, a.eval p.2)) = vs.toArray := by
  rw [← hm, ← List.map_toArray, Array.toArray_toList]
 simp only [execOp, Sem.run_bind]
 show Result.andThen ((Instr.build t (parts.map fun (p : Nat × Operand) => (p.1, a.eval p.2))).run P u) _ = _
 rw [harr, hr]
 rfl
theorem zlc {X : Type} {q : Nat} {vf : X → Value} {gg : X → GR} {t : TypeId} {parts : Array (Nat × Operand)} {places : List (Nat × Nat)} {z : List Value} (vs : X → List (Nat × Value)) (cs : X → List Value) (hq : κ q = some (.own (zpq vf gg))) (hn : Nat.blt d n = true) (hg : gK ops κ ⟨some d, .build t parts, ty, pos, aft, g⟩ = some true)
  (hne : Nat.beq q d = false) (hp : PL P t places z) (hv : ∀ x, evP (upd κ q (.is (vf x))) parts.toList = some (vs x)) (hc : ∀ x, zhb places z (vs x) = some (cs x)) : StepOK2 P F B n ops O κ ⟨some d, .build t parts, ty, pos, aft, g⟩ q zd3 d (.own (zpq (fun x => .agg (cs x).toArray) gg)) := by
 rintro κ' a u hlk hks ⟨H, fp, hh⟩
 unfold After
 rw [if_pos (zaf hh hlk hg)]
 have hk' : κ' q = some (.own (zpq vf gg)) := hks.trans hq
 obtain ⟨⟨x, hx, hown⟩, hM⟩ := hh.slot q _ hk'
 have e := (hh.name q).env (κ := upd κ q (.is (vf x))) (ops := ops) (o := ⟨some d, .build t parts, ty, pos, aft, g⟩) fun s hs => by
  by_cases h : s = q
  ·subst h; rw [zad, zad, hx]
  ·rw [zac _ _ h, zac _ _ h]; exact hlk s hs
 rw [znm e hp (hv x) (hc x)]
 simp only [Upon]
 exact ⟨H, _, hh.usePut (C := fp q) hk' ⟨Keep.refl _ _, hh.sub, Heap.Le.refl _, fun _ _ _ => rfl⟩ (by simp [Act.put]) rfl (fun t ht => zan ht) (by rw [zap (by rw [hh.size]; exact zk hn)]; exact ⟨x, rfl, hown⟩) fun k hk => ⟨.inl hk, (hM k hk).1, (hM k hk).2.1⟩⟩
theorem Has.holdRf {X : Type} {t q : Nat} {vf : X → Value} {gg : X → GR} (hk : κ t = some (.own (zpq vf gg))) (h : Has F B O n κ a u) : ∃ x, Has F B O n (upd (upd (upd κ t zd3) q (.own (gg x).res)) t (.is (vf x))) a u := by
 obtain ⟨H, fp, h⟩ := h
 obtain ⟨⟨x, hv, hx⟩, hM⟩ := h.slot t _ hk
 have h2 := h.usePut (d := q) (a' := a) (r' := (gg x).res) (C := fp t) hk ⟨Keep.refl _ _, h.sub, Heap.Le.refl _, fun _ _ _ => rfl⟩ rfl rfl (fun _ _ => rfl) hx fun k hk => ⟨.inl hk, (hM k hk).1, (hM k hk).2.1⟩
 have h3 := h2.name t
 rw [hv] at h3
 exact ⟨x, H, _, h3⟩
theorem zi2 (t q : Nat) {X : Type} {vf : X → Value} {gg : X → GR} {c : Code} (hk : κ t = some (.own (zpq vf gg))) (h : ∀ x, V P F B n O (upd (upd (upd κ t zd3) q (.own (gg x).res)) t (.is (vf x))) c Q) : V P F B n O κ c Q := fun a u hh => let ⟨x, h'⟩ := hh.holdRf (q := q) hk; h x a u h'
theorem zst (t q : Nat) {X : Type} {vf : X → Value} {gg : X → GR} (hk : κ t = some (.own (zpq vf gg))) (h : ∀ x, VO P F B n O ops (upd (upd (upd κ t zd3) q (.own (gg x).res)) t (.is (vf x))) os Q) : VO P F B n O ops κ os Q := fun a u hh => let ⟨x, h'⟩ := hh.holdRf (q := q) hk; h x a u h'
theorem Has.packRf {X : Type} {t q : Nat} {vf : X → Value} {gg : X → GR} (x : X) (hk : κ q = some (.own (gg x).res)) (ht : κ t = some (.is (vf x))) (h : Has F B O n κ a u) : Has F B O n (upd (upd κ q zd3) t (.own (zpq vf gg))) a u := by
 obtain ⟨H, fp, h⟩ := h
 obtain ⟨hx, hM⟩ := h.slot q _ hk
 have hv : a.eval (.tmp t) = vf x := h.slot t _ ht
 exact ⟨H, _, h.usePut (d := t) (a' := a) (r' := zpq vf gg) (C := fp q) hk ⟨Keep.refl _ _, h.sub, Heap.Le.refl _, fun _ _ _ => rfl⟩ rfl rfl (fun _ _ => rfl) ⟨x, hv, hx⟩ fun k hk => ⟨.inl hk, (hM k hk).1, (hM k hk).2.1⟩⟩
theorem zra (t q : Nat) {X : Type} (vf : X → Value) (gg : X → GR) {c : Code} (x : X) (hk : κ q = some (.own (gg x).res)) (ht : κ t = some (.is (vf x))) (h : V P F B n O (upd (upd κ q zd3) t (.own (zpq vf gg))) c Q) : V P F B n O κ c Q := fun a u hh => h a u (hh.packRf x hk ht)
theorem StepOK.turn {o : Oper} {r r' : Res} (h : StepOK P F B n ops O κ o d (.own r)) (hr : ∀ v H u C, B.Le H → r.P v H u C → r'.P v H u C) : StepOK P F B n ops O κ o d (.own r') :=
 fun κ' a u hl hh => After.mono (fun a' u' h2 => by have := h2.turnO (t := d) (r' := r') (zad ..) hr; rwa [za6] at this) (h κ' a u hl hh)
theorem StepOK2.turn {o : Oper} {q : Nat} {k1 : Kn} {r r' : Res} (h : StepOK2 P F B n ops O κ o q k1 d (.own r)) (hr : ∀ v H u C, B.Le H → r.P v H u C → r'.P v H u C) : StepOK2 P F B n ops O κ o q k1 d (.own r') :=
 fun κ' a u hl hq hh => After.mono (fun a' u' h2 => by have := h2.turnO (t := d) (r' := r') (zad ..) hr; rwa [za6] at this) (h κ' a u hl hq hh)
abbrev z4g (s m : Nat) (xs : List Value) : Type := {p : Nat × Nat × List Value // m ≤ p.2.1 ∧ p.2.1 ≤ maxLen ∧ (xs ++ p.2.2).length = p.2.1 * s}
abbrev z5a (e : TypeId) (s m : Nat) (xs : List Value) : Res := zpq (fun p : z4g s m xs => .slice (some ⟨p.1.1, 0, none⟩) m p.1.2.1) fun p => zab p.1.1 (xs ++ p.1.2.2) e
theorem zyl {e : TypeId} {s m : Nat} {xs : List Value} (hm : m ≠ 0) : ∀ v H u C, B.Le H → (SlR e s m xs).P v H u C → (z5a e s m xs).P v H u C := fun _ _ _ _ _ ⟨_, h⟩ => by
 rcases h with ⟨h0, _⟩ | ⟨b, cap, rest, h1, h2, h3, h4, h5, h6⟩
 ·exact absurd h0 hm
 ·exact ⟨⟨(b, cap, rest), h3, h4, h5⟩, h1, h2, h6⟩
theorem zlb (L : Tabs P) {X : Type} {t t' : TypeId} {s q : Nat} {ag : Bool} {z : Nat} {cs : List Value} {vf : X → Value} {gg : X → GR} (hq : κ q = some (.own (zpq vf gg))) (hf : ∀ x, (zat (vf x)).length = z ∧ (zat (vf x)).all zbi = true)
  (hg : gK ops κ ⟨none, .store t (.tmp s) (.tmp q), ty, pos, aft, g⟩ = some true) (hk : κ s = some (.own (zfa cs t'))) (hl : L.ld t = some (ag, z)) (hcs : cs.length = z) (hne : Nat.beq q s = false) :
  StepOK2 P F B n ops O κ ⟨none, .store t (.tmp s) (.tmp q), ty, pos, aft, g⟩ q zd3 s (.own (zyd vf gg t')) := by
 have hne' : q ≠ s := Nat.ne_of_beq_eq_false hne
 rintro κ' a u hlk hks ⟨H, fp, hh⟩
 unfold After
 rw [if_pos (zaf hh hlk hg)]
 have hkq : κ' q = some (.own (zpq vf gg)) := hks.trans hq
 have hkss : κ' s = some (.own (zfa cs t')) := (hlk s (zde (by simp [Op.operands]))).trans hk
 obtain ⟨⟨x, hx, hown⟩, hMq⟩ := hh.slot q _ hkq
 have h0 := hh.usePut (d := q) (a' := a) (r' := (gg x).res) (C := fp q) hkq ⟨Keep.refl _ _, hh.sub, Heap.Le.refl _, fun _ _ _ => rfl⟩ rfl rfl (fun _ _ => rfl) hown fun k hk => ⟨.inl hk, (hMq k hk).1, (hMq k hk).2.1⟩
 rw [za6] at h0
 have hks0 : upd κ' q (.own (gg x).res) s = some (.own (zfa cs t')) := by rw [zac _ _ (Ne.symm hne')]; exact hkss
 obtain ⟨⟨b, hes, hb, hC⟩, hM⟩ := h0.slot s _ hks0
 have hrun : (execOp a.eval ⟨none, .store t (.tmp s) (.tmp q), ty, pos, aft, g⟩).run P u = .ok .skip (u.setRow b (zat (vf x)).toArray) := by
  simp only [execOp, hes, hx, Instr.storeAt, Instr.sureAddr, Sem.run_bind, Sem.run_pure, Result.andThen_ok]
  have := zby (P := P) (off := 0) (v := vf x) (Tabs.ld_spec hl) hb (hf x).1 (by omega) (hf x).2
  rw [this, List.drop_of_length_le (by omega)]
  simp
 rw [hrun]
 simp only [Upon, Act.put]
 have hset := setRow_heap u b cs.toArray (zat (vf x)).toArray t' (0, 0) hb
 have hbm := hM b ((hC b).2 rfl)
 have h1 := h0.usePut (d := s) (a' := a) (r' := zfa (zat (vf x)) t') (C := fun k => k = b) hks0 (zbl h0.sub hb ((hC b).2 rfl) hbm.2.1 _) rfl rfl (fun _ _ => rfl) ⟨b, hes, hset, fun _ => Iff.rfl⟩ (fun k hk => by
  subst hk; exact ⟨.inl ((hC k).2 rfl), by rw [setRow_size]; exact hbm.1, hbm.2.1⟩)
 rw [za6] at h1
 have h2 : Has F B O n _ a _ := ⟨H, _, h1⟩
 have h3 := h2.join2 (q := s) (g1 := q) (r1 := zfa (zat (vf x)) t') (r2 := (gg x).res) (Ne.symm hne') (zar _) (zad ..) (by rw [zac _ _ hne', zad])
 have h4 := h3.turnO (t := s) (r := zgv (zfa (zat (vf x)) t') (gg x).res) (r' := zyd vf gg t') (zad ..) fun v H u C _ ⟨C1, C2, ⟨b, g1, g2, g3⟩, g4, g5, g6⟩ => ⟨(b, x), g1, C1, C2, ⟨g2, g3⟩, g4, g5, g6⟩
 have he : upd (upd (upd (upd (upd κ' q (.own (gg x).res)) s (.own (zfa (zat (vf x)) t'))) q zd3) s (.own (zgv (zfa (zat (vf x)) t') (gg x).res))) s (.own (zyd vf gg t')) = upd (upd κ' q zd3) s (.own (zyd vf gg t')) := by
  funext k
  by_cases h5 : k = s
  ·subst h5; rw [zad, zad]
  ·rw [zac _ _ h5, zac _ _ h5, zac _ _ h5]
   by_cases h6 : k = q
   ·subst h6; rw [zad, zad]
   ·rw [zac _ _ h6, zac _ _ h5, zac _ _ h6, zac _ _ h6]
 rw [he] at h4
 exact h4
variable {Y : Type} {kd : IntKind} {vc : Y → Value} {l : List (Int × Y)}
end
end Go.V
set_option maxRecDepth 20000
namespace Go.V.L10
open Go.Proofs Go.RowKit Go.V Go.V.L2 Go.V.L8 Go.V.L6
abbrev zho (b : Nat) : Value := .pointer (some ⟨b, 0, none⟩)
abbrev z4f (S : Sto) : Res := zpq zho fun b => StG b S
theorem zuv {Y : Type} : MapOK ([] : List (Int × (List U × Y))) [] := ⟨List.nodup_nil, fun r => by
 cases h : kpt ([] : List (Option (List U))) r with
 | none => rfl
 | some t => have := zet (R := []) (r := r) (by rw [h]; rfl); simp at this; omega⟩
theorem zuw : MapOK [((1 : Int), (([] : List U), nilSet))] newS.R := by
 have h := (zuv (Y := Value)).add [] nilSet
 have h2 := h.1
 rw [h.2] at h2
 exact h2
theorem zur {Y : Type} {a b : List (Int × Y)} (hp : a.Perm b) (hn : (b.map Prod.fst).Nodup) (r : Int) : zed r a = zed r b := by
 have hna : (a.map Prod.fst).Nodup := ((hp.map Prod.fst).nodup_iff).2 hn
 cases ha : zed r a with
 | some y => exact (zgn hn (hp.mem_iff.1 (zf3 ha))).symm
 | none =>
  cases hb : zed r b with
  | none => rfl
  | some y => rw [zgn hna (hp.mem_iff.2 (zf3 hb))] at ha; cases ha
theorem MapOK.perm {Y : Type} {a b : List (Int × (List U × Y))} {R : List (Option (List U))} (h : MapOK b R) (hp : a.Perm b) : MapOK a R := ⟨((hp.map Prod.fst).nodup_iff).2 h.nd, fun r => by rw [zur hp h.nd]; exact h.get r⟩
theorem EsV.perm {a b : Ent} {H : Heap} (h : EsV b H) (hp : a.Perm b) : EsV a H := fun e he => h e (hp.mem_iff.1 he)
attribute [local irreducible] V N X VO Par StepOK Has Ret RetL RetO RetT zcb zdt RetY Src
set_option maxHeartbeats 2000000 in
set_option maxRecDepth 20000 in
theorem zp3 {w : World} {B : Heap} (hB : B.Le (hp w)) : RetO Tryz.prog 18 [] w B (z4f newS) := by
 refine zeg Tryz.func18 rfl Tryz.ntmps18 (Nat.le_of_ble_eq_true rfl) hB ?_
 refine Z186 ?_; refine z7 (zo5 (hint := none) .u64 vcE rfl rfl) rfl ?_; refine zsu 1 901 rfl fun m => ?_; refine z7 (yv (cs := [_, _, _, _]) rfl rfl ztx rfl rfl) rfl ?_; refine zcr (zrs (q := 901) (vc := vcE) 1 ([], nilSet) mpS kyS rfl rfl rfl rfl rfl rfl rfl) ?_; refine Z1 ?_; refine z7 (yv (cs := [_, _, _, _]) rfl rfl z41 rfl rfl) rfl ?_; refine Z104 ?_; refine qo (yn (.inr rfl) rfl rfl rfl rfl) ?_; refine Z137 ?_
 refine zrb 0 900 rfl fun b => ?_
 refine zb0 900 901 rfl rfl (zar (z4l m .u64 vcE [((1 : Int), (([] : List U), nilSet))])) ?_
 refine zcn 900 (StG b newS).res rfl (fun v H u C hle h => zf9 (S := newS) (s := .slice none 0 0) (m := m) (B := B) zuw (fun e he => by rw [List.mem_singleton.1 he]; exact SetV.nil) SlV.nil v H u C hle h) ?_
 refine zra 0 900 zho (fun b => StG b newS) b rfl rfl ?_
 exact zif rfl (fun _ _ h => h) Since.refl rfl
end Go.V.L10
set_option maxRecDepth 20000
namespace Go.V.L10
open Go.Proofs Go.RowKit Go.V Go.V.L2 Go.V.L8 Go.V.L6
abbrev SB := List U × (Value × Option Addr × Value × Option Addr)
abbrev sbv (b : SB) : Value := .agg #[b.2.1, .pointer b.2.2.1, b.2.2.2.1, .pointer b.2.2.2.2]
def SbOK (bs : List SB) (H : Heap) : Prop := ∀ b ∈ bs, SetV b.1 (sbv b) H
theorem SbOK.le {bs : List SB} {H H' : Heap} (h : SbOK bs H) (hle : H.Le H') : SbOK bs H' := fun b hb => (h b hb).le hle
def z5e (rs : List Int) : Prop := (0 :: rs).Pairwise (· < ·)
instance (rs : List Int) : Decidable (z5e rs) := inferInstanceAs (Decidable ((0 :: rs).Pairwise (· < ·)))
attribute [local irreducible] V N X VO Par StepOK Has Ret RetL RetO RetT zcb zdt RetY Src
end Go.V.L10
set_option maxRecDepth 20000
namespace Go.V.L10
open Go.Proofs Go.RowKit Go.V Go.V.L2 Go.V.L8 Go.V.L6
def StV (a n m : Nat) (s : Value) (t : Nat) (es : Ent) (H : Heap) : Prop := H a = some (.cells (stc n m s t).toArray tyS) ∧ MapVis m .u64 vcE es H
theorem StV.le {a n m t : Nat} {s : Value} {es : Ent} {H H' : Heap} (h : StV a n m s t es H) (hle : H.Le H') : StV a n m s t es H' := ⟨hle _ _ h.1, h.2.le hle⟩
attribute [local irreducible] V N X VO Par StepOK Has Ret RetL RetO RetT zcb zdt RetY Src
end Go.V.L10
set_option maxRecDepth 20000
namespace Go.V.L10
open Go.Proofs Go.RowKit Go.V Go.V.L2 Go.V.L8 Go.V.L6
abbrev z4n : TypeId := 89
abbrev z3l : TypeId := 32
abbrev zkx := Option (List U) × Value
def rrc (z : zkx) : List Value := [.bool z.1.isSome, z.2]
theorem zhl (z : zkx) : (rrc z).length = 2 := rfl
def RowOK (zs : List zkx) (H : Heap) : Prop := ∀ z ∈ zs, US (z.1.getD []) false z.2 H
theorem RowOK.le {zs : List zkx} {H H' : Heap} (h : RowOK zs H) (hle : H.Le H') : RowOK zs H' := fun z hz => (h z hz).le hle
abbrev RwV (zs : List zkx) : Value → Heap → Prop := SlV z4n 2 (zs.flatMap rrc) zs.length false
def RlV (R : List (Option (List U))) : Value → Heap → Prop := fun v H => ∃ zs : List zkx, zs.map (·.1) = R ∧ RowOK zs H ∧ RwV zs v H
theorem RlV.le {R : List (Option (List U))} {v : Value} {H H' : Heap} (h : RlV R v H) (hle : H.Le H') : RlV R v H' := let ⟨zs, h1, h2, h3⟩ := h; ⟨zs, h1, h2.le hle, h3.le hle⟩
def RsS (S : Sto) : Value → Heap → Prop := fun v H => ∃ lv pv, v = .agg #[lv, pv] ∧ RlV S.R lv H ∧ RsV S.P false pv H
theorem RsS.mono {S : Sto} : Kn.mono (.sat (RsS S)) := fun _ _ _ ⟨lv, pv, h1, h2, h3⟩ hle => ⟨lv, pv, h1, h2.le hle, h3.le hle⟩
theorem RsS.le {S : Sto} {v : Value} {H H' : Heap} (h : RsS S v H) (hle : H.Le H') : RsS S v H' := RsS.mono _ _ _ h hle
theorem zrn {zs : List zkx} {i : Nat} {z : zkx} (h : zs[i]? = some z) : ((zs.flatMap rrc).drop (i * 2)).take 2 = [.bool z.1.isSome, z.2] := zda zhl zs i z h
theorem zp7 {zs : List zkx} {H : Heap} (h : RowOK zs H) : (zs.flatMap rrc).all zbi = true := by
 rw [List.all_eq_true]
 intro x hx
 obtain ⟨z, hz, hx⟩ := List.mem_flatMap.1 hx
 obtain ⟨p, c, hs⟩ := zao (h z hz)
 unfold rrc at hx
 rw [hs] at hx
 simp only [List.mem_cons, List.mem_nil_iff, or_false] at hx
 rcases hx with rfl | rfl <;> rfl
theorem zk8 {zs : List zkx} {R : List (Option (List U))} (h : zs.map (·.1) = R) {i : Nat} {o : Option (List U)} (ho : R[i]? = some o) : ∃ v, zs[i]? = some (o, v) := by
 rw [← h, List.getElem?_map] at ho
 cases hz : zs[i]? with
 | none => rw [hz] at ho; cases ho
 | some z => rw [hz] at ho; cases ho; exact ⟨z.2, rfl⟩
def zj8 (R : List (Option (List U))) (i : Nat) : List Int := ((List.range i).filter fun i => ((R[i]?).join).isSome).map fun i => ((i + 1 : Nat) : Int)
theorem zr7 {R : List (Option (List U))} {i : Nat} : zj8 R (i + 1) = zj8 R i ++ if ((R[i]?).join).isSome = true then [((i + 1 : Nat) : Int)] else [] := by
 unfold zj8
 rw [List.range_succ, List.filter_append, List.map_append]
 congr 1
 by_cases h : ((R[i]?).join).isSome = true
 ·rw [if_pos h]; simp [h]
 ·rw [if_neg h]; simp [h]
theorem zj7 (R : List (Option (List U))) (i : Nat) : (zj8 R i).length ≤ i := by
 unfold zj8
 rw [List.length_map]
 exact Nat.le_trans (List.length_filter_le ..) (by simp)
abbrev z3c (t : List U) (e : Int) : Value → Heap → Prop := TupS [US t false, fun v _ => v = .int .i64 e]
attribute [local irreducible] V N X VO Par StepOK Has Ret RetL RetO RetT zcb zdt RetY Src
theorem zro {w : World} {B : Heap} (hB : B.Le (hp w)) : Ret Tryz.prog 42 [] w B (RsS newS) := by
 refine yf Tryz.func42 rfl Tryz.ntmps42 (Nat.le_of_ble_eq_true rfl) hB ?_
 refine Z322 ?_; refine Z160 ?_; refine Z20 ?_; refine z7 (yv (cs := [_, _]) rfl rfl z3o rfl rfl) rfl ?_; refine Z36 ?_; refine zbq 2 rfl fun v1 H1 hs1 hv1 => ?_; obtain ⟨d1, rfl, hd1⟩ := hv1; refine z7 (yv (cs := [_, _]) rfl rfl z1m rfl rfl) rfl ?_; refine Z252 ?_
 refine yd L (rs := [.cell 0 32]) rfl (fun _ _ h => h) hs1 fun u H hH hle => ?_
 exact ⟨_, yk rfl, rfl, _, _, rfl, ⟨[(some [], .slice none 0 0)], rfl, fun z hz => by rw [List.mem_singleton.1 hz]; exact SlV.nil, (SlB.toV (n := 1) ⟨d1, rfl, hle _ _ hd1⟩ rfl).nofu⟩, SlV.nil⟩
theorem ze2 {R : List (Option (List U))} {zs : List zkx} (hzs : zs.map (·.1) = R) (hR : R.length ≤ 100000) {lv pv : Value} (hpv : ∃ p k c, pv = .slice p k c) {w : World} {B : Heap} (hB : B.Le (hp w)) (hl : RwV zs lv B) :
  Ret Tryz.prog 34 [.agg #[lv, pv]] w B (RsV (zbj R) false) := by
 have hzl : zs.length = R.length := by rw [← hzs, List.length_map]
 obtain ⟨p, c, rfl⟩ := zao hl
 obtain ⟨p2, k2, c2, rfl⟩ := hpv
 refine yf Tryz.func34 rfl Tryz.ntmps34 (Nat.le_of_ble_eq_true rfl) hB ?_
 refine Z271 ?_; refine Z147 ?_
 refine zd2 3 zi6 1 rfl ?_
 refine Z338 ?_
 refine zaj (fun y : Nat => [(1, .sat (At [.slice p zs.length c, .slice p2 k2 c2] z3l 0)), (3, .own (SlR zi6 1 (zj8 R y).length ((zj8 R y).map (Value.int .u64)))), (4, .is (.int .i64 y))])
  (fun y => y ≤ R.length) (fun y => R.length - y) 0 (Nat.zero_le _) ⟨rfl, rfl, rfl, trivial⟩ ?_
 rintro i hi
 dsimp only at hi ⊢
 have htl := zj7 R i
 by_cases hlt : i < R.length
 ·obtain ⟨o, ho⟩ := zae hlt
  obtain ⟨v, hv⟩ := zk8 hzs ho
  have hc := zrn hv
  have hwk : IntKind.i64.wrap ((i : Int) + 1) = ((i + 1 : Nat) : Int) := zaa (by omega) (by omega)
  have hwu : IntKind.u64.wrap ((i + 1 : Nat) : Int) = ((i + 1 : Nat) : Int) := wrap_u64 (by omega) (by omega)
  have hs := zr7 (R := R) (i := i)
  rw [ho] at hs
  cases o with
  | none =>
   have hs2 : zj8 R (i + 1) = zj8 R i := hs.trans (List.append_nil _)
   refine Z234 ?_; refine Z260 ?_; refine Z176 ?_; refine Z170 ?_; refine Z38 ?_; refine Z212 ?_; refine Z1 ?_; refine z7 (qu L _ rfl rfl rfl rfl rfl rfl rfl (by first | omega | decide) (by assumption)) rfl ?_; refine Z357 ?_; refine Z215 ?_; refine Z312 ?_
   exact yh (x := i) (i + 1) hlt (by omega) ⟨rfl, by rw [hs2]; rfl, rfl, trivial⟩
  | some t =>
   have hs2 : zj8 R (i + 1) = zj8 R i ++ [((i + 1 : Nat) : Int)] := hs
   refine Z234 ?_; refine Z260 ?_; refine Z176 ?_; refine Z170 ?_; refine Z38 ?_; refine Z212 ?_; refine Z1 ?_; refine z7 (qu L _ rfl rfl rfl rfl rfl rfl rfl (by first | omega | decide) (by assumption)) rfl ?_; refine Z357 ?_; refine Z143 ?_; refine Z45 ?_; refine qo (yn (.inl rfl) rfl rfl rfl rfl) ?_; refine Z1 ?_; refine Z17 ?_; refine z7 (zau rfl rfl rfl zbg.1 zbg.2 (wrap_u64 (by omega) (by omega))) rfl ?_; refine Z36 ?_; refine Z110 ?_; refine qo (yn (.inr rfl) rfl rfl rfl rfl) ?_; refine Z238 ?_; refine Z312 ?_
   exact yh (x := i) (i + 1) hlt (by omega) ⟨rfl, by rw [hs2]; exact zl5, rfl, trivial⟩
 ·obtain rfl : i = R.length := by omega
  refine Z234 ?_; refine Z260 ?_; refine Z247 ?_
  refine zcj 3 rfl ?_
  refine Z43 ?_; refine Z4 ?_; refine Z259 ?_
  refine yd L (rs := [.tmp 2]) rfl (fun _ _ h => h) Since.refl fun u H hH hle => ?_
  exact fun v hv => hv
set_option maxHeartbeats 1000000 in
theorem ztp {S : Sto} {r : Int} (hn : S.R.length ≠ 0) (hr0 : 0 ≤ r) (hr1 : r < 18446744073709551616) (hz : S.R.length ≤ 1000000000) {v : Value} {w : World} {B : Heap} (hB : B.Le (hp w)) (hv : RsS S v B) :
  Ret Tryz.prog 27 [v, .int .u64 r] w B (z3c (atS S r).1 (atS S r).2) := by
 obtain ⟨lv, pv, rfl, ⟨zs, hzs, hrow, hlv⟩, hpv⟩ := hv
 have hzl : zs.length = S.R.length := by rw [← hzs, List.length_map]
 obtain ⟨p, c, rfl⟩ := zao hlv
 obtain ⟨p2, c2, rfl⟩ := zao hpv
 obtain ⟨k, hk⟩ : ∃ k : Nat, (k : Int) = if r = 0 then (S.R.length : Int) else r := ⟨(if r = 0 then (S.R.length : Int) else r).toNat, by split <;> omega⟩
 have hat : atS S r = match kpt S.R k with | some t => (t, 0) | none => ([], 14) := by rw [hk]; rfl
 have hk1 : 1 ≤ k := by split at hk <;> omega
 obtain ⟨j, rfl⟩ : ∃ j, k = j + 1 := ⟨k - 1, by omega⟩
 have hwl : IntKind.u64.wrap ((zs.length : Nat) : Int) = ((zs.length : Nat) : Int) := wrap_u64 (by omega) (by omega)
 have hws : IntKind.u64.wrap (((j + 1 : Nat) : Int) - 1) = ((j : Nat) : Int) := (wrap_u64 (by omega) (by split at hk <;> omega)).trans (by omega)
 rw [zfr] at hat
 by_cases hr : r = 0
 ·rw [if_pos hr] at hk
  subst hr
  have hjl : j < S.R.length := by omega
  obtain ⟨o, ho⟩ := zae hjl
  obtain ⟨v, hv⟩ := zk8 hzs ho
  have hc := zrn hv
  have hjz : zs.length = j + 1 := by omega
  rw [ho] at hat
  have hws2 : IntKind.u64.wrap (((zs.length : Nat) : Int) - 1) = ((j : Nat) : Int) := by rw [hjz]; exact hws
  cases o with
  | none =>
   rw [hat]
   refine yf Tryz.func27 rfl Tryz.ntmps27 (Nat.le_of_ble_eq_true rfl) hB ?_
   refine Z326 ?_; refine Z189 ?_; refine Z280 ?_; refine Z29 ?_; refine Z260 ?_; refine z7 (zau rfl rfl rfl zbg.1 zbg.2 (wrap_u64 (by omega) (by omega))) rfl ?_; refine Z327 ?_; refine Z260 ?_; refine z7 (zau rfl rfl rfl zbg.1 zbg.2 (wrap_u64 (by omega) (by omega))) rfl ?_; refine Z378 ?_; refine Z212 ?_; refine Z228 ?_; refine z7 (qu L _ rfl rfl rfl rfl rfl rfl rfl (by first | omega | decide) (by assumption)) rfl ?_; refine Z357 ?_; refine Z392 ?_; refine Z321 ?_; refine Z185 ?_
   refine yd L (rs := [.tmp 4, .tmp 5]) rfl (fun _ _ h => h) Since.refl fun u H hH hle => ?_
   exact zd4 SlV.nil
  | some t =>
   have hrz : US t false v B := hrow (some t, v) (List.mem_of_getElem? hv)
   obtain ⟨p3, c3, rfl⟩ := zao hrz
   rw [hat]
   refine yf Tryz.func27 rfl Tryz.ntmps27 (Nat.le_of_ble_eq_true rfl) hB ?_
   refine Z326 ?_; refine Z189 ?_; refine Z280 ?_; refine Z29 ?_; refine Z260 ?_; refine z7 (zau rfl rfl rfl zbg.1 zbg.2 (wrap_u64 (by omega) (by omega))) rfl ?_; refine Z327 ?_; refine Z260 ?_; refine z7 (zau rfl rfl rfl zbg.1 zbg.2 (wrap_u64 (by omega) (by omega))) rfl ?_; refine Z378 ?_; refine Z212 ?_; refine Z228 ?_; refine z7 (qu L _ rfl rfl rfl rfl rfl rfl rfl (by first | omega | decide) (by assumption)) rfl ?_; refine Z357 ?_; refine Z53 ?_; refine Z284 ?_; refine Z38 ?_; refine Z212 ?_; refine Z228 ?_; refine z7 (qu L _ rfl rfl rfl rfl rfl rfl rfl (by first | omega | decide) (by assumption)) rfl ?_; refine Z357 ?_; refine Z185 ?_
   refine yd L (rs := [.tmp 4, .tmp 5]) rfl (fun _ _ h => h) Since.refl fun u H hH hle => ?_
   exact zd4 (hrz.le hle)
 ·rw [if_neg hr] at hk
  subst hk
  by_cases hjl : j < S.R.length
  ·obtain ⟨o, ho⟩ := zae hjl
   obtain ⟨v, hv⟩ := zk8 hzs ho
   have hc := zrn hv
   rw [ho] at hat
   cases o with
   | none =>
    rw [hat]
    refine yf Tryz.func27 rfl Tryz.ntmps27 (Nat.le_of_ble_eq_true rfl) hB ?_
    refine Z326 ?_; refine Z189 ?_; refine Z274 ?_; refine Z171 ?_; refine Z260 ?_; refine z7 (zau rfl rfl rfl zbg.1 zbg.2 (wrap_u64 (by omega) (by omega))) rfl ?_; refine Z378 ?_; refine Z212 ?_; refine Z228 ?_; refine z7 (qu L _ rfl rfl rfl rfl rfl rfl rfl (by first | omega | decide) (by assumption)) rfl ?_; refine Z357 ?_; refine Z392 ?_; refine Z321 ?_; refine Z185 ?_
    refine yd L (rs := [.tmp 4, .tmp 5]) rfl (fun _ _ h => h) Since.refl fun u H hH hle => ?_
    exact zd4 SlV.nil
   | some t =>
    have hrz : US t false v B := hrow (some t, v) (List.mem_of_getElem? hv)
    obtain ⟨p3, c3, rfl⟩ := zao hrz
    rw [hat]
    refine yf Tryz.func27 rfl Tryz.ntmps27 (Nat.le_of_ble_eq_true rfl) hB ?_
    refine Z326 ?_; refine Z189 ?_; refine Z274 ?_; refine Z171 ?_; refine Z260 ?_; refine z7 (zau rfl rfl rfl zbg.1 zbg.2 (wrap_u64 (by omega) (by omega))) rfl ?_; refine Z378 ?_; refine Z212 ?_; refine Z228 ?_; refine z7 (qu L _ rfl rfl rfl rfl rfl rfl rfl (by first | omega | decide) (by assumption)) rfl ?_; refine Z357 ?_; refine Z53 ?_; refine Z284 ?_; refine Z38 ?_; refine Z212 ?_; refine Z228 ?_; refine z7 (qu L _ rfl rfl rfl rfl rfl rfl rfl (by first | omega | decide) (by assumption)) rfl ?_; refine Z357 ?_; refine Z185 ?_
    refine yd L (rs := [.tmp 4, .tmp 5]) rfl (fun _ _ h => h) Since.refl fun u H hH hle => ?_
    exact zd4 (hrz.le hle)
  ·rw [List.getElem?_eq_none (by omega)] at hat
   rw [hat]
   refine yf Tryz.func27 rfl Tryz.ntmps27 (Nat.le_of_ble_eq_true rfl) hB ?_
   refine Z326 ?_; refine Z189 ?_; refine Z274 ?_; refine Z171 ?_; refine Z260 ?_; refine z7 (zau rfl rfl rfl zbg.1 zbg.2 (wrap_u64 (by omega) (by omega))) rfl ?_; refine Z39 ?_; refine Z336 ?_; refine Z217 ?_; refine Z321 ?_; refine Z185 ?_
   refine yd L (rs := [.tmp 4, .tmp 5]) rfl (fun _ _ h => h) Since.refl fun u H hH hle => ?_
   exact zd4 SlV.nil
end Go.V.L10
set_option maxRecDepth 20000
namespace Go.V.L10
open Go.Proofs Go.RowKit Go.V Go.V.L2 Go.V.L8 Go.V.L6
theorem _root_.Go.V.Z362 {A B : Prop} (h : B) (t : Wr B → A := by intro h; refine Z47 ?_; refine z8 (StepOK.seeV (qf L (qm rfl) rfl rfl rfl rfl) (by assumption)) rfl ?_; exact h.h) : A := t ⟨h⟩
theorem zyo {φ : Value → Heap → Prop} {a v : Value} {H : Heap} (h : TupS [φ, fun v _ => v = a] v H) : ∃ tv, v = .tuple #[tv, a] ∧ φ tv H := by
 obtain ⟨vs, rfl, hl, hp⟩ := h
 match vs, hl with
 | [x, y], _ =>
  have h2 := hp 1 _ y rfl rfl
  exact ⟨x, by rw [← h2], hp 0 _ x rfl rfl⟩
abbrev Wr10P (S : Sto) (rev e : Int) : Value → Heap → Prop := TupS [RsS S, fun v _ => v = .int .u64 rev, fun v _ => v = .int .i64 e]
theorem z3m {φ : Value → Heap → Prop} {a b v : Value} {H : Heap} (h : φ v H) : TupS [φ, fun v _ => v = a, fun v _ => v = b] (.tuple #[v, a, b]) H := by
 refine ⟨[v, a, b], rfl, rfl, fun i ψ x hi hx => ?_⟩
 rcases i with _ | _ | _ | i
 ·cases hi; cases hx; exact h
 ·cases hi; cases hx; rfl
 ·cases hi; cases hx; rfl
 ·cases hi
theorem Wr10P.mono {S : Sto} {rev e : Int} : Kn.mono (.sat (Wr10P S rev e)) := TupS.mono fun ψ hψ => by
 simp only [List.mem_cons, List.mem_nil_iff, or_false] at hψ
 rcases hψ with rfl | rfl | rfl
 ·exact RsS.mono
 ·exact fun _ _ _ h _ => h
 ·exact fun _ _ _ h _ => h
attribute [local irreducible] V N X VO Par StepOK Has Ret RetL RetO RetT zcb zdt RetY Src
set_option maxHeartbeats 4000000 in
set_option maxRecDepth 20000 in
theorem zng {S S' : Sto} {l cs : List CH} {rev e : Int} {fl fc : Bool} (hI : z26 S) (hR : S.R.length ≤ 100000) (hn : S.R.length ≠ 0) (hss : ∀ r t, kpt S.R r = some t → Sst zbd t ∧ ∀ x ∈ t, TZ x) (zl : ∀ c ∈ l, TM c.1) (zc : ∀ c ∈ cs, TM c.1) (ll : l.length ≤ 9223372036854775807) (lc : cs.length ≤ 9223372036854775807) (hw : zej S l cs = (S', rev, e)) {v lv cv : Value} {w : World} {B : Heap} (hB : B.Le (hp w)) (hv : RsS S v B) (hl : KS tyM l fl lv B) (hc : KS tyC cs fc cv B) :
  Ret Tryz.prog 53 [v, lv, cv] w B (Wr10P S' rev e) := by
 obtain ⟨rv, pv, rfl, ⟨zs, hzs, hrow, hrv⟩, hpv⟩ := hv
 have hzl : zs.length = S.R.length := by rw [← hzs, List.length_map]
 obtain ⟨p, c, rfl⟩ := zao hrv
 obtain ⟨p2, c2, rfl⟩ := zao hpv
 obtain ⟨t0, ht0⟩ : ∃ t0, kpt S.R S.R.length = some t0 := Option.isSome_iff_exists.1 hI.last
 have hA : atS S 0 = (t0, 0) := by unfold atS; rw [if_pos rfl, ht0]
 have ht4 := hI.tl _ _ ht0
 have hts := hss _ _ ht0
 obtain ⟨⟨t1, made, e1⟩, hwr⟩ : ∃ x, zd5 t0 l cs = x := ⟨_, rfl⟩
 unfold zej at hw
 rw [hA, hwr] at hw
 dsimp only at hw
 obtain ⟨j, hj⟩ : ∃ j, zs.length = j + 1 := ⟨zs.length - 1, by omega⟩
 have hws : IntKind.i64.wrap (((zs.length : Nat) : Int) - 1) = ((j : Nat) : Int) := (zaa (by omega) (by omega)).trans (by omega)
 obtain ⟨v0, hv0⟩ : ∃ v, zs[j]? = some (some t0, v) := zk8 hzs (by
  obtain ⟨o, ho⟩ := zae (show j < S.R.length by omega)
  have h2 : S.R.length = j + 1 := by omega
  rw [h2, zfr, ho] at ht0
  cases o with
  | none => cases ht0
  | some t => cases ht0; exact ho)
 have hrz : US t0 false v0 B := hrow (some t0, v0) (List.mem_of_getElem? hv0)
 obtain ⟨p3, c3, rfl⟩ := zao hrz
 have hc0 := zrn hv0
 have hkl := zj7 S.R S.R.length
 refine yf Tryz.func53 rfl Tryz.ntmps53 (Nat.le_of_ble_eq_true rfl) hB ?_
 refine zaz 1 (KS tyM l fl) rfl SlV.mono hl ?_
 refine zaz 2 (KS tyC cs fc) rfl SlV.mono hc ?_
 refine Z156 ?_; refine Z263 ?_; refine Z159 ?_; refine Z212 ?_; refine Z260 ?_; refine Z26 ?_; refine z7 (qu L _ rfl rfl rfl rfl rfl rfl rfl (by first | omega | decide) (by assumption)) rfl ?_; refine Z357 ?_; refine Z377 ?_; refine z7 (yr (φ := RWriteP t1 made e1) L rfl rfl (zk rfl) rfl rfl rfl RWriteP.mono (fun u H hH hle _ v1 h1 v2 h2 => zow zl zc ll lc ht4 hts.1 hts.2 hwr hH (hrz.le hle) h1 h2)) rfl ?_; refine zbq 25 rfl fun v1 H1 hs1 hp1 => ?_; obtain ⟨tv, mv, rfl, htv, hmv⟩ := hp1; obtain ⟨p4, c4, rfl⟩ := zao htv; refine Z173 ?_; refine Z14 ?_; refine Z2 ?_; refine Z221 ?_
 have hrow1 := hrow.le hs1.le
 have hrv1 := hrv.le hs1.le
 have hpv1 := hpv.le hs1.le
 by_cases he : e1 = 0
 ·subst he
  rw [if_pos rfl] at hw
  by_cases hk : 1024 ≤ (zbj S.R).length
  ·rw [if_pos hk] at hw
   cases hw
   refine Z175 ?_; refine Z23 ?_; refine Z1 ?_; refine z7 (zz L (vs := [_, _]) (qm rfl) rfl rfl rfl rfl ⟨_, rfl⟩) rfl ?_; refine z7 (yr (φ := RsV (zbj S.R) false) L rfl rfl (zk rfl) rfl rfl rfl SlV.mono (fun u H hH hle _ => ze2 hzs (by omega) ⟨_, _, _, rfl⟩ hH (hrv1.le hle))) rfl ?_; refine Z11 ?_; refine Z42 ?_; refine Z248 ?_; refine Z28 ?_; refine Z147 ?_; refine Z161 ?_; refine Z214 ?_; refine Z38 ?_; refine z7 (zz L (vs := [_, _]) (qm rfl) rfl rfl rfl rfl ⟨_, rfl⟩) rfl ?_; refine Z1 ?_; refine Z19 ?_; refine Z185 ?_
   refine yd L (rs := [.cell 6 32, .tmp 7, .tmp 8]) rfl (fun _ _ h => h) hs1 fun u H hH hle => ?_
   exact ⟨_, yk rfl, rfl, z3m ⟨_, _, rfl, ⟨zs, hzs, hrow1.le hle, hrv1.le hle⟩, hpv1.le hle⟩⟩
  ·rw [if_neg hk] at hw
   cases hw
   have hlen : (zs.flatMap rrc).length = zs.length * 2 := zch zhl zs
   have hpl := zp7 hrow
   have hwu : IntKind.u64.wrap ((zs.length + 1 : Nat) : Int) = ((S.R.length + 1 : Nat) : Int) := (wrap_u64 (by omega) (by omega)).trans (by omega)
   refine Z175 ?_; refine Z23 ?_; refine Z1 ?_; refine z7 (zz L (vs := [_, _]) (qm rfl) rfl rfl rfl rfl ⟨_, rfl⟩) rfl ?_; refine z7 (yr (φ := RsV (zbj S.R) false) L rfl rfl (zk rfl) rfl rfl rfl SlV.mono (fun u H hH hle _ => ze2 hzs (by omega) ⟨_, _, _, rfl⟩ hH (hrv1.le hle))) rfl ?_; refine Z11 ?_; refine Z46 ?_; refine Z8 ?_; refine Z168 ?_; refine Z161 ?_; refine Z231 ?_
   refine qd (id := 6) [(47, [43]), (50, [47]), (100012, [50])] mixed (by kernel_rfl) ?_; refine Z362 ?_; refine z8 (zcw L rfl rfl rfl (zh1 rfl) rfl z38 hlen hpl (by omega) (by omega)) rfl ?_; refine Z3 ?_; refine z8 (yv (cs := [_, _]) rfl rfl z3o rfl rfl) rfl ?_; refine Z120 ?_; refine za3 (StepOK2.turn (zce (q := 43) L rfl rfl rfl (zh2 rfl) rfl z38 rfl rfl (by omega) (by omega)) (zyl (Nat.succ_ne_zero _))) rfl rfl ?_; refine Z218 ?_; refine za3 (zlc (q := 47) (X := z4g 2 (zs.length + 1) _) (fun x => [(0, .slice (some ⟨x.1.1, 0, none⟩) (zs.length + 1) x.1.2.1), (1, .slice p2 S.P.length c2)]) (fun x => [.slice (some ⟨x.1.1, 0, none⟩) (zs.length + 1) x.1.2.1, .slice p2 S.P.length c2]) rfl rfl rfl rfl z1m (fun _ => rfl) (fun _ => by rfl)) rfl rfl ?_; refine Z129 ?_; refine za3 (zlb L (q := 50) rfl (fun _ => by exact ⟨rfl, rfl⟩) rfl rfl rfl rfl rfl) rfl rfl ?_; refine Z290 ?_
   refine zi2 12 902 rfl fun x => ?_
   obtain ⟨b12, ⟨b47, cap, rest⟩, hcap, _, hfl⟩ := x
   dsimp only at hcap hfl ⊢
   rw [zoa]
   refine zew 902 903 rfl (zar _) ?_
   refine zy7 903 rfl fun H2 hs2 _ hb47 => ?_
   refine qd (id := 7) [(200051, [902]), (200053, [902])] mixed (by kernel_rfl) ?_; refine qn (zam L (q := 902) (vs := [_, _]) rfl rfl rfl rfl rfl rfl ⟨_, rfl⟩) rfl rfl ?_; refine Z25 ?_; refine qn (qp L (q := 902) rfl rfl rfl rfl rfl rfl) rfl rfl ?_; refine z8 (zme L rfl rfl rfl rfl) rfl ?_; refine z8 (zau rfl rfl rfl zbg.1 zbg.2 (wrap_u64 (by omega) (by omega))) rfl ?_; refine Z111 ?_; refine Z37 ?_; refine Z177 ?_
   refine yd L (rs := [.cell 6 32, .tmp 7, .tmp 8]) rfl (fun _ _ h => h) (hs1.trans hs2) fun u H hH hle => ?_
   have hrow2 : RowOK (zs ++ [(some t1, .slice p4 t1.length c4)]) H2 := fun z hz => by
    rcases List.mem_append.1 hz with hz | hz
    ·exact (hrow1.le hs2.le) z hz
    ·rw [List.mem_singleton.1 hz]; exact htv.le hs2.le
   have hfm : (zs ++ [(some t1, Value.slice p4 t1.length c4)]).flatMap rrc = zs.flatMap rrc ++ [.bool true, .slice p4 t1.length c4] := by rw [List.flatMap_append]; rfl
   have hrv2 : RwV (zs ++ [(some t1, .slice p4 t1.length c4)]) (.slice (some ⟨b47, 0, none⟩) (zs.length + 1) cap) H2 := by
    unfold RwV
    rw [hfm, List.length_append, List.length_singleton]
    exact ⟨by rw [List.length_append, hlen]; simp; omega, .inr ⟨b47, 0, cap, _, _, _, rfl, hb47, (by show (((zs.flatMap rrc ++ ([.bool true, .slice p4 t1.length c4] : List Value)) ++ rest).drop 0).take _ = _; rw [List.drop_zero]; exact List.take_left), hcap, fun h => by cases h⟩⟩
   rw [show S.R.length + 1 = zs.length + 1 by omega]
   exact ⟨_, yk rfl, rfl, z3m ⟨_, _, rfl, ⟨_, by rw [List.map_append, hzs]; rfl, hrow2.le hle, hrv2.le hle⟩, (hpv1.le hs2.le).le hle⟩⟩
 ·rw [if_neg he] at hw
  cases hw
  refine Z175 ?_; refine Z12 ?_; refine Z315 ?_; refine Z168 ?_; refine Z161 ?_; refine Z214 ?_; refine Z38 ?_; refine z7 (zz L (vs := [_, _]) (qm rfl) rfl rfl rfl rfl ⟨_, rfl⟩) rfl ?_; refine Z1 ?_; refine Z19 ?_; refine Z185 ?_
  refine yd L (rs := [.cell 6 32, .tmp 7, .tmp 8]) rfl (fun _ _ h => h) hs1 fun u H hH hle => ?_
  exact ⟨_, yk rfl, rfl, z3m ⟨_, _, rfl, ⟨zs, hzs, hrow1.le hle, hrv1.le hle⟩, hpv1.le hle⟩⟩
abbrev Pn10P (S : Sto) (e : Int) : Value → Heap → Prop := TupS [RsS S, fun v _ => v = .int .i64 e]
theorem Pn10P.mono {S : Sto} {e : Int} : Kn.mono (.sat (Pn10P S e)) := ze3 RsS.mono
set_option maxHeartbeats 1000000 in
set_option maxRecDepth 20000 in
theorem zk7 {S S' : Sto} {r e : Int} {un : Bool} (hR : S.R.length ≤ 1000000000) (hr0 : 0 ≤ r) (hr1 : r < 18446744073709551616) (hz : S.P.length ≤ 1000) (hpos : ∀ x ∈ S.P, 0 < x) (hpn : zns S r un = (S', e)) {v : Value} {w : World} {B : Heap} (hB : B.Le (hp w)) (hv : RsS S v B) :
  Ret Tryz.prog 54 [v, .int .u64 r, .bool un] w B (Pn10P S' e) := by
 obtain ⟨rv, pv, rfl, ⟨zs, hzs, hrow, hrv⟩, hpv⟩ := hv
 have hzl : zs.length = S.R.length := by rw [← hzs, List.length_map]
 obtain ⟨p, c, rfl⟩ := zao hrv
 obtain ⟨p2, c2, rfl⟩ := zao hpv
 have hwl : IntKind.u64.wrap ((zs.length : Nat) : Int) = ((zs.length : Nat) : Int) := wrap_u64 (by omega) (by omega)
 unfold zns at hpn
 by_cases hk : (kpt S.R r).isSome = true
 ·rw [if_pos hk] at hpn
  obtain ⟨k0, k1⟩ := zet hk
  obtain ⟨j, rfl⟩ : ∃ j : Nat, r = ((j + 1 : Nat) : Int) := ⟨(r - 1).toNat, by omega⟩
  have hws : IntKind.u64.wrap (((j + 1 : Nat) : Int) - 1) = ((j : Nat) : Int) := (wrap_u64 (by omega) (by omega)).trans (by omega)
  rw [zfr] at hk
  obtain ⟨o, ho⟩ := zae (show j < S.R.length by omega)
  rw [ho] at hk
  cases o with
  | none => cases hk
  | some t =>
   obtain ⟨v, hv⟩ := zk8 hzs ho
   have hc := zrn hv
   obtain ⟨⟨P1, e1⟩, hu⟩ : ∃ x, zfi S.P ((j + 1 : Nat) : Int) = x := ⟨_, rfl⟩
   refine yf Tryz.func54 rfl Tryz.ntmps54 (Nat.le_of_ble_eq_true rfl) hB ?_
   refine Z349 ?_; refine Z189 ?_; refine Z12 ?_; refine Z140 ?_; refine Z260 ?_; refine z7 (zau rfl rfl rfl zbg.1 zbg.2 (wrap_u64 (by omega) (by omega))) rfl ?_; refine Z304 ?_; refine Z1 ?_; refine Z212 ?_; refine Z228 ?_; refine z7 (qu L _ rfl rfl rfl rfl rfl rfl rfl (by first | omega | decide) (by assumption)) rfl ?_; refine Z357 ?_; refine Z53 ?_; refine Z284 ?_; refine Z28 ?_; refine Z212 ?_; refine Z1 ?_; refine z7 (yr (φ := RP2 (S.P ++ [((j + 1 : Nat) : Int)]) 0) L rfl rfl (zk rfl) rfl rfl rfl zp8 (fun u H hH hle _ v1 h1 => zwi (by omega) hpos hz hH h1)) rfl ?_; refine zbq 35 rfl fun v1 H1 hs1 hp1 => ?_; obtain ⟨tv, rfl, htv⟩ := zyo hp1; obtain ⟨p4, c4, rfl⟩ := zao htv; refine Z340 ?_
   have hrow1 := hrow.le hs1.le
   have hrv1 := hrv.le hs1.le
   have hpv1 := hpv.le hs1.le
   cases un with
   | false =>
    rw [if_neg (by decide)] at hpn
    cases hpn
    refine Z161 ?_; refine Z168 ?_; refine Z190 ?_; refine Z231 ?_; refine Z57 ?_; refine Z181 ?_; refine Z1 ?_; refine z7 (yv (cs := [_, _]) rfl rfl z1m rfl rfl) rfl ?_; refine Z235 ?_
    refine yd L (rs := [.cell 6 32, .tmp 7]) rfl (fun _ _ h => h) hs1 fun u H hH hle => ?_
    exact ⟨_, yk rfl, rfl, zd4 ⟨_, _, rfl, ⟨zs, hzs, hrow1.le hle, hrv1.le hle⟩, htv.le hle⟩⟩
   | true =>
    rw [if_pos rfl, hu] at hpn
    dsimp only at hpn
    refine Z161 ?_; refine Z143 ?_; refine Z38 ?_; refine Z212 ?_; refine Z1 ?_; refine z7 (yr (φ := RP2 P1 e1) L rfl rfl (zk rfl) rfl rfl rfl zp8 (fun u H hH hle _ v1 h1 => zrm hu hz hH h1)) rfl ?_; refine zbq 43 rfl fun v1 H2 hs2 hp2 => ?_; obtain ⟨uv, rfl, huv⟩ := zyo hp2; obtain ⟨p5, c5, rfl⟩ := zao huv; refine Z340 ?_
    have hrow2 := hrow1.le hs2.le
    have hrv2 := hrv1.le hs2.le
    have hpv2 := hpv1.le hs2.le
    by_cases h0 : e1 = 0
    ·subst h0
     rw [if_pos rfl] at hpn
     cases hpn
     refine Z190 ?_; refine Z231 ?_; refine Z57 ?_; refine Z181 ?_; refine Z1 ?_; refine z7 (yv (cs := [_, _]) rfl rfl z1m rfl rfl) rfl ?_; refine Z235 ?_
     refine yd L (rs := [.cell 6 32, .tmp 7]) rfl (fun _ _ h => h) (hs1.trans hs2) fun u H hH hle => ?_
     exact ⟨_, yk rfl, rfl, zd4 ⟨_, _, rfl, ⟨zs, hzs, hrow2.le hle, hrv2.le hle⟩, huv.le hle⟩⟩
    ·rw [if_neg h0] at hpn
     cases hpn
     refine Z190 ?_; refine Z214 ?_; refine Z43 ?_; refine z7 (zz L (vs := [_, _]) (qm rfl) rfl rfl rfl rfl ⟨_, rfl⟩) rfl ?_; refine Z1 ?_; refine Z235 ?_
     refine yd L (rs := [.cell 6 32, .tmp 7]) rfl (fun _ _ h => h) (hs1.trans hs2) fun u H hH hle => ?_
     exact ⟨_, yk rfl, rfl, zd4 ⟨_, _, rfl, ⟨zs, hzs, hrow2.le hle, hrv2.le hle⟩, hpv2.le hle⟩⟩
 ·rw [if_neg hk] at hpn
  cases hpn
  by_cases hr : r = 0
  ·refine yf Tryz.func54 rfl Tryz.ntmps54 (Nat.le_of_ble_eq_true rfl) hB ?_
   refine Z349 ?_; refine Z189 ?_; refine Z23 ?_; refine Z291 ?_; refine Z217 ?_; refine Z336 ?_; refine Z217 ?_; refine Z225 ?_; refine z7 (zz L (vs := [_, _]) (qm rfl) rfl rfl rfl rfl ⟨_, rfl⟩) rfl ?_; refine Z235 ?_
   refine yd L (rs := [.cell 6 32, .tmp 7]) rfl (fun _ _ h => h) Since.refl fun u H hH hle => ?_
   exact ⟨_, yk rfl, rfl, zd4 ⟨_, _, rfl, ⟨zs, hzs, hrow.le hle, hrv.le hle⟩, hpv.le hle⟩⟩
  ·obtain ⟨j, rfl⟩ : ∃ j : Nat, r = ((j + 1 : Nat) : Int) := ⟨(r - 1).toNat, by omega⟩
   have hws : IntKind.u64.wrap (((j + 1 : Nat) : Int) - 1) = ((j : Nat) : Int) := (wrap_u64 (by omega) (by omega)).trans (by omega)
   by_cases hjl : j < S.R.length
   ·rw [zfr] at hk
    obtain ⟨o, ho⟩ := zae hjl
    rw [ho] at hk
    cases o with
    | some t => exact absurd rfl hk
    | none =>
     obtain ⟨v, hv⟩ := zk8 hzs ho
     have hc := zrn hv
     refine yf Tryz.func54 rfl Tryz.ntmps54 (Nat.le_of_ble_eq_true rfl) hB ?_
     refine Z349 ?_; refine Z189 ?_; refine Z12 ?_; refine Z140 ?_; refine Z260 ?_; refine z7 (zau rfl rfl rfl zbg.1 zbg.2 (wrap_u64 (by omega) (by omega))) rfl ?_; refine Z304 ?_; refine Z1 ?_; refine Z212 ?_; refine Z228 ?_; refine z7 (qu L _ rfl rfl rfl rfl rfl rfl rfl (by first | omega | decide) (by assumption)) rfl ?_; refine Z357 ?_; refine Z392 ?_; refine Z225 ?_; refine z7 (zz L (vs := [_, _]) (qm rfl) rfl rfl rfl rfl ⟨_, rfl⟩) rfl ?_; refine Z235 ?_
     refine yd L (rs := [.cell 6 32, .tmp 7]) rfl (fun _ _ h => h) Since.refl fun u H hH hle => ?_
     exact ⟨_, yk rfl, rfl, zd4 ⟨_, _, rfl, ⟨zs, hzs, hrow.le hle, hrv.le hle⟩, hpv.le hle⟩⟩
   ·refine yf Tryz.func54 rfl Tryz.ntmps54 (Nat.le_of_ble_eq_true rfl) hB ?_
    refine Z349 ?_; refine Z189 ?_; refine Z12 ?_; refine Z140 ?_; refine Z260 ?_; refine z7 (zau rfl rfl rfl zbg.1 zbg.2 (wrap_u64 (by omega) (by omega))) rfl ?_; refine Z39 ?_; refine Z8 ?_; refine Z336 ?_; refine Z217 ?_; refine Z225 ?_; refine z7 (zz L (vs := [_, _]) (qm rfl) rfl rfl rfl rfl ⟨_, rfl⟩) rfl ?_; refine Z235 ?_
    refine yd L (rs := [.cell 6 32, .tmp 7]) rfl (fun _ _ h => h) Since.refl fun u H hH hle => ?_
    exact ⟨_, yk rfl, rfl, zd4 ⟨_, _, rfl, ⟨zs, hzs, hrow.le hle, hrv.le hle⟩, hpv.le hle⟩⟩
end Go.V.L10
set_option maxRecDepth 20000
namespace Go.V.L10
open Go.Proofs Go.RowKit Go.V Go.V.L2 Go.V.L8 Go.V.L6
theorem zqw {α : Type} {f : α → List Value} {l : List α} {i : Nat} {x : α} (h : l[i]? = some x) (rest : List Value) : l.flatMap f ++ rest = (l.take i).flatMap f ++ (f x ++ ((l.drop (i + 1)).flatMap f ++ rest)) := by
 have hi := get_lt h
 have e : l = l.take i ++ x :: l.drop (i + 1) := by
  rw [show x :: l.drop (i + 1) = l.drop i by rw [List.drop_eq_getElem_cons hi, zd0 h], List.take_append_drop]
 conv => lhs; rw [e, List.flatMap_append, List.flatMap_cons]
 simp only [List.append_assoc]
theorem z2l {α : Type} {f : α → List Value} {s : Nat} (hf : ∀ a, (f a).length = s) {l : List α} {i : Nat} {x : α} (h : l[i]? = some x) (y : α) (rest : List Value) : (l.flatMap f ++ rest).take (0 + i * s) ++ (f y ++ (l.flatMap f ++ rest).drop (0 + i * s + s)) = (l.set i y).flatMap f ++ rest := by
 have hi := get_lt h
 have hl : ((l.take i).flatMap f).length = i * s := by rw [zch hf, List.length_take, Nat.min_eq_left (Nat.le_of_lt hi)]
 have hs : (l.set i y)[i]? = some y := by rw [List.getElem?_set_self hi]
 rw [zqw h rest, zqw hs rest, List.take_set_of_le (Nat.le_refl _), List.drop_set_of_lt (Nat.lt_succ_self i)]
 have hx := hf x
 generalize (l.take i).flatMap f = A at hl ⊢
 generalize (l.drop (i + 1)).flatMap f ++ rest = T
 have e1 : (A ++ (f x ++ T)).take (0 + i * s) = A := by rw [Nat.zero_add, ← hl]; exact List.take_left
 have e2 : (A ++ (f x ++ T)).drop (0 + i * s + s) = T := by
  rw [← List.append_assoc, Nat.zero_add, ← hl]
  exact List.drop_left' (by rw [List.length_append, hx])
 rw [e1, e2]
def z0i (zs : List zkx) (g : Int) : List zkx := zs.set (g - 1).toNat (none, .slice none 0 0)
def zhz (zs : List zkx) (l : List Int) : List zkx := l.foldl z0i zs
theorem zsk {zs : List zkx} {l : List Int} {i : Nat} {g : Int} (h : l[i]? = some g) : zhz zs (l.take (i + 1)) = z0i (zhz zs (l.take i)) g := by
 unfold zhz; rw [zbr h, List.foldl_append]; rfl
theorem zxq (zs : List zkx) (g : Int) : (z0i zs g).map (·.1) = clr (zs.map (·.1)) g := by unfold z0i clr; rw [List.map_set]
theorem zkj : ∀ (l : List Int) (zs : List zkx), (zhz zs l).map (·.1) = clrL (zs.map (·.1)) l
 | [], _ => rfl
 | g :: l, zs => by
  have := zkj l (z0i zs g)
  rw [zxq] at this
  exact this
theorem zvk (l : List Int) (zs : List zkx) : (zhz zs l).length = zs.length := by
 have := congrArg List.length (zkj l zs)
 rw [List.length_map, zdz, List.length_map] at this
 exact this
theorem RowOK.clr {zs : List zkx} {H : Heap} (h : RowOK zs H) (g : Int) : RowOK (z0i zs g) H := fun z hz => by
 rcases List.mem_or_eq_of_mem_set hz with hz | rfl
 ·exact h z hz
 ·exact SlV.nil
theorem RowOK.clrL : ∀ {l : List Int} {zs : List zkx} {H : Heap}, RowOK zs H → RowOK (zhz zs l) H
 | [], _, _, h => h
 | g :: l, _, _, h => RowOK.clrL (l := l) (h.clr g)
attribute [local irreducible] V N X VO Par StepOK Has Ret RetL RetO RetT zcb zdt RetY Src
def Cl10P (S : Sto) (g : List Int) (e : Int) : Value → Heap → Prop := fun v H => ∃ sv gv, v = .tuple #[sv, gv, .int .i64 e] ∧ RsS S sv H ∧ RsV g false gv H
theorem Cl10P.mono {S : Sto} {g : List Int} {e : Int} : Kn.mono (.sat (Cl10P S g e)) := fun _ _ _ ⟨a, b, h1, h2, h3⟩ hle => ⟨a, b, h1, h2.le hle, h3.le hle⟩
set_option maxHeartbeats 1000000 in
set_option maxRecDepth 20000 in
theorem zkt {S : Sto} {keep : Int} (hn : S.R.length ≠ 0) (hR : S.R.length ≤ 100000) (hz : S.P.length ≤ 100000) {v : Value} {w : World} {B : Heap} (hB : B.Le (hp w)) (hv : RsS S v B) :
  Ret Tryz.prog 55 [v, .int .i64 keep] w B (Cl10P (zdb S keep).1 (zdb S keep).2.1 (zdb S keep).2.2) := by
 obtain ⟨rv, pv, rfl, ⟨zs, hzs, hrow, hrv⟩, hpv⟩ := hv
 have hzl : zs.length = S.R.length := by rw [← hzs, List.length_map]
 obtain ⟨p, c, rfl⟩ := zao hrv
 obtain ⟨p2, c2, rfl⟩ := zao hpv
 have hkl := zj7 S.R S.R.length
 by_cases hk1 : keep < 1
 ·have hS : zdb S keep = (S, [], 4) := by unfold zdb; rw [if_neg (by omega)]
  rw [hS]
  refine yf Tryz.func55 rfl Tryz.ntmps55 (Nat.le_of_ble_eq_true rfl) hB ?_
  refine Z156 ?_; refine Z263 ?_; refine Z189 ?_; refine Z7 ?_; refine Z183 ?_; refine Z8 ?_; refine Z225 ?_; refine z7 (zz L (vs := [_, _]) (qm rfl) rfl rfl rfl rfl ⟨_, rfl⟩) rfl ?_; refine Z19 ?_; refine Z185 ?_
  refine yd L (rs := [.cell 4 32, .tmp 5, .tmp 6]) rfl (fun _ _ h => h) Since.refl fun u H hH hle => ?_
  exact ⟨_, yk rfl, rfl, _, _, rfl, ⟨_, _, rfl, ⟨zs, hzs, hrow.le hle, hrv.le hle⟩, hpv.le hle⟩, SlV.nil⟩
 ·by_cases hk2 : 1024 < keep
  ·have hS : zdb S keep = (S, [], 4) := by unfold zdb; rw [if_neg (by omega)]
   rw [hS]
   refine yf Tryz.func55 rfl Tryz.ntmps55 (Nat.le_of_ble_eq_true rfl) hB ?_
   refine Z156 ?_; refine Z263 ?_; refine Z189 ?_; refine Z10 ?_; refine Z140 ?_; refine Z39 ?_; refine Z8 ?_; refine Z225 ?_; refine z7 (zz L (vs := [_, _]) (qm rfl) rfl rfl rfl rfl ⟨_, rfl⟩) rfl ?_; refine Z19 ?_; refine Z185 ?_
   refine yd L (rs := [.cell 4 32, .tmp 5, .tmp 6]) rfl (fun _ _ h => h) Since.refl fun u H hH hle => ?_
   exact ⟨_, yk rfl, rfl, _, _, rfl, ⟨_, _, rfl, ⟨zs, hzs, hrow.le hle, hrv.le hle⟩, hpv.le hle⟩, SlV.nil⟩
  ·obtain ⟨k, rfl⟩ : ∃ k : Nat, keep = (k : Int) := ⟨keep.toNat, by omega⟩
   have hS : zdb S k = (⟨clrL S.R (zc9 S.P (zbj S.R) k), S.P⟩, zc9 S.P (zbj S.R) k, 0) := by unfold zdb; rw [if_pos (by omega)]; rfl
   rw [hS]
   have hgp : ∀ x ∈ zc9 S.P (zbj S.R) k, 0 < x ∧ x ≤ S.R.length := fun x hx => by
    unfold zc9 at hx
    exact zet (zeq.1 (List.mem_of_mem_take (List.mem_filter.1 hx).1))
   have hgl : (zc9 S.P (zbj S.R) k).length ≤ 100000 := by
    unfold zc9
    refine Nat.le_trans (List.length_filter_le ..) ?_
    rw [List.length_take]
    have : (zbj S.R).length ≤ S.R.length := hkl
    omega
   generalize hg : zc9 S.P (zbj S.R) k = g at hgp hgl
   have hlen : (zs.flatMap rrc).length = zs.length * 2 := zch zhl zs
   have hpl := zp7 hrow
   refine yf Tryz.func55 rfl Tryz.ntmps55 (Nat.le_of_ble_eq_true rfl) hB ?_
   refine Z156 ?_; refine Z263 ?_; refine Z189 ?_; refine Z10 ?_; refine Z140 ?_; refine Z31 ?_; refine Z284 ?_
   refine Z83 ?_; refine Z362 ?_; refine z8 (zz L (vs := [_, _]) (qm rfl) rfl rfl rfl rfl ⟨_, rfl⟩) rfl ?_; refine z8 (yr (φ := RsV (zbj S.R) false) L rfl rfl (zk rfl) rfl rfl rfl SlV.mono (fun u H hH hle _ => ze2 hzs (by omega) ⟨_, _, _, rfl⟩ hH (hrv.le hle))) rfl ?_; refine Z3 ?_; refine z8 (yr (φ := RsV g false) L rfl rfl (zk rfl) rfl rfl rfl SlV.mono (fun u H hH hle _ v1 h1 v2 h2 => by rw [← hg]; exact ztj hz (Nat.le_trans hkl hR) (by omega) hH h1 h2)) rfl ?_; refine Z90 ?_; refine Z290 ?_
   refine qd (id := 4) [(28, [25]), (100008, [28])] mixed (by kernel_rfl) ?_; refine Z362 ?_; refine z8 (StepOK.turn (zcw L rfl rfl rfl (zh1 rfl) rfl z38 hlen hpl (by omega) (by omega)) (zyl (by omega))) rfl ?_; refine Z218 ?_; refine za3 (zlc (q := 25) (X := z4g 2 zs.length _) (fun x => [(0, .slice (some ⟨x.1.1, 0, none⟩) zs.length x.1.2.1), (1, .slice p2 S.P.length c2)]) (fun x => [.slice (some ⟨x.1.1, 0, none⟩) zs.length x.1.2.1, .slice p2 S.P.length c2]) rfl rfl rfl rfl z1m (fun _ => rfl) (fun _ => by rfl)) rfl rfl ?_; refine Z129 ?_; refine za3 (zlb L (q := 28) rfl (fun _ => by exact ⟨rfl, rfl⟩) rfl rfl rfl rfl rfl) rfl rfl ?_; refine Z149 ?_; refine Z139 ?_
   refine zi2 8 902 rfl fun x => ?_
   obtain ⟨b8, ⟨b25, cap, rest⟩, hcap, _, hfl⟩ := x
   try dsimp only at hcap hfl ⊢
   rw [zoa]
   refine zew 902 903 rfl (zar _) ?_
   refine Z38 ?_; refine Z196 ?_
   refine zaj (fun y : Nat => [(4, .own (zfa [.slice none 0 0, .slice none 0 0] z3l)), (7, .sat (RsV g false)), (8, .is (.pointer (some ⟨b8, 0, none⟩))), (9, .is (.int .i64 y)), (902, .own (zal b8 [.slice (some ⟨b25, 0, none⟩) zs.length cap, .slice p2 S.P.length c2] z3l)), (903, .own (zal b25 ((zhz zs (g.take y)).flatMap rrc ++ rest) z4n))])
    (fun y => y ≤ g.length) (fun y => g.length - y) 0 (Nat.zero_le _) ⟨rfl, rfl, rfl, rfl, rfl, rfl, trivial⟩ ?_
   rintro i hi
   try dsimp only at hi ⊢
   have hzc := zvk (g.take i) zs
   by_cases hlt : i < g.length
   ·obtain ⟨x, hx⟩ := zae hlt
    have hc := zjq hx
    have hxp := hgp x (List.mem_of_getElem? hx)
    obtain ⟨j, rfl⟩ : ∃ j : Nat, x = ((j + 1 : Nat) : Int) := ⟨(x - 1).toNat, by omega⟩
    have hws : IntKind.u64.wrap (((j + 1 : Nat) : Int) - 1) = ((j : Nat) : Int) := (wrap_u64 (by omega) (by omega)).trans (by omega)
    have hwk : IntKind.i64.wrap ((i : Int) + 1) = ((i + 1 : Nat) : Int) := zaa (by omega) (by omega)
    obtain ⟨z0, hz0⟩ := zae (show j < (zhz zs (g.take i)).length by omega)
    have hst := z2l zhl hz0 (none, .slice none 0 0) rest
    have hble : Nat.ble (0 + j * 2 + 2) ((zhz zs (g.take i)).flatMap rrc ++ rest).length = true := Nat.ble_eq_true_of_le (by rw [List.length_append, zch zhl]; omega)
    have hnx : (zhz zs (g.take i)).set j (none, .slice none 0 0) = zhz zs (g.take (i + 1)) := by
     rw [zsk hx]; unfold z0i; congr 1; omega
    rw [hnx] at hst
    refine Z139 ?_; refine Z190 ?_; refine Z195 ?_; refine Z230 ?_
    refine qd (id := 8) [(200036, [902]), (100043, [903])] mixed (by kernel_rfl) ?_; refine Z25 ?_; refine qn (qp L (q := 902) rfl rfl rfl rfl rfl rfl) rfl rfl ?_; refine Z198 ?_; refine z8 (qu L _ rfl rfl rfl rfl rfl rfl rfl (by first | omega | decide) (by assumption)) rfl ?_; refine Z118 ?_; refine Z58 ?_; refine z8 (yv (cs := [_, _]) rfl rfl z3o rfl rfl) rfl ?_; refine z8 (qg L _ rfl rfl rfl rfl rfl rfl rfl (by omega)) rfl ?_; refine yy (yw L (q := 903) rfl rfl rfl rfl rfl rfl hble rfl hst) rfl ?_; refine Z275 ?_; refine Z193 ?_; refine Z209 ?_
    exact yh (x := i) (i + 1) hlt (by omega) ⟨rfl, rfl, rfl, rfl, rfl, rfl, trivial⟩
   ·obtain rfl : i = g.length := by omega
    rw [List.take_length] at hzc ⊢
    refine Z139 ?_; refine Z190 ?_; refine Z272 ?_
    refine zy7 903 rfl fun H2 hs2 _ hb25 => ?_
    refine Z59 ?_; refine yq (zam L (q := 902) (vs := [_, _]) rfl rfl rfl rfl rfl rfl ⟨_, rfl⟩) ?_; refine Z4 ?_; refine Z19 ?_; refine Z51 ?_; refine Z138 ?_
    refine yd L (rs := [.cell 4 32, .tmp 5, .tmp 6]) rfl (fun _ _ h => h) hs2 fun u H hH hle => ?_
    have hrw : RwV (zhz zs g) (.slice (some ⟨b25, 0, none⟩) zs.length cap) H2 := by
     unfold RwV
     rw [hzc]
     refine ⟨by rw [zch zhl, hzc], .inr ⟨b25, 0, cap, _, _, _, rfl, hb25, ?_, hcap, fun h => by cases h⟩⟩
     show (((zhz zs g).flatMap rrc ++ rest).drop 0).take _ = _
     rw [List.drop_zero]
     exact List.take_left
    exact ⟨_, yk rfl, rfl, fun gv hgv => ⟨_, _, rfl, ⟨_, _, rfl, ⟨_, by rw [zkj, hzs], ((hrow.le hs2.le).clrL).le hle, hrw.le hle⟩, (hpv.le hs2.le).le hle⟩, hgv⟩⟩
end Go.V.L10
set_option maxRecDepth 20000
namespace Go.V.L10
open Go.Proofs Go.RowKit Go.V Go.V.L2 Go.V.L8 Go.V.L6
abbrev zyi : TypeId := 34
abbrev z0x : TypeId := 70
def BhG (pb b : Nat) (S : Sto) : GR := GEx (fun x : Value × Value => zab pb [zho b, x.1, x.2] zyi) (fun x H => RlV S.R x.1 H ∧ RsV S.P false x.2 H) fun _ _ _ ⟨h1, h2⟩ hle => ⟨h1.le hle, h2.le hle⟩
theorem zmz (pb b : Nat) (S : Sto) : (BhG pb b S).res = ExR (fun x : Value × Value => zal pb [zho b, x.1, x.2] zyi) (fun x H => RlV S.R x.1 H ∧ RsV S.P false x.2 H) (fun _ _ _ ⟨h1, h2⟩ hle => ⟨h1.le hle, h2.le hle⟩) := rfl
abbrev BoG (pb b : Nat) (S : Sto) : GR := zyc (BhG pb b S) (StG b S)
theorem zmy (pb b : Nat) (S : Sto) : (BoG pb b S).res = zgv (BhG pb b S).res (StG b S).res := rfl
theorem zie {pb b : Nat} {S : Sto} {lv pv : Value} {B : Heap} (h1 : RlV S.R lv B) (h2 : RsV S.P false pv B) : ∀ (v : Value) H u C, B.Le H → (zal pb [zho b, lv, pv] zyi).P v H u C → (BhG pb b S).res.P v H u C := fun _ _ _ _ hle h => ⟨(lv, pv), ⟨h1.le hle, h2.le hle⟩, h⟩
theorem zi0 {b : Nat} {S : Sto} {lv pv : Value} {cs : List Value} {H : Heap} (h : StP (fun c _ => c = [zho b, lv, pv]) (RsS S) 1 2 cs H) : ∃ lv' pv', cs = [zho b, lv', pv'] ∧ RlV S.R lv' H ∧ RsV S.P false pv' H := by
 obtain ⟨c, v, rfl, ⟨l2, p2, rfl, h1, h2⟩, rfl⟩ := h
 exact ⟨l2, p2, rfl, h1, h2⟩
theorem zgy {S : Sto} {v : Value} {H : Heap} (h : RsS S v H) : (zat v).length = 2 ∧ (zat v).all zbi = true := by
 obtain ⟨lv, pv, rfl, ⟨zs, _, _, h1⟩, h2⟩ := h
 obtain ⟨p, c, rfl⟩ := zao h1
 obtain ⟨p2, c2, rfl⟩ := zao h2
 exact ⟨rfl, rfl⟩
def OvV (o : OO) (v : Value) (H : Heap) : Prop := ∃ mv cv, v = .agg #[.int .u8 o.wh, mv, cv, .int .u8 o.rv, .int .i64 o.kp] ∧ PS3 o.ms false mv H ∧ PS3 o.cs false cv H
theorem OvV.le {o : OO} {v : Value} {H H' : Heap} (h : OvV o v H) (hle : H.Le H') : OvV o v H' := let ⟨a, b, h1, h2, h3⟩ := h; ⟨a, b, h1, h2.le hle, h3.le hle⟩
structure OOK (o : OO) : Prop where
 wh : o.wh ≤ 255
 rv : o.rv ≤ 255
 ms : ∀ c ∈ o.ms, c.1 ≤ 255 ∧ c.2.1 ≤ 255 ∧ c.2.2 ≤ 255
 cs : ∀ c ∈ o.cs, c.1 ≤ 255 ∧ c.2.1 ≤ 255 ∧ c.2.2 ≤ 255
 lm : o.ms.length ≤ 9223372036854775807
 lc : o.cs.length ≤ 9223372036854775807
theorem OOK.rev {o : OO} (h : OOK o) : 0 ≤ o.rev ∧ o.rev < 18446744073709551616 := by
 have := h.rv
 unfold OO.rev
 split <;> omega
attribute [local irreducible] V N X VO Par StepOK Has Ret RetL RetO RetT zcb zdt RetY Src
theorem rev_ret {o : OO} (ho : OOK o) {mv cv : Value} (hp1 : zbi mv = true) (hp2 : zbi cv = true) {w : World} {B : Heap} (hB : B.Le (hp w)) :
  Ret Tryz.prog 36 [.agg #[.int .u8 o.wh, mv, cv, .int .u8 o.rv, .int .i64 o.kp]] w B (fun v _ => v = .int .u64 o.rev) := by
 have hrv := ho.rv
 unfold OO.rev
 refine yf Tryz.func36 rfl Tryz.ntmps36 (Nat.le_of_ble_eq_true rfl) hB ?_
 by_cases h : o.rv = 255
 ·rw [if_pos h]
  refine Z366 ?_; refine Z181 ?_; refine Z23 ?_; refine Z337 ?_
  refine yd L (rs := [.tmp 2]) rfl (fun _ _ h => h) Since.refl fun u H hH hle => ?_
  rfl
 ·rw [if_neg h]
  have hwu : IntKind.u64.wrap (o.rv : Int) = (o.rv : Int) := wrap_u64 (by omega) (by omega)
  refine Z366 ?_; refine Z181 ?_; refine Z245 ?_; refine Z318 ?_; refine z7 (zau rfl rfl rfl zyy.1 zyy.2 (wrap_u64 (by omega) (by omega))) rfl ?_; refine Z138 ?_
  refine yd L (rs := [.tmp 2]) rfl (fun _ _ h => h) Since.refl fun u H hH hle => ?_
  rfl
end Go.V.L10
