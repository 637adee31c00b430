/- Texts on the way to StoresDelta, part 6: one behind another. -/
import Derived.Test.YtcppaheijljnfaaGreatStoresDeltaM5
set_option linter.unusedVariables false
set_option linter.unusedSimpArgs false
set_option maxRecDepth 20000
namespace Go.V.L8
open Go.Proofs Go.RowKit Go.V Go.V.L2 Go.V.L3 Go.V.L6
theorem zxn {P X D : List CH} {a : Nat} (ha : P.length = a) {j : Nat} {x : CH} (h : X[j]? = some x) (i : Nat) (hi : i = a + j) : (P ++ (X ++ D))[i]? = some x := by
 subst hi ha
 have := get_lt h
 rw [List.getElem?_append_right (by omega), show P.length + j - P.length = j by omega, List.getElem?_append_left this]; exact h
theorem z0l {P X Y D : List CH} {a mm : Nat} (ha : P.length = a) (hx : a + X.length = mm) {j : Nat} {y : CH} (h : Y[j]? = some y) (i : Nat) (hi : i = mm + j) : (P ++ (X ++ (Y ++ D)))[i]? = some y := by
 have e : P ++ (X ++ (Y ++ D)) = (P ++ X) ++ (Y ++ D) := by simp
 rw [e]
 exact zxn (by rw [List.length_append]; omega) h i hi
abbrev z1g (l : List CH) : Prop := Srt (fun c : CH => c.1) za7 l
theorem zi2 (i j : Nat) : ((i : Int) + (j : Int)).fdiv (2 ^ min (1 : Int).toNat IntKind.u64.bits) = ((i + j) / 2 : Nat) := by
 show ((i : Int) + (j : Int)).fdiv 2 = _
 rw [Int.fdiv_eq_ediv_of_nonneg _ (by decide)]
 omega
attribute [local irreducible] V N X VO Par StepOK Has Ret RetL RetO RetT zb3 Src
abbrev SYM : Nat := 174
set_option maxHeartbeats 4000000 in
set_option maxRecDepth 20000 in
theorem zzl {P Y R : List CH} {x : CH} {rest : List Value} {b m cap a mm e : Nat} (ha : P.length = a) (hmm : a + 1 = mm) (he : mm + Y.length = e) (hY : z1g Y) (hm : (P ++ ([x] ++ (Y ++ R))).length = m) (hm1 : m ≤ 100000) {w : World} {B : Heap} {C : Nat → Prop} (hB : B.Le (hp w))
  (hr : (zab b ((P ++ ([x] ++ (Y ++ R))).flatMap ccs ++ rest) tyC).P B w C) (hC : ∀ k, C k → k < w.heap.size ∧ B k = none) :
  zb3 Tryz.prog SYM [.slice (some ⟨b, 0, none⟩) m cap, .int .i64 a, .int .i64 mm, .int .i64 e, zj0] w B C (zab b ((P ++ (stC ([x] ++ Y) ++ R)).flatMap ccs ++ rest) tyC) := by
 unfold zb3
 refine zap 900 (zab b ((P ++ ([x] ++ (Y ++ R))).flatMap ccs ++ rest) tyC) Tryz.func174 rfl Tryz.ntmps174 (Nat.le_of_ble_eq_true rfl) hB hr hC ?_
 rw [za1]
 have hm' := hm
 simp only [List.length_append, List.length_singleton] at hm'
 refine Z137 ?_; refine Z15 ?_; refine Z138 ?_; refine Z69 ?_; refine Z300 ?_; refine Z304 ?_; refine Z239 ?_; refine Z142 ?_; refine ql ?_
 refine zai (fun s : Nat × Nat => [(0, .is (.slice (some ⟨b, 0, none⟩) m cap)), (1, .is (.int .i64 a)), (4, .is zj0), (10, .is (.int .i64 s.1)), (11, .is (.int .i64 s.2)), (900, .own (zaj b ((P ++ ([x] ++ (Y ++ R))).flatMap ccs ++ rest) tyC))])
  (fun s => mm ≤ s.1 ∧ s.1 ≤ s.2 ∧ s.2 ≤ e ∧ (∀ (j : Nat) (z : CH), j < s.1 - mm → Y[j]? = some z → za7 z.1 x.1 < 0) ∧ ∀ (j : Nat) (z : CH), s.2 - mm ≤ j → Y[j]? = some z → ¬ za7 z.1 x.1 < 0) (fun s => s.2 - s.1) (mm, e)
  ⟨Nat.le_refl _, by dsimp only; omega, Nat.le_refl _, fun j z h => (by dsimp only at h; omega), fun j z h hz => (by have := get_lt hz; dsimp only at h; omega)⟩ ⟨rfl, rfl, rfl, rfl, rfl, rfl, trivial⟩ ?_
 rintro ⟨i, j⟩ ⟨h1, h2, h3, h4, h5⟩
 dsimp only at h1 h2 h3 h4 h5 ⊢
 by_cases hlt : i < j
 ·have hsh := zi2 i j
  obtain ⟨h, hh⟩ : ∃ h, (i + j) / 2 = h := ⟨_, rfl⟩
  rw [hh] at hsh
  obtain ⟨y, hy⟩ := zae (l := Y) (show h - mm < Y.length by omega)
  have q1 := zbv (rest := rest) (z0l (X := [x]) (D := R) (mm := mm) ha hmm hy h (by omega)) (0 + h * 7) (by omega)
  have q2 := zbv (rest := rest) (zxn (X := [x]) (D := Y ++ R) ha (j := 0) rfl a (by omega)) (0 + a * 7) (by omega)
  by_cases hc : za7 y.1 x.1 < 0
  ·refine Z229 ?_; refine Z402 ?_; refine Z333 ?_; refine Z21 ?_; refine z7 (zax rfl rfl rfl zbl.1 zbl.2 (wrap_u64 (by omega) (by omega))) rfl ?_; refine Z101 ?_; refine z7 (zax rfl rfl rfl zbm.1 zbm.2 (zaa (by omega) (by omega))) rfl ?_; refine Z142 ?_; refine qg (id := 5) [(200044, [900]), (200048, [900])] mixed (by kernel_rfl) ?_; refine Z177 ?_; refine z8 (qh L _ rfl rfl rfl rfl rfl rfl rfl (by omega)) rfl ?_; refine qv (zam L (q := 900) (vs := [_, _, _, _, _, _, _]) rfl rfl rfl rfl rfl rfl q1) rfl rfl ?_; refine Z143 ?_; refine z8 (qh L _ rfl rfl rfl rfl rfl rfl rfl (by omega)) rfl ?_; refine qv (zam L (q := 900) (vs := [_, _, _, _, _, _, _]) rfl rfl rfl rfl rfl rfl q2) rfl rfl ?_; refine z8 (zw L rfl rfl (zk rfl) rfl rfl rfl (fun u H hH _ _ => zdh hH)) rfl ?_; refine Z75 ?_; refine Z211 ?_; refine Z187 ?_; refine Z190 ?_; refine yc ?_
   exact yk (x := (i, j)) (h + 1, j) ⟨by dsimp only; omega, by dsimp only; omega, h3, fun k z hk hz => by
    dsimp only at hk
    exact zse cmpT_ord (zfb cmpT_ord hY hz hy (by omega)) hc, h5⟩ (by dsimp only; omega) ⟨rfl, rfl, rfl, rfl, rfl, rfl, trivial⟩
  ·refine Z229 ?_; refine Z402 ?_; refine Z333 ?_; refine Z21 ?_; refine z7 (zax rfl rfl rfl zbl.1 zbl.2 (wrap_u64 (by omega) (by omega))) rfl ?_; refine Z101 ?_; refine z7 (zax rfl rfl rfl zbm.1 zbm.2 (zaa (by omega) (by omega))) rfl ?_; refine Z142 ?_; refine qg (id := 5) [(200044, [900]), (200048, [900])] mixed (by kernel_rfl) ?_; refine Z177 ?_; refine z8 (qh L _ rfl rfl rfl rfl rfl rfl rfl (by omega)) rfl ?_; refine qv (zam L (q := 900) (vs := [_, _, _, _, _, _, _]) rfl rfl rfl rfl rfl rfl q1) rfl rfl ?_; refine Z143 ?_; refine z8 (qh L _ rfl rfl rfl rfl rfl rfl rfl (by omega)) rfl ?_; refine qv (zam L (q := 900) (vs := [_, _, _, _, _, _, _]) rfl rfl rfl rfl rfl rfl q2) rfl rfl ?_; refine z8 (zw L rfl rfl (zk rfl) rfl rfl rfl (fun u H hH _ _ => zdh hH)) rfl ?_; refine Z88 ?_; refine Z180 ?_; refine Z195 ?_; refine Z246 ?_
   exact yk (x := (i, j)) (i, h) ⟨h1, by dsimp only; omega, by dsimp only; omega, h4, fun k z hk hz hcx => by
    dsimp only at hk
    exact hc (zse cmpT_ord (zfb cmpT_ord hY hy hz (by omega)) hcx)⟩ (by dsimp only; omega) ⟨rfl, rfl, rfl, rfl, rfl, rfl, trivial⟩
 ·obtain rfl : i = j := by omega
  have hfin := zz5 (k := fun c : CH => c.1) cmpT_ord hY h4 h5
  have hal : (Y.take (i - mm)).length = i - mm := by rw [List.length_take]; omega
  have hYl : (Y.take (i - mm)).length + (Y.drop (i - mm)).length = Y.length := by rw [← List.length_append, List.take_append_drop]
  have e0 : P ++ ([x] ++ (Y ++ R)) = P ++ ([] ++ (x :: (Y.take (i - mm) ++ (Y.drop (i - mm) ++ R)))) := by
   rw [← List.append_assoc (Y.take _), List.take_append_drop]; rfl
  rw [e0]
  have e9 : P ++ (Y.take (i - mm) ++ (x :: (Y.drop (i - mm) ++ R))) = P ++ (stC ([x] ++ Y) ++ R) := by
   unfold stC
   rw [← hfin]; simp
  generalize Y.take (i - mm) = A at *
  generalize Y.drop (i - mm) = D at *
  clear hfin h4 h5 e0
  refine Z229 ?_; refine Z206 ?_; refine Z325 ?_; refine Z197 ?_
  refine zai (fun t : Nat => [(0, .is (.slice (some ⟨b, 0, none⟩) m cap)), (10, .is (.int .i64 i)), (13, .is (.int .i64 (a + t : Nat))), (900, .own (zaj b ((P ++ (A.take t ++ (x :: (A.drop t ++ (D ++ R))))).flatMap ccs ++ rest) tyC))]) (fun t => t ≤ A.length) (fun t => A.length - t) 0 (Nat.zero_le _) ⟨rfl, rfl, rfl, rfl, trivial⟩ ?_
  rintro t ht
  by_cases htl : t < A.length
  ·obtain ⟨z, hz⟩ := zae htl
   have e0 : P ++ (A.take t ++ (x :: (A.drop t ++ (D ++ R)))) = (P ++ A.take t) ++ x :: ([] ++ z :: (A.drop (t + 1) ++ (D ++ R))) := by rw [zez hz]; simp
   have e1 : (P ++ A.take t) ++ z :: ([] ++ x :: (A.drop (t + 1) ++ (D ++ R))) = P ++ (A.take (t + 1) ++ (x :: (A.drop (t + 1) ++ (D ++ R)))) := by rw [List.take_add_one, hz]; simp
   have l1 : (P ++ A.take t).length = a + t := by rw [List.length_append, List.length_take]; omega
   have l2 : (P ++ A.take t).length + 1 + ([] : List CH).length = a + t + 1 := by rw [l1]; rfl
   have g1 := ziu (x := x) (y := z) (M := []) (D := A.drop (t + 1) ++ (D ++ R)) l1
   have g2 := zit (x := x) (y := z) (D := A.drop (t + 1) ++ (D ++ R)) l2
   have g3 := zo2 (x := x) (y := z) (D := A.drop (t + 1) ++ (D ++ R)) l1 l2
   rw [e0]
   rw [e1] at g3
   generalize (P ++ A.take t) ++ x :: ([] ++ z :: (A.drop (t + 1) ++ (D ++ R))) = K at *
   have k1 := get_lt g1
   have k2 := get_lt g2
   have hKl : a + t + 1 < m := by
    have : a + 1 + A.length + D.length ≤ m := by omega
    omega
   have q1 := zbv (rest := rest) g1 (0 + (a + t) * 7) (by omega)
   have q2 := zbv (rest := rest) g2 (0 + (a + t + 1) * 7) (by omega)
   have s1 := zdn (rest := rest) (z := z) k1 (0 + (a + t) * 7) (by omega)
   have b1 := zdo (rest := rest) k1 (0 + (a + t) * 7) (by omega)
   have k3 : a + t + 1 < (K.set (a + t) z).length := by rw [List.length_set]; exact k2
   have s2 := zdn (rest := rest) (z := x) k3 (0 + (a + t + 1) * 7) (by omega)
   have b2 := zdo (rest := rest) k3 (0 + (a + t + 1) * 7) (by omega)
   rw [g3] at s2
   have a1 : IntKind.i64.wrap (((a + t : Nat) : Int) + 1) = ((a + t + 1 : Nat) : Int) := zaa (by omega) (by omega)
   refine Z137 ?_; refine Z357 ?_; refine Z69 ?_; refine Z170 ?_; refine Z232 ?_; refine qg (id := 11) [(200070, [900]), (200074, [900]), (100075, [900]), (100076, [900])] mixed (by kernel_rfl) ?_; refine Z308 ?_; refine Z33 ?_; refine Z143 ?_; refine Z33 ?_; refine z8 (qh L _ rfl rfl rfl rfl rfl rfl rfl (by omega)) rfl ?_; refine qv (zam L (q := 900) (vs := [_, _, _, _, _, _, _]) rfl rfl rfl rfl rfl rfl q2) rfl rfl ?_; refine Z143 ?_; refine z8 (qh L _ rfl rfl rfl rfl rfl rfl rfl (by omega)) rfl ?_; refine qv (zam L (q := 900) (vs := [_, _, _, _, _, _, _]) rfl rfl rfl rfl rfl rfl q1) rfl rfl ?_; refine z8 (qh L _ rfl rfl rfl rfl rfl rfl rfl (by omega)) rfl ?_; refine x5 (yy L (q := 900) rfl rfl rfl rfl rfl rfl b1 rfl s1) rfl ?_; refine z8 (qh L _ rfl rfl rfl rfl rfl rfl rfl (by omega)) rfl ?_; refine x5 (yy L (q := 900) rfl rfl rfl rfl rfl rfl b2 rfl s2) rfl ?_; refine Z264 ?_; refine Z315 ?_; refine Z213 ?_
   exact yk (x := t) (t + 1) (by omega) (by omega) ⟨rfl, rfl, rfl, rfl, trivial⟩
  ·have hA : P ++ (A.take t ++ (x :: (A.drop t ++ (D ++ R)))) = P ++ (stC ([x] ++ Y) ++ R) := by
    rw [List.take_of_length_le (by omega), List.drop_eq_nil_of_le (by omega), List.nil_append, e9]
   rw [hA]
   refine Z137 ?_; refine Z357 ?_; refine Z69 ?_; refine Z206 ?_
   exact zbg L 900 (r := zab b _ tyC) rfl (fun _ _ h => h) Since.refl rfl rfl
set_option maxHeartbeats 4000000 in
set_option maxRecDepth 20000 in
theorem zzm {P X R : List CH} {y : CH} {rest : List Value} {b m cap a mm e : Nat} (ha : P.length = a) (hmm : a + X.length = mm) (hx1 : ¬ X.length = 1) (he : mm + 1 = e) (hX : z1g X) (hm : (P ++ (X ++ ([y] ++ R))).length = m) (hm1 : m ≤ 100000) {w : World} {B : Heap} {C : Nat → Prop} (hB : B.Le (hp w))
  (hr : (zab b ((P ++ (X ++ ([y] ++ R))).flatMap ccs ++ rest) tyC).P B w C) (hC : ∀ k, C k → k < w.heap.size ∧ B k = none) :
  zb3 Tryz.prog SYM [.slice (some ⟨b, 0, none⟩) m cap, .int .i64 a, .int .i64 mm, .int .i64 e, zj0] w B C (zab b ((P ++ (stC (X ++ [y]) ++ R)).flatMap ccs ++ rest) tyC) := by
 unfold zb3
 refine zap 900 (zab b ((P ++ (X ++ ([y] ++ R))).flatMap ccs ++ rest) tyC) Tryz.func174 rfl Tryz.ntmps174 (Nat.le_of_ble_eq_true rfl) hB hr hC ?_
 rw [za1]
 have hm' := hm
 simp only [List.length_append, List.length_singleton] at hm'
 refine Z137 ?_; refine Z15 ?_; refine Z138 ?_; refine Z69 ?_; refine Z269 ?_; refine Z80 ?_; refine Z138 ?_; refine Z69 ?_; refine Z300 ?_; refine Z301 ?_; refine Z142 ?_; refine Z271 ?_; refine Z142 ?_; refine ql ?_
 refine zai (fun s : Nat × Nat => [(0, .is (.slice (some ⟨b, 0, none⟩) m cap)), (2, .is (.int .i64 mm)), (4, .is zj0), (14, .is (.int .i64 s.1)), (15, .is (.int .i64 s.2)), (900, .own (zaj b ((P ++ (X ++ ([y] ++ R))).flatMap ccs ++ rest) tyC))])
  (fun s => a ≤ s.1 ∧ s.1 ≤ s.2 ∧ s.2 ≤ mm ∧ (∀ (j : Nat) (z : CH), j < s.1 - a → X[j]? = some z → ¬ za7 y.1 z.1 < 0) ∧ ∀ (j : Nat) (z : CH), s.2 - a ≤ j → X[j]? = some z → za7 y.1 z.1 < 0) (fun s => s.2 - s.1) (a, mm)
  ⟨Nat.le_refl _, by dsimp only; omega, Nat.le_refl _, fun j z h => (by dsimp only at h; omega), fun j z h hz => (by have := get_lt hz; dsimp only at h; omega)⟩ ⟨rfl, rfl, rfl, rfl, rfl, rfl, trivial⟩ ?_
 rintro ⟨i, j⟩ ⟨h1, h2, h3, h4, h5⟩
 dsimp only at h1 h2 h3 h4 h5 ⊢
 by_cases hlt : i < j
 ·have hsh := zi2 i j
  obtain ⟨h, hh⟩ : ∃ h, (i + j) / 2 = h := ⟨_, rfl⟩
  rw [hh] at hsh
  obtain ⟨x, hx⟩ := zae (l := X) (show h - a < X.length by omega)
  have q1 := zbv (rest := rest) (z0l (Y := [y]) (D := R) ha hmm (j := 0) rfl mm (by omega)) (0 + mm * 7) (by omega)
  have q2 := zbv (rest := rest) (zxn (D := [y] ++ R) ha hx h (by omega)) (0 + h * 7) (by omega)
  by_cases hc : za7 y.1 x.1 < 0
  ·refine Z137 ?_; refine Z95 ?_; refine Z138 ?_; refine Z402 ?_; refine Z102 ?_; refine Z138 ?_; refine Z21 ?_; refine z7 (zax rfl rfl rfl zbl.1 zbl.2 (wrap_u64 (by omega) (by omega))) rfl ?_; refine Z101 ?_; refine z7 (zax rfl rfl rfl zbm.1 zbm.2 (zaa (by omega) (by omega))) rfl ?_; refine Z142 ?_; refine qg (id := 17) [(200096, [900]), (200100, [900])] mixed (by kernel_rfl) ?_; refine Z177 ?_; refine z8 (qh L _ rfl rfl rfl rfl rfl rfl rfl (by omega)) rfl ?_; refine qv (zam L (q := 900) (vs := [_, _, _, _, _, _, _]) rfl rfl rfl rfl rfl rfl q1) rfl rfl ?_; refine Z143 ?_; refine z8 (qh L _ rfl rfl rfl rfl rfl rfl rfl (by omega)) rfl ?_; refine qv (zam L (q := 900) (vs := [_, _, _, _, _, _, _]) rfl rfl rfl rfl rfl rfl q2) rfl rfl ?_; refine z8 (zw L rfl rfl (zk rfl) rfl rfl rfl (fun u H hH _ _ => zdh hH)) rfl ?_; refine Z75 ?_; refine Z64 ?_; refine Z180 ?_; refine Z119 ?_; refine Z1 ?_; refine Z246 ?_
   exact yk (x := (i, j)) (i, h) ⟨h1, by dsimp only; omega, by dsimp only; omega, h4, fun k z hk hz => by
    dsimp only at hk
    exact zsc cmpT_ord hc (zfb cmpT_ord hX hx hz (by omega))⟩ (by dsimp only; omega) ⟨rfl, rfl, rfl, rfl, rfl, rfl, trivial⟩
  ·refine Z137 ?_; refine Z95 ?_; refine Z138 ?_; refine Z402 ?_; refine Z102 ?_; refine Z138 ?_; refine Z21 ?_; refine z7 (zax rfl rfl rfl zbl.1 zbl.2 (wrap_u64 (by omega) (by omega))) rfl ?_; refine Z101 ?_; refine z7 (zax rfl rfl rfl zbm.1 zbm.2 (zaa (by omega) (by omega))) rfl ?_; refine Z142 ?_; refine qg (id := 17) [(200096, [900]), (200100, [900])] mixed (by kernel_rfl) ?_; refine Z177 ?_; refine z8 (qh L _ rfl rfl rfl rfl rfl rfl rfl (by omega)) rfl ?_; refine qv (zam L (q := 900) (vs := [_, _, _, _, _, _, _]) rfl rfl rfl rfl rfl rfl q1) rfl rfl ?_; refine Z143 ?_; refine z8 (qh L _ rfl rfl rfl rfl rfl rfl rfl (by omega)) rfl ?_; refine qv (zam L (q := 900) (vs := [_, _, _, _, _, _, _]) rfl rfl rfl rfl rfl rfl q2) rfl rfl ?_; refine z8 (zw L rfl rfl (zk rfl) rfl rfl rfl (fun u H hH _ _ => zdh hH)) rfl ?_; refine Z88 ?_; refine Z64 ?_; refine Z211 ?_; refine Z293 ?_; refine Z190 ?_; refine yc ?_
   exact yk (x := (i, j)) (h + 1, j) ⟨by dsimp only; omega, by dsimp only; omega, h3, fun k z hk hz hcx => by
    dsimp only at hk
    exact hc (zsc cmpT_ord hcx (zfb cmpT_ord hX hz hx (by omega))), h5⟩ (by dsimp only; omega) ⟨rfl, rfl, rfl, rfl, rfl, rfl, trivial⟩
 ·obtain rfl : i = j := by omega
  have hfin := zz4 (k := fun c : CH => c.1) cmpT_ord hX h4 h5
  have hal : (X.take (i - a)).length = i - a := by rw [List.length_take]; omega
  have hXl : (X.take (i - a)).length + (X.drop (i - a)).length = X.length := by rw [← List.length_append, List.take_append_drop]
  have e0 : P ++ (X ++ ([y] ++ R)) = P ++ (X.take (i - a) ++ (X.drop (i - a) ++ (y :: ([] ++ R)))) := by
   rw [← List.append_assoc (X.take _), List.take_append_drop]; rfl
  rw [e0]
  have e9 : P ++ (X.take (i - a) ++ (y :: (X.drop (i - a) ++ R))) = P ++ (stC (X ++ [y]) ++ R) := by
   unfold stC
   rw [← hfin]; simp
  generalize X.take (i - a) = A at *
  generalize X.drop (i - a) = D at *
  clear hfin h4 h5 e0
  have hk0 : mm = i + D.length := by omega
  refine Z137 ?_; refine Z95 ?_; refine Z138 ?_; refine Z206 ?_; refine Z137 ?_; refine Z97 ?_; refine Z1 ?_; refine Z197 ?_
  refine zai (fun t : Nat => [(0, .is (.slice (some ⟨b, 0, none⟩) m cap)), (14, .is (.int .i64 i)), (17, .is (.int .i64 (i + t : Nat))), (900, .own (zaj b ((P ++ (A ++ (D.take t ++ (y :: (D.drop t ++ R))))).flatMap ccs ++ rest) tyC))]) (fun t => t ≤ D.length) (fun t => t) D.length (Nat.le_refl _) ⟨rfl, rfl, by rw [← hk0]; rfl, by rw [List.take_length, List.drop_length]; rfl, trivial⟩ ?_
  rintro t ht
  rcases t with _ | t
  ·rw [List.take_zero, List.drop_zero, List.nil_append, e9, Nat.add_zero]
   refine Z137 ?_; refine Z115 ?_; refine Z138 ?_; refine Z32 ?_; refine Z181 ?_
   exact zbg L 900 (r := zab b _ tyC) rfl (fun _ _ h => h) Since.refl rfl rfl
  ·obtain ⟨z, hz⟩ := zae (l := D) (show t < D.length by omega)
   have e0 : P ++ (A ++ (D.take (t + 1) ++ (y :: (D.drop (t + 1) ++ R)))) = (P ++ (A ++ D.take t)) ++ z :: ([] ++ y :: (D.drop (t + 1) ++ R)) := by rw [List.take_add_one, hz]; simp
   have e1 : (P ++ (A ++ D.take t)) ++ y :: ([] ++ z :: (D.drop (t + 1) ++ R)) = P ++ (A ++ (D.take t ++ (y :: (D.drop t ++ R)))) := by rw [zez hz]; simp
   have l1 : (P ++ (A ++ D.take t)).length = i + t := by rw [List.length_append, List.length_append, List.length_take]; omega
   have l2 : (P ++ (A ++ D.take t)).length + 1 + ([] : List CH).length = i + (t + 1) := by rw [l1]; rfl
   have g1 := ziu (x := z) (y := y) (M := []) (D := D.drop (t + 1) ++ R) l1
   have g2 := zit (x := z) (y := y) (D := D.drop (t + 1) ++ R) l2
   have g3 := zp4 (x := z) (y := y) (D := D.drop (t + 1) ++ R) l1 l2
   rw [e0]
   rw [e1] at g3
   generalize (P ++ (A ++ D.take t)) ++ z :: ([] ++ y :: (D.drop (t + 1) ++ R)) = K at *
   have k1 := get_lt g1
   have k2 := get_lt g2
   have hKl : i + (t + 1) < m := by omega
   have q1 := zbv (rest := rest) g1 (0 + (i + t) * 7) (by omega)
   have q2 := zbv (rest := rest) g2 (0 + (i + (t + 1)) * 7) (by omega)
   have s1 := zdn (rest := rest) (z := z) k2 (0 + (i + (t + 1)) * 7) (by omega)
   have b1 := zdo (rest := rest) k2 (0 + (i + (t + 1)) * 7) (by omega)
   have k3 : i + t < (K.set (i + (t + 1)) z).length := by rw [List.length_set]; exact k1
   have s2 := zdn (rest := rest) (z := y) k3 (0 + (i + t) * 7) (by omega)
   have b2 := zdo (rest := rest) k3 (0 + (i + t) * 7) (by omega)
   rw [g3] at s2
   have a1 : IntKind.i64.wrap (((i + (t + 1) : Nat) : Int) - 1) = ((i + t : Nat) : Int) := zaa (by omega) (by omega) |>.trans (by omega)
   refine Z137 ?_; refine Z115 ?_; refine Z138 ?_; refine Z38 ?_; refine Z141 ?_; refine Z232 ?_; refine qg (id := 23) [(200122, [900]), (200126, [900]), (100127, [900]), (100128, [900])] mixed (by kernel_rfl) ?_; refine Z143 ?_; refine Z243 ?_; refine Z243 ?_; refine z8 (qh L _ rfl rfl rfl rfl rfl rfl rfl (by omega)) rfl ?_; refine qv (zam L (q := 900) (vs := [_, _, _, _, _, _, _]) rfl rfl rfl rfl rfl rfl q1) rfl rfl ?_; refine Z143 ?_; refine z8 (qh L _ rfl rfl rfl rfl rfl rfl rfl (by omega)) rfl ?_; refine qv (zam L (q := 900) (vs := [_, _, _, _, _, _, _]) rfl rfl rfl rfl rfl rfl q2) rfl rfl ?_; refine z8 (qh L _ rfl rfl rfl rfl rfl rfl rfl (by omega)) rfl ?_; refine x5 (yy L (q := 900) rfl rfl rfl rfl rfl rfl b1 rfl s1) rfl ?_; refine z8 (qh L _ rfl rfl rfl rfl rfl rfl rfl (by omega)) rfl ?_; refine x5 (yy L (q := 900) rfl rfl rfl rfl rfl rfl b2 rfl s2) rfl ?_; refine Z264 ?_; refine zf (id := 22) ?_; refine Z227 ?_; refine Z150 ?_
   exact yk (x := t + 1) t (by omega) (by omega) ⟨rfl, rfl, rfl, rfl, trivial⟩
end Go.V.L8
set_option maxRecDepth 20000
namespace Go.V.L8
open Go.Proofs Go.RowKit Go.V Go.V.L2 Go.V.L3 Go.V.L6
theorem zu7 {l : List CH} (h : l.length = 1) : ∃ x, l = [x] := by
 rcases l with _ | ⟨x, _ | ⟨y, l⟩⟩
 ·simp at h
 ·exact ⟨x, rfl⟩
 ·simp at h
theorem zlv {l : List CH} (h : z1g l) : stC l = l := zwl cmpT_ord h
attribute [local irreducible] V N X VO Par StepOK Has Ret RetL RetO RetT zb3 Src
set_option maxHeartbeats 8000000 in
set_option maxRecDepth 20000 in
theorem zti (N0 : Nat) : ∀ {P X Y R : List CH} {rest : List Value} {b m cap a mm e : Nat}, X.length + Y.length ≤ N0 → P.length = a → a + X.length = mm → mm + Y.length = e → 0 < X.length → 0 < Y.length → z1g X → z1g Y → (P ++ (X ++ (Y ++ R))).length = m → m ≤ 100000 → ∀ {w : World} {B : Heap} {C : Nat → Prop}, B.Le (hp w) →
  (zab b ((P ++ (X ++ (Y ++ R))).flatMap ccs ++ rest) tyC).P B w C → (∀ k, C k → k < w.heap.size ∧ B k = none) →
  zb3 Tryz.prog SYM [.slice (some ⟨b, 0, none⟩) m cap, .int .i64 a, .int .i64 mm, .int .i64 e, zj0] w B C (zab b ((P ++ (stC (X ++ Y) ++ R)).flatMap ccs ++ rest) tyC) := by
 induction N0 with
 | zero => intro P X Y R rest b m cap a mm e h1 h2 h3 h4 h5; omega
 | succ N0 ih =>
 intro P X Y R rest b m cap a mm e hN ha hmm he hx hy hX hY hm hm1 w B C hB hr hC
 by_cases hx1 : X.length = 1
 ·obtain ⟨x, rfl⟩ := zu7 hx1
  exact zzl ha (by simpa using hmm) he hY hm hm1 hB hr hC
 by_cases hy1 : Y.length = 1
 ·obtain ⟨y, rfl⟩ := zu7 hy1
  exact zzm ha hmm hx1 (by simpa using he) hX hm hm1 hB hr hC
 unfold zb3
 refine zap 900 (zab b ((P ++ (X ++ (Y ++ R))).flatMap ccs ++ rest) tyC) Tryz.func174 rfl Tryz.ntmps174 (Nat.le_of_ble_eq_true rfl) hB hr hC ?_
 rw [za1]
 have hm' := hm
 simp only [List.length_append] at hm'
 have hsh := zi2 a e
 obtain ⟨mid, hmid⟩ : ∃ mid, (a + e) / 2 = mid := ⟨_, rfl⟩
 rw [hmid] at hsh
 have hnn : IntKind.i64.wrap ((mid : Int) + (mm : Int)) = ((mid + mm : Nat) : Int) := zaa (by omega) (by omega)
 refine Z137 ?_; refine Z15 ?_; refine Z138 ?_; refine Z69 ?_; refine Z269 ?_; refine Z80 ?_; refine Z138 ?_; refine Z69 ?_; refine Z240 ?_; refine zf (id := 24) ?_; refine Z138 ?_; refine Z21 ?_; refine z7 (zax rfl rfl rfl zbl.1 zbl.2 (wrap_u64 (by omega) (by omega))) rfl ?_; refine Z101 ?_; refine z7 (zax rfl rfl rfl zbm.1 zbm.2 (zaa (by omega) (by omega))) rfl ?_; refine Z142 ?_; refine zf (id := 25) ?_; refine Z288 ?_; refine Z142 ?_; refine zf (id := 26) ?_; refine Z224 ?_
 refine zfa (fun s : Nat × Nat => [(0, .is (.slice (some ⟨b, 0, none⟩) m cap)), (1, .is (.int .i64 a)), (2, .is (.int .i64 mm)), (3, .is (.int .i64 e)), (4, .is zj0), (18, .is (.int .i64 mid)), (19, .is (.int .i64 (mid + mm : Nat))), (20, .is (.int .i64 s.1)), (21, .is (.int .i64 s.2)), (900, .own (zaj b ((P ++ (X ++ (Y ++ R))).flatMap ccs ++ rest) tyC))]) (fun s => z3z X Y a mm e mid s.1 s.2 ∧ s.1 ≤ s.2) (fun _ => []) ?rest ?first
 case first =>
  by_cases hgt : mid < mm
  ·have hs : IntKind.i64.wrap (((mid + mm : Nat) : Int) - (e : Int)) = ((mid + mm - e : Nat) : Int) := zaa (by omega) (by omega) |>.trans (by omega)
   refine zf (id := 27) ?_; refine Z138 ?_; refine Z38 ?_; refine Z152 ?_; refine zf (id := 28) ?_; refine Z208 ?_; refine Z136 ?_; refine zf (id := 29) ?_; refine Z1 ?_; refine Z150 ?_
   exact za5 (mid + mm - e, mid) Since.refl ⟨⟨hmm, he, by dsimp only; omega, by dsimp only; omega, Nat.le_refl _, by dsimp only; omega, .inr (by dsimp only; omega), .inr rfl⟩, by dsimp only; omega⟩ rfl ⟨rfl, rfl, rfl, rfl, rfl, rfl, rfl, rfl, rfl, rfl, trivial⟩
  ·refine zf (id := 27) ?_; refine Z138 ?_; refine Z32 ?_; refine Z366 ?_; refine zf (id := 30) ?_; refine Z1 ?_; refine Z136 ?_; refine zf (id := 31) ?_; refine Z1 ?_; refine Z150 ?_
   exact za5 (a, mm) Since.refl ⟨⟨hmm, he, Nat.le_refl _, by dsimp only; omega, by dsimp only; omega, Nat.le_refl _, .inl rfl, .inl rfl⟩, by dsimp only; omega⟩ rfl ⟨rfl, rfl, rfl, rfl, rfl, rfl, rfl, rfl, rfl, rfl, trivial⟩
 case rest =>
 rintro ⟨lo, hi⟩ ⟨hb, hlh⟩
 dsimp only at hb hlh ⊢
 have hp : IntKind.i64.wrap (((mid + mm : Nat) : Int) - 1) = ((mid + mm - 1 : Nat) : Int) := zaa (by omega) (by omega) |>.trans (by omega)
 refine zh ?_; refine zf (id := 32) ?_; refine Z227 ?_; refine Z142 ?_; refine ql ?_
 refine zai (fun s : Nat × Nat => [(0, .is (.slice (some ⟨b, 0, none⟩) m cap)), (1, .is (.int .i64 a)), (2, .is (.int .i64 mm)), (3, .is (.int .i64 e)), (4, .is zj0), (18, .is (.int .i64 mid)), (19, .is (.int .i64 (mid + mm : Nat))), (20, .is (.int .i64 s.1)), (21, .is (.int .i64 s.2)), (22, .is (.int .i64 (mid + mm - 1 : Nat))), (900, .own (zaj b ((P ++ (X ++ (Y ++ R))).flatMap ccs ++ rest) tyC))])
  (fun s => SymI (fun c : CH => c.1) za7 X Y a mid lo hi s.1 s.2) (fun s => s.2 - s.1) (lo, hi) (SymI.start hlh) ⟨rfl, rfl, rfl, rfl, rfl, rfl, rfl, rfl, rfl, rfl, rfl, trivial⟩ ?_
 rintro ⟨i, j⟩ hI
 dsimp only at hI ⊢
 have hI' := hI
 have hb' := hb
 obtain ⟨b1, b2, b3, b4, b5, b6, _, _⟩ := hb'
 obtain ⟨i1, i2, i3, _, _⟩ := hI'
 by_cases hlt : i < j
 ·have hsc := zi2 i j
  obtain ⟨c, hc⟩ : ∃ c, (i + j) / 2 = c := ⟨_, rfl⟩
  rw [hc] at hsc
  obtain ⟨x, hxc⟩ := zae (l := X) (show c - a < X.length by omega)
  obtain ⟨y, hyc⟩ := zae (l := Y) (show mid - 1 - c < Y.length by omega)
  have q1 := zbv (rest := rest) (z0l (D := R) ha hmm hyc (mid + mm - 1 - c) (by omega)) (0 + (mid + mm - 1 - c) * 7) (by omega)
  have q2 := zbv (rest := rest) (zxn (D := Y ++ R) ha hxc c (by omega)) (0 + c * 7) (by omega)
  have hpc : IntKind.i64.wrap (((mid + mm - 1 : Nat) : Int) - (c : Int)) = ((mid + mm - 1 - c : Nat) : Int) := zaa (by omega) (by omega) |>.trans (by omega)
  by_cases hcm : za7 y.1 x.1 < 0
  ·refine Z137 ?_; refine zf (id := 33) ?_; refine Z138 ?_; refine Z402 ?_; refine zf (id := 34) ?_; refine Z138 ?_; refine Z21 ?_; refine z7 (zax rfl rfl rfl zbl.1 zbl.2 (wrap_u64 (by omega) (by omega))) rfl ?_; refine Z101 ?_; refine z7 (zax rfl rfl rfl zbm.1 zbm.2 (zaa (by omega) (by omega))) rfl ?_; refine Z142 ?_; refine qg (id := 35) [(200164, [900]), (200168, [900])] mixed (by kernel_rfl) ?_; refine Z143 ?_; refine Z243 ?_; refine z8 (qh L _ rfl rfl rfl rfl rfl rfl rfl (by omega)) rfl ?_; refine qv (zam L (q := 900) (vs := [_, _, _, _, _, _, _]) rfl rfl rfl rfl rfl rfl q1) rfl rfl ?_; refine Z143 ?_; refine z8 (qh L _ rfl rfl rfl rfl rfl rfl rfl (by omega)) rfl ?_; refine qv (zam L (q := 900) (vs := [_, _, _, _, _, _, _]) rfl rfl rfl rfl rfl rfl q2) rfl rfl ?_; refine z8 (zw L rfl rfl (zk rfl) rfl rfl rfl (fun u H hH _ _ => zdh hH)) rfl ?_; refine Z75 ?_; refine Z64 ?_; refine Z180 ?_; refine zf (id := 37) ?_; refine Z1 ?_; refine Z246 ?_
   exact yk (x := (i, j)) (i, c) (hI.down cmpT_ord hX hY hb (by omega) (by omega) hxc hyc hcm) (by dsimp only; omega) ⟨rfl, rfl, rfl, rfl, rfl, rfl, rfl, rfl, rfl, rfl, rfl, trivial⟩
  ·refine Z137 ?_; refine zf (id := 33) ?_; refine Z138 ?_; refine Z402 ?_; refine zf (id := 34) ?_; refine Z138 ?_; refine Z21 ?_; refine z7 (zax rfl rfl rfl zbl.1 zbl.2 (wrap_u64 (by omega) (by omega))) rfl ?_; refine Z101 ?_; refine z7 (zax rfl rfl rfl zbm.1 zbm.2 (zaa (by omega) (by omega))) rfl ?_; refine Z142 ?_; refine qg (id := 35) [(200164, [900]), (200168, [900])] mixed (by kernel_rfl) ?_; refine Z143 ?_; refine Z243 ?_; refine z8 (qh L _ rfl rfl rfl rfl rfl rfl rfl (by omega)) rfl ?_; refine qv (zam L (q := 900) (vs := [_, _, _, _, _, _, _]) rfl rfl rfl rfl rfl rfl q1) rfl rfl ?_; refine Z143 ?_; refine z8 (qh L _ rfl rfl rfl rfl rfl rfl rfl (by omega)) rfl ?_; refine qv (zam L (q := 900) (vs := [_, _, _, _, _, _, _]) rfl rfl rfl rfl rfl rfl q2) rfl rfl ?_; refine z8 (zw L rfl rfl (zk rfl) rfl rfl rfl (fun u H hH _ _ => zdh hH)) rfl ?_; refine Z88 ?_; refine Z64 ?_; refine Z211 ?_; refine zf (id := 36) ?_; refine Z1 ?_; refine Z190 ?_; refine yc ?_
   exact yk (x := (i, j)) (c + 1, j) (hI.up cmpT_ord hX hY hb (by omega) (by omega) hxc hyc hcm) (by dsimp only; omega) ⟨rfl, rfl, rfl, rfl, rfl, rfl, rfl, rfl, rfl, rfl, rfl, trivial⟩
 ·obtain rfl : i = j := by omega
  have hj := zwg cmpT_ord hX hY hb hI
  have hen : IntKind.i64.wrap (((mid + mm : Nat) : Int) - (i : Int)) = ((mid + mm - i : Nat) : Int) := zaa (by omega) (by omega) |>.trans (by omega)
  refine Z137 ?_; refine zf (id := 33) ?_; refine Z138 ?_; refine Z245 ?_; refine zf (id := 38) ?_; refine Z208 ?_; refine Z145 ?_
  have eX : X.take (i - a) ++ X.drop (i - a) = X := List.take_append_drop _ _
  have eY : Y.take (mid - i) ++ Y.drop (mid - i) = Y := List.take_append_drop _ _
  have lA1 : (X.take (i - a)).length = i - a := by rw [List.length_take]; omega
  have lA2 : (X.drop (i - a)).length = mm - i := by rw [List.length_drop]; omega
  have lB1 : (Y.take (mid - i)).length = mid - i := by rw [List.length_take]; omega
  have lB2 : (Y.drop (mid - i)).length = e - (mid + mm - i) := by rw [List.length_drop]; omega
  generalize X.take (i - a) = A1 at *
  generalize X.drop (i - a) = A2 at *
  generalize Y.take (mid - i) = B1 at *
  generalize Y.drop (mid - i) = B2 at *
  change stC (A1 ++ B1) ++ stC (A2 ++ B2) = stC (X ++ Y) at hj
  rw [← hj]
  subst eX eY
  obtain ⟨sA1, sA2, _⟩ := zd5.1 hX
  obtain ⟨sB1, sB2, _⟩ := zd5.1 hY
  clear hI hb hj hX hY
  obtain ⟨en, hend⟩ : ∃ en, mid + mm - i = en := ⟨_, rfl⟩
  rw [hend] at lB2 ⊢
  have e0 : P ++ ((A1 ++ A2) ++ ((B1 ++ B2) ++ R)) = (P ++ A1) ++ (A2 ++ (B1 ++ (B2 ++ R))) := by simp
  have e1 : (P ++ A1) ++ (B1 ++ (A2 ++ (B2 ++ R))) = P ++ (A1 ++ (B1 ++ (A2 ++ (B2 ++ R)))) := by simp
  have hlen1 : ((P ++ A1) ++ (A2 ++ (B1 ++ (B2 ++ R)))).length = m := by rw [← e0]; exact hm
  have hlen2 : (P ++ (A1 ++ (B1 ++ (A2 ++ (B2 ++ R))))).length = m := by simp only [List.length_append] at hm' ⊢; omega
  have hl3 := ze1 (A1 ++ B1)
  rw [List.length_append] at hl3
  have e3 : P ++ (stC (A1 ++ B1) ++ (A2 ++ (B2 ++ R))) = (P ++ stC (A1 ++ B1)) ++ (A2 ++ (B2 ++ R)) := by simp
  have hlen3 : ((P ++ stC (A1 ++ B1)) ++ (A2 ++ (B2 ++ R))).length = m := by simp only [List.length_append] at hm' ⊢; omega
  have e4 : (P ++ stC (A1 ++ B1)) ++ (stC (A2 ++ B2) ++ R) = P ++ ((stC (A1 ++ B1) ++ stC (A2 ++ B2)) ++ R) := by simp
  simp only [List.length_append] at hm' hmm he hN
  refine zfa (fun _ : Unit => [(0, .is (.slice (some ⟨b, 0, none⟩) m cap)), (1, .is (.int .i64 a)), (3, .is (.int .i64 e)), (4, .is zj0), (18, .is (.int .i64 mid)), (20, .is (.int .i64 i)), (24, .is (.int .i64 en)), (900, .own (zaj b ((P ++ (A1 ++ (B1 ++ (A2 ++ (B2 ++ R))))).flatMap ccs ++ rest) tyC))]) (fun _ => True) (fun _ => []) ?rest1 ?first1
  case first1 =>
   rw [e0]
   by_cases h1 : i < mm
   ·by_cases h2 : mm < en
    ·refine zf (id := 39) ?_; refine Z331 ?_; refine Z172 ?_; refine Z8 ?_; refine Z249 ?_; refine zf (id := 40) ?_; refine Z138 ?_; refine Z172 ?_; refine qo (za0 L 900 (zab b (((P ++ A1) ++ (B1 ++ (A2 ++ (B2 ++ R)))).flatMap ccs ++ rest) tyC) (r := zab b (((P ++ A1) ++ (A2 ++ (B1 ++ (B2 ++ R)))).flatMap ccs ++ rest) tyC) rfl rfl rfl rfl rfl (fun u H C hH _ hr hC => (by have h := zzs (cap := cap) (a := i) (mm := mm) (e := en) (by rw [List.length_append]; omega) (by omega) (by omega) (by omega) (by omega) hlen1 hm1 zj0 hH hr hC; exact h))) ?_; refine zi ?_
     rw [e1]
     exact za5 () Since.refl trivial rfl ⟨rfl, rfl, rfl, rfl, rfl, rfl, rfl, rfl, trivial⟩
    ·have hB1 : B1 = [] := List.eq_nil_of_length_eq_zero (by omega)
     subst hB1
     have e9 : (P ++ A1) ++ (A2 ++ ([] ++ (B2 ++ R))) = P ++ (A1 ++ ([] ++ (A2 ++ (B2 ++ R)))) := by simp
     rw [e9]
     refine zf (id := 39) ?_; refine Z331 ?_; refine Z172 ?_; refine Z11 ?_; refine Z7 ?_; refine Z193 ?_
     exact za5 () Since.refl trivial rfl ⟨rfl, rfl, rfl, rfl, rfl, rfl, rfl, rfl, trivial⟩
   ·have hA2 : A2 = [] := List.eq_nil_of_length_eq_zero (by omega)
    subst hA2
    have e9 : (P ++ A1) ++ ([] ++ (B1 ++ (B2 ++ R))) = P ++ (A1 ++ (B1 ++ ([] ++ (B2 ++ R)))) := by simp
    rw [e9]
    refine zf (id := 39) ?_; refine Z272 ?_; refine Z254 ?_; refine Z193 ?_
    exact za5 () Since.refl trivial rfl ⟨rfl, rfl, rfl, rfl, rfl, rfl, rfl, rfl, trivial⟩
  case rest1 =>
  rintro _ _
  refine Z137 ?_
  refine zfa (fun _ : Unit => [(0, .is (.slice (some ⟨b, 0, none⟩) m cap)), (3, .is (.int .i64 e)), (4, .is zj0), (18, .is (.int .i64 mid)), (24, .is (.int .i64 en)), (900, .own (zaj b (((P ++ stC (A1 ++ B1)) ++ (A2 ++ (B2 ++ R))).flatMap ccs ++ rest) tyC))]) (fun _ => True) (fun _ => []) ?rest2 ?first2
  case first2 =>
   rw [← e3]
   by_cases h1 : a < i
   ·by_cases h2 : i < mid
    ·refine zf (id := 41) ?_; refine Z331 ?_; refine Z172 ?_; refine Z8 ?_; refine Z249 ?_; refine zf (id := 42) ?_; refine Z138 ?_; refine Z172 ?_; refine qo (za0 L 900 (zab b ((P ++ (stC (A1 ++ B1) ++ (A2 ++ (B2 ++ R)))).flatMap ccs ++ rest) tyC) (r := zab b ((P ++ (A1 ++ (B1 ++ (A2 ++ (B2 ++ R))))).flatMap ccs ++ rest) tyC) rfl rfl rfl rfl rfl (fun u H C hH _ hr hC => (by have h := ih (cap := cap) (a := a) (mm := i) (e := mid) (by omega) ha (by omega) (by omega) (by omega) (by omega) sA1 sB1 hlen2 hm1 hH hr hC; exact h))) ?_; refine zi ?_
     exact za5 () Since.refl trivial rfl ⟨rfl, rfl, rfl, rfl, rfl, rfl, trivial⟩
    ·have hB1 : B1 = [] := List.eq_nil_of_length_eq_zero (by omega)
     subst hB1
     have e9 : P ++ (A1 ++ ([] ++ (A2 ++ (B2 ++ R)))) = P ++ (stC (A1 ++ []) ++ (A2 ++ (B2 ++ R))) := by rw [List.append_nil, zlv sA1]; rfl
     rw [e9]
     refine zf (id := 41) ?_; refine Z331 ?_; refine Z172 ?_; refine Z11 ?_; refine Z7 ?_; refine Z193 ?_
     exact za5 () Since.refl trivial rfl ⟨rfl, rfl, rfl, rfl, rfl, rfl, trivial⟩
   ·have hA1 : A1 = [] := List.eq_nil_of_length_eq_zero (by omega)
    subst hA1
    have e9 : P ++ ([] ++ (B1 ++ (A2 ++ (B2 ++ R)))) = P ++ (stC ([] ++ B1) ++ (A2 ++ (B2 ++ R))) := by rw [List.nil_append, List.nil_append, zlv sB1]
    rw [e9]
    refine zf (id := 41) ?_; refine Z272 ?_; refine Z254 ?_; refine Z193 ?_
    exact za5 () Since.refl trivial rfl ⟨rfl, rfl, rfl, rfl, rfl, rfl, trivial⟩
  case rest2 =>
  rintro _ _
  by_cases h1 : mid < en
  ·by_cases h2 : en < e
   ·refine zh ?_; refine zf (id := 43) ?_; refine Z331 ?_; refine Z172 ?_; refine Z8 ?_; refine Z249 ?_; refine zf (id := 44) ?_; refine Z138 ?_; refine Z172 ?_; refine qo (za0 L 900 (zab b (((P ++ stC (A1 ++ B1)) ++ (stC (A2 ++ B2) ++ R)).flatMap ccs ++ rest) tyC) (r := zab b (((P ++ stC (A1 ++ B1)) ++ (A2 ++ (B2 ++ R))).flatMap ccs ++ rest) tyC) rfl rfl rfl rfl rfl (fun u H C hH _ hr hC => (by have h := ih (cap := cap) (a := mid) (mm := en) (e := e) (by omega) (by rw [List.length_append]; omega) (by omega) (by omega) (by omega) (by omega) sA2 sB2 hlen3 hm1 hH hr hC; exact h))) ?_; refine zi ?_
    rw [e4]
    exact zba L 900 (r := zab b _ tyC) rfl (fun _ _ h => h) Since.refl rfl rfl
   ·have hB2 : B2 = [] := List.eq_nil_of_length_eq_zero (by omega)
    subst hB2
    have e9 : (P ++ stC (A1 ++ B1)) ++ (A2 ++ ([] ++ R)) = P ++ ((stC (A1 ++ B1) ++ stC (A2 ++ [])) ++ R) := by rw [List.append_nil, zlv sA2]; simp
    rw [e9]
    refine zh ?_; refine zf (id := 43) ?_; refine Z331 ?_; refine Z172 ?_; refine Z11 ?_; refine Z7 ?_; refine Z193 ?_
    exact zba L 900 (r := zab b _ tyC) rfl (fun _ _ h => h) Since.refl rfl rfl
  ·have hA2 : A2 = [] := List.eq_nil_of_length_eq_zero (by omega)
   subst hA2
   have e9 : (P ++ stC (A1 ++ B1)) ++ ([] ++ (B2 ++ R)) = P ++ ((stC (A1 ++ B1) ++ stC ([] ++ B2)) ++ R) := by rw [List.nil_append, List.nil_append, zlv sB2]; simp
   rw [e9]
   refine zh ?_; refine zf (id := 43) ?_; refine Z272 ?_; refine Z254 ?_; refine Z193 ?_
   exact zba L 900 (r := zab b _ tyC) rfl (fun _ _ h => h) Since.refl rfl rfl
end Go.V.L8
set_option maxRecDepth 20000
namespace Go.V.L8
open Go.Proofs Go.RowKit Go.V Go.V.L2 Go.V.L3 Go.V.L6
theorem _root_.Go.V.Z387 {A B : Prop} (h : B) (t : Wr B → A := by intro h; refine zh ?_; refine Z43 ?_; exact h.h) : A := t ⟨h⟩
abbrev chC (n : Nat) (l : List CH) : List CH := chL (fun c : CH => c.1) za7 n l
theorem zi5 {n : Nat} (hn : 0 < n) (l : List CH) : chC n l = stC (l.take n) ++ chC n (l.drop n) := zmv hn l
theorem zia {n : Nat} (hn : 0 < n) {l : List CH} (h : l.length ≤ n) : chC n l = stC l := z0s hn h
theorem z0t {n : Nat} (hn : 0 < n) (l : List CH) : (chC n l).length = l.length := zvv cmpT_ord hn l.length (Nat.le_refl _)
theorem ztl (X Y : List CH) : stC (stC X ++ stC Y) = stC (X ++ Y) := zwn cmpT_ord X Y
theorem ziw (X : List CH) : z1g (stC X) := (zcp cmpT_ord X).1
attribute [local irreducible] V N X VO Par StepOK Has Ret RetL RetO RetT zb3 Src
set_option maxHeartbeats 8000000 in
set_option maxRecDepth 20000 in
theorem zwo {l : List CH} {rest : List Value} {b m cap : Nat} (hm : l.length = m) (hm1 : m ≤ 100000) {w : World} {B : Heap} {C : Nat → Prop} (hB : B.Le (hp w))
  (hr : (zab b (l.flatMap ccs ++ rest) tyC).P B w C) (hC : ∀ k, C k → k < w.heap.size ∧ B k = none) :
  zb3 Tryz.prog 160 [.slice (some ⟨b, 0, none⟩) m cap, .int .i64 m, zj0] w B C (zab b ((stC l).flatMap ccs ++ rest) tyC) := by
 unfold zb3
 refine zap 900 (zab b (l.flatMap ccs ++ rest) tyC) Tryz.func160 rfl Tryz.ntmps160 (Nat.le_of_ble_eq_true rfl) hB hr hC ?_
 rw [za1]
 refine Z316 ?_; refine Z198 ?_; refine ql ?_
 refine zai (fun s : Nat × List CH => [(0, .is (.slice (some ⟨b, 0, none⟩) m cap)), (1, .is (.int .i64 m)), (2, .is zj0), (6, .is (.int .i64 20)), (7, .is (.int .i64 s.1)), (8, .is (.int .i64 (s.1 + 20 : Nat))), (900, .own (zaj b ((s.2 ++ l.drop s.1).flatMap ccs ++ rest) tyC))])
  (fun s => s.2.length = s.1 ∧ s.1 ≤ m ∧ s.2 ++ chC 20 (l.drop s.1) = chC 20 l) (fun s => m - s.1) (0, []) ⟨rfl, Nat.zero_le _, rfl⟩ ⟨rfl, rfl, rfl, rfl, rfl, rfl, rfl, trivial⟩ ?_
 rintro ⟨a, S1⟩ ⟨h1, h2, h3⟩
 dsimp only at h1 h2 h3 ⊢
 have hdl : (l.drop a).length = m - a := by rw [List.length_drop, hm]
 by_cases hlt : a + 20 ≤ m
 ·have e0 : S1 ++ l.drop a = S1 ++ ((l.drop a).take 20 ++ (l.drop a).drop 20) := by rw [List.take_append_drop]
  have e1 : S1 ++ (stC ((l.drop a).take 20) ++ (l.drop a).drop 20) = (S1 ++ stC ((l.drop a).take 20)) ++ l.drop (a + 20) := by rw [List.drop_drop, List.append_assoc]
  have hlen : (S1 ++ ((l.drop a).take 20 ++ (l.drop a).drop 20)).length = m := by rw [← e0, List.length_append]; omega
  have ltk : ((l.drop a).take 20).length = 20 := by rw [List.length_take]; omega
  have a1 : IntKind.i64.wrap (((a + 20 : Nat) : Int) + 20) = ((a + 20 + 20 : Nat) : Int) := zaa (by omega) (by omega)
  rw [e0]
  refine Z314 ?_; refine Z77 ?_; refine Z305 ?_; refine Z202 ?_; refine Z138 ?_; refine qo (za0 L 900 (zab b ((S1 ++ (stC ((l.drop a).take 20) ++ (l.drop a).drop 20)).flatMap ccs ++ rest) tyC) (r := zab b ((S1 ++ ((l.drop a).take 20 ++ (l.drop a).drop 20)).flatMap ccs ++ rest) tyC) rfl rfl rfl rfl rfl (fun u H C hH _ hr hC => (by have h := ins_ret (cap := cap) (a := a) (e := a + 20) h1 (by omega) hlen hm1 hH hr hC; exact h))) ?_; refine Z157 ?_; refine Z156 ?_; refine Z136 ?_; refine Z255 ?_; refine Z213 ?_; refine yc ?_
  rw [e1]
  exact yk (x := (a, S1)) (a + 20, S1 ++ stC ((l.drop a).take 20)) ⟨by dsimp only; rw [List.length_append, ze1]; omega, hlt, by
   dsimp only
   rw [← h3, zi5 (by omega) (l.drop a), List.drop_drop, List.append_assoc]⟩ (by dsimp only; omega) ⟨rfl, rfl, rfl, rfl, rfl, rfl, rfl, trivial⟩
 ·have e0 : S1 ++ l.drop a = S1 ++ (l.drop a ++ []) := by rw [List.append_nil]
  have e1 : S1 ++ (stC (l.drop a) ++ []) = chC 20 l := by rw [List.append_nil, ← h3, zia (by omega) (by omega)]
  have hlen : (S1 ++ (l.drop a ++ [])).length = m := by rw [← e0, List.length_append]; omega
  rw [e0]
  refine Z314 ?_; refine Z72 ?_; refine Z181 ?_; refine Z387 ?_; refine Z221 ?_; refine qo (za0 L 900 (zab b ((S1 ++ (stC (l.drop a) ++ [])).flatMap ccs ++ rest) tyC) (r := zab b ((S1 ++ (l.drop a ++ [])).flatMap ccs ++ rest) tyC) rfl rfl rfl rfl rfl (fun u H C hH _ hr hC => (by have h := ins_ret (cap := cap) (a := a) (e := m) h1 (by omega) hlen hm1 hH hr hC; exact h))) ?_; refine Z274 ?_
  rw [e1]
  clear e0 e1 hlen hlt hdl h1 h2 h3
  refine zai (fun s : Nat => [(0, .is (.slice (some ⟨b, 0, none⟩) m cap)), (1, .is (.int .i64 m)), (2, .is zj0), (6, .is (.int .i64 s)), (900, .own (zaj b ((chC s l).flatMap ccs ++ rest) tyC))]) (fun s => 0 < s ∧ s ≤ 20 + 2 * m) (fun s => m - s) 20 ⟨by omega, by omega⟩ ⟨rfl, rfl, rfl, rfl, rfl, trivial⟩ ?_
  rintro s ⟨hs0, hs1⟩
  by_cases hsm : s < m
  ·refine Z137 ?_; refine Z307 ?_; refine Z402 ?_; refine Z216 ?_; refine Z53 ?_; refine Z198 ?_; refine ql ?_
   refine zai (fun t : Nat × List CH => [(0, .is (.slice (some ⟨b, 0, none⟩) m cap)), (1, .is (.int .i64 m)), (2, .is zj0), (6, .is (.int .i64 s)), (7, .is (.int .i64 t.1)), (8, .is (.int .i64 (t.1 + 2 * s : Nat))), (900, .own (zaj b ((t.2 ++ chC s (l.drop t.1)).flatMap ccs ++ rest) tyC))])
    (fun t => t.2.length = t.1 ∧ t.1 ≤ m ∧ t.2 ++ chC (2 * s) (l.drop t.1) = chC (2 * s) l) (fun t => m - t.1) (0, []) ⟨rfl, Nat.zero_le _, rfl⟩ ⟨rfl, rfl, rfl, rfl, rfl, by dsimp only; rw [Nat.zero_add]; rfl, rfl, trivial⟩ ?_
   rintro ⟨a, S1⟩ ⟨h1, h2, h3⟩
   dsimp only at h1 h2 h3 ⊢
   have hdl : (l.drop a).length = m - a := by rw [List.length_drop, hm]
   have hcs := zi5 hs0 (l.drop a)
   by_cases hlt : a + 2 * s ≤ m
   ·have hcs2 := zi5 hs0 ((l.drop a).drop s)
    have e0 : S1 ++ chC s (l.drop a) = S1 ++ (stC ((l.drop a).take s) ++ (stC (((l.drop a).drop s).take s) ++ chC s (l.drop (a + 2 * s)))) := by
     rw [hcs, hcs2, List.drop_drop, List.drop_drop, show a + s + s = a + 2 * s by omega]
    have ht2 : (l.drop a).take (2 * s) = (l.drop a).take s ++ ((l.drop a).drop s).take s := by rw [show 2 * s = s + s by omega, List.take_add]
    have e1 : S1 ++ (stC (stC ((l.drop a).take s) ++ stC (((l.drop a).drop s).take s)) ++ chC s (l.drop (a + 2 * s))) = (S1 ++ stC ((l.drop a).take (2 * s))) ++ chC s (l.drop (a + 2 * s)) := by rw [ztl, ← ht2, List.append_assoc]
    have l1 : (stC ((l.drop a).take s)).length = s := by rw [ze1, List.length_take]; omega
    have l2 : (stC (((l.drop a).drop s).take s)).length = s := by rw [ze1, List.length_take, List.length_drop]; omega
    have l3 : (chC s (l.drop (a + 2 * s))).length = m - (a + 2 * s) := by rw [z0t hs0, List.length_drop, hm]
    have hlen : (S1 ++ (stC ((l.drop a).take s) ++ (stC (((l.drop a).drop s).take s) ++ chC s (l.drop (a + 2 * s))))).length = m := by simp only [List.length_append]; omega
    have a1 : IntKind.i64.wrap ((a : Int) + (s : Int)) = ((a + s : Nat) : Int) := zaa (by omega) (by omega)
    have a2 : IntKind.i64.wrap (((a + 2 * s : Nat) : Int) + 2 * (s : Int)) = ((a + 2 * s + 2 * s : Nat) : Int) := zaa (by omega) (by omega)
    rw [e0]
    refine Z137 ?_; refine Z357 ?_; refine Z77 ?_; refine Z305 ?_; refine Z67 ?_; refine Z221 ?_; refine Z20 ?_; refine Z138 ?_; refine qo (za0 L 900 (zab b ((S1 ++ (stC (stC ((l.drop a).take s) ++ stC (((l.drop a).drop s).take s)) ++ chC s (l.drop (a + 2 * s)))).flatMap ccs ++ rest) tyC) (r := zab b ((S1 ++ (stC ((l.drop a).take s) ++ (stC (((l.drop a).drop s).take s) ++ chC s (l.drop (a + 2 * s))))).flatMap ccs ++ rest) tyC) rfl rfl rfl rfl rfl (fun u H C hH _ hr hC => (by have h := zti _ (cap := cap) (a := a) (mm := a + s) (e := a + 2 * s) (Nat.le_refl _) h1 (by omega) (by omega) (by omega) (by omega) (ziw _) (ziw _) hlen hm1 hH hr hC; exact h))) ?_; refine Z157 ?_; refine Z259 ?_; refine Z136 ?_; refine Z80 ?_; refine Z138 ?_; refine Z53 ?_; refine Z213 ?_; refine yc ?_
    rw [e1]
    exact yk (x := (a, S1)) (a + 2 * s, S1 ++ stC ((l.drop a).take (2 * s))) ⟨by dsimp only; rw [List.length_append, ze1, List.length_take]; omega, hlt, by
     dsimp only
     rw [← h3, zi5 (by omega) (l.drop a), List.drop_drop, List.append_assoc]⟩ (by dsimp only; omega) ⟨rfl, rfl, rfl, rfl, rfl, rfl, rfl, trivial⟩
   ·have a1 : IntKind.i64.wrap ((a : Int) + (s : Int)) = ((a + s : Nat) : Int) := zaa (by omega) (by omega)
    have a2 : IntKind.i64.wrap ((s : Int) * 2) = ((2 * s : Nat) : Int) := zaa (by omega) (by omega) |>.trans (by omega)
    by_cases hlm : a + s < m
    ·have e0 : S1 ++ chC s (l.drop a) = S1 ++ (stC ((l.drop a).take s) ++ (stC ((l.drop a).drop s) ++ [])) := by
      rw [hcs, zia hs0 (l := (l.drop a).drop s) (by rw [List.length_drop]; omega), List.append_nil]
     have e1 : S1 ++ (stC (stC ((l.drop a).take s) ++ stC ((l.drop a).drop s)) ++ []) = chC (2 * s) l := by
      rw [ztl, List.take_append_drop, List.append_nil, ← h3, zia (n := 2 * s) (by omega) (by omega)]
     have l1 : (stC ((l.drop a).take s)).length = s := by rw [ze1, List.length_take]; omega
     have l2 : (stC ((l.drop a).drop s)).length = m - a - s := by rw [ze1, List.length_drop]; omega
     have hlen : (S1 ++ (stC ((l.drop a).take s) ++ (stC ((l.drop a).drop s) ++ []))).length = m := by simp only [List.length_append, List.length_nil]; omega
     rw [e0]
     refine Z137 ?_; refine Z357 ?_; refine Z72 ?_; refine Z181 ?_; refine Z137 ?_; refine Z86 ?_; refine Z288 ?_; refine Z142 ?_; refine Z74 ?_; refine Z138 ?_; refine Z170 ?_; refine Z95 ?_; refine Z138 ?_; refine Z172 ?_; refine qo (za0 L 900 (zab b ((S1 ++ (stC (stC ((l.drop a).take s) ++ stC ((l.drop a).drop s)) ++ [])).flatMap ccs ++ rest) tyC) (r := zab b ((S1 ++ (stC ((l.drop a).take s) ++ (stC ((l.drop a).drop s) ++ []))).flatMap ccs ++ rest) tyC) rfl rfl rfl rfl rfl (fun u H C hH _ hr hC => (by have h := zti _ (cap := cap) (a := a) (mm := a + s) (e := m) (Nat.le_refl _) h1 (by omega) (by omega) (by omega) (by omega) (ziw _) (ziw _) hlen hm1 hH hr hC; exact h))) ?_; refine Z135 ?_; refine Z102 ?_; refine Z1 ?_; refine z7 (zul rfl rfl rfl rfl a2) rfl ?_; refine Z246 ?_
     rw [e1]
     exact yk (x := s) (2 * s) ⟨by omega, by omega⟩ (by omega) ⟨rfl, rfl, rfl, rfl, rfl, trivial⟩
    ·have e1 : S1 ++ chC s (l.drop a) = chC (2 * s) l := by
      rw [← h3, zia hs0 (by omega), zia (n := 2 * s) (by omega) (by omega)]
     rw [e1]
     refine Z137 ?_; refine Z357 ?_; refine Z72 ?_; refine Z181 ?_; refine Z137 ?_; refine Z86 ?_; refine Z288 ?_; refine Z142 ?_; refine Z74 ?_; refine Z272 ?_; refine Z159 ?_; refine Z102 ?_; refine Z1 ?_; refine z7 (zul rfl rfl rfl rfl a2) rfl ?_; refine Z246 ?_
     exact yk (x := s) (2 * s) ⟨by omega, by omega⟩ (by omega) ⟨rfl, rfl, rfl, rfl, rfl, trivial⟩
  ·rw [zia hs0 (by omega)]
   refine Z137 ?_; refine Z40 ?_; refine Z272 ?_; refine Z174 ?_
   exact zba L 900 (r := zab b _ tyC) rfl (fun _ _ h => h) Since.refl rfl rfl
abbrev SSF : Nat := 135
set_option maxHeartbeats 1000000 in
set_option maxRecDepth 20000 in
theorem ztn {l : List CH} {rest : List Value} {b m cap : Nat} (hm : l.length = m) (hm1 : m ≤ 100000) {w : World} {B : Heap} {C : Nat → Prop} (hB : B.Le (hp w))
  (hr : (zab b (l.flatMap ccs ++ rest) tyC).P B w C) (hC : ∀ k, C k → k < w.heap.size ∧ B k = none) :
  zb3 Tryz.prog SSF [.slice (some ⟨b, 0, none⟩) m cap, zj0] w B C (zab b ((stC l).flatMap ccs ++ rest) tyC) := by
 unfold zb3
 refine zap 900 (zab b (l.flatMap ccs ++ rest) tyC) Tryz.func135 rfl Tryz.ntmps135 (Nat.le_of_ble_eq_true rfl) hB hr hC ?_
 rw [za1]
 refine Z15 ?_; refine Z138 ?_; refine Z100 ?_; refine Z1 ?_; refine qo (za0 L 900 (zab b ((stC l).flatMap ccs ++ rest) tyC) (r := zab b (l.flatMap ccs ++ rest) tyC) rfl rfl rfl rfl rfl (fun u H C hH _ hr hC => (by have h := zwo (cap := cap) hm hm1 hH hr hC; exact h))) ?_; refine zi ?_
 exact zba L 900 (r := zab b _ tyC) rfl (fun _ _ h => h) Since.refl rfl rfl
set_option maxRecDepth 20000 in
theorem zxi {w : World} {B : Heap} (hB : B.Le (hp w)) : Ret Tryz.prog 173 [.slice none 0 0, .int .i64 0, .int .i64 0, zj0] w B (fun _ _ => True) := by
 refine yi Tryz.func173 rfl Tryz.ntmps173 (Nat.le_of_ble_eq_true rfl) hB ?_
 refine Z144 ?_; refine Z1 ?_; refine Z21 ?_; refine Z197 ?_
 refine zai (fun _ : Nat => [(2, .is (.int .i64 0)), (8, .is (.int .i64 1))]) (fun _ => True) (fun s => s) 0 trivial ⟨rfl, rfl, trivial⟩ ?_
 rintro s _
 refine Z137 ?_; refine Z19 ?_; refine Z272 ?_; refine Z174 ?_
 exact zv7 L rfl (fun _ _ h => h) Since.refl
set_option maxRecDepth 20000 in
theorem ztk {w : World} {B : Heap} (hB : B.Le (hp w)) : Ret Tryz.prog 160 [.slice none 0 0, .int .i64 0, zj0] w B (fun _ _ => True) := by
 refine yi Tryz.func160 rfl Tryz.ntmps160 (Nat.le_of_ble_eq_true rfl) hB ?_
 refine Z316 ?_; refine Z198 ?_; refine ql ?_
 refine zai (fun _ : Nat => [(0, .is (.slice none 0 0)), (1, .is (.int .i64 0)), (2, .is zj0), (6, .is (.int .i64 20)), (7, .is (.int .i64 0)), (8, .is (.int .i64 20))]) (fun _ => True) (fun s => s) 0 trivial ⟨rfl, rfl, rfl, rfl, rfl, rfl, trivial⟩ ?_
 rintro s _
 refine Z314 ?_; refine Z72 ?_; refine Z181 ?_; refine Z387 ?_; refine Z221 ?_; refine z7 (yt (φ := fun _ _ => True) L rfl rfl (zk rfl) rfl rfl rfl (fun _ _ _ _ _ => trivial) (fun u H hH _ _ => zxi hH)) rfl ?_; refine Z274 ?_
 refine zai (fun _ : Nat => [(1, .is (.int .i64 0)), (6, .is (.int .i64 20))]) (fun _ => True) (fun s => s) 0 trivial ⟨rfl, rfl, trivial⟩ ?_
 rintro s _
 refine Z137 ?_; refine Z40 ?_; refine Z272 ?_; refine Z174 ?_
 exact zv7 L rfl (fun _ _ h => h) Since.refl
set_option maxRecDepth 20000 in
theorem zrt {w : World} {B : Heap} (hB : B.Le (hp w)) : Ret Tryz.prog SSF [.slice none 0 0, zj0] w B (fun _ _ => True) := by
 refine yi Tryz.func135 rfl Tryz.ntmps135 (Nat.le_of_ble_eq_true rfl) hB ?_
 refine Z15 ?_; refine Z138 ?_; refine Z100 ?_; refine Z1 ?_; refine z7 (yt (φ := fun _ _ => True) L rfl rfl (zk rfl) rfl rfl rfl (fun _ _ _ _ _ => trivial) (fun u H hH _ _ => ztk hH)) rfl ?_; refine zi ?_
 exact zv7 L rfl (fun _ _ h => h) Since.refl
end Go.V.L8
set_option maxRecDepth 20000
namespace Go.V.L8
open Go.Proofs Go.RowKit Go.V Go.V.L2 Go.V.L3 Go.V.L6
abbrev zC : CH := ((n3, n3), false)
def zvb (l : List CH) (t : U) (z : CH) : CH := l.foldl (fun a c => if c.1 = t then c else a) z
def zcw (l : List CH) (t : U) : Option CH := (l.filter fun c => decide (c.1 = t)).getLast?
theorem zoa (t : U) : zcw [] t = none := rfl
theorem zcv (c : CH) (l : List CH) (t : U) : zcw (c :: l) t = (zcw l t).or (if c.1 = t then some c else none) := by
 unfold zcw
 by_cases h : c.1 = t
 ·rw [if_pos h, List.filter_cons_of_pos (by simpa using h), List.getLast?_cons]
  cases (l.filter fun c => decide (c.1 = t)).getLast? <;> rfl
 ·rw [if_neg h, List.filter_cons_of_neg (by simpa using h)]
  cases (l.filter fun c => decide (c.1 = t)).getLast? <;> rfl
theorem zdl {l : List CH} {t : U} {c : CH} (h : zcw l t = some c) : c.1 = t ∧ c ∈ l := by
 have := List.mem_of_getLast? h
 rw [List.mem_filter] at this
 exact ⟨by simpa using this.2, this.1⟩
theorem zd2 {l : List CH} {t : U} : zcw l t = none ↔ ∀ c ∈ l, c.1 ≠ t := by
 unfold zcw
 rw [List.getLast?_eq_none_iff, List.filter_eq_nil_iff]
 simp
theorem zqv (l : List CH) (t : U) (z : CH) : zvb l t z = (zcw l t).getD z := by
 induction l generalizing z with
 | nil => rfl
 | cons c r ih =>
  have : zvb (c :: r) t z = zvb r t (if c.1 = t then c else z) := rfl
  rw [this, ih, zcv]
  cases zcw r t with
  | some d => rfl
  | none => by_cases h : c.1 = t <;> simp [h]
theorem zob {l : List CH} {t : U} {z : CH} (h : ∃ c ∈ l, c.1 = t) : zcw l t = some (zvb l t z) := by
 rw [zqv]
 cases hk : zcw l t with
 | some d => rfl
 | none => obtain ⟨c, hc, he⟩ := h; exact absurd he (zd2.1 hk c hc)
def zj4 (l : List CH) : List CH := (zim (l.map (·.1))).map fun t => zvb l t zC
theorem zg2 {l : List U} {t : U} : t ∈ zim l ↔ t ∈ l := by unfold zim; rw [zfp]; simp
theorem znb (l : List U) : Sst za7 (zim l) := zfl cmpT_ord Sst.nil
theorem zn4 {l : List CH} {c : CH} : c ∈ zj4 l ↔ zcw l c.1 = some c := by
 unfold zj4
 rw [List.mem_map]
 constructor
 ·rintro ⟨t, ht, rfl⟩
  rw [zg2, List.mem_map] at ht
  have := zob (z := zC) ht
  rw [(zdl this).1]
  exact this
 ·intro h
  have hm := zdl h
  exact ⟨c.1, zg2.2 (List.mem_map.2 ⟨c, hm.2, rfl⟩), by rw [zqv, h]; rfl⟩
theorem zr9 (l : List CH) : (zj4 l).map (·.1) = zim (l.map (·.1)) := by
 unfold zj4
 rw [List.map_map]
 conv => rhs; rw [← List.map_id (zim (l.map (·.1)))]
 refine List.map_congr_left fun t ht => ?_
 rw [zg2, List.mem_map] at ht
 exact (zdl (zob (z := zC) ht)).1
def zoz (l : List CH) : Prop := Sst za7 (l.map (·.1))
theorem zn3 (l : List CH) : zoz (zj4 l) := by unfold zoz; rw [zr9]; exact znb _
theorem zqk {l : List CH} (h : zoz l) : l.Pairwise fun a b => a.1 ≠ b.1 := by
 unfold zoz Sst at h
 rw [List.pairwise_map] at h
 exact h.imp fun h1 => cmpT_ord.ne h1
theorem zuw {l m : List CH} (hl : zoz l) (hm : zoz m) (h : ∀ c, c ∈ l ↔ c ∈ m) : l = m := by
 have hk : l.map (·.1) = m.map (·.1) := zel cmpT_ord hl hm fun t => by
  rw [List.mem_map, List.mem_map]
  exact ⟨fun ⟨c, hc, e⟩ => ⟨c, (h c).1 hc, e⟩, fun ⟨c, hc, e⟩ => ⟨c, (h c).2 hc, e⟩⟩
 have uni : ∀ {l : List CH}, zoz l → ∀ a ∈ l, ∀ b ∈ l, a.1 = b.1 → a = b := fun {l} hn a ha b hb e => by
  by_cases hab : a = b
  ·exact hab
  ·exfalso
   obtain ⟨i, hi⟩ := List.getElem?_of_mem ha
   obtain ⟨j, hj⟩ := List.getElem?_of_mem hb
   obtain ⟨hi', rfl⟩ := List.getElem?_eq_some_iff.1 hi
   obtain ⟨hj', rfl⟩ := List.getElem?_eq_some_iff.1 hj
   have hp := List.pairwise_iff_getElem.1 (zqk hn)
   rcases Nat.lt_trichotomy i j with h | h | h
   ·exact hp i j hi' hj' h e
   ·subst h; exact hab rfl
   ·exact hp j i hj' hi' h e.symm
 have hlen : l.length = m.length := by rw [← List.length_map (f := (·.1)), hk, List.length_map]
 refine List.ext_getElem hlen fun i h1 h2 => ?_
 have e : l[i].1 = m[i].1 := by
  have := congrArg (·[i]?) hk
  simp only [List.getElem?_map, List.getElem?_eq_getElem h1, List.getElem?_eq_getElem h2, Option.map_some, Option.some.injEq] at this
  exact this
 exact uni hm _ ((h _).1 (List.getElem_mem h1)) _ (List.getElem_mem h2) e
def ze7 : List CH → List CH
 | [] => []
 | [c] => [c]
 | c :: d :: r => if za7 c.1 d.1 = 0 then ze7 (d :: r) else c :: ze7 (d :: r)
theorem zsi {l : List CH} {i : Nat} {c : CH} (h : l[i]? = some c) : ze7 (l.drop i) = (match l[i + 1]? with | none => [c] | some d => if za7 c.1 d.1 = 0 then [] else [c]) ++ ze7 (l.drop (i + 1)) := by
 have h1 : l.drop i = c :: l.drop (i + 1) := zez h
 rw [h1]
 cases h2 : l[i + 1]? with
 | none =>
  have : l.drop (i + 1) = [] := List.drop_eq_nil_of_le (by simpa using h2)
  rw [this]; rfl
 | some d =>
  have h3 : l.drop (i + 1) = d :: l.drop (i + 1 + 1) := zez h2
  rw [h3]
  show (if za7 c.1 d.1 = 0 then _ else _) = (if za7 c.1 d.1 = 0 then _ else _) ++ _
  split <;> rfl
theorem zld : ∀ {S : List CH}, Srt (·.1) za7 S → (∀ c ∈ ze7 S, zcw S c.1 = some c) ∧ (∀ x ∈ S, ∃ c ∈ ze7 S, c.1 = x.1) ∧ zoz (ze7 S)
 | [], _ => ⟨fun c hc => (by cases hc), fun c hc => (by cases hc), Sst.nil⟩
 | [c], _ => by
  have e : ze7 [c] = [c] := rfl
  rw [e]
  refine ⟨fun d hd => ?_, fun x hx => ⟨x, hx, rfl⟩, List.pairwise_singleton _ _⟩
  rw [List.mem_singleton] at hd; subst hd
  rw [zcv, if_pos rfl]; rfl
 | c :: d :: r, h => by
  obtain ⟨h1, h2⟩ := List.pairwise_cons.1 h
  obtain ⟨g1, g2, g3⟩ := zld (S := d :: r) h2
  have e : ze7 (c :: d :: r) = if za7 c.1 d.1 = 0 then ze7 (d :: r) else c :: ze7 (d :: r) := rfl
  by_cases h0 : za7 c.1 d.1 = 0
  ·rw [e, if_pos h0]
   have hcd := cmpT_ord.eq _ _ h0
   refine ⟨fun x hx => by rw [zcv, g1 x hx]; rfl, fun x hx => ?_, g3⟩
   rcases List.mem_cons.1 hx with rfl | hx
   ·obtain ⟨y, hy, e⟩ := g2 d (List.mem_cons_self ..)
    exact ⟨y, hy, e.trans hcd.symm⟩
   ·exact g2 x hx
  ·rw [e, if_neg h0]
   have hlt : ∀ y ∈ d :: r, za7 c.1 y.1 < 0 := fun y hy => by
    have hcd : za7 c.1 d.1 < 0 := by
     have h3 := h1 d (List.mem_cons_self ..)
     have := cmpT_ord.anti c.1 d.1
     dsimp only at h3
     omega
    rcases List.mem_cons.1 hy with rfl | hy
    ·exact hcd
    ·have h3 := (List.pairwise_cons.1 h2).1 y hy
     dsimp only at h3
     by_cases h5 : za7 d.1 y.1 < 0
     ·exact cmpT_ord.tr hcd h5
     ·have h6 : za7 d.1 y.1 = 0 := by have := cmpT_ord.anti d.1 y.1; omega
      rw [← cmpT_ord.eq _ _ h6]; exact hcd
   refine ⟨fun x hx => ?_, fun x hx => ?_, ?_⟩
   ·rcases List.mem_cons.1 hx with rfl | hx
    ·rw [zcv, if_pos rfl, zd2.2 fun y hy e => cmpT_ord.irr x.1 (by rw [← e] ; exact absurd (hlt y hy) (by rw [e]; exact cmpT_ord.irr _))]; rfl
    ·rw [zcv, g1 x hx]; rfl
   ·rcases List.mem_cons.1 hx with rfl | hx
    ·exact ⟨x, List.mem_cons_self .., rfl⟩
    ·obtain ⟨y, hy, e⟩ := g2 x hx
     exact ⟨y, List.mem_cons_of_mem _ hy, e⟩
   ·unfold zoz
    rw [List.map_cons]
    refine List.pairwise_cons.2 ⟨fun t ht => ?_, g3⟩
    obtain ⟨y, hy, rfl⟩ := List.mem_map.1 ht
    exact hlt y (zdl (g1 y hy)).2
theorem zvd {l S : List CH} (h : Stb (·.1) za7 l S) : ze7 S = zj4 l := by
 obtain ⟨g1, g2, g3⟩ := zld h.1
 have hK : ∀ t, zcw S t = zcw l t := fun t => by unfold zcw; rw [h.2 t]
 refine zuw g3 (zn3 l) fun c => ?_
 rw [zn4]
 constructor
 ·exact fun hc => by rw [← hK]; exact g1 c hc
 ·intro hc
  rw [← hK] at hc
  obtain ⟨d, hd, e⟩ := g2 c (zdl hc).2
  have := g1 d hd
  rw [e, hc] at this
  cases this; exact hd
end Go.V.L8
set_option maxRecDepth 20000
namespace Go.V.L8
open Go.Proofs Go.RowKit Go.V Go.V.L2 Go.V.L3 Go.V.L6
theorem zxf (l : List CH) : ze7 (stC l) = zj4 l := zvd (zcp cmpT_ord l)
theorem zoc : ∀ (l : List CH), (ze7 l).length ≤ l.length
 | [] => Nat.le_refl _
 | [c] => Nat.le_refl _
 | c :: d :: r => by
  show (if za7 c.1 d.1 = 0 then ze7 (d :: r) else c :: ze7 (d :: r)).length ≤ _
  have := zoc (d :: r)
  split
  ·simp only [List.length_cons] at this ⊢; omega
  ·simp only [List.length_cons] at this ⊢; omega
attribute [local irreducible] V N X VO Par StepOK Has Ret RetL RetO RetT zb3 Src
set_option maxHeartbeats 1000000 in
theorem zsx {l : List CH} {fu : Bool} (hz : l.length ≤ 100000) {v : Value} {w : World} {B : Heap} (hB : B.Le (hp w)) (hv : KS tyC l fu v B) :
  RetO Tryz.prog 133 [v] w B (SlR tyC 7 l.length (l.flatMap ccs)) := by
 have hv0 := hv
 have hlen := zll l
 have hpl := zxu l
 obtain ⟨p, c, rfl⟩ := zav hv
 rcases p with _ | b
 ·obtain ⟨h0, rfl⟩ : l.length = 0 ∧ c = 0 := zqa hv
  have hn : l = [] := List.eq_nil_of_length_eq_zero h0
  subst hn
  refine zek Tryz.func133 rfl Tryz.ntmps133 (Nat.le_of_ble_eq_true rfl) hB ?_
  refine Z284 ?_; refine z7 (zgl rfl rfl rfl rfl z5a rfl) rfl ?_; refine Z323 ?_
  refine zdp 2 tyC 7 rfl ?_
  exact zik rfl (fun _ _ h => h) Since.refl rfl
 ·refine zek Tryz.func133 rfl Tryz.ntmps133 (Nat.le_of_ble_eq_true rfl) hB ?_
  refine Z284 ?_; refine z7 (zgl rfl rfl rfl rfl z5a rfl) rfl ?_; refine Z158 ?_
  refine zaq 0 (KS tyC l fu) rfl SlV.mono hv0 ?_
  refine Z28 ?_; refine z7 (zgd L rfl rfl rfl rfl rfl) rfl ?_; refine Z4 ?_; refine qo (zbr L rfl rfl rfl (zgu rfl) rfl zss (by assumption) (by assumption) (by omega) (by omega)) ?_; refine qo (yn (.inr rfl) rfl rfl rfl rfl) ?_; refine Z135 ?_
  rw [Nat.zero_add, List.nil_append]
  exact zik rfl (fun _ _ h => h) Since.refl rfl
set_option maxHeartbeats 8000000 in
set_option maxRecDepth 20000 in
theorem zpq {l m : List CH} {fu : Bool} (hm : zj4 l = m) (hz : l.length ≤ 50000) {v : Value} {w : World} {B : Heap} (hB : B.Le (hp w)) (hv : KS tyC l fu v B) :
  Ret Tryz.prog 90 [v] w B (KS tyC m true) := by
 subst hm
 have hsl := ze1 l
 refine yi Tryz.func90 rfl Tryz.ntmps90 (Nat.le_of_ble_eq_true rfl) hB ?_
 refine zaq 0 (KS tyC l fu) rfl SlV.mono hv ?_
 refine Z184 ?_; refine Z4 ?_; refine z7 (zei L rfl rfl (zk rfl) rfl rfl rfl (fun u H hH _ _ v1 hv1 => zsx (by omega) hH hv1)) rfl ?_; refine qo (yn (.inr rfl) rfl rfl rfl rfl) ?_; refine Z157 ?_; refine Z29 ?_; refine Z142 ?_
 refine zgx 3 900 rfl (fun h0 hn => ?_) fun b cap rest hl hmc hcm hcl => ?_
 ·have hl0 : l = [] := List.eq_nil_of_length_eq_zero h0
  subst hl0
  refine Z202 ?_; refine z7 (yt (φ := fun _ _ => True) L rfl rfl (zk rfl) rfl rfl rfl (fun _ _ _ _ _ => trivial) (fun u H hH _ _ => zrt hH)) rfl ?_; refine Z157 ?_
  refine zaq 3 (KS tyC [] false) rfl SlV.mono SlV.nil ?_
  refine Z27 ?_; refine Z4 ?_; refine z7 (za9 L (kl := .i64) (pl := 0) 0 0 true rfl rfl rfl rfl rfl rfl ⟨rfl, rfl⟩ ⟨rfl, rfl⟩ (by decide) (by decide) rfl) rfl ?_; refine Z51 ?_; refine Z194 ?_; refine Z37 ?_; refine Z368 ?_
  refine zai (fun _ : Nat => [(5, .sat (KS tyC [] true)), (15, .sat (KS tyC [] false)), (16, .is (.int .i64 0)), (17, .is (.int .i64 0))]) (fun _ => True) (fun s => s) 0 trivial ⟨rfl, rfl, rfl, rfl, trivial⟩ ?_
  rintro s _
  refine Z387 ?_; refine Z321 ?_; refine Z65 ?_; refine Z4 ?_; refine Z148 ?_; refine Z148 ?_; refine Z120 ?_; refine Z260 ?_
  refine yf L (rs := [.tmp 2]) rfl (fun _ _ h => h) Since.refl fun u H hH hle => ?_
  exact fun v hv => hv
 ·refine Z202 ?_; refine qo (za0 L 900 (zab b ((stC l).flatMap ccs ++ rest) tyC) (r := zab b (l.flatMap ccs ++ rest) tyC) rfl rfl rfl rfl rfl (fun u H C hH _ hr hC => (by have h := ztn (cap := cap) rfl (by omega) hH hr hC; exact h))) ?_; refine Z157 ?_
  refine zb5 (xs := (stC l).flatMap ccs) (rest := rest) (s := 7) 3 900 rfl rfl rfl (by rw [zll, hsl]) hmc hcm (by
   rw [List.length_append] at hcl ⊢
   rw [zll] at hcl ⊢
   rw [hsl]; exact hcl) ?_
  rw [← hsl]
  have hkn := zxf l
  have hkl := zoc (stC l)
  rw [← hkn]
  generalize stC l = S at *
  refine zb1 3 rfl ?_
  refine Z27 ?_; refine Z4 ?_; refine z7 (za9 L (kl := .i64) (pl := 0) 0 0 true rfl rfl rfl rfl rfl rfl ⟨rfl, rfl⟩ ⟨rfl, rfl⟩ (by omega) (by omega) rfl) rfl ?_; refine Z51 ?_; refine Z194 ?_; refine Z37 ?_; refine Z368 ?_
  refine zyd 5 (SlV tyC 7 [] 0 true) rfl SlV.mono (fun v H h => h) ?_
  refine z4z 5 rfl ?_
  refine zai (fun i : Nat × List CH => [(3, .sat (KS tyC S false)), (4, .is zj0), (5, .own (SlG tyC 7 i.2.length (i.2.flatMap ccs))), (15, .sat (KS tyC S false)), (16, .is (.int .i64 S.length)), (17, .is (.int .i64 i.1))]) (fun i => i.1 ≤ S.length ∧ i.2.length ≤ i.1 ∧ i.2 ++ ze7 (S.drop i.1) = ze7 S) (fun i => S.length - i.1) (0, []) ⟨Nat.zero_le _, Nat.le_refl _, rfl⟩ ⟨rfl, rfl, rfl, rfl, rfl, rfl, trivial⟩ ?_
  rintro ⟨i, kp⟩ ⟨h1, h2, h3⟩
  dsimp only at h1 h2 h3 ⊢
  by_cases hlt : i < S.length
  ·obtain ⟨c, hc0⟩ := zae hlt
   have hc := zf9 hc0
   have hst := zsi hc0
   have a1 : IntKind.i64.wrap ((i : Int) + 1) = ((i + 1 : Nat) : Int) := zaa (by omega) (by omega)
   by_cases hlast : i + 1 < S.length
   ·obtain ⟨d, hd0⟩ := zae hlast
    have hd := zf9 hd0
    rw [hd0] at hst
    dsimp only at hst
    by_cases heq : za7 c.1 d.1 = 0
    ·rw [if_pos heq, List.nil_append] at hst
     refine Z387 ?_; refine Z220 ?_; refine Z195 ?_; refine z7 (qs L _ rfl rfl rfl rfl rfl rfl rfl (by first | omega | decide) (by assumption)) rfl ?_; refine z7 (yd L (vs := [_, _, _, _, _, _, _]) rfl rfl rfl rfl rfl ⟨_, rfl⟩) rfl ?_; refine Z278 ?_; refine Z16 ?_; refine Z157 ?_; refine Z94 ?_; refine Z3 ?_; refine Z33 ?_; refine Z31 ?_; refine z8 (y8 L rfl rfl rfl rfl) rfl ?_; refine Z71 ?_; refine Z143 ?_; refine z8 (qb L (vs := [_, _, _, _, _, _, _]) (yl rfl) rfl rfl rfl rfl ⟨_, rfl⟩) rfl ?_; refine Z178 ?_; refine Z33 ?_; refine z8 (qs L _ rfl rfl rfl rfl rfl rfl rfl (by first | omega | decide) (by assumption)) rfl ?_; refine z8 (yd L (vs := [_, _, _, _, _, _, _]) rfl rfl rfl rfl rfl ⟨_, rfl⟩) rfl ?_; refine z8 (zw L rfl rfl (zk rfl) rfl rfl rfl (fun u H hH _ _ => zdh hH)) rfl ?_; refine z8 (yq rfl rfl rfl rfl (decide_eq_false (by omega))) rfl ?_; refine Z207 ?_; refine Z339 ?_; refine Z67 ?_; refine Z20 ?_; refine Z263 ?_
     exact yk (x := (i, kp)) (i + 1, kp) ⟨hlt, by dsimp only; omega, by dsimp only; rw [← hst]; exact h3⟩ (by dsimp only; omega) ⟨rfl, rfl, rfl, rfl, rfl, rfl, trivial⟩
    ·rw [if_neg heq] at hst
     refine Z387 ?_; refine Z220 ?_; refine Z195 ?_; refine z7 (qs L _ rfl rfl rfl rfl rfl rfl rfl (by first | omega | decide) (by assumption)) rfl ?_; refine z7 (yd L (vs := [_, _, _, _, _, _, _]) rfl rfl rfl rfl rfl ⟨_, rfl⟩) rfl ?_; refine Z278 ?_; refine Z16 ?_; refine Z157 ?_; refine Z94 ?_; refine Z3 ?_; refine Z33 ?_; refine Z31 ?_; refine z8 (y8 L rfl rfl rfl rfl) rfl ?_; refine Z71 ?_; refine Z143 ?_; refine z8 (qb L (vs := [_, _, _, _, _, _, _]) (yl rfl) rfl rfl rfl rfl ⟨_, rfl⟩) rfl ?_; refine Z178 ?_; refine Z33 ?_; refine z8 (qs L _ rfl rfl rfl rfl rfl rfl rfl (by first | omega | decide) (by assumption)) rfl ?_; refine z8 (yd L (vs := [_, _, _, _, _, _, _]) rfl rfl rfl rfl rfl ⟨_, rfl⟩) rfl ?_; refine z8 (zw L rfl rfl (zk rfl) rfl rfl rfl (fun u H hH _ _ => zdh hH)) rfl ?_; refine z8 (yq rfl rfl rfl rfl (decide_eq_true (by omega))) rfl ?_; refine Z268 ?_; refine Z60 ?_; refine qo (yn (.inl rfl) rfl rfl rfl rfl) ?_; refine z7 (qb L (vs := [_, _, _, _, _, _, _]) (yl rfl) rfl rfl rfl rfl ⟨_, rfl⟩) rfl ?_; refine Z34 ?_; refine qo (zla L (by decide) rfl rfl rfl (zgv rfl) rfl zss rfl rfl (by omega) (by omega)) ?_; refine qo (yn (.inr rfl) rfl rfl rfl rfl) ?_; refine Z233 ?_; refine Z67 ?_; refine Z20 ?_; refine Z263 ?_
     exact yk (x := (i, kp)) (i + 1, kp ++ [c]) ⟨hlt, by dsimp only; rw [List.length_append, List.length_singleton]; omega, by dsimp only; rw [List.append_assoc, ← hst]; exact h3⟩ (by dsimp only; omega) ⟨rfl, rfl, by dsimp only; rw [List.flatMap_append, List.length_append]; rfl, rfl, rfl, rfl, trivial⟩
   ·have hend : i + 1 = S.length := by omega
    rw [List.getElem?_eq_none (by omega)] at hst
    dsimp only at hst
    refine Z387 ?_; refine Z220 ?_; refine Z195 ?_; refine z7 (qs L _ rfl rfl rfl rfl rfl rfl rfl (by first | omega | decide) (by assumption)) rfl ?_; refine z7 (yd L (vs := [_, _, _, _, _, _, _]) rfl rfl rfl rfl rfl ⟨_, rfl⟩) rfl ?_; refine Z278 ?_; refine Z16 ?_; refine Z157 ?_; refine Z94 ?_; refine Z3 ?_; refine Z33 ?_; refine Z31 ?_; refine z8 (y8 L rfl rfl rfl rfl) rfl ?_; refine Z76 ?_; refine Z247 ?_; refine Z6 ?_; refine Z268 ?_; refine Z60 ?_; refine qo (yn (.inl rfl) rfl rfl rfl rfl) ?_; refine z7 (qb L (vs := [_, _, _, _, _, _, _]) (yl rfl) rfl rfl rfl rfl ⟨_, rfl⟩) rfl ?_; refine Z34 ?_; refine qo (zla L (by decide) rfl rfl rfl (zgv rfl) rfl zss rfl rfl (by omega) (by omega)) ?_; refine qo (yn (.inr rfl) rfl rfl rfl rfl) ?_; refine Z233 ?_; refine Z67 ?_; refine Z20 ?_; refine Z263 ?_
    exact yk (x := (i, kp)) (i + 1, kp ++ [c]) ⟨hlt, by dsimp only; rw [List.length_append, List.length_singleton]; omega, by dsimp only; rw [List.append_assoc, ← hst]; exact h3⟩ (by dsimp only; omega) ⟨rfl, rfl, by dsimp only; rw [List.flatMap_append, List.length_append]; rfl, rfl, rfl, rfl, trivial⟩
  ·rw [List.drop_eq_nil_of_le (by omega), show ze7 [] = [] from rfl, List.append_nil] at h3
   subst h3
   refine z3j 5 rfl ?_
   refine Z387 ?_; refine Z321 ?_; refine Z65 ?_; refine Z4 ?_; refine Z148 ?_; refine Z148 ?_; refine Z120 ?_; refine Z260 ?_
   refine yf L (rs := [.tmp 2]) rfl (fun _ _ h => h) Since.refl fun u H hH hle => ?_
   exact fun v hv => hv
end Go.V.L8
set_option maxRecDepth 20000
namespace Go.V.L2
open Go.Proofs Go.RowKit Go.V
theorem _root_.Go.V.Z68 {A B : Prop} (h : B) (t : Wr B → A := by intro h; refine z8 (qs L 0 rfl rfl rfl rfl rfl rfl rfl (by first | omega | decide) (by assumption)) rfl ?_; exact h.h) : A := t ⟨h⟩
theorem _root_.Go.V.Z78 {A B : Prop} (h : B) (t : Wr B → A := by intro h; refine z7 (qs L 0 rfl rfl rfl rfl rfl rfl rfl (by first | omega | decide) (by assumption)) rfl ?_; exact h.h) : A := t ⟨h⟩
theorem _root_.Go.V.Z360 {A B : Prop} (h : B) (t : Wr B → A := by intro h; refine Z31 ?_; refine Z68 ?_; exact h.h) : A := t ⟨h⟩
theorem _root_.Go.V.Z379 {A B : Prop} (h : B) (t : Wr B → A := by intro h; refine Z32 ?_; refine Z1 ?_; exact h.h) : A := t ⟨h⟩
theorem _root_.Go.V.Z380 {A B : Prop} (h : B) (t : Wr B → A := by intro h; refine Z148 ?_; refine Z38 ?_; exact h.h) : A := t ⟨h⟩
theorem _root_.Go.V.Z381 {A B : Prop} (h : B) (t : Wr B → A := by intro h; refine Z244 ?_; refine Z65 ?_; exact h.h) : A := t ⟨h⟩
theorem _root_.Go.V.Z388 {A B : Prop} (h : B) (t : Wr B → A := by intro h; refine zh ?_; refine Z86 ?_; exact h.h) : A := t ⟨h⟩
theorem _root_.Go.V.Z404 {A B : Prop} (h : B) (t : Wr B → A := by intro h; refine Z40 ?_; refine Z142 ?_; exact h.h) : A := t ⟨h⟩
theorem _root_.Go.V.Z405 {A B : Prop} (h : B) (t : Wr B → A := by intro h; refine Z404 ?_; refine Z344 ?_; exact h.h) : A := t ⟨h⟩
theorem _root_.Go.V.Z406 {A B : Prop} (h : B) (t : Wr B → A := by intro h; refine Z405 ?_; refine Z148 ?_; exact h.h) : A := t ⟨h⟩
theorem _root_.Go.V.Z407 {A B : Prop} (h : B) (t : Wr B → A := by intro h; refine Z378 ?_; refine Z271 ?_; exact h.h) : A := t ⟨h⟩
theorem _root_.Go.V.Z408 {A B : Prop} (h : B) (t : Wr B → A := by intro h; refine Z4 ?_; refine Z78 ?_; exact h.h) : A := t ⟨h⟩
theorem _root_.Go.V.Z409 {A B : Prop} (h : B) (t : Wr B → A := by intro h; refine Z194 ?_; refine Z293 ?_; exact h.h) : A := t ⟨h⟩
theorem zrp {φ : Value → Heap → Prop} {a tv : Value} {H : Heap} (h : φ tv H) : TupS [φ, fun v _ => v = a] (.tuple #[tv, a]) H :=
 ⟨[tv, a], rfl, rfl, fun i ψ x hi hx => by
  rcases i with _ | _ | i
  ·simp at hi hx; subst hi hx; exact h
  ·simp at hi hx; subst hi hx; rfl
  ·simp at hi⟩
theorem zro {φ : Value → Heap → Prop} {a : Value} (h : Kn.mono (.sat φ)) : Kn.mono (.sat (TupS [φ, fun v _ => v = a])) := TupS.mono fun ψ hψ => by
 rcases List.mem_cons.1 hψ with rfl | hψ
 ·exact h
 ·rw [List.mem_singleton] at hψ
  subst hψ
  exact fun _ _ _ h _ => h
theorem zdc {α : Type} {c : α → α → Int} {f : Bool → Bool → Bool} : ∀ (n : Nat) (l m : List α), l.length + m.length ≤ n → (zc8 c f n l m).length ≤ l.length + m.length
 | 0, _, _, _ => by simp [zc8]
 | n + 1, [], [], _ => by simp [zc8]
 | n + 1, a :: l, [], h => by
  have := zdc (c := c) (f := f) n l [] (by simp only [List.length_cons, List.length_nil] at h ⊢; omega)
  simp only [zc8, List.length_append, List.length_cons, List.length_nil] at this ⊢
  split <;> simp only [List.length_cons, List.length_nil] <;> omega
 | n + 1, [], b :: m, h => by
  have := zdc (c := c) (f := f) n [] m (by simp only [List.length_cons, List.length_nil] at h ⊢; omega)
  simp only [zc8, List.length_append, List.length_cons, List.length_nil] at this ⊢
  split <;> simp only [List.length_cons, List.length_nil] <;> omega
 | n + 1, a :: l, b :: m, h => by
  simp only [List.length_cons] at h
  have h1 := zdc (c := c) (f := f) n l (b :: m) (by simp only [List.length_cons]; omega)
  have h2 := zdc (c := c) (f := f) n (a :: l) m (by simp only [List.length_cons]; omega)
  have h3 := zdc (c := c) (f := f) n l m (by omega)
  simp only [List.length_cons] at h1 h2
  simp only [zc8]
  split
  ·rw [List.length_append]; split <;> simp only [List.length_cons, List.length_nil] <;> omega
  ·split
   ·rw [List.length_append]; split <;> simp only [List.length_cons, List.length_nil] <;> omega
   ·rw [List.length_append]; split <;> simp only [List.length_cons, List.length_nil] <;> omega
def z2h (f : Bool → Bool → Bool) (l m : List U) : List U × Int :=
 if 4096 < l.length ∨ 4096 < m.length then ([], 3) else if (isB l && isB m) = true then (zc8 za7 f (l.length + m.length) l m, 0) else ([], 18)
abbrev LE (r : List U × Int) : Value → Heap → Prop := TupS [US r.1 true, fun v _ => v = .int .i64 r.2]
theorem LE.mono {r : List U × Int} : Kn.mono (.sat (LE r)) := zro SlV.mono
theorem zlu (a : U) (l : List U) : (((a :: l).flatMap ucs).drop (1 * 6)).take (((a :: l).length - 1) * 6) = l.flatMap ucs := by
 rw [List.flatMap_cons, List.drop_left' (by rfl), List.length_cons, Nat.add_sub_cancel, List.take_of_length_le (Nat.le_of_eq (zcg zlq l))]
theorem zjc {κ : Kap} {s : Nat} {out : List U} {t : U} (h : κ s = some (.own (SlR tyU 6 (out.length + 1) (out.flatMap ucs ++ [.string t.1.1.1, .string t.1.1.2, .string t.1.2, .string t.2.1.1, .string t.2.1.2, .string t.2.2])))) : κ s = some (.own (SlR tyU 6 (out ++ [t]).length ((out ++ [t]).flatMap ucs))) := by
 rw [h, List.flatMap_append, List.length_append]; simp [ucs]
attribute [local irreducible] V N X VO Par StepOK Has Ret RetL Src
set_option maxHeartbeats 4000000 in
theorem zu0 {f : Bool → Bool → Bool} {tf : Nat} (hfn : L.fn tf = some ()) (hf : ∀ (p q : Bool) (u : World) (H : Heap), H.Le (hp u) → Ret Tryz.prog tf [.bool p, .bool q] u H (fun v _ => v = .bool (f p q))) {l m : List U} {fa fb : Bool}
  {r : List U × Int} (hr : z2h f l m = r) {v v2 : Value} {w : World} {B : Heap} (hB : B.Le (hp w)) (hv : US l fa v B) (hv2 : US m fb v2 B) :
  Ret Tryz.prog 131 [v, v2, .func (.func tf) #[] #[]] w B (LE r) := by
 subst hr
 unfold z2h
 refine yi Tryz.func131 rfl Tryz.ntmps131 (Nat.le_of_ble_eq_true rfl) hB ?_
 refine zaq 0 (US l fa) rfl SlV.mono hv ?_
 refine zaq 1 (US m fb) rfl SlV.mono hv2 ?_
 by_cases z1 : 4096 < l.length
 ·rw [if_pos (.inl z1)]
  refine Z258 ?_; refine Z276 ?_; refine Z38 ?_; refine Z254 ?_; refine Z223 ?_; refine Z182 ?_
  refine yf L (rs := [.tmp 6, .tmp 7]) rfl (fun _ _ h => h) Since.refl fun u H hH hle => ?_
  exact zrp SlV.nil
 ·by_cases z2 : 4096 < m.length
  ·rw [if_pos (.inr z2)]
   refine Z258 ?_; refine Z276 ?_; refine Z379 ?_; refine Z380 ?_; refine Z7 ?_; refine Z223 ?_; refine Z182 ?_
   refine yf L (rs := [.tmp 6, .tmp 7]) rfl (fun _ _ h => h) Since.refl fun u H hH hle => ?_
   exact zrp SlV.nil
  ·rw [if_neg (by omega)]
   cases h1 : isB l
   ·rw [if_neg (by simp)]
    refine Z258 ?_; refine Z276 ?_; refine Z379 ?_; refine Z148 ?_; refine Z296 ?_; refine Z165 ?_; refine Z28 ?_; refine Z4 ?_; refine z7 (zw L rfl rfl (zk rfl) rfl rfl rfl (fun u H hH _ _ v1 hv1 => zje (by omega) h1 hH hv1)) rfl ?_; refine Z49 ?_; refine Z254 ?_; refine Z327 ?_; refine Z182 ?_
    refine yf L (rs := [.tmp 6, .tmp 7]) rfl (fun _ _ h => h) Since.refl fun u H hH hle => ?_
    exact zrp SlV.nil
   ·cases h2 : isB m
    ·rw [if_neg (by simp)]
     refine Z258 ?_; refine Z276 ?_; refine Z379 ?_; refine Z148 ?_; refine Z296 ?_; refine Z165 ?_; refine Z28 ?_; refine Z4 ?_; refine z7 (zw L rfl rfl (zk rfl) rfl rfl rfl (fun u H hH _ _ v1 hv1 => zje (by omega) h1 hH hv1)) rfl ?_; refine Z49 ?_; refine Z1 ?_; refine Z4 ?_; refine z7 (zw L rfl rfl (zk rfl) rfl rfl rfl (fun u H hH _ _ v1 hv1 => zje (by omega) h2 hH hv1)) rfl ?_; refine Z302 ?_; refine Z327 ?_; refine Z182 ?_
     refine yf L (rs := [.tmp 6, .tmp 7]) rfl (fun _ _ h => h) Since.refl fun u H hH hle => ?_
     exact zrp SlV.nil
    ·rw [if_pos (by rfl)]
     refine Z258 ?_; refine Z276 ?_; refine Z379 ?_; refine Z148 ?_; refine Z296 ?_; refine Z165 ?_; refine Z28 ?_; refine Z4 ?_; refine z7 (zw L rfl rfl (zk rfl) rfl rfl rfl (fun u H hH _ _ v1 hv1 => zje (by omega) h1 hH hv1)) rfl ?_; refine Z49 ?_; refine Z1 ?_; refine Z4 ?_; refine z7 (zw L rfl rfl (zk rfl) rfl rfl rfl (fun u H hH _ _ v1 hv1 => zje (by omega) h2 hH hv1)) rfl ?_; refine Z302 ?_; refine Z158 ?_; refine Z37 ?_; refine Z142 ?_; refine ql ?_
     refine zyd 0 (US l false) rfl SlV.mono (fun _ _ h => h.nofu) ?_
     refine zyd 1 (US m false) rfl SlV.mono (fun _ _ h => h.nofu) ?_
     refine zdp 8 tyU 6 rfl ?_
     refine zai (fun s : Nat × List U × List U × List U => [(0, .sat (US s.2.1 false)), (1, .sat (US s.2.2.1 false)), (2, .is (.func (.func tf) #[] #[])), (8, .own (SlR tyU 6 s.2.2.2.length (s.2.2.2.flatMap ucs)))])
      (fun s => s.2.1.length + s.2.2.1.length ≤ s.1 ∧ s.2.2.2 ++ zc8 za7 f s.1 s.2.1 s.2.2.1 = zc8 za7 f (l.length + m.length) l m ∧ s.2.2.2.length + s.2.1.length + s.2.2.1.length ≤ 8192) (fun s => s.1) (l.length + m.length, l, m, []) ⟨Nat.le_refl _, rfl, by simp only [List.length_nil]; omega⟩ ⟨rfl, rfl, rfl, rfl, trivial⟩ ?_
     generalize zc8 za7 f (l.length + m.length) l m = R
     clear h1 h2 z1 z2 hv hv2
     rintro ⟨n, x, y, out⟩ ⟨hn, hR, hz⟩
     dsimp only at hn hR hz ⊢
     rcases x with _ | ⟨a, x⟩
     ·rcases y with _ | ⟨b, y⟩
      ·have hR : out = R := by rw [← hR]; cases n <;> simp [zc8]
       subst hR
       have l0 : ([] : List U).length = 0 := rfl
       refine Z320 ?_; refine Z148 ?_; refine Z379 ?_; refine Z148 ?_; refine Z296 ?_; refine Z181 ?_; refine zh ?_
       refine zb1 8 rfl ?_
       refine zf (id := 22) ?_; refine Z4 ?_; refine Z148 ?_; refine Z148 ?_; refine Z120 ?_; refine Z51 ?_; refine Z136 ?_
       refine yf L (rs := [.tmp 6, .tmp 7]) rfl (fun _ _ h => h) Since.refl fun u H hH hle => ?_
       exact fun v hv => zrp hv
      ·have l0 : ([] : List U).length = 0 := rfl
       have lb : (b :: y).length = y.length + 1 := rfl
       have hb := zfh (l := b :: y) (i := 0) (t := b) rfl
       have tb := zlu b y
       rcases n with _ | n
       ·simp only [List.length_cons, List.length_nil] at hn; omega
       cases hft : f false true
       ·have hR : out ++ zc8 za7 f n [] y = R := by rw [← hR]; simp [zc8, hft]
        have hfv : ∀ (u : World) (H : Heap), H.Le (hp u) → Ret Tryz.prog tf [.bool false, .bool true] u H (fun v _ => v = .bool false) := fun u H h => by have := hf false true u H h; rwa [hft] at this
        refine Z320 ?_; refine Z148 ?_; refine Z379 ?_; refine Z380 ?_; refine Z249 ?_; refine Z226 ?_; refine Z406 ?_; refine Z334 ?_; refine Z67 ?_; refine Z371 ?_; refine Z388 ?_; refine z7 (yu (cs := [_, _, _, _, _, _]) rfl rfl zfd rfl rfl) rfl ?_; refine Z407 ?_; refine Z38 ?_; refine Z141 ?_; refine Z95 ?_; refine Z408 ?_; refine z7 (yd L (vs := [_, _, _, _, _, _]) rfl rfl rfl rfl rfl ⟨_, rfl⟩) rfl ?_; refine Z16 ?_; refine Z409 ?_; refine Z253 ?_; refine Z119 ?_; refine Z4 ?_; refine z7 (za9 L (kh := .i64) (ph := 0) (km := .i64) (pm := 0) 1 _ false rfl rfl rfl rfl rfl ⟨rfl, rfl⟩ ⟨rfl, rfl⟩ (fun h => by cases h) (by omega) (by omega) (by assumption)) rfl ?_; refine Z377 ?_; refine Z355 ?_; refine Z72 ?_; refine Z1 ?_; refine Z41 ?_; refine z7 (zw L rfl rfl (zk rfl) rfl rfl hfn (fun u H hH _ _ => hfv u H hH)) rfl ?_; refine Z193 ?_; refine yc ?_
        exact yk (x := (n + 1, [], b :: y, out)) (n, [], y, out) ⟨by simp only [List.length_cons, List.length_nil] at hn ⊢; omega, hR, by simp only [List.length_cons, List.length_nil, List.length_append] at hz ⊢; omega⟩ (by dsimp only; omega) ⟨rfl, rfl, rfl, rfl, trivial⟩
       ·have hR : out ++ [b] ++ zc8 za7 f n [] y = R := by rw [← hR]; simp [zc8, hft]
        have hfv : ∀ (u : World) (H : Heap), H.Le (hp u) → Ret Tryz.prog tf [.bool false, .bool true] u H (fun v _ => v = .bool true) := fun u H h => by have := hf false true u H h; rwa [hft] at this
        refine Z320 ?_; refine Z148 ?_; refine Z379 ?_; refine Z380 ?_; refine Z249 ?_; refine Z226 ?_; refine Z406 ?_; refine Z334 ?_; refine Z67 ?_; refine Z371 ?_; refine Z388 ?_; refine z7 (yu (cs := [_, _, _, _, _, _]) rfl rfl zfd rfl rfl) rfl ?_; refine Z407 ?_; refine Z38 ?_; refine Z141 ?_; refine Z95 ?_; refine Z408 ?_; refine z7 (yd L (vs := [_, _, _, _, _, _]) rfl rfl rfl rfl rfl ⟨_, rfl⟩) rfl ?_; refine Z16 ?_; refine Z409 ?_; refine Z253 ?_; refine Z119 ?_; refine Z4 ?_; refine z7 (za9 L (kh := .i64) (ph := 0) (km := .i64) (pm := 0) 1 _ false rfl rfl rfl rfl rfl ⟨rfl, rfl⟩ ⟨rfl, rfl⟩ (fun h => by cases h) (by omega) (by omega) (by assumption)) rfl ?_; refine Z377 ?_; refine Z355 ?_; refine Z72 ?_; refine Z1 ?_; refine Z41 ?_; refine z7 (zw L rfl rfl (zk rfl) rfl rfl hfn (fun u H hH _ _ => hfv u H hH)) rfl ?_; refine Z141 ?_; refine Z115 ?_; refine qo (yn (.inl rfl) rfl rfl rfl rfl) ?_; refine z7 (qb L (vs := [_, _, _, _, _, _]) (yl rfl) rfl rfl rfl rfl ⟨_, rfl⟩) rfl ?_; refine Z290 ?_; refine qo (yn (.inr rfl) rfl rfl rfl rfl) ?_; refine zi ?_; refine yc ?_
        exact yk (x := (n + 1, [], b :: y, out)) (n, [], y, out ++ [b]) ⟨by simp only [List.length_cons, List.length_nil] at hn ⊢; omega, hR, by simp only [List.length_cons, List.length_nil, List.length_append] at hz ⊢; omega⟩ (by dsimp only; omega) ⟨rfl, rfl, rfl, zjc rfl, trivial⟩
     ·have la : (a :: x).length = x.length + 1 := rfl
      have ha := zfh (l := a :: x) (i := 0) (t := a) rfl
      have ta := zlu a x
      rcases y with _ | ⟨b, y⟩
      ·have l0 : ([] : List U).length = 0 := rfl
       rcases n with _ | n
       ·simp only [List.length_cons, List.length_nil] at hn; omega
       cases hft : f true false
       ·have hR : out ++ zc8 za7 f n x [] = R := by rw [← hR]; simp [zc8, hft]
        have hfv : ∀ (u : World) (H : Heap), H.Le (hp u) → Ret Tryz.prog tf [.bool true, .bool false] u H (fun v _ => v = .bool false) := fun u H h => by have := hf true false u H h; rwa [hft] at this
        refine Z320 ?_; refine Z380 ?_; refine Z254 ?_; refine Z305 ?_; refine Z406 ?_; refine Z381 ?_; refine Z148 ?_; refine Z334 ?_; refine Z80 ?_; refine Z371 ?_; refine Z388 ?_; refine z7 (yu (cs := [_, _, _, _, _, _]) rfl rfl zfd rfl rfl) rfl ?_; refine Z407 ?_; refine Z32 ?_; refine Z366 ?_; refine Z102 ?_; refine Z408 ?_; refine z7 (yd L (vs := [_, _, _, _, _, _]) rfl rfl rfl rfl rfl ⟨_, rfl⟩) rfl ?_; refine Z261 ?_; refine Z396 ?_; refine z7 (za9 L (kh := .i64) (ph := 0) (km := .i64) (pm := 0) 1 _ false rfl rfl rfl rfl rfl ⟨rfl, rfl⟩ ⟨rfl, rfl⟩ (fun h => by cases h) (by omega) (by omega) (by assumption)) rfl ?_; refine Z51 ?_; refine Z409 ?_; refine Z46 ?_; refine Z158 ?_; refine Z355 ?_; refine Z77 ?_; refine Z1 ?_; refine Z46 ?_; refine z7 (zw L rfl rfl (zk rfl) rfl rfl hfn (fun u H hH _ _ => hfv u H hH)) rfl ?_; refine Z193 ?_; refine yc ?_
        exact yk (x := (n + 1, a :: x, [], out)) (n, x, [], out) ⟨by simp only [List.length_cons, List.length_nil] at hn ⊢; omega, hR, by simp only [List.length_cons, List.length_nil, List.length_append] at hz ⊢; omega⟩ (by dsimp only; omega) ⟨rfl, rfl, rfl, rfl, trivial⟩
       ·have hR : out ++ [a] ++ zc8 za7 f n x [] = R := by rw [← hR]; simp [zc8, hft]
        have hfv : ∀ (u : World) (H : Heap), H.Le (hp u) → Ret Tryz.prog tf [.bool true, .bool false] u H (fun v _ => v = .bool true) := fun u H h => by have := hf true false u H h; rwa [hft] at this
        refine Z320 ?_; refine Z380 ?_; refine Z254 ?_; refine Z305 ?_; refine Z406 ?_; refine Z381 ?_; refine Z148 ?_; refine Z334 ?_; refine Z80 ?_; refine Z371 ?_; refine Z388 ?_; refine z7 (yu (cs := [_, _, _, _, _, _]) rfl rfl zfd rfl rfl) rfl ?_; refine Z407 ?_; refine Z32 ?_; refine Z366 ?_; refine Z102 ?_; refine Z408 ?_; refine z7 (yd L (vs := [_, _, _, _, _, _]) rfl rfl rfl rfl rfl ⟨_, rfl⟩) rfl ?_; refine Z261 ?_; refine Z396 ?_; refine z7 (za9 L (kh := .i64) (ph := 0) (km := .i64) (pm := 0) 1 _ false rfl rfl rfl rfl rfl ⟨rfl, rfl⟩ ⟨rfl, rfl⟩ (fun h => by cases h) (by omega) (by omega) (by assumption)) rfl ?_; refine Z51 ?_; refine Z409 ?_; refine Z46 ?_; refine Z158 ?_; refine Z355 ?_; refine Z77 ?_; refine Z1 ?_; refine Z46 ?_; refine z7 (zw L rfl rfl (zk rfl) rfl rfl hfn (fun u H hH _ _ => hfv u H hH)) rfl ?_; refine Z141 ?_; refine Z115 ?_; refine qo (yn (.inl rfl) rfl rfl rfl rfl) ?_; refine z7 (qb L (vs := [_, _, _, _, _, _]) (yl rfl) rfl rfl rfl rfl ⟨_, rfl⟩) rfl ?_; refine Z290 ?_; refine qo (yn (.inr rfl) rfl rfl rfl rfl) ?_; refine zi ?_; refine yc ?_
        exact yk (x := (n + 1, a :: x, [], out)) (n, x, [], out ++ [a]) ⟨by simp only [List.length_cons, List.length_nil] at hn ⊢; omega, hR, by simp only [List.length_cons, List.length_nil, List.length_append] at hz ⊢; omega⟩ (by dsimp only; omega) ⟨rfl, rfl, rfl, zjc rfl, trivial⟩
      ·have lb : (b :: y).length = y.length + 1 := rfl
       have hb := zfh (l := b :: y) (i := 0) (t := b) rfl
       have tb := zlu b y
       by_cases c1 : za7 a b < 0
       ·rcases n with _ | n
        ·simp only [List.length_cons, List.length_nil] at hn; omega
        cases hft : f true false
        ·have hR : out ++ zc8 za7 f n x (b :: y) = R := by rw [← hR]; simp [zc8, c1, hft]
         have hfv : ∀ (u : World) (H : Heap), H.Le (hp u) → Ret Tryz.prog tf [.bool true, .bool false] u H (fun v _ => v = .bool false) := fun u H h => by have := hf true false u H h; rwa [hft] at this
         refine Z320 ?_; refine Z380 ?_; refine Z254 ?_; refine Z305 ?_; refine Z406 ?_; refine Z381 ?_; refine Z148 ?_; refine Z359 ?_; refine Z94 ?_; refine Z360 ?_; refine z8 (yd L (vs := [_, _, _, _, _, _]) rfl rfl rfl rfl rfl ⟨_, rfl⟩) rfl ?_; refine Z360 ?_; refine z8 (yd L (vs := [_, _, _, _, _, _]) rfl rfl rfl rfl rfl ⟨_, rfl⟩) rfl ?_; refine z8 (zw L rfl rfl (zk rfl) rfl rfl rfl (fun u H hH _ _ => zdg hH)) rfl ?_; refine Z36 ?_; refine Z264 ?_; refine Z388 ?_; refine z7 (yu (cs := [_, _, _, _, _, _]) rfl rfl zfd rfl rfl) rfl ?_; refine Z407 ?_; refine Z32 ?_; refine Z366 ?_; refine Z102 ?_; refine Z408 ?_; refine z7 (yd L (vs := [_, _, _, _, _, _]) rfl rfl rfl rfl rfl ⟨_, rfl⟩) rfl ?_; refine Z261 ?_; refine Z396 ?_; refine z7 (za9 L (kh := .i64) (ph := 0) (km := .i64) (pm := 0) 1 _ false rfl rfl rfl rfl rfl ⟨rfl, rfl⟩ ⟨rfl, rfl⟩ (fun h => by cases h) (by omega) (by omega) (by assumption)) rfl ?_; refine Z51 ?_; refine Z409 ?_; refine Z46 ?_; refine Z158 ?_; refine Z355 ?_; refine Z77 ?_; refine Z1 ?_; refine Z46 ?_; refine z7 (zw L rfl rfl (zk rfl) rfl rfl hfn (fun u H hH _ _ => hfv u H hH)) rfl ?_; refine Z193 ?_; refine yc ?_
         exact yk (x := (n + 1, a :: x, b :: y, out)) (n, x, (b :: y), out) ⟨by simp only [List.length_cons, List.length_nil] at hn ⊢; omega, hR, by simp only [List.length_cons, List.length_nil, List.length_append] at hz ⊢; omega⟩ (by dsimp only; omega) ⟨rfl, rfl, rfl, rfl, trivial⟩
        ·have hR : out ++ [a] ++ zc8 za7 f n x (b :: y) = R := by rw [← hR]; simp [zc8, c1, hft]
         have hfv : ∀ (u : World) (H : Heap), H.Le (hp u) → Ret Tryz.prog tf [.bool true, .bool false] u H (fun v _ => v = .bool true) := fun u H h => by have := hf true false u H h; rwa [hft] at this
         refine Z320 ?_; refine Z380 ?_; refine Z254 ?_; refine Z305 ?_; refine Z406 ?_; refine Z381 ?_; refine Z148 ?_; refine Z359 ?_; refine Z94 ?_; refine Z360 ?_; refine z8 (yd L (vs := [_, _, _, _, _, _]) rfl rfl rfl rfl rfl ⟨_, rfl⟩) rfl ?_; refine Z360 ?_; refine z8 (yd L (vs := [_, _, _, _, _, _]) rfl rfl rfl rfl rfl ⟨_, rfl⟩) rfl ?_; refine z8 (zw L rfl rfl (zk rfl) rfl rfl rfl (fun u H hH _ _ => zdg hH)) rfl ?_; refine Z36 ?_; refine Z264 ?_; refine Z388 ?_; refine z7 (yu (cs := [_, _, _, _, _, _]) rfl rfl zfd rfl rfl) rfl ?_; refine Z407 ?_; refine Z32 ?_; refine Z366 ?_; refine Z102 ?_; refine Z408 ?_; refine z7 (yd L (vs := [_, _, _, _, _, _]) rfl rfl rfl rfl rfl ⟨_, rfl⟩) rfl ?_; refine Z261 ?_; refine Z396 ?_; refine z7 (za9 L (kh := .i64) (ph := 0) (km := .i64) (pm := 0) 1 _ false rfl rfl rfl rfl rfl ⟨rfl, rfl⟩ ⟨rfl, rfl⟩ (fun h => by cases h) (by omega) (by omega) (by assumption)) rfl ?_; refine Z51 ?_; refine Z409 ?_; refine Z46 ?_; refine Z158 ?_; refine Z355 ?_; refine Z77 ?_; refine Z1 ?_; refine Z46 ?_; refine z7 (zw L rfl rfl (zk rfl) rfl rfl hfn (fun u H hH _ _ => hfv u H hH)) rfl ?_; refine Z141 ?_; refine Z115 ?_; refine qo (yn (.inl rfl) rfl rfl rfl rfl) ?_; refine z7 (qb L (vs := [_, _, _, _, _, _]) (yl rfl) rfl rfl rfl rfl ⟨_, rfl⟩) rfl ?_; refine Z290 ?_; refine qo (yn (.inr rfl) rfl rfl rfl rfl) ?_; refine zi ?_; refine yc ?_
         exact yk (x := (n + 1, a :: x, b :: y, out)) (n, x, (b :: y), out ++ [a]) ⟨by simp only [List.length_cons, List.length_nil] at hn ⊢; omega, hR, by simp only [List.length_cons, List.length_nil, List.length_append] at hz ⊢; omega⟩ (by dsimp only; omega) ⟨rfl, rfl, rfl, zjc rfl, trivial⟩
       ·by_cases c2 : 0 < za7 a b
        ·rcases n with _ | n
         ·simp only [List.length_cons, List.length_nil] at hn; omega
         cases hft : f false true
         ·have hR : out ++ zc8 za7 f n (a :: x) y = R := by rw [← hR]; simp [zc8, c1, c2, hft]
          have hfv : ∀ (u : World) (H : Heap), H.Le (hp u) → Ret Tryz.prog tf [.bool false, .bool true] u H (fun v _ => v = .bool false) := fun u H h => by have := hf false true u H h; rwa [hft] at this
          refine Z320 ?_; refine Z380 ?_; refine Z254 ?_; refine Z305 ?_; refine Z406 ?_; refine Z381 ?_; refine Z148 ?_; refine Z359 ?_; refine Z94 ?_; refine Z360 ?_; refine z8 (yd L (vs := [_, _, _, _, _, _]) rfl rfl rfl rfl rfl ⟨_, rfl⟩) rfl ?_; refine Z360 ?_; refine z8 (yd L (vs := [_, _, _, _, _, _]) rfl rfl rfl rfl rfl ⟨_, rfl⟩) rfl ?_; refine z8 (zw L rfl rfl (zk rfl) rfl rfl rfl (fun u H hH _ _ => zdg hH)) rfl ?_; refine Z36 ?_; refine Z264 ?_; refine Z388 ?_; refine z7 (yu (cs := [_, _, _, _, _, _]) rfl rfl zfd rfl rfl) rfl ?_; refine Z407 ?_; refine Z38 ?_; refine Z141 ?_; refine Z95 ?_; refine Z408 ?_; refine z7 (yd L (vs := [_, _, _, _, _, _]) rfl rfl rfl rfl rfl ⟨_, rfl⟩) rfl ?_; refine Z16 ?_; refine Z409 ?_; refine Z253 ?_; refine Z119 ?_; refine Z4 ?_; refine z7 (za9 L (kh := .i64) (ph := 0) (km := .i64) (pm := 0) 1 _ false rfl rfl rfl rfl rfl ⟨rfl, rfl⟩ ⟨rfl, rfl⟩ (fun h => by cases h) (by omega) (by omega) (by assumption)) rfl ?_; refine Z377 ?_; refine Z355 ?_; refine Z72 ?_; refine Z1 ?_; refine Z41 ?_; refine z7 (zw L rfl rfl (zk rfl) rfl rfl hfn (fun u H hH _ _ => hfv u H hH)) rfl ?_; refine Z193 ?_; refine yc ?_
          exact yk (x := (n + 1, a :: x, b :: y, out)) (n, (a :: x), y, out) ⟨by simp only [List.length_cons, List.length_nil] at hn ⊢; omega, hR, by simp only [List.length_cons, List.length_nil, List.length_append] at hz ⊢; omega⟩ (by dsimp only; omega) ⟨rfl, rfl, rfl, rfl, trivial⟩
         ·have hR : out ++ [b] ++ zc8 za7 f n (a :: x) y = R := by rw [← hR]; simp [zc8, c1, c2, hft]
          have hfv : ∀ (u : World) (H : Heap), H.Le (hp u) → Ret Tryz.prog tf [.bool false, .bool true] u H (fun v _ => v = .bool true) := fun u H h => by have := hf false true u H h; rwa [hft] at this
          refine Z320 ?_; refine Z380 ?_; refine Z254 ?_; refine Z305 ?_; refine Z406 ?_; refine Z381 ?_; refine Z148 ?_; refine Z359 ?_; refine Z94 ?_; refine Z360 ?_; refine z8 (yd L (vs := [_, _, _, _, _, _]) rfl rfl rfl rfl rfl ⟨_, rfl⟩) rfl ?_; refine Z360 ?_; refine z8 (yd L (vs := [_, _, _, _, _, _]) rfl rfl rfl rfl rfl ⟨_, rfl⟩) rfl ?_; refine z8 (zw L rfl rfl (zk rfl) rfl rfl rfl (fun u H hH _ _ => zdg hH)) rfl ?_; refine Z36 ?_; refine Z264 ?_; refine Z388 ?_; refine z7 (yu (cs := [_, _, _, _, _, _]) rfl rfl zfd rfl rfl) rfl ?_; refine Z407 ?_; refine Z38 ?_; refine Z141 ?_; refine Z95 ?_; refine Z408 ?_; refine z7 (yd L (vs := [_, _, _, _, _, _]) rfl rfl rfl rfl rfl ⟨_, rfl⟩) rfl ?_; refine Z16 ?_; refine Z409 ?_; refine Z253 ?_; refine Z119 ?_; refine Z4 ?_; refine z7 (za9 L (kh := .i64) (ph := 0) (km := .i64) (pm := 0) 1 _ false rfl rfl rfl rfl rfl ⟨rfl, rfl⟩ ⟨rfl, rfl⟩ (fun h => by cases h) (by omega) (by omega) (by assumption)) rfl ?_; refine Z377 ?_; refine Z355 ?_; refine Z72 ?_; refine Z1 ?_; refine Z41 ?_; refine z7 (zw L rfl rfl (zk rfl) rfl rfl hfn (fun u H hH _ _ => hfv u H hH)) rfl ?_; refine Z141 ?_; refine Z115 ?_; refine qo (yn (.inl rfl) rfl rfl rfl rfl) ?_; refine z7 (qb L (vs := [_, _, _, _, _, _]) (yl rfl) rfl rfl rfl rfl ⟨_, rfl⟩) rfl ?_; refine Z290 ?_; refine qo (yn (.inr rfl) rfl rfl rfl rfl) ?_; refine zi ?_; refine yc ?_
          exact yk (x := (n + 1, a :: x, b :: y, out)) (n, (a :: x), y, out ++ [b]) ⟨by simp only [List.length_cons, List.length_nil] at hn ⊢; omega, hR, by simp only [List.length_cons, List.length_nil, List.length_append] at hz ⊢; omega⟩ (by dsimp only; omega) ⟨rfl, rfl, rfl, zjc rfl, trivial⟩
        ·rcases n with _ | n
         ·simp only [List.length_cons, List.length_nil] at hn; omega
         cases hft : f true true
         ·have hR : out ++ zc8 za7 f n x y = R := by rw [← hR]; simp [zc8, c1, c2, hft]
          have hfv : ∀ (u : World) (H : Heap), H.Le (hp u) → Ret Tryz.prog tf [.bool true, .bool true] u H (fun v _ => v = .bool false) := fun u H h => by have := hf true true u H h; rwa [hft] at this
          refine Z320 ?_; refine Z380 ?_; refine Z254 ?_; refine Z305 ?_; refine Z406 ?_; refine Z381 ?_; refine Z148 ?_; refine Z359 ?_; refine Z94 ?_; refine Z360 ?_; refine z8 (yd L (vs := [_, _, _, _, _, _]) rfl rfl rfl rfl rfl ⟨_, rfl⟩) rfl ?_; refine Z360 ?_; refine z8 (yd L (vs := [_, _, _, _, _, _]) rfl rfl rfl rfl rfl ⟨_, rfl⟩) rfl ?_; refine z8 (zw L rfl rfl (zk rfl) rfl rfl rfl (fun u H hH _ _ => zdg hH)) rfl ?_; refine Z36 ?_; refine Z264 ?_; refine Z388 ?_; refine z7 (yu (cs := [_, _, _, _, _, _]) rfl rfl zfd rfl rfl) rfl ?_; refine Z407 ?_; refine Z32 ?_; refine Z366 ?_; refine Z102 ?_; refine Z408 ?_; refine z7 (yd L (vs := [_, _, _, _, _, _]) rfl rfl rfl rfl rfl ⟨_, rfl⟩) rfl ?_; refine Z261 ?_; refine Z396 ?_; refine z7 (za9 L (kh := .i64) (ph := 0) (km := .i64) (pm := 0) 1 _ false rfl rfl rfl rfl rfl ⟨rfl, rfl⟩ ⟨rfl, rfl⟩ (fun h => by cases h) (by omega) (by omega) (by assumption)) rfl ?_; refine Z51 ?_; refine Z409 ?_; refine Z253 ?_; refine Z119 ?_; refine Z4 ?_; refine z7 (za9 L (kh := .i64) (ph := 0) (km := .i64) (pm := 0) 1 _ false rfl rfl rfl rfl rfl ⟨rfl, rfl⟩ ⟨rfl, rfl⟩ (fun h => by cases h) (by omega) (by omega) (by assumption)) rfl ?_; refine Z377 ?_; refine Z355 ?_; refine Z77 ?_; refine Z1 ?_; refine Z41 ?_; refine z7 (zw L rfl rfl (zk rfl) rfl rfl hfn (fun u H hH _ _ => hfv u H hH)) rfl ?_; refine Z193 ?_; refine yc ?_
          exact yk (x := (n + 1, a :: x, b :: y, out)) (n, x, y, out) ⟨by simp only [List.length_cons, List.length_nil] at hn ⊢; omega, hR, by simp only [List.length_cons, List.length_nil, List.length_append] at hz ⊢; omega⟩ (by dsimp only; omega) ⟨rfl, rfl, rfl, rfl, trivial⟩
         ·have hR : out ++ [a] ++ zc8 za7 f n x y = R := by rw [← hR]; simp [zc8, c1, c2, hft]
          have hfv : ∀ (u : World) (H : Heap), H.Le (hp u) → Ret Tryz.prog tf [.bool true, .bool true] u H (fun v _ => v = .bool true) := fun u H h => by have := hf true true u H h; rwa [hft] at this
          refine Z320 ?_; refine Z380 ?_; refine Z254 ?_; refine Z305 ?_; refine Z406 ?_; refine Z381 ?_; refine Z148 ?_; refine Z359 ?_; refine Z94 ?_; refine Z360 ?_; refine z8 (yd L (vs := [_, _, _, _, _, _]) rfl rfl rfl rfl rfl ⟨_, rfl⟩) rfl ?_; refine Z360 ?_; refine z8 (yd L (vs := [_, _, _, _, _, _]) rfl rfl rfl rfl rfl ⟨_, rfl⟩) rfl ?_; refine z8 (zw L rfl rfl (zk rfl) rfl rfl rfl (fun u H hH _ _ => zdg hH)) rfl ?_; refine Z36 ?_; refine Z264 ?_; refine Z388 ?_; refine z7 (yu (cs := [_, _, _, _, _, _]) rfl rfl zfd rfl rfl) rfl ?_; refine Z407 ?_; refine Z32 ?_; refine Z366 ?_; refine Z102 ?_; refine Z408 ?_; refine z7 (yd L (vs := [_, _, _, _, _, _]) rfl rfl rfl rfl rfl ⟨_, rfl⟩) rfl ?_; refine Z261 ?_; refine Z396 ?_; refine z7 (za9 L (kh := .i64) (ph := 0) (km := .i64) (pm := 0) 1 _ false rfl rfl rfl rfl rfl ⟨rfl, rfl⟩ ⟨rfl, rfl⟩ (fun h => by cases h) (by omega) (by omega) (by assumption)) rfl ?_; refine Z51 ?_; refine Z409 ?_; refine Z253 ?_; refine Z119 ?_; refine Z4 ?_; refine z7 (za9 L (kh := .i64) (ph := 0) (km := .i64) (pm := 0) 1 _ false rfl rfl rfl rfl rfl ⟨rfl, rfl⟩ ⟨rfl, rfl⟩ (fun h => by cases h) (by omega) (by omega) (by assumption)) rfl ?_; refine Z377 ?_; refine Z355 ?_; refine Z77 ?_; refine Z1 ?_; refine Z41 ?_; refine z7 (zw L rfl rfl (zk rfl) rfl rfl hfn (fun u H hH _ _ => hfv u H hH)) rfl ?_; refine Z141 ?_; refine Z115 ?_; refine qo (yn (.inl rfl) rfl rfl rfl rfl) ?_; refine z7 (qb L (vs := [_, _, _, _, _, _]) (yl rfl) rfl rfl rfl rfl ⟨_, rfl⟩) rfl ?_; refine Z290 ?_; refine qo (yn (.inr rfl) rfl rfl rfl rfl) ?_; refine zi ?_; refine yc ?_
          exact yk (x := (n + 1, a :: x, b :: y, out)) (n, x, y, out ++ [a]) ⟨by simp only [List.length_cons, List.length_nil] at hn ⊢; omega, hR, by simp only [List.length_cons, List.length_nil, List.length_append] at hz ⊢; omega⟩ (by dsimp only; omega) ⟨rfl, rfl, rfl, zjc rfl, trivial⟩
end Go.V.L2
set_option maxRecDepth 20000
namespace Go.V.L2
open Go.Proofs Go.RowKit Go.V
abbrev fWo : Bool → Bool → Bool := fun _ b => !b
attribute [local irreducible] V N X VO Par StepOK Has Ret RetL RetO Src
theorem z0m (p q : Bool) (w : World) (B : Heap) (hB : B.Le (hp w)) : Ret Tryz.prog 132 [.bool p, .bool q] w B (fun v _ => v = .bool (fWo p q)) := by
 refine yi Tryz.func132 rfl Tryz.ntmps132 (Nat.le_of_ble_eq_true rfl) hB ?_
 refine Z316 ?_; refine Z49 ?_; refine Z136 ?_
 refine yf L (rs := [.tmp 4]) rfl (fun _ _ h => h) Since.refl fun u H hH hle => ?_
 rfl
theorem zib {l m : List U} {fa fb : Bool} {r : List U × Int} {v v2 : Value} {w : World} {B : Heap} (hr : z2h fWo l m = r) (hB : B.Le (hp w)) (hv : US l fa v B) (hv2 : US m fb v2 B) : Ret Tryz.prog 89 [v, v2] w B (LE r) := by
 refine yi Tryz.func89 rfl Tryz.ntmps89 (Nat.le_of_ble_eq_true rfl) hB ?_
 refine zaq 0 (US l fa) rfl SlV.mono hv ?_
 refine zaq 1 (US m fb) rfl SlV.mono hv2 ?_
 refine Z258 ?_; refine Z160 ?_; refine Z330 ?_; refine z7 (yt (φ := LE r) L rfl rfl (zk rfl) rfl rfl rfl LE.mono (fun u H hH _ _ v1 h1 v2 h2 => zu0 rfl z0m hr hH h1 h2)) rfl ?_; refine z7 (zgn rfl rfl rfl rfl SlV.mono) rfl ?_; refine Z282 ?_; refine Z136 ?_
 refine yf L (rs := [.tmp 4, .tmp 5]) rfl (fun _ _ h => h) Since.refl fun u H hH hle => ?_
 exact fun v hv => zrp hv
end Go.V.L2
set_option maxRecDepth 20000
namespace Go.V.L8
open Go.Proofs Go.RowKit Go.V Go.V.L2 Go.V.L3 Go.V.L6
def zx8 : List U → List CH → List U × Int
 | s, [] => (s, 0)
 | s, c :: r => if (zb2 s c.1 c.2).2 = 0 then zx8 (zb2 s c.1 c.2).1 r else ([], (zb2 s c.1 c.2).2)
def z3x (s : List U) (l : List CH) : List U × Int := if cE 4096 l = 0 then zx8 s l else ([], cE 4096 l)
def zos (a b : List U) : List CH := (zes a b true false true).map fun t => (t, decide (t ∈ a))
def z1f (a b : List U) : List CH := zj4 ((zc8 za7 fWo (a.length + b.length) a b).map (fun t => (t, true)) ++ (zc8 za7 fWo (b.length + a.length) b a).map (fun t => (t, false)))
theorem zva (a b : List CH) (t : U) : zcw (a ++ b) t = (zcw b t).or (zcw a t) := by
 induction a with
 | nil => rw [List.nil_append, zoa]; cases zcw b t <;> rfl
 | cons c r ih =>
  rw [List.cons_append, zcv, zcv, ih]
  cases zcw b t <;> cases zcw r t <;> rfl
theorem zj8 {l : List CH} (h : zoz l) {t : U} {c : CH} : zcw l t = some c ↔ c ∈ l ∧ c.1 = t := by
 constructor
 ·exact fun h1 => ⟨(zdl h1).2, (zdl h1).1⟩
 ·rintro ⟨hc, rfl⟩
  obtain ⟨d, hd⟩ : ∃ d, zcw l c.1 = some d := by
   cases hk : zcw l c.1 with
   | some d => exact ⟨d, rfl⟩
   | none => exact absurd rfl (zd2.1 hk c hc)
  obtain ⟨h1, h2⟩ := zdl hd
  rw [hd]
  have hp := zqk h
  obtain ⟨i, hi⟩ := List.getElem?_of_mem hc
  obtain ⟨j, hj⟩ := List.getElem?_of_mem h2
  obtain ⟨hi', rfl⟩ := List.getElem?_eq_some_iff.1 hi
  obtain ⟨hj', rfl⟩ := List.getElem?_eq_some_iff.1 hj
  have hp' := List.pairwise_iff_getElem.1 hp
  rcases Nat.lt_trichotomy i j with g | g | g
  ·exact absurd h1.symm (hp' i j hi' hj' g)
  ·subst g; rfl
  ·exact absurd h1 (hp' j i hj' hi' g)
theorem zzb : ∀ {l : List CH} {s : List U}, SOK s → (∀ c ∈ l, TZ c.1 ∧ tE c.1 = 0) → s.length + l.length < 4096 → ∃ t, zx8 s l = (t, 0) ∧ SOK t ∧ t.length ≤ s.length + l.length ∧ ∀ x, x ∈ t ↔ (match zcw l x with | some c => c.2 = false | none => x ∈ s)
 | [], s, h, _, _ => ⟨s, rfl, h, Nat.le_refl _, fun x => by rw [zoa]⟩
 | c :: r, s, h, hc, hl => by
  simp only [List.length_cons] at hl
  obtain ⟨hz, h0⟩ := hc c (List.mem_cons_self ..)
  obtain ⟨h1, h2, h3⟩ := zpz h hz h0 c.2 (by omega)
  have hm := zrl h2
  obtain ⟨t, e, ht, hlt, hmem⟩ := zzb (l := r) h1 (fun x hx => hc x (List.mem_cons_of_mem _ hx)) (by omega)
  refine ⟨t, by rw [zx8, if_pos h2, e], ht, by simp only [List.length_cons]; omega, fun x => ?_⟩
  rw [hmem, zcv]
  cases zcw r x with
  | some d => exact Iff.rfl
  | none =>
   dsimp only
   rw [hm]
   by_cases hx : x = c.1
   ·rw [if_pos hx, if_pos hx.symm]; exact Iff.rfl
   ·rw [if_neg hx, if_neg (fun e => hx e.symm)]; exact Iff.rfl
theorem z00 {s : List U} {l : List CH} (h : cE 4096 l = 0) : z3x s l = zx8 s l := if_pos h
theorem zp8 {a b : List U} {t : U} : t ∈ zes a b true false true ↔ ((t ∈ a ∧ t ∉ b) ∨ (t ∉ a ∧ t ∈ b)) := by
 unfold zes
 rw [zg2, List.mem_filter, List.mem_append]
 unfold zct
 by_cases h1 : t ∈ a <;> by_cases h2 : t ∈ b <;> simp [h1, h2]
theorem zra (a b : List U) : zoz (zos a b) := by
 unfold zoz zos
 rw [List.map_map]
 have : ((fun x : CH => x.1) ∘ fun t : U => (t, decide (t ∈ a))) = id := rfl
 rw [this, List.map_id]
 exact znb _
theorem zf8 {a b : List U} {c : CH} : c ∈ zos a b ↔ ((c.1 ∈ a ∧ c.1 ∉ b) ∨ (c.1 ∉ a ∧ c.1 ∈ b)) ∧ c.2 = decide (c.1 ∈ a) := by
 unfold zos
 rw [List.mem_map]
 constructor
 ·rintro ⟨t, ht, rfl⟩; exact ⟨zp8.1 ht, rfl⟩
 ·rintro ⟨h1, h2⟩; exact ⟨c.1, zp8.2 h1, Prod.ext rfl h2.symm⟩
theorem zpy {a b : List U} (ha : Sst za7 a) (hb : Sst za7 b) {t : U} : t ∈ zc8 za7 fWo (a.length + b.length) a b ↔ t ∈ a ∧ t ∉ b := by
 rw [zc6 cmpT_ord fWo (Nat.le_refl _) ha hb]
 unfold Tk
 by_cases h1 : t ∈ a <;> by_cases h2 : t ∈ b <;> simp [h1, h2]
theorem z0z {a b : List U} (ha : Sst za7 a) (hb : Sst za7 b) : z1f a b = zos a b := zuw (zn3 _) (zra a b) fun c => by
 unfold z1f
 rw [zn4, zf8, zva]
 have h1 : zcw ((zc8 za7 fWo (b.length + a.length) b a).map fun t => (t, false)) c.1 = if c.1 ∈ b ∧ c.1 ∉ a then some (c.1, false) else none := by
  by_cases h : c.1 ∈ b ∧ c.1 ∉ a
  ·rw [if_pos h]
   have hn : zoz ((zc8 za7 fWo (b.length + a.length) b a).map fun t => (t, false)) := by
    unfold zoz
    rw [List.map_map]
    have : ((fun x : CH => x.1) ∘ fun t : U => (t, false)) = id := rfl
    rw [this, List.map_id]
    exact ze2 cmpT_ord fWo (Nat.le_refl _) hb ha
   exact (zj8 hn).2 ⟨List.mem_map.2 ⟨c.1, (zpy hb ha).2 h, rfl⟩, rfl⟩
  ·rw [if_neg h, zd2]
   intro d hd e
   obtain ⟨t, ht, rfl⟩ := List.mem_map.1 hd
   exact h (e ▸ (zpy hb ha).1 ht)
 have h2 : zcw ((zc8 za7 fWo (a.length + b.length) a b).map fun t => (t, true)) c.1 = if c.1 ∈ a ∧ c.1 ∉ b then some (c.1, true) else none := by
  by_cases h : c.1 ∈ a ∧ c.1 ∉ b
  ·rw [if_pos h]
   have hn : zoz ((zc8 za7 fWo (a.length + b.length) a b).map fun t => (t, true)) := by
    unfold zoz
    rw [List.map_map]
    have : ((fun x : CH => x.1) ∘ fun t : U => (t, true)) = id := rfl
    rw [this, List.map_id]
    exact ze2 cmpT_ord fWo (Nat.le_refl _) ha hb
   exact (zj8 hn).2 ⟨List.mem_map.2 ⟨c.1, (zpy ha hb).2 h, rfl⟩, rfl⟩
  ·rw [if_neg h, zd2]
   intro d hd e
   obtain ⟨t, ht, rfl⟩ := List.mem_map.1 hd
   exact h (e ▸ (zpy ha hb).1 ht)
 rw [h1, h2]
 obtain ⟨x, d⟩ := c
 dsimp only
 by_cases ha' : x ∈ a <;> by_cases hb' : x ∈ b <;> cases d <;> simp [ha', hb']
theorem z0y {a b : List U} (ha : SOK a) (hb : SOK b) (hl : a.length + (zos a b).length < 4096) : zx8 a (zos a b) = (b, 0) := by
 have ok : ∀ c ∈ zos a b, TZ c.1 ∧ tE c.1 = 0 := fun c hc => by
  rcases (zf8.1 hc).1 with h | h
  ·exact ⟨ha.tz _ h.1, ha.ok _ h.1⟩
  ·exact ⟨hb.tz _ h.2, hb.ok _ h.2⟩
 obtain ⟨t, e, ht, _, hm⟩ := zzb ha ok hl
 rw [e]
 have : t = b := zel cmpT_ord ht.sst hb.sst fun x => by
  rw [hm]
  cases hk : zcw (zos a b) x with
  | some c =>
   obtain ⟨h1, h2⟩ := (zj8 (zra a b)).1 hk
   subst h2
   obtain ⟨h3, h4⟩ := zf8.1 h1
   dsimp only
   rw [h4]
   rcases h3 with h | h
   ·simp [h.1, h.2]
   ·simp [h.1, h.2]
  | none =>
   dsimp only
   have h0 := fun c hc => zd2.1 hk c hc
   by_cases h1 : x ∈ a <;> by_cases h2 : x ∈ b
   ·simp [h1, h2]
   ·exact absurd rfl (h0 (x, decide (x ∈ a)) (zf8.2 ⟨.inl ⟨h1, h2⟩, rfl⟩))
   ·exact absurd rfl (h0 (x, decide (x ∈ a)) (zf8.2 ⟨.inr ⟨h1, h2⟩, rfl⟩))
   ·simp [h1, h2]
 rw [this]
theorem zrb (a b : List U) : (zos a b).length ≤ a.length + b.length := by
 unfold zos zes
 rw [List.length_map]
 refine Nat.le_trans (znc _) (Nat.le_trans (List.length_filter_le _ _) ?_)
 rw [List.length_append]; exact Nat.le_refl _
end Go.V.L8
set_option maxRecDepth 20000
namespace Go.V.L8
open Go.Proofs Go.RowKit Go.V Go.V.L2 Go.V.L3 Go.V.L6
attribute [local irreducible] V N X VO Par StepOK Has Ret RetL RetO RetT zb3 Src
theorem zlk {l : List CH} {fu : Bool} (hz : ∀ c ∈ l, TM c.1) (hl : l.length ≤ 9223372036854775807) {e : Int} (he : cE 4096 l = e) {v : Value} {w : World} {B : Heap} (hB : B.Le (hp w)) (hv : KS tyC l fu v B) :
  Ret Tryz.prog 60 [v] w B (fun r _ => r = .int .i64 e) := by
 subst he
 refine yi Tryz.func60 rfl Tryz.ntmps60 (Nat.le_of_ble_eq_true rfl) hB ?_
 refine zaq 0 (KS tyC l fu) rfl SlV.mono hv ?_
 by_cases h32 : 4096 < l.length
 ·have : cE 4096 l = 3 := if_pos h32
  rw [this]
  refine Z324 ?_; refine Z38 ?_; refine Z323 ?_
  refine yf L (rs := [.tmp 2]) rfl (fun _ _ h => h) Since.refl fun u H hH hle => ?_
  rfl
 ·refine Z324 ?_; refine Z32 ?_; refine Z165 ?_; refine Z28 ?_; refine Z368 ?_
  refine zai (fun i : Nat => [(9, .sat (KS tyC l fu)), (10, .is (.int .i64 l.length)), (11, .is (.int .i64 i))]) (fun i => i ≤ l.length ∧ ∀ (j : Nat) c, j < i → l[j]? = some c → tE c.1 = 0) (fun i => l.length - i) 0 ⟨Nat.zero_le _, fun j c h => absurd h (Nat.not_lt_zero _)⟩ ⟨rfl, rfl, rfl, trivial⟩ ?_
  rintro i ⟨hi, hok⟩
  by_cases hlt : i < l.length
  ·obtain ⟨c, hc0⟩ := zae hlt
   have hc := zf9 hc0
   have hzc := hz c (List.mem_of_getElem? hc0)
   by_cases h0 : tE c.1 = 0
   ·refine Z389 ?_; refine Z37 ?_; refine z7 (qs L _ rfl rfl rfl rfl rfl rfl rfl (by first | omega | decide) (by assumption)) rfl ?_; refine z7 (yd L (vs := [_, _, _, _, _, _, _]) rfl rfl rfl rfl rfl ⟨_, rfl⟩) rfl ?_; refine Z400 ?_
    refine zis 4 rfl fun b4 hb4 => ?_
    refine Z43 ?_; refine Z44 ?_; refine z7 (qb L (vs := [_, _, _, _, _, _]) (zaw rfl (List.Mem.head _)) rfl rfl rfl rfl ⟨_, rfl⟩) rfl ?_; refine z7 (zw L rfl rfl (zk rfl) rfl rfl rfl (fun u H hH _ _ => h0 ▸ zls hzc hH)) rfl ?_; refine Z142 ?_; refine Z195 ?_; refine Z22 ?_; refine Z215 ?_; refine Z60 ?_; refine Z297 ?_
    refine z3p (List.nil_sublist _) ?_
    exact yk (x := i) (i + 1) ⟨hlt, fun j c' hj hc' => by
     rcases Nat.lt_or_ge j i with h | h
     ·exact hok j c' h hc'
     ·have : j = i := by omega
      subst this; rw [hc0] at hc'; cases hc'; exact h0⟩ (by omega) ⟨rfl, rfl, rfl, trivial⟩
   ·have h6 := (zm8 c.1).resolve_left h0
    rw [zx4 h32 hc0 h0]
    refine Z389 ?_; refine Z37 ?_; refine z7 (qs L _ rfl rfl rfl rfl rfl rfl rfl (by first | omega | decide) (by assumption)) rfl ?_; refine z7 (yd L (vs := [_, _, _, _, _, _, _]) rfl rfl rfl rfl rfl ⟨_, rfl⟩) rfl ?_; refine Z400 ?_
    refine zis 4 rfl fun b4 hb4 => ?_
    refine Z43 ?_; refine Z44 ?_; refine z7 (qb L (vs := [_, _, _, _, _, _]) (zaw rfl (List.Mem.head _)) rfl rfl rfl rfl ⟨_, rfl⟩) rfl ?_; refine z7 (zw L rfl rfl (zk rfl) rfl rfl rfl (fun u H hH _ _ => h6 ▸ zls hzc hH)) rfl ?_; refine Z142 ?_; refine Z195 ?_; refine Z205 ?_; refine Z216 ?_; refine Z136 ?_
    refine yf L (rs := [.tmp 2]) rfl (fun _ _ h => h) Since.refl fun u H hH hle => ?_
    rfl
  ·rw [zq9 h32 (fun j c hj => hok j c (by have := get_lt hj; omega) hj)]
   refine Z294 ?_; refine Z321 ?_; refine Z67 ?_; refine Z136 ?_
   refine yf L (rs := [.tmp 2]) rfl (fun _ _ h => h) Since.refl fun u H hH hle => ?_
   rfl
end Go.V.L8
set_option maxRecDepth 20000
namespace Go.V.L8
open Go.Proofs Go.RowKit Go.V Go.V.L2 Go.V.L3 Go.V.L6
attribute [local irreducible] V N X VO Par StepOK Has Ret RetL RetO RetT zb3 Src
set_option maxHeartbeats 4000000 in
theorem zsu {s t : List U} {l : List CH} {fu : Bool} {e : Int} (hz : ∀ c ∈ l, TM c.1) (hl : l.length ≤ 9223372036854775807) (hsl : s.length ≤ 4096) (hr : z3x s l = (t, e)) {sv v : Value} {w : World} {B : Heap} (hB : B.Le (hp w)) (hs : SetV s sv B) (hv : KS tyC l fu v B) :
  Ret Tryz.prog 29 [sv, v] w B (WithP t e) := by
 obtain ⟨f1, p1, f2, q1, rfl, hpl⟩ := hs.shape
 refine yi Tryz.func29 rfl Tryz.ntmps29 (Nat.le_of_ble_eq_true rfl) hB ?_
 refine zaq 1 (KS tyC l fu) rfl SlV.mono hv ?_
 unfold z3x at hr
 by_cases h0 : cE 4096 l = 0
 ·rw [if_pos h0] at hr
  obtain ⟨l32, hval⟩ := zvz h0
  refine Z319 ?_; refine Z24 ?_; refine Z399 ?_; refine z7 (zw L rfl rfl (zk rfl) rfl rfl rfl (fun u H hH _ _ v1 h1 => zlk hz hl h0 hH h1)) rfl ?_; refine Z239 ?_; refine Z230 ?_; refine Z27 ?_; refine Z368 ?_
  refine zzf (X := SXp) 2 (r := fun x => Cell (scs x.1) zil) (φ := zrr s) (zcc s) ⟨(f1, p1, f2, q1), hpl⟩ hs rfl ?_
  refine zai (fun y : Nat × List U => [(2, .own (ExR (fun x : SXp => Cell (scs x.1) zil) (zrr y.2) (zcc y.2))), (4, .own (Cell [.nilFunc, .pointer none, .nilFunc, .pointer none] zil)), (17, .sat (KS tyC l fu)), (18, .is (.int .i64 l.length)), (19, .is (.int .i64 y.1))])
   (fun y => y.1 ≤ l.length ∧ zx8 y.2 (l.drop y.1) = (t, e) ∧ y.2.length ≤ 4096) (fun y => l.length - y.1) (0, s) ⟨Nat.zero_le _, hr, hsl⟩ ⟨rfl, rfl, rfl, rfl, rfl, trivial⟩ ?_
  clear hr hs hsl
  rintro ⟨k, s⟩ ⟨hk, he, hsl⟩
  dsimp only at hk he hsl ⊢
  refine ze0 2 rfl fun ⟨⟨f1, p1, f2, q1⟩, hpl⟩ H3 hs3 hT => ?_
  have hT : SetV s (.agg #[f1, .pointer p1, f2, .pointer q1]) H3 := hT
  by_cases hlt : k < l.length
  ·obtain ⟨c, hc0⟩ := zae hlt
   have hc := zf9 hc0
   have hv := hval c (List.mem_of_getElem? hc0)
   have hzt := zlr hv
   rw [zez hc0, zx8] at he
   obtain ⟨x, d⟩ := c
   dsimp only at hc hv hzt he
   rcases hw : zb2 s x d with ⟨s', e'⟩
   rw [hw] at he
   dsimp only at he
   have hsl' := zjb hsl x d
   rw [hw] at hsl'
   by_cases h1 : e' = 0
   ·rw [if_pos h1] at he
    subst h1
    refine Z365 ?_; refine Z220 ?_; refine Z43 ?_; refine z7 (qs L _ rfl rfl rfl rfl rfl rfl rfl (by first | omega | decide) (by assumption)) rfl ?_; refine z7 (yd L (vs := [_, _, _, _, _, _, _]) rfl rfl rfl rfl rfl ⟨_, rfl⟩) rfl ?_; refine Z400 ?_; refine Z40 ?_; refine z7 (qb L (vs := [_, _, _, _]) (yl rfl) rfl rfl rfl rfl ⟨_, rfl⟩) rfl ?_; refine z7 (qb L (vs := [_, _, _, _, _, _, _]) (yl rfl) rfl rfl rfl rfl ⟨_, rfl⟩) rfl ?_; refine z7 (yt (φ := WithP s' 0) L rfl rfl (zk rfl) rfl rfl rfl WithP.mono (fun u H hH hle _ => zi9 hw hsl hzt hH (hT.le hle))) rfl ?_; refine zbk 26 rfl ?_; rintro _ H19 hs19 ⟨tv, rfl, hT19⟩; obtain ⟨g1, r1, g2, r2, rfl, hpl2⟩ := hT19.shape; refine Z329 ?_; refine Z216 ?_; refine Z22 ?_; refine Z159 ?_; refine Z67 ?_; refine z7 (qb L (vs := [_, _, _, _]) (yl rfl) rfl rfl rfl rfl ⟨_, rfl⟩) rfl ?_; refine Z55 ?_; refine Z233 ?_; refine Z65 ?_; refine Z297 ?_
    refine zox (X := SXp) 2 (r := fun x => Cell (scs x.1) zil) (φ := zrr s') (zcc _) ⟨(g1, r1, g2, r2), hpl2⟩ hT19 rfl ?_
    exact zhn (x := (k, s)) (k + 1, s') (hs3.trans hs19) ⟨hlt, he, hsl'⟩ (by dsimp only; omega) ⟨rfl, rfl, rfl, rfl, rfl, trivial⟩
   ·rw [if_neg h1] at he
    cases he
    refine Z365 ?_; refine Z220 ?_; refine Z43 ?_; refine z7 (qs L _ rfl rfl rfl rfl rfl rfl rfl (by first | omega | decide) (by assumption)) rfl ?_; refine z7 (yd L (vs := [_, _, _, _, _, _, _]) rfl rfl rfl rfl rfl ⟨_, rfl⟩) rfl ?_; refine Z400 ?_; refine Z40 ?_; refine z7 (qb L (vs := [_, _, _, _]) (yl rfl) rfl rfl rfl rfl ⟨_, rfl⟩) rfl ?_; refine z7 (qb L (vs := [_, _, _, _, _, _, _]) (yl rfl) rfl rfl rfl rfl ⟨_, rfl⟩) rfl ?_; refine z7 (yt (φ := WithP s' e) L rfl rfl (zk rfl) rfl rfl rfl WithP.mono (fun u H hH hle _ => zi9 hw hsl hzt hH (hT.le hle))) rfl ?_; refine zbk 26 rfl ?_; rintro _ H19 hs19 ⟨tv, rfl, hT19⟩; obtain ⟨g1, r1, g2, r2, rfl, hpl2⟩ := hT19.shape; refine Z329 ?_; refine Z216 ?_; refine Z205 ?_; refine Z60 ?_; refine z7 (yu (cs := [_, _, _, _]) rfl rfl zrz rfl rfl) rfl ?_; refine Z1 ?_; refine Z231 ?_
    refine yf L (rs := [.cell 4 45, .tmp 5]) rfl (fun _ _ h => h) (hs3.trans hs19) fun u H hH hle => ?_
    exact ⟨_, yl rfl, rfl, _, rfl, SetV.nil⟩
  ·obtain rfl : k = l.length := by omega
   rw [List.drop_length, zx8] at he
   cases he
   refine Z365 ?_; refine Z321 ?_; refine Z80 ?_; refine z7 (qb L (vs := [_, _, _, _]) (yl rfl) rfl rfl rfl rfl ⟨_, rfl⟩) rfl ?_; refine Z55 ?_; refine Z136 ?_
   refine yf L (rs := [.cell 4 45, .tmp 5]) rfl (fun _ _ h => h) hs3 fun u H hH hle => ?_
   exact ⟨_, yl rfl, rfl, _, rfl, hT.le hle⟩
 ·rw [if_neg h0] at hr
  cases hr
  refine Z319 ?_; refine Z24 ?_; refine Z399 ?_; refine z7 (zw L rfl rfl (zk rfl) rfl rfl rfl (fun u H hH _ _ v1 h1 => zlk hz hl rfl hH h1)) rfl ?_; refine Z239 ?_; refine Z205 ?_; refine Z28 ?_; refine z7 (yu (cs := [_, _, _, _]) rfl rfl zrz rfl rfl) rfl ?_; refine Z1 ?_; refine Z231 ?_
  refine yf L (rs := [.cell 4 45, .tmp 5]) rfl (fun _ _ h => h) Since.refl fun u H hH hle => ?_
  exact ⟨_, yl rfl, rfl, _, rfl, SetV.nil⟩
end Go.V.L8
set_option maxRecDepth 20000
namespace Go.V.L8
open Go.Proofs Go.RowKit Go.V Go.V.L2 Go.V.L3 Go.V.L6
attribute [local irreducible] V N X VO Par StepOK Has Ret RetL RetO RetT zb3 Src
end Go.V.L8
set_option maxRecDepth 20000
namespace Go.V.L8
open Go.Proofs Go.RowKit Go.V Go.V.L2 Go.V.L3 Go.V.L6
attribute [local irreducible] V N X VO Par StepOK Has Ret RetL RetO RetT zb3 Src
end Go.V.L8
set_option maxRecDepth 20000
namespace Go.V.L8
open Go.Proofs Go.RowKit Go.V Go.V.L2 Go.V.L3 Go.V.L6
theorem zyn (a b : List U) : (zc8 za7 fWo (a.length + b.length) a b).length ≤ a.length + b.length := zdc _ _ _ (Nat.le_refl _)
theorem zuy {a b : List U} (la : a.length ≤ 4096) (lb : b.length ≤ 4096) (sa : Sst za7 a) (sb : Sst za7 b) : z2h fWo a b = (zc8 za7 fWo (a.length + b.length) a b, 0) := by
 unfold z2h
 have h1 : isB a = true := decide_eq_true sa
 have h2 : isB b = true := decide_eq_true sb
 rw [if_neg (by omega), h1, h2, if_pos (by decide)]
attribute [local irreducible] V N X VO Par StepOK Has Ret RetL RetO RetT zb3 Src
set_option maxHeartbeats 4000000 in
theorem zol {a b : List U} {m : List CH} (la : a.length ≤ 4096) (lb : b.length ≤ 4096) (sa : Sst za7 a) (sb : Sst za7 b) (hr : z1f a b = m) {av bv : Value} {w : World} {B : Heap} (hB : B.Le (hp w)) (ha : SetV a av B) (hb : SetV b bv B) :
  Ret Tryz.prog 59 [av, bv] w B (KS tyC m true) := by
 subst hr
 obtain ⟨f1, p1, k1, q1, rfl, hp1⟩ := ha.shape
 obtain ⟨f2, p2, k2, q2, rfl, hp2⟩ := hb.shape
 have w1 := zuy la lb sa sb
 have w2 := zuy lb la sb sa
 have l1 := zyn a b
 have l2 := zyn b a
 have hbp : z1f a b = zj4 ((zc8 za7 fWo (a.length + b.length) a b).map (fun t => (t, true)) ++ (zc8 za7 fWo (b.length + a.length) b a).map (fun t => (t, false))) := rfl
 rw [hbp]
 generalize zc8 za7 fWo (a.length + b.length) a b = G at *
 generalize zc8 za7 fWo (b.length + a.length) b a = K at *
 have mG : Kn.mono (.sat (US G true)) := SlV.mono
 have mK : Kn.mono (.sat (US K true)) := SlV.mono
 refine yi Tryz.func59 rfl Tryz.ntmps59 (Nat.le_of_ble_eq_true rfl) hB ?_
 refine Z210 ?_; refine Z369 ?_; refine z8 (qb L (vs := [_, _, _, _]) (qn rfl) rfl rfl rfl rfl ⟨_, rfl⟩) rfl ?_; refine z8 (yt (φ := US a true) L rfl rfl (zk rfl) rfl rfl rfl SlV.mono (fun u H hH hle _ => zjm (by omega) hH (ha.le hle))) rfl ?_; refine z8 (qb L (vs := [_, _, _, _]) (qn rfl) rfl rfl rfl rfl ⟨_, rfl⟩) rfl ?_; refine z8 (yt (φ := US b true) L rfl rfl (zk rfl) rfl rfl rfl SlV.mono (fun u H hH hle _ => zjm (by omega) hH (hb.le hle))) rfl ?_; refine Z90 ?_; refine Z90 ?_; refine Z295 ?_; refine Z29 ?_; refine Z330 ?_; refine z7 (yt (φ := LE (G, 0)) L rfl rfl (zk rfl) rfl rfl rfl LE.mono (fun u H hH _ _ v1 h1 v2 h2 => zib w1 hH h1 h2)) rfl ?_; refine Z292 ?_; refine Z142 ?_; refine Z28 ?_; refine Z330 ?_; refine z7 (yt (φ := LE (K, 0)) L rfl rfl (zk rfl) rfl rfl rfl LE.mono (fun u H hH _ _ v1 h1 v2 h2 => zib w2 hH h1 h2)) rfl ?_; refine Z292 ?_; refine Z142 ?_; refine Z27 ?_; refine Z145 ?_
 refine zdp 11 tyC 7 rfl ?_
 refine Z37 ?_; refine Z368 ?_
 refine zai (fun i : Nat => [(9, .sat (US K true)), (11, .own (SlR tyC 7 ((G.take i).map fun t => ((t, true) : CH)).length (((G.take i).map fun t => ((t, true) : CH)).flatMap ccs))), (32, .sat (US G true)), (33, .is (.int .i64 G.length)), (34, .is (.int .i64 i))]) (fun i => i ≤ G.length) (fun i => G.length - i) 0 (Nat.zero_le _) ⟨rfl, rfl, rfl, rfl, rfl, trivial⟩ ?_
 rintro i hi
 have hli : ((G.take i).map fun t => ((t, true) : CH)).length ≤ 8192 := by rw [List.length_map, List.length_take]; omega
 by_cases hlt : i < G.length
 ·obtain ⟨t, ht⟩ := zae hlt
  have hct := zfh ht
  have e1 : ((G.take (i + 1)).map fun t => ((t, true) : CH)) = ((G.take i).map fun t => ((t, true) : CH)) ++ [(t, true)] := by rw [List.take_add_one, ht, List.map_append]; rfl
  refine Z387 ?_; refine Z220 ?_; refine Z40 ?_; refine z7 (qs L _ rfl rfl rfl rfl rfl rfl rfl (by first | omega | decide) (by assumption)) rfl ?_; refine z7 (yd L (vs := [_, _, _, _, _, _]) rfl rfl rfl rfl rfl ⟨_, rfl⟩) rfl ?_; refine Z199 ?_; refine Z135 ?_; refine Z56 ?_; refine qo (yn (.inl rfl) rfl rfl rfl rfl) ?_; refine z7 (qb L (vs := [_, _, _, _, _, _]) (yl rfl) rfl rfl rfl rfl ⟨_, rfl⟩) rfl ?_; refine z7 (yu (cs := [_, _, _, _, _, _, _]) rfl rfl zma rfl rfl) rfl ?_; refine Z34 ?_; refine Z106 ?_; refine qo (yn (.inr rfl) rfl rfl rfl rfl) ?_; refine Z233 ?_; refine Z60 ?_; refine Z297 ?_
  exact yk (x := i) (i + 1) hlt (by omega) ⟨rfl, by rw [e1]; exact ze6 rfl, rfl, rfl, rfl, trivial⟩
 ·obtain rfl : i = G.length := by omega
  rw [List.take_length]
  have lG : (G.map fun t => ((t, true) : CH)).length ≤ 8192 := by rw [List.length_map]; omega
  refine Z387 ?_; refine Z311 ?_; refine Z137 ?_; refine Z67 ?_; refine Z368 ?_
  refine zai (fun j : Nat => [(11, .own (SlR tyC 7 ((G.map fun t => ((t, true) : CH)) ++ ((K.take j).map fun t => ((t, false) : CH))).length (((G.map fun t => ((t, true) : CH)) ++ ((K.take j).map fun t => ((t, false) : CH))).flatMap ccs))), (44, .sat (US K true)), (45, .is (.int .i64 K.length)), (46, .is (.int .i64 j))]) (fun j => j ≤ K.length) (fun j => K.length - j) 0 (Nat.zero_le _) ⟨by rw [List.take_zero, List.map_nil, List.append_nil]; rfl, rfl, rfl, rfl, trivial⟩ ?_
  rintro j hj
  have hlj : ((G.map fun t => ((t, true) : CH)) ++ ((K.take j).map fun t => ((t, false) : CH))).length ≤ 16384 := by rw [List.length_append, List.length_map, List.length_map, List.length_take]; omega
  by_cases hjl : j < K.length
  ·obtain ⟨t, ht⟩ := zae hjl
   have hct := zfh ht
   have e1 : ((G.map fun t => ((t, true) : CH)) ++ ((K.take (j + 1)).map fun t => ((t, false) : CH))) = ((G.map fun t => ((t, true) : CH)) ++ ((K.take j).map fun t => ((t, false) : CH))) ++ [(t, false)] := by rw [List.take_add_one, ht, List.map_append, List.append_assoc]; rfl
   refine zh ?_; refine Z65 ?_; refine Z220 ?_; refine Z80 ?_; refine z7 (qs L _ rfl rfl rfl rfl rfl rfl rfl (by first | omega | decide) (by assumption)) rfl ?_; refine z7 (yd L (vs := [_, _, _, _, _, _]) rfl rfl rfl rfl rfl ⟨_, rfl⟩) rfl ?_; refine Z199 ?_; refine Z135 ?_; refine Z86 ?_; refine qo (yn (.inl rfl) rfl rfl rfl rfl) ?_; refine z7 (qb L (vs := [_, _, _, _, _, _]) (yl rfl) rfl rfl rfl rfl ⟨_, rfl⟩) rfl ?_; refine z7 (yu (cs := [_, _, _, _, _, _, _]) rfl rfl zma rfl rfl) rfl ?_; refine Z34 ?_; refine Z106 ?_; refine qo (yn (.inr rfl) rfl rfl rfl rfl) ?_; refine Z233 ?_; refine Z74 ?_; refine Z297 ?_
   exact yk (x := j) (j + 1) hjl (by omega) ⟨by rw [e1]; exact ze6 rfl, rfl, rfl, rfl, trivial⟩
  ·obtain rfl : j = K.length := by omega
   rw [List.take_length]
   rw [List.take_length] at hlj
   refine zb1 11 rfl ?_
   refine zh ?_; refine Z65 ?_; refine Z321 ?_; refine Z95 ?_; refine Z4 ?_; refine z7 (yt (φ := KS tyC (zj4 ((G.map fun t => ((t, true) : CH)) ++ (K.map fun t => ((t, false) : CH)))) true) L rfl rfl (zk rfl) rfl rfl rfl SlV.mono (fun u H hH _ _ v1 h1 => zpq rfl (by omega) hH h1)) rfl ?_; refine Z260 ?_
   refine yf L (rs := [.tmp 4]) rfl (fun _ _ h => h) Since.refl fun u H hH hle => ?_
   exact fun v hv => hv
end Go.V.L8
set_option maxRecDepth 20000
namespace Go.V.L10
open Go.Proofs Go.RowKit Go.V Go.V.L2 Go.V.L8 Go.V.L6
theorem zp5 (S : Sto) : zho fun (x : Nat × Value × Ent) (H : Heap) => MapOK x.2.2 S.R ∧ EsV x.2.2 H ∧ PsV (zak S.P) x.2.1 H := fun _ _ _ ⟨h1, h2, h3⟩ hle => ⟨h1, h2.le hle, h3.le hle⟩
abbrev StG (b : Nat) (S : Sto) : GR := GEx (fun x : Nat × Value × Ent => StO b S.R.length x.1 x.2.1 S.P.length x.2.2) (fun x H => MapOK x.2.2 S.R ∧ EsV x.2.2 H ∧ PsV (zak S.P) x.2.1 H) (zp5 S)
theorem zo6 (b : Nat) (S : Sto) : (StG b S).res = ExR (fun x : Nat × Value × Ent => (StO b S.R.length x.1 x.2.1 S.P.length x.2.2).res) (fun x H => MapOK x.2.2 S.R ∧ EsV x.2.2 H ∧ PsV (zak S.P) x.2.1 H) (zp5 S) := rfl
theorem zg0 {S : Sto} {b m : Nat} {s : Value} {es : Ent} {B : Heap} (hm : MapOK es S.R) (hes : EsV es B) (hps : PsV (zak S.P) s B) : ∀ (v : Value) H u C, B.Le H → (StO b S.R.length m s S.P.length es).res.P v H u C → (StG b S).res.P v H u C := fun _ _ _ _ hle h => ⟨(m, s, es), ⟨hm, hes.le hle, hps.le hle⟩, h⟩
theorem EsV.snoc {es : Ent} {H : Heap} (h : EsV es H) {k : Int} {t : List U} {v : Value} (hv : SetV t v H) : EsV (es ++ [(k, (t, v))]) H := fun e he => by
 rcases List.mem_append.1 he with he | he
 ·exact h e he
 ·rw [List.mem_singleton.1 he]; exact hv
theorem zd8 {P : Program} {f : FuncId} {args : List Value} {w : World} {B : Heap} {C : Nat → Prop} {r : GR} {v : Value} (h : RetY P f args w B C r (fun x _ => x = v)) : zdz P f args w B C r v := RetL.mono h fun _ _ _ _ hp => hp
attribute [local irreducible] V N X VO Par StepOK Has Ret RetL RetO RetT zb3 zdz RetY Src
set_option maxHeartbeats 4000000 in
set_option maxRecDepth 20000 in
theorem zeq {S S' : Sto} {b : Nat} {l cs : List CH} {rev e : Int} {fl fc : Bool} (hI : z3m S) (hR : S.R.length ≤ 100000) (hn : S.R.length ≠ 0) (zl : ∀ c ∈ l, TM c.1) (zc : ∀ c ∈ cs, TM c.1) (ll : l.length ≤ 9223372036854775807) (lc : cs.length ≤ 9223372036854775807) (hw : zeo S l cs = (S', rev, e)) {lv cv : Value} {w : World} {B : Heap} {C : Nat → Prop} (hB : B.Le (hp w))
  (hl : KS tyM l fl lv B) (hc : KS tyC cs fc cv B) (hr : (StG b S).P B w C) (hC : ∀ k, C k → k < w.heap.size ∧ B k = none) :
  RetY Tryz.prog 19 [.pointer (some ⟨b, 0, none⟩), lv, cv] w B C (StG b S') (fun v _ => v = .tuple #[.int .u64 rev, .int .i64 e]) := by
 unfold RetY
 refine zap 900 (StG b S) Tryz.func19 rfl Tryz.ntmps19 (Nat.le_of_ble_eq_true rfl) hB hr hC ?_
 refine zaq 1 (KS tyM l fl) rfl SlV.mono hl ?_
 refine zaq 2 (KS tyC cs fc) rfl SlV.mono hc ?_
 rw [zo6]
 refine ze0 900 rfl fun x H hs0 hφ => ?_
 obtain ⟨m, s, es⟩ := x
 obtain ⟨hm, hes, hps⟩ := hφ
 dsimp only at hm hes hps ⊢
 obtain ⟨ps, pc, rfl⟩ := zav hps
 obtain ⟨t0, ht0⟩ : ∃ t0, kpt S.R S.R.length = some t0 := Option.isSome_iff_exists.1 hI.last
 have hA : atS S 0 = (t0, 0) := by unfold atS; rw [if_pos rfl, ht0]
 have ht4 := hI.tl _ _ ht0
 obtain ⟨⟨t1, made, e1⟩, hwr⟩ : ∃ x, zee t0 l cs = x := ⟨_, rfl⟩
 unfold zeo at hw
 rw [hA, hwr] at hw
 dsimp only at hw
 refine Z258 ?_; refine Z160 ?_; refine Z1 ?_; refine yx (zbq L 900 (WithP t0 0) (r := StO b S.R.length m _ S.P.length es) rfl rfl rfl rfl rfl WithP.mono (fun u H2 C2 hH hle hr2 hC2 => by have h := zgz (S := S) (r := 0) hm hn (hes.le hle) hH hr2 hC2; rw [hA] at h; exact h)) ?_; refine zbk 14 rfl fun v1 H1 hs1 hp1 => ?_; obtain ⟨sv, rfl, hsv⟩ := hp1; obtain ⟨f1, p1, f2, p2, rfl, hpl⟩ := hsv.shape; refine Z329 ?_; refine Z169 ?_; refine Z228 ?_; refine Z27 ?_; refine z7 (qb L (vs := [_, _, _, _]) (yl rfl) rfl rfl rfl rfl ⟨_, rfl⟩) rfl ?_; refine Z330 ?_; refine z7 (yt L rfl rfl (zk rfl) rfl rfl rfl WriteP.mono (fun u H2 hH hle _ v1 h1 v2 h2 => zs5 zl zc ll lc ht4 hwr hH (hsv.le hle) h1 h2)) rfl ?_; refine zbk 24 rfl fun v3 H3 hs3 hp3 => ?_; obtain ⟨tv, mv, rfl, htv, hmv⟩ := hp3; obtain ⟨f3, p3, f4, p4, rfl, hpl4⟩ := htv.shape; refine Z171 ?_; refine Z14 ?_; refine Z270 ?_; refine Z224 ?_
 have hs13 := hs1.trans hs3
 have hes3 := hes.le hs13.le
 have hps3 := hps.le hs13.le
 by_cases he : e1 = 0
 ·subst he
  rw [if_pos rfl] at hw
  have hlen := hm.len
  have hkl := hI.kl
  rw [zfk]
  refine zge 900 901 rfl (zaz _) ?_
  by_cases hk : 1024 ≤ (zbj S.R).length
  ·rw [if_pos hk] at hw
   cases hw
   refine Z176 ?_; refine Z230 ?_; refine Z195 ?_; refine Z262 ?_; refine yx (zpg (q := 901) (vc := vcE) mpS rfl rfl rfl rfl rfl) ?_; refine Z300 ?_; refine Z56 ?_; refine Z182 ?_
   refine zb6 900 901 rfl rfl (zaz _) ?_
   refine zc7 900 (StG b S).res rfl (zg0 hm hes3 hps3) ?_
   exact zb0 L 900 (r := StG b S) (rs := [.tmp 6, .tmp 7]) rfl (fun _ _ h => h) (hs0.trans hs13) rfl rfl (fun H hle => rfl)
  ·rw [if_neg hk] at hw
   cases hw
   have hadd := hm.add t1 (.agg #[f3, .pointer p3, f4, .pointer p4])
   have hwn : IntKind.u64.wrap ((S.R.length : Int) + 1) = ((S.R.length + 1 : Nat) : Int) := wrap_u64 (by omega) (by omega)
   have hln : (S.R ++ [some t1]).length = S.R.length + 1 := by rw [List.length_append]; rfl
   refine Z176 ?_; refine Z230 ?_; refine Z195 ?_; refine Z262 ?_; refine yx (zpg (q := 901) (vc := vcE) mpS rfl rfl rfl rfl rfl) ?_; refine Z269 ?_; refine Z289 ?_; refine Z262 ?_; refine Z20 ?_; refine Z240 ?_; refine Z259 ?_; refine Z262 ?_; refine Z20 ?_; refine Z203 ?_; refine zcz (yy L (q := 900) (cs' := stc (S.R.length + 1) m (.slice ps (zak S.P).length pc) S.P.length) rfl rfl rfl rfl rfl rfl rfl rfl rfl) ?_; refine Z157 ?_
   refine qg (id := 12) [(200053, [900]), (200057, [900]), (100053, [901])] mixed (by kernel_rfl) ?_; refine Z188 ?_; refine Z91 ?_; refine Z188 ?_; refine Z91 ?_; refine z8 (qb L (vs := [_, _, _, _]) (yl rfl) rfl rfl rfl rfl ⟨_, rfl⟩) rfl ?_; refine x5 (zr1 (q := 901) (vc := vcE) ((S.R.length + 1 : Nat) : Int) (t1, .agg #[f3, .pointer p3, f4, .pointer p4]) mpS kyS rfl rfl rfl rfl rfl rfl hadd.2) rfl ?_; refine Z295 ?_
   refine Z301 ?_; refine Z262 ?_; refine Z182 ?_
   refine zb6 900 901 rfl rfl (zaz _) ?_
   refine zc7 900 (StG b ⟨S.R ++ [some t1], S.P⟩).res rfl (fun v H u C hle h => zg0 (S := ⟨S.R ++ [some t1], S.P⟩) (by have h2 := hadd.1; rw [hadd.2] at h2; exact h2) (hes3.snoc htv) hps3 v H u C hle (by dsimp only; rw [hln]; exact h)) ?_
   exact zb0 L 900 (r := StG b ⟨S.R ++ [some t1], S.P⟩) (rs := [.tmp 6, .tmp 7]) rfl (fun _ _ h => h) (hs0.trans hs13) rfl rfl (fun H hle => rfl)
 ·rw [if_neg he] at hw
  cases hw
  refine Z176 ?_; refine Z205 ?_; refine Z187 ?_; refine Z182 ?_
  refine zc7 900 (StG b S).res rfl (zg0 hm hes3 hps3) ?_
  exact zb0 L 900 (r := StG b S) (rs := [.tmp 6, .tmp 7]) rfl (fun _ _ h => h) (hs0.trans hs13) rfl rfl (fun H hle => rfl)
set_option maxHeartbeats 4000000 in
set_option maxRecDepth 20000 in
theorem zjn {S : Sto} {b f : Nat} {r : Int} {P' : List Int} {e : Int} (hn : S.R.length ≠ 0) (hk : (kpt S.R r).isSome = true) (hfn : L.fn f = some ()) (hf : ∀ {s : Value} {u : World} {H : Heap}, H.Le (hp u) → PsV (zak S.P) s H → Ret Tryz.prog f [pnv s S.P.length, .int .u64 r] u H (PinP P' e)) {w : World} {B : Heap} {C : Nat → Prop} (hB : B.Le (hp w))
  (hr : (StG b S).P B w C) (hC : ∀ k, C k → k < w.heap.size ∧ B k = none) :
  RetY Tryz.prog 50 [.pointer (some ⟨b, 0, none⟩), .int .u64 r, .func (.func f) #[] #[]] w B C (StG b (if e = 0 then ⟨S.R, P'⟩ else S)) (fun v _ => v = .int .i64 e) := by
 unfold RetY
 refine zap 900 (StG b S) Tryz.func50 rfl Tryz.ntmps50 (Nat.le_of_ble_eq_true rfl) hB hr hC ?_
 rw [zo6]
 refine ze0 900 rfl fun x H hs0 hφ => ?_
 obtain ⟨m, s, es⟩ := x
 obtain ⟨hm, hes, hps⟩ := hφ
 dsimp only at hm hes hps ⊢
 obtain ⟨ps, pc, rfl⟩ := zav hps
 rw [zfk]
 refine zge 900 901 rfl (zaz _) ?_
 have hg := hm.get r
 obtain ⟨⟨t0, sv⟩, hgk⟩ : ∃ x, ze5 r es = some x := by
  rw [← hg, Option.isSome_map] at hk
  exact Option.isSome_iff_exists.1 hk
 have hsv : SetV t0 sv H := hes _ (ziz hgk)
 obtain ⟨f1, p1, f2, p2, rfl, hpl⟩ := hsv.shape
 have q1 : (ze5 r es).elim nilSet vcE = .agg #[f1, .pointer p1, f2, .pointer p2] := by rw [hgk]; rfl
 have q2 : (ze5 r es).isSome = true := by rw [hgk]; rfl
 refine Z284 ?_; refine yx (zbe L 900 (Φ := fun H => H b = some (.cells (stc S.R.length m _ S.P.length).toArray tyS)) (c := .bool false) rfl rfl (zk rfl) rfl rfl rfl rfl rfl zj7 (fun u H hH hle hb => zc5 hn hb hH)) ?_; refine Z165 ?_; refine Z173 ?_; refine Z262 ?_; refine Z1 ?_; refine yx (zd0 (q := 901) (vc := vcE) r mpS kyS zrS rfl rfl rfl rfl rfl q1 q2) ?_; refine Z279 ?_; refine Z142 ?_; refine Z156 ?_; refine Z49 ?_; refine Z158 ?_; refine Z280 ?_; refine Z203 ?_; refine yx (zam L (q := 900) (vs := [_, _]) rfl rfl rfl rfl rfl rfl ⟨_, rfl⟩) ?_; refine Z1 ?_; refine z7 (yt (φ := PinP P' e) L rfl rfl (zk rfl) rfl (cap := []) rfl hfn PinP.mono (fun u H2 hH hle _ => hf hH (hps.le hle))) rfl ?_; refine zbk 31 rfl fun v1 H1 hs1 hp1 => ?_; obtain ⟨s2, rfl, hs2⟩ := hp1; obtain ⟨p5, c5, rfl⟩ := zav hs2; refine Z171 ?_; refine Z199 ?_; refine Z145 ?_
 by_cases he : e = 0
 ·subst he
  rw [if_pos rfl]
  refine Z195 ?_; refine Z267 ?_; refine Z216 ?_; refine z7 (qb L (vs := [_, _]) (yl rfl) rfl rfl rfl rfl ⟨_, rfl⟩) rfl ?_; refine Z203 ?_; refine zcz (yy L (q := 900) (cs' := stc S.R.length m (.slice p5 (zak P').length c5) P'.length) rfl rfl rfl rfl rfl rfl rfl rfl rfl) ?_; refine Z157 ?_; refine Z289 ?_; refine Z136 ?_
  refine zb6 900 901 rfl rfl (zaz _) ?_
  refine zc7 900 (StG b ⟨S.R, P'⟩).res rfl (zg0 (S := ⟨S.R, P'⟩) hm (hes.le hs1.le) hs2) ?_
  exact zb0 L 900 (r := StG b ⟨S.R, P'⟩) (rs := [.tmp 6]) rfl (fun _ _ h => h) (hs0.trans hs1) rfl rfl (fun H hle => rfl)
 ·rw [if_neg he]
  refine Z195 ?_; refine Z240 ?_; refine Z289 ?_; refine Z136 ?_
  refine zb6 900 901 rfl rfl (zaz _) ?_
  refine zc7 900 (StG b S).res rfl (zg0 hm (hes.le hs1.le) (hps.le hs1.le)) ?_
  exact zb0 L 900 (r := StG b S) (rs := [.tmp 6]) rfl (fun _ _ h => h) (hs0.trans hs1) rfl rfl (fun H hle => rfl)
set_option maxHeartbeats 4000000 in
theorem zid {S : Sto} {b : Nat} {r : Int} {fv : Value} (hn : S.R.length ≠ 0) (hk : ¬ (kpt S.R r).isSome = true) {w : World} {B : Heap} {C : Nat → Prop} (hB : B.Le (hp w))
  (hr : (StG b S).P B w C) (hC : ∀ k, C k → k < w.heap.size ∧ B k = none) :
  RetY Tryz.prog 50 [.pointer (some ⟨b, 0, none⟩), .int .u64 r, fv] w B C (StG b S) (fun v _ => v = .int .i64 14) := by
 refine RetY.ex hr fun x hφ hr => ?_
 obtain ⟨m, s, es⟩ := x
 obtain ⟨hm, hes, hps⟩ := hφ
 dsimp only at hm hes hps hr ⊢
 unfold RetY
 refine zap 900 (StO b S.R.length m s S.P.length es) Tryz.func50 rfl Tryz.ntmps50 (Nat.le_of_ble_eq_true rfl) hB hr hC ?_
 rw [zfk]
 refine zge 900 901 rfl (zaz _) ?_
 have hg := hm.get r
 have hgk : ze5 r es = none := by
  rw [← hg, Option.isSome_map] at hk
  cases h : ze5 r es with
  | none => rfl
  | some y => rw [h] at hk; exact absurd rfl hk
 have q1 : (ze5 r es).elim nilSet vcE = nilSet := by rw [hgk]; rfl
 have q2 : (ze5 r es).isSome = false := by rw [hgk]; rfl
 refine Z284 ?_; refine yx (zbe L 900 (Φ := fun H => H b = some (.cells (stc S.R.length m _ S.P.length).toArray tyS)) (c := .bool false) rfl rfl (zk rfl) rfl rfl rfl rfl rfl zj7 (fun u H hH hle hb => zc5 hn hb hH)) ?_; refine Z165 ?_; refine Z173 ?_; refine Z262 ?_; refine Z1 ?_; refine yx (zd0 (q := 901) (vc := vcE) r mpS kyS zrS rfl rfl rfl rfl rfl q1 q2) ?_; refine Z171 ?_; refine Z199 ?_; refine Z142 ?_; refine Z156 ?_; refine Z49 ?_; refine Z152 ?_; refine Z37 ?_; refine Z136 ?_
 refine zb6 900 901 rfl rfl (zaz _) ?_
 exact zb0 L 900 (r := StO b S.R.length m s S.P.length es) (rs := [.tmp 6]) rfl (fun _ _ h => h) Since.refl rfl rfl (fun H hle => rfl)
theorem zlx {S S' : Sto} {b : Nat} {r e : Int} (hn : S.R.length ≠ 0) (hz : S.P.length ≤ 1000) (hpn : zns S r false = (S', e)) {w : World} {B : Heap} {C : Nat → Prop} (hB : B.Le (hp w)) (hr : (StG b S).P B w C) (hC : ∀ k, C k → k < w.heap.size ∧ B k = none) :
  RetY Tryz.prog 20 [.pointer (some ⟨b, 0, none⟩), .int .u64 r] w B C (StG b S') (fun v _ => v = .int .i64 e) := by
 unfold zns at hpn
 unfold RetY
 refine zap 900 (StG b S) Tryz.func20 rfl Tryz.ntmps20 (Nat.le_of_ble_eq_true rfl) hB hr hC ?_
 by_cases hk : (kpt S.R r).isSome = true
 ·rw [if_pos hk] at hpn
  rw [if_neg (by decide)] at hpn
  cases hpn
  have hr0 : r ≠ 0 := by have := zfc hk; omega
  refine Z184 ?_; refine Z138 ?_; refine qo (zah L 900 (StG b ⟨S.R, S.P ++ [r]⟩) (.int .i64 0) (r := StG b S) rfl rfl rfl rfl rfl (fun u H2 C2 hH hle hr2 hC2 => by have h := zjn (P' := S.P ++ [r]) (e := 0) hn hk rfl (fun hH hv => zzy hr0 hz hH hv) hH hr2 hC2; rw [if_pos rfl] at h; exact zd8 h)) ?_; refine Z136 ?_
  exact zb0 L 900 (r := StG b ⟨S.R, S.P ++ [r]⟩) (rs := [.tmp 4]) rfl (fun _ _ h => h) Since.refl rfl rfl (fun H hle => rfl)
 ·rw [if_neg hk] at hpn
  cases hpn
  refine Z184 ?_; refine Z138 ?_; refine yx (zn0 L 900 (.int .i64 14) (r := StG b S) rfl rfl rfl rfl rfl (fun u H2 C2 hH hle hr2 hC2 => zid hn hk hH hr2 hC2)) ?_; refine Z136 ?_
  exact zb0 L 900 (r := StG b S) (rs := [.tmp 4]) rfl (fun _ _ h => h) Since.refl rfl rfl (fun H hle => rfl)
theorem zhu {S S' : Sto} {b : Nat} {r e : Int} (hn : S.R.length ≠ 0) (hz : S.P.length ≤ 1000) (hpn : zns S r true = (S', e)) {w : World} {B : Heap} {C : Nat → Prop} (hB : B.Le (hp w)) (hr : (StG b S).P B w C) (hC : ∀ k, C k → k < w.heap.size ∧ B k = none) :
  RetY Tryz.prog 39 [.pointer (some ⟨b, 0, none⟩), .int .u64 r] w B C (StG b S') (fun v _ => v = .int .i64 e) := by
 unfold zns at hpn
 unfold RetY
 refine zap 900 (StG b S) Tryz.func39 rfl Tryz.ntmps39 (Nat.le_of_ble_eq_true rfl) hB hr hC ?_
 by_cases hk : (kpt S.R r).isSome = true
 ·rw [if_pos hk] at hpn
  rw [if_pos rfl] at hpn
  obtain ⟨⟨P', e'⟩, hu⟩ : ∃ x, zfj S.P r = x := ⟨_, rfl⟩
  rw [hu] at hpn
  dsimp only at hpn
  have hS : S' = (if ((e' : Nat) : Int) = 0 then ⟨S.R, P'⟩ else S) ∧ e = ((e' : Nat) : Int) := by
   by_cases h0 : e' = 0
   ·subst h0; rw [if_pos rfl] at hpn; rw [if_pos (show ((0 : Nat) : Int) = 0 from rfl)]; cases hpn; exact ⟨rfl, rfl⟩
   ·rw [if_neg h0] at hpn; rw [if_neg (by omega)]; cases hpn; exact ⟨rfl, rfl⟩
  obtain ⟨rfl, rfl⟩ := hS
  refine Z184 ?_; refine Z138 ?_; refine qo (zah L 900 (StG b (if ((e' : Nat) : Int) = 0 then ⟨S.R, P'⟩ else S)) (.int .i64 e') (r := StG b S) rfl rfl rfl rfl rfl (fun u H2 C2 hH hle hr2 hC2 => zd8 (zjn (P' := P') (e := e') hn hk rfl (fun hH hv => ztf hu hz hH hv) hH hr2 hC2))) ?_; refine Z136 ?_
  exact zb0 L 900 (r := StG b (if ((e' : Nat) : Int) = 0 then ⟨S.R, P'⟩ else S)) (rs := [.tmp 4]) rfl (fun _ _ h => h) Since.refl rfl rfl (fun H hle => rfl)
 ·rw [if_neg hk] at hpn
  cases hpn
  refine Z184 ?_; refine Z138 ?_; refine yx (zn0 L 900 (.int .i64 14) (r := StG b S) rfl rfl rfl rfl rfl (fun u H2 C2 hH hle hr2 hC2 => zid hn hk hH hr2 hC2)) ?_; refine Z136 ?_
  exact zb0 L 900 (r := StG b S) (rs := [.tmp 4]) rfl (fun _ _ h => h) Since.refl rfl rfl (fun H hle => rfl)
end Go.V.L10
set_option maxRecDepth 20000
namespace Go.V.L10
open Go.Proofs Go.RowKit Go.V
theorem _root_.Go.V.Z410 {A B : Prop} (h : B) (t : Wr B → A := by intro h; refine Z58 ?_; refine Z1 ?_; exact h.h) : A := t ⟨h⟩
theorem zsv {l : List Int} {i : Nat} {x r : Int} (h : l[i]? = some x) : (l.take (i + 1)).count r = (l.take i).count r + if x = r then 1 else 0 := by
 rw [zcb h, List.count_append, List.count_singleton]
 congr 1
 by_cases e : x = r <;> simp [e]
theorem z26 {l : List Int} {i : Nat} {r : Int} : (l.take i).count r ≤ l.length := Nat.le_trans List.count_le_length (by rw [List.length_take]; omega)
def nxF (last n x : Int) : Int := if last < x ∧ (n = 0 ∨ x < n) then x else n
def nxS (last : Int) (l : List Int) : Int := l.foldl (nxF last) 0
theorem zw6 {last : Int} {l : List Int} {i : Nat} {x : Int} (h : l[i]? = some x) : nxS last (l.take (i + 1)) = nxF last (nxS last (l.take i)) x := by
 unfold nxS; rw [zcb h, List.foldl_append]; rfl
theorem zw5 {last : Int} (h0 : 0 ≤ last) (l : List Int) : (nxS last l = 0 ∧ ∀ x ∈ l, ¬ last < x) ∨ (nxS last l ∈ l ∧ last < nxS last l ∧ ∀ x ∈ l, last < x → nxS last l ≤ x) := by
 have key : ∀ (m : List Int) (n : Int) (seen : List Int), ((n = 0 ∧ ∀ x ∈ seen, ¬ last < x) ∨ (n ∈ seen ∧ last < n ∧ ∀ x ∈ seen, last < x → n ≤ x)) → ((m.foldl (nxF last) n = 0 ∧ ∀ x ∈ seen ++ m, ¬ last < x) ∨ (m.foldl (nxF last) n ∈ seen ++ m ∧ last < m.foldl (nxF last) n ∧ ∀ x ∈ seen ++ m, last < x → m.foldl (nxF last) n ≤ x)) := by
  intro m
  induction m with
  | nil => intro n seen h; simpa using h
  | cons y m ih =>
   intro n seen h
   have h1 := ih (nxF last n y) (seen ++ [y]) (by
    unfold nxF
    by_cases hc : last < y ∧ (n = 0 ∨ y < n)
    ·rw [if_pos hc]
     refine .inr ⟨by simp, hc.1, fun x hx hl => ?_⟩
     rcases List.mem_append.1 hx with hx | hx
     ·rcases h with ⟨_, h3⟩ | ⟨_, h3, h4⟩
      ·exact absurd hl (h3 x hx)
      ·have := h4 x hx hl; rcases hc.2 with h5 | h5 <;> omega
     ·rw [List.mem_singleton.1 hx]; exact Int.le_refl _
    ·rw [if_neg hc]
     rcases h with ⟨h2, h3⟩ | ⟨h2, h3, h4⟩
     ·refine .inl ⟨h2, fun x hx => ?_⟩
      rcases List.mem_append.1 hx with hx | hx
      ·exact h3 x hx
      ·rw [List.mem_singleton.1 hx]; exact fun hl => hc ⟨hl, .inl h2⟩
     ·refine .inr ⟨List.mem_append_left _ h2, h3, fun x hx hl => ?_⟩
      rcases List.mem_append.1 hx with hx | hx
      ·exact h4 x hx hl
      ·rw [List.mem_singleton.1 hx] at hl ⊢
       rcases Int.lt_or_le y n with h5 | h5
       ·exact absurd ⟨hl, .inr h5⟩ hc
       ·exact h5)
   simpa using h1
 simpa [nxS] using key l 0 [] (.inl ⟨rfl, fun x hx => by cases hx⟩)
def zha (h : List Int) (k : Nat) : Int := if k = 0 then 0 else (h[k - 1]?).getD 0
theorem zsg {h : List Int} {k : Nat} {x : Int} (hx : h[k]? = some x) : zha h (k + 1) = x := by
 unfold zha
 rw [if_neg (by omega), Nat.add_sub_cancel, hx]; rfl
theorem zpl {L0 : List Int} {i j : Nat} {x y : Int} (hi : (zat L0)[i]? = some x) (hj : (zat L0)[j]? = some y) (hij : i < j) : x < y := by
 have h1 := List.pairwise_iff_getElem.1 (za8 L0) i j (get_lt hi) (get_lt hj) hij
 rw [zec hi, zec hj] at h1
 exact zx3.1 h1
theorem zu9 {L0 : List Int} (hp : ∀ x ∈ L0, 0 < x) {k : Nat} {x : Int} (hx : (zat L0)[k]? = some x) : zha (zat L0) k < x := by
 unfold zha
 by_cases h : k = 0
 ·rw [if_pos h]; exact hp x (zay.1 (List.mem_of_getElem? hx))
 ·rw [if_neg h]
  have hk : k - 1 < (zat L0).length := by have := get_lt hx; omega
  rw [List.getElem?_eq_getElem hk]
  exact zpl (List.getElem?_eq_getElem hk) hx (by omega)
theorem zxe {L0 : List Int} (hp : ∀ x ∈ L0, 0 < x) {k : Nat} (hk : k ≤ (zat L0).length) : 0 ≤ zha (zat L0) k := by
 unfold zha
 by_cases h : k = 0
 ·rw [if_pos h]; exact Int.le_refl _
 ·rw [if_neg h]
  have hk2 : k - 1 < (zat L0).length := by omega
  rw [List.getElem?_eq_getElem hk2]
  exact Int.le_of_lt (hp _ (zay.1 (List.getElem_mem hk2)))
theorem zw7 {L0 : List Int} (hp : ∀ x ∈ L0, 0 < x) {k : Nat} (hk : k ≤ (zat L0).length) : (nxS (zha (zat L0) k) L0 = 0 ∧ k = (zat L0).length) ∨ (nxS (zha (zat L0) k) L0 ≠ 0 ∧ (zat L0)[k]? = some (nxS (zha (zat L0) k) L0)) := by
 rcases zw5 (zxe hp hk) L0 with ⟨h1, h2⟩ | ⟨h1, h2, h3⟩
 ·refine .inl ⟨h1, ?_⟩
  by_cases hlt : k < (zat L0).length
  ·obtain ⟨x, hx⟩ := zae hlt
   exact absurd (zu9 hp hx) (h2 x (zay.1 (List.mem_of_getElem? hx)))
  ·omega
 ·generalize hn : nxS (zha (zat L0) k) L0 = n at *
  refine .inr ⟨fun e => by have := hp _ h1; omega, ?_⟩
  obtain ⟨j, hj⟩ := List.getElem?_of_mem (zay.2 h1)
  have hjk : k ≤ j := by
   rcases Nat.lt_or_ge j k with hlt | hge
   ·have : n ≤ zha (zat L0) k := by
     unfold zha
     have hk2 : k - 1 < (zat L0).length := by omega
     rw [if_neg (by omega), List.getElem?_eq_getElem hk2]
     by_cases e : j = k - 1
     ·subst e; rw [zec hj]; exact Int.le_refl _
     ·exact Int.le_of_lt (zpl hj (List.getElem?_eq_getElem hk2) (by omega))
    omega
   ·exact hge
  obtain ⟨x, hx⟩ := zae (show k < (zat L0).length by have := get_lt hj; omega)
  have h4 := h3 x (zay.1 (List.mem_of_getElem? hx)) (zu9 hp hx)
  by_cases e : j = k
  ·subst e; exact hj
  ·have := zpl hx hj (by omega); omega
theorem zen {φ : Value → Heap → Prop} {a tv : Value} {H : Heap} (h : φ tv H) : TupS [φ, fun v _ => v = a] (.tuple #[tv, a]) H := by
 refine ⟨[tv, a], rfl, rfl, fun i φ' x hi hx => ?_⟩
 rcases i with _ | _ | i
 ·cases hi; cases hx; exact h
 ·cases hi; cases hx; rfl
 ·cases hi
theorem zdq {φ : Value → Heap → Prop} {a : Value} (h : Kn.mono (.sat φ)) : Kn.mono (.sat (TupS [φ, fun v _ => v = a])) := TupS.mono fun ψ hψ => by
 simp only [List.mem_cons, List.mem_nil_iff, or_false] at hψ
 rcases hψ with rfl | rfl
 ·exact h
 ·exact fun _ _ _ h _ => h
attribute [local irreducible] V N X VO Par StepOK Has Ret RetL RetO RetT zb3 zdz Src
theorem zet {l : List Int} {r : Int} {fu : Bool} {c : Nat} (hc : l.count r = c) (hz : l.length ≤ 100000) {v : Value} {w : World} {B : Heap} (hB : B.Le (hp w)) (hv : RsV l fu v B) :
  Ret Tryz.prog 35 [v, .int .u64 r] w B (fun v _ => v = .int .i64 (c : Nat)) := by
 subst hc
 refine yi Tryz.func35 rfl Tryz.ntmps35 (Nat.le_of_ble_eq_true rfl) hB ?_
 refine zaq 0 (RsV l fu) rfl SlV.mono hv ?_
 refine Z184 ?_; refine Z145 ?_; refine Z370 ?_
 refine zai (fun s : Nat × Nat => [(0, .sat (RsV l fu)), (1, .is (.int .u64 r)), (5, .is (.int .i64 s.2)), (6, .is (.int .i64 s.1))]) (fun s => s.1 ≤ l.length ∧ s.2 = (l.take s.1).count r) (fun s => l.length - s.1) (0, 0) ⟨Nat.zero_le _, rfl⟩ ⟨rfl, rfl, rfl, rfl, trivial⟩ ?_
 rintro ⟨i, c⟩ ⟨hi, hc⟩
 dsimp only at hi hc ⊢
 have hcl : (l.take i).count r ≤ l.length := z26
 by_cases hlt : i < l.length
 ·obtain ⟨x, hx⟩ := zae hlt
  have hq := zl4 hx
  have hs := zsv (r := r) hx
  have hwi : IntKind.i64.wrap ((i : Int) + 1) = ((i + 1 : Nat) : Int) := zaa (by omega) (by omega)
  have hwc : IntKind.i64.wrap ((c : Int) + 1) = ((c + 1 : Nat) : Int) := zaa (by omega) (by omega)
  by_cases hxr : x = r
  ·rw [if_pos hxr] at hs
   refine Z252 ?_; refine Z201 ?_; refine Z37 ?_; refine Z196 ?_; refine z7 (qs L _ rfl rfl rfl rfl rfl rfl rfl (by first | omega | decide) (by assumption)) rfl ?_; refine Z410 ?_; refine Z267 ?_; refine Z187 ?_; refine Z213 ?_; refine Z161 ?_; refine Z354 ?_
   exact yk (x := (i, c)) (i + 1, c + 1) ⟨hlt, by dsimp only; omega⟩ (by dsimp only; omega) ⟨rfl, rfl, rfl, rfl, trivial⟩
  ·rw [if_neg hxr] at hs
   refine Z252 ?_; refine Z201 ?_; refine Z37 ?_; refine Z196 ?_; refine z7 (qs L _ rfl rfl rfl rfl rfl rfl rfl (by first | omega | decide) (by assumption)) rfl ?_; refine Z410 ?_; refine Z13 ?_; refine Z215 ?_; refine Z354 ?_
   exact yk (x := (i, c)) (i + 1, c) ⟨hlt, by dsimp only; omega⟩ (by dsimp only; omega) ⟨rfl, rfl, rfl, rfl, trivial⟩
 ·obtain rfl : i = l.length := by omega
  rw [List.take_length] at hc
  subst hc
  refine Z252 ?_; refine Z265 ?_; refine Z195 ?_; refine Z136 ?_
  refine yf L (rs := [.tmp 4]) rfl (fun _ _ h => h) Since.refl fun u H hH hle => ?_
  rfl
set_option maxHeartbeats 2000000 in
set_option maxRecDepth 10000 in
theorem zts {l : List Int} {fu : Bool} (hpos : ∀ x ∈ l, 0 < x) (hz : l.length ≤ 100000) {v : Value} {w : World} {B : Heap} (hB : B.Le (hp w)) (hv : RsV l fu v B) :
  Ret Tryz.prog 57 [v] w B (RsV (zat l) false) := by
 have hhl : (zat l).length ≤ 100000 := Nat.le_trans (zdm l) hz
 refine yi Tryz.func57 rfl Tryz.ntmps57 (Nat.le_of_ble_eq_true rfl) hB ?_
 refine zaq 0 (RsV l fu) rfl SlV.mono hv ?_
 refine Z184 ?_; refine Z142 ?_; refine Z370 ?_
 refine zdp 3 zmz 1 rfl ?_
 refine zai (fun k : Nat => [(0, .sat (RsV l fu)), (3, .own (SlR zmz 1 ((zat l).take k).length (((zat l).take k).map (Value.int .u64)))), (4, .is (.int .u64 (zha (zat l) k)))]) (fun k => k ≤ (zat l).length) (fun k => (zat l).length - k) 0 (Nat.zero_le _) ⟨rfl, rfl, rfl, trivial⟩ ?_
 rintro k hk
 have hspec := zw7 hpos hk
 obtain ⟨last, hlast⟩ : ∃ x, x = zha (zat l) k := ⟨_, rfl⟩
 have hln : ((zat l).take k).length = k := by rw [List.length_take]; omega
 rw [← hlast] at hspec ⊢
 refine Z149 ?_; refine Z28 ?_; refine Z145 ?_; refine Z27 ?_; refine Z197 ?_
 refine zai (fun i : Nat => [(0, .sat (RsV l fu)), (3, .own (SlR zmz 1 ((zat l).take k).length (((zat l).take k).map (Value.int .u64)))), (4, .is (.int .u64 last)), (5, .is (.int .u64 (nxS last (l.take i)))), (6, .is (.int .i64 i))]) (fun i => i ≤ l.length) (fun i => l.length - i) 0 (Nat.zero_le _) ⟨rfl, rfl, rfl, rfl, rfl, trivial⟩ ?_
 rintro i hi
 by_cases hlt : i < l.length
 ·obtain ⟨x, hx⟩ := zae hlt
  have hq := zl4 hx
  have hs := zw6 (last := last) hx
  have hwi : IntKind.i64.wrap ((i : Int) + 1) = ((i + 1 : Nat) : Int) := zaa (by omega) (by omega)
  generalize nxS last (l.take i) = nx at hs ⊢
  unfold nxF at hs
  by_cases h1 : last < x
  ·by_cases h2 : nx = 0
   ·rw [if_pos ⟨h1, .inl h2⟩] at hs
    refine Z137 ?_; refine Z176 ?_; refine Z201 ?_; refine Z40 ?_; refine Z196 ?_; refine z7 (qs L _ rfl rfl rfl rfl rfl rfl rfl (by first | omega | decide) (by assumption)) rfl ?_; refine Z410 ?_; refine Z38 ?_; refine Z138 ?_; refine Z23 ?_; refine Z281 ?_; refine Z212 ?_; refine Z249 ?_; refine Z56 ?_; refine Z196 ?_; refine z7 (qs L _ rfl rfl rfl rfl rfl rfl rfl (by first | omega | decide) (by assumption)) rfl ?_; refine Z58 ?_; refine Z371 ?_; refine Z187 ?_; refine Z213 ?_
    exact yk (x := i) (i + 1) hlt (by omega) ⟨rfl, rfl, rfl, by rw [hs]; rfl, rfl, trivial⟩
   ·by_cases h3 : x < nx
    ·rw [if_pos ⟨h1, .inr h3⟩] at hs
     refine Z137 ?_; refine Z176 ?_; refine Z201 ?_; refine Z40 ?_; refine Z196 ?_; refine z7 (qs L _ rfl rfl rfl rfl rfl rfl rfl (by first | omega | decide) (by assumption)) rfl ?_; refine Z410 ?_; refine Z38 ?_; refine Z138 ?_; refine Z13 ?_; refine Z1 ?_; refine Z196 ?_; refine z7 (qs L _ rfl rfl rfl rfl rfl rfl rfl (by first | omega | decide) (by assumption)) rfl ?_; refine Z410 ?_; refine Z8 ?_; refine Z7 ?_; refine Z249 ?_; refine Z56 ?_; refine Z196 ?_; refine z7 (qs L _ rfl rfl rfl rfl rfl rfl rfl (by first | omega | decide) (by assumption)) rfl ?_; refine Z58 ?_; refine Z371 ?_; refine Z187 ?_; refine Z213 ?_
     exact yk (x := i) (i + 1) hlt (by omega) ⟨rfl, rfl, rfl, by rw [hs]; rfl, rfl, trivial⟩
    ·rw [if_neg (fun h => h.2.elim h2 h3)] at hs
     refine Z137 ?_; refine Z176 ?_; refine Z201 ?_; refine Z40 ?_; refine Z196 ?_; refine z7 (qs L _ rfl rfl rfl rfl rfl rfl rfl (by first | omega | decide) (by assumption)) rfl ?_; refine Z410 ?_; refine Z38 ?_; refine Z138 ?_; refine Z13 ?_; refine Z1 ?_; refine Z196 ?_; refine z7 (qs L _ rfl rfl rfl rfl rfl rfl rfl (by first | omega | decide) (by assumption)) rfl ?_; refine Z410 ?_; refine Z11 ?_; refine Z391 ?_; refine Z215 ?_; refine Z187 ?_; refine Z213 ?_
     exact yk (x := i) (i + 1) hlt (by omega) ⟨rfl, rfl, rfl, by rw [hs]; rfl, rfl, trivial⟩
  ·rw [if_neg (fun h => h1 h.1)] at hs
   refine Z137 ?_; refine Z176 ?_; refine Z201 ?_; refine Z40 ?_; refine Z196 ?_; refine z7 (qs L _ rfl rfl rfl rfl rfl rfl rfl (by first | omega | decide) (by assumption)) rfl ?_; refine Z410 ?_; refine Z32 ?_; refine Z313 ?_; refine Z151 ?_; refine Z212 ?_; refine Z215 ?_; refine Z187 ?_; refine Z213 ?_
   exact yk (x := i) (i + 1) hlt (by omega) ⟨rfl, rfl, rfl, by rw [hs]; rfl, rfl, trivial⟩
 ·obtain rfl : i = l.length := by omega
  rw [List.take_length]
  generalize nxS last l = nx at hspec ⊢
  rcases hspec with ⟨h1, h2⟩ | ⟨h1, h2⟩
  ·subst h2
   rw [List.take_length]
   refine zb1 3 rfl ?_
   refine Z137 ?_; refine Z176 ?_; refine Z148 ?_; refine Z206 ?_; refine Z137 ?_; refine Z289 ?_; refine Z300 ?_; refine Z67 ?_; refine Z4 ?_; refine Z260 ?_
   refine yf L (rs := [.tmp 2]) rfl (fun _ _ h => h) Since.refl fun u H hH hle => ?_
   exact fun v hv => hv
  ·have hlt2 := get_lt h2
   refine Z137 ?_; refine Z176 ?_; refine Z148 ?_; refine Z206 ?_; refine Z137 ?_; refine Z289 ?_; refine Z240 ?_; refine Z65 ?_; refine qo (yn (.inl rfl) rfl rfl rfl rfl) ?_; refine Z1 ?_; refine Z34 ?_; refine Z107 ?_; refine qo (yn (.inr rfl) rfl rfl rfl rfl) ?_; refine Z135 ?_; refine Z80 ?_; refine Z1 ?_; refine Z246 ?_
   exact yk (x := k) (k + 1) hlt2 (by omega) ⟨rfl, by rw [zcb h2]; exact zl2, by rw [zsg h2]; rfl, trivial⟩
theorem zqc {l : List Int} {x : Int} {fu : Bool} {v : Value} {H : Heap} (h : SlV zmz 1 (l.map (Value.int .u64) ++ [Value.int .u64 x]) (l.length + 1) fu v H) : RsV (l ++ [x]) fu v H := by
 unfold RsV; rw [List.map_append, List.length_append]; exact h
abbrev RP2 (l : List Int) (e : Int) : Value → Heap → Prop := TupS [RsV l false, fun v _ => v = .int .i64 e]
theorem zqe {l : List Int} {e : Int} : Kn.mono (.sat (RP2 l e)) := zdq SlV.mono
set_option maxHeartbeats 1000000 in
theorem zws {l : List Int} {r : Int} {fu : Bool} (hr : r ≠ 0) (hpos : ∀ x ∈ l, 0 < x) (hz : l.length ≤ 1000) {v : Value} {w : World} {B : Heap} (hB : B.Le (hp w)) (hv : RsV l fu v B) :
  Ret Tryz.prog 85 [v, .int .u64 r] w B (RP2 (l ++ [r]) 0) := by
 obtain ⟨c, hc⟩ : ∃ c, l.count r = c := ⟨_, rfl⟩
 have hcz : c ≤ 1000 := by rw [← hc]; exact Nat.le_trans List.count_le_length hz
 have hhl : (zat l).length ≤ 1000 := Nat.le_trans (zdm l) hz
 have hlen : (l.map (Value.int .u64)).length = l.length * 1 := by simp
 have hpl := zl3 l
 refine yi Tryz.func85 rfl Tryz.ntmps85 (Nat.le_of_ble_eq_true rfl) hB ?_
 refine zaq 0 (RsV l fu) rfl SlV.mono hv ?_
 by_cases h0 : c = 0
 ·refine Z258 ?_; refine Z189 ?_; refine Z240 ?_; refine Z28 ?_; refine Z196 ?_; refine z7 (zw L rfl rfl (zk rfl) rfl rfl rfl (fun u H hH hle _ v1 h1 => zet hc (by omega) hH h1)) rfl ?_; refine Z145 ?_; refine Z156 ?_; refine Z46 ?_; refine Z138 ?_; refine Z23 ?_; refine Z1 ?_; refine Z4 ?_; refine z7 (yt (φ := RsV (zat l) false) L rfl rfl (zk rfl) rfl rfl rfl SlV.mono (fun u H hH hle _ v1 h1 => zts hpos (by omega) hH h1)) rfl ?_; refine Z10 ?_; refine Z46 ?_; refine Z391 ?_; refine Z158 ?_; refine Z43 ?_; refine Z4 ?_; refine z7 (zck L rfl rfl rfl (zgu rfl) rfl z0n hlen hpl (by omega) (by omega)) rfl ?_; refine Z1 ?_; refine Z34 ?_; refine Z107 ?_; refine qo (yn (.inr rfl) rfl rfl rfl rfl) ?_; refine Z136 ?_
  refine zb1 4 rfl ?_
  refine yf L (rs := [.tmp 4, .tmp 5]) rfl (fun _ _ h => h) Since.refl fun u H hH hle => ?_
  exact fun v hv => zen (zqc hv)
 ·refine Z258 ?_; refine Z189 ?_; refine Z240 ?_; refine Z28 ?_; refine Z196 ?_; refine z7 (zw L rfl rfl (zk rfl) rfl rfl rfl (fun u H hH hle _ v1 h1 => zet hc (by omega) hH h1)) rfl ?_; refine Z145 ?_; refine Z156 ?_; refine Z46 ?_; refine Z138 ?_; refine Z13 ?_; refine Z322 ?_; refine Z7 ?_; refine Z158 ?_; refine Z43 ?_; refine Z4 ?_; refine z7 (zck L rfl rfl rfl (zgu rfl) rfl z0n hlen hpl (by omega) (by omega)) rfl ?_; refine Z1 ?_; refine Z34 ?_; refine Z107 ?_; refine qo (yn (.inr rfl) rfl rfl rfl rfl) ?_; refine Z136 ?_
  refine zb1 4 rfl ?_
  refine yf L (rs := [.tmp 4, .tmp 5]) rfl (fun _ _ h => h) Since.refl fun u H hH hle => ?_
  exact fun v hv => zen (zqc hv)
theorem zxo {l : List Int} {i : Nat} {r : Int} (h : ∀ x ∈ l.take i, x ≠ r) (hx : l[i]? = some r) : l.erase r = l.take i ++ l.drop (i + 1) := by
 have hi := get_lt hx
 have e : l = l.take i ++ r :: l.drop (i + 1) := by
  rw [show r :: l.drop (i + 1) = l.drop i by rw [List.drop_eq_getElem_cons hi, zec hx], List.take_append_drop]
 conv => lhs; rw [e]
 rw [List.erase_append_right _ (fun hm => h _ hm rfl), List.erase_cons_head]
set_option maxHeartbeats 1000000 in
theorem zru {l l1 : List Int} {r : Int} {e : Nat} {fu : Bool} (hr : zfj l r = (l1, e)) (hz : l.length ≤ 1000) {v : Value} {w : World} {B : Heap} (hB : B.Le (hp w)) (hv : RsV l fu v B) :
  Ret Tryz.prog 86 [v, .int .u64 r] w B (RP2 l1 e) := by
 unfold zfj at hr
 refine yi Tryz.func86 rfl Tryz.ntmps86 (Nat.le_of_ble_eq_true rfl) hB ?_
 refine zaq 0 (RsV l fu) rfl SlV.mono hv ?_
 refine Z258 ?_; refine Z154 ?_; refine Z197 ?_
 refine zai (fun i : Nat => [(0, .sat (RsV l fu)), (1, .is (.int .u64 r)), (4, .is (.slice none 0 0)), (5, .is (.int .i64 0)), (6, .is (.int .i64 i))]) (fun i => i ≤ l.length ∧ ∀ x ∈ l.take i, x ≠ r) (fun i => l.length - i) 0 ⟨Nat.zero_le _, fun x hx => by cases hx⟩ ⟨rfl, rfl, rfl, rfl, rfl, trivial⟩ ?_
 rintro i ⟨hi, hn⟩
 by_cases hlt : i < l.length
 ·obtain ⟨x, hx⟩ := zae hlt
  have hq := zl4 hx
  have hwi : IntKind.i64.wrap ((i : Int) + 1) = ((i + 1 : Nat) : Int) := zaa (by omega) (by omega)
  by_cases hxr : x = r
  ·subst hxr
   have hc : ¬ l.count x = 0 := by have := List.count_pos_iff.2 (List.mem_of_getElem? hx); omega
   rw [if_neg hc] at hr
   cases hr
   have he := zxo hn hx
   have q1 : ((l.map (Value.int .u64)).drop (0 * 1)).take ((i - 0) * 1) = (l.take i).map (Value.int .u64) := by simp
   have q2 : ((l.map (Value.int .u64)).drop ((i + 1) * 1)).take ((l.length - (i + 1)) * 1) = (l.drop (i + 1)).map (Value.int .u64) := by
    rw [Nat.mul_one, Nat.mul_one, ← List.map_drop, List.take_of_length_le (by simp)]
   have hl1 : ((l.take i).map (Value.int .u64)).length = (i - 0) * 1 := by rw [List.length_map, List.length_take]; omega
   have hl2 : ((l.drop (i + 1)).map (Value.int .u64)).length = (l.length - (i + 1)) * 1 := by rw [List.length_map, List.length_drop]; omega
   have hp1 := zl3 (l.take i)
   have hp2 := zl3 (l.drop (i + 1))
   have hlen : i - 0 + (l.length - (i + 1)) = (l.erase x).length := by rw [he, List.length_append, List.length_take, List.length_drop]; omega
   refine Z287 ?_; refine Z201 ?_; refine Z27 ?_; refine Z196 ?_; refine z7 (qs L _ rfl rfl rfl rfl rfl rfl rfl (by first | omega | decide) (by assumption)) rfl ?_; refine Z410 ?_; refine Z300 ?_; refine qg (id := 5) [(27, [22]), (4, [27])] mixed (by kernel_rfl) ?_; refine Z178 ?_; refine z8 (za9 L (kl := .i64) (pl := 0) (km := .i64) (pm := 0) 0 i false rfl rfl rfl rfl rfl rfl ⟨rfl, rfl⟩ (fun h => by cases h) (by omega) (by omega) q1) rfl ?_; refine z8 (zck L rfl rfl rfl (zgu rfl) rfl z0n hl1 hp1 (by omega) (by omega)) rfl ?_; refine Z178 ?_; refine Z33 ?_; refine z8 (za9 L (kh := .i64) (ph := 0) (km := .i64) (pm := 0) (i + 1) l.length false rfl rfl rfl rfl rfl ⟨rfl, rfl⟩ ⟨rfl, rfl⟩ (fun h => by cases h) (by omega) (by omega) q2) rfl ?_; refine zar (zbr L rfl rfl rfl (zgu rfl) rfl z0n hl2 hp2 (by omega) (by omega)) rfl rfl ?_; refine zar (yn (.inr rfl) rfl rfl rfl rfl) rfl rfl ?_; refine Z175 ?_
   rw [← List.map_append, ← he, hlen]
   refine zb1 4 rfl ?_
   refine yf L (rs := [.tmp 4, .tmp 5]) rfl (fun _ _ h => h) Since.refl fun u H hH hle => ?_
   exact fun v hv => zen hv
  ·refine Z287 ?_; refine Z201 ?_; refine Z27 ?_; refine Z196 ?_; refine z7 (qs L _ rfl rfl rfl rfl rfl rfl rfl (by first | omega | decide) (by assumption)) rfl ?_; refine Z410 ?_; refine Z13 ?_; refine Z215 ?_; refine Z173 ?_; refine Z213 ?_
   exact yk (x := i) (i + 1) ⟨hlt, fun y hy => by
    rw [zcb hx] at hy
    rcases List.mem_append.1 hy with hy | hy
    ·exact hn y hy
    ·rw [List.mem_singleton.1 hy]; exact hxr⟩ (by omega) ⟨rfl, rfl, rfl, rfl, rfl, trivial⟩
 ·obtain rfl : i = l.length := by omega
  rw [List.take_length] at hn
  rw [if_pos (List.count_eq_zero.2 fun hm => hn r hm rfl)] at hr
  cases hr
  refine Z287 ?_; refine Z265 ?_; refine Z43 ?_; refine Z182 ?_
  refine yf L (rs := [.tmp 4, .tmp 5]) rfl (fun _ _ h => h) Since.refl fun u H hH hle => ?_
  exact zen SlV.nil
theorem zvk {l R : List Int} {keep i : Nat} {x : Int} (h : R[i]? = some x) : (List.filter (fun r => decide (l.count r = 0)) ((R.take (i + 1)).take (R.length - keep))) = (List.filter (fun r => decide (l.count r = 0)) ((R.take i).take (R.length - keep))) ++ if l.count x = 0 ∧ keep < R.length - i then [x] else [] := by
 rw [List.take_take, List.take_take]
 by_cases hk : keep < R.length - i
 ·rw [Nat.min_eq_right (show i + 1 ≤ R.length - keep by omega), Nat.min_eq_right (show i ≤ R.length - keep by omega), zcb h, List.filter_append]
  congr 1
  by_cases h0 : l.count x = 0
  ·rw [if_pos ⟨h0, hk⟩]; simp [h0]
  ·rw [if_neg (fun h => h0 h.1)]; simp [h0]
 ·rw [Nat.min_eq_left (show R.length - keep ≤ i + 1 by omega), Nat.min_eq_left (show R.length - keep ≤ i by omega), if_neg (fun h => hk h.2), List.append_nil]
set_option maxHeartbeats 1000000 in
set_option maxRecDepth 10000 in
theorem ztt {l R : List Int} {keep : Nat} {fu fr : Bool} (hz : l.length ≤ 100000) (hR : R.length ≤ 100000) (hkp : keep ≤ 100000) {v1 v2 : Value} {w : World} {B : Heap} (hB : B.Le (hp w)) (hv : RsV l fu v1 B) (hr : RsV R fr v2 B) :
  Ret Tryz.prog 87 [v1, v2, .int .i64 keep] w B (RsV (zdd l R keep) false) := by
 have hgo : zdd l R keep = (R.take (R.length - keep)).filter fun r => decide (l.count r = 0) := rfl
 rw [hgo]
 clear hgo
 refine yi Tryz.func87 rfl Tryz.ntmps87 (Nat.le_of_ble_eq_true rfl) hB ?_
 refine zaq 0 (RsV l fu) rfl SlV.mono hv ?_
 refine zaq 1 (RsV R fr) rfl SlV.mono hr ?_
 refine Z184 ?_; refine Z145 ?_
 refine zdp 7 zmz 1 rfl ?_
 refine Z370 ?_
 refine zai (fun y : Nat × List Int => [(0, .sat (RsV l fu)), (1, .sat (RsV R fr)), (2, .is (.int .i64 keep)), (7, .own (SlR zmz 1 y.2.length (y.2.map (Value.int .u64)))), (8, .is (.int .i64 y.1))])
  (fun y => y.1 ≤ R.length ∧ y.2 = List.filter (fun r => decide (l.count r = 0)) ((R.take y.1).take (R.length - keep))) (fun y => R.length - y.1) (0, []) ⟨Nat.zero_le _, by simp⟩ ⟨rfl, rfl, rfl, rfl, rfl, trivial⟩ ?_
 rintro ⟨i, out⟩ ⟨hi, hout⟩
 dsimp only at hi hout ⊢
 have hol : out.length ≤ i := by rw [hout]; exact Nat.le_trans (List.length_filter_le ..) (by rw [List.length_take, List.length_take]; omega)
 by_cases hlt : i < R.length
 ·obtain ⟨x, hx⟩ := zae hlt
  have hq := zl4 hx
  have hs := zvk (l := l) (keep := keep) hx
  obtain ⟨c, hc⟩ : ∃ c, l.count x = c := ⟨_, rfl⟩
  have hcz : c ≤ 100000 := by rw [← hc]; exact Nat.le_trans List.count_le_length hz
  have hwi : IntKind.i64.wrap ((i : Int) + 1) = ((i + 1 : Nat) : Int) := zaa (by omega) (by omega)
  have hws : IntKind.i64.wrap ((R.length : Int) - (i : Int)) = ((R.length - i : Nat) : Int) := zaa (by omega) (by omega) |>.trans (by omega)
  rw [hc] at hs
  by_cases h0 : c = 0
  ·by_cases hk : keep < R.length - i
   ·rw [if_pos ⟨h0, hk⟩, ← hout] at hs
    refine Z252 ?_; refine Z201 ?_; refine Z37 ?_; refine Z395 ?_; refine z7 (qs L _ rfl rfl rfl rfl rfl rfl rfl (by first | omega | decide) (by assumption)) rfl ?_; refine Z58 ?_; refine z7 (zw L rfl rfl (zk rfl) rfl rfl rfl (fun u H hH hle _ v1 h1 => zet hc hz hH h1)) rfl ?_; refine Z23 ?_; refine Z1 ?_; refine Z148 ?_; refine Z227 ?_; refine Z1 ?_; refine Z38 ?_; refine Z249 ?_; refine Z43 ?_; refine qo (yn (.inl rfl) rfl rfl rfl rfl) ?_; refine Z196 ?_; refine z7 (qs L _ rfl rfl rfl rfl rfl rfl rfl (by first | omega | decide) (by assumption)) rfl ?_; refine Z58 ?_; refine Z34 ?_; refine Z107 ?_; refine qo (yn (.inr rfl) rfl rfl rfl rfl) ?_; refine Z233 ?_; refine Z354 ?_
    exact yk (x := (i, out)) (i + 1, out ++ [x]) ⟨hlt, hs.symm⟩ (by dsimp only; omega) ⟨rfl, rfl, rfl, zl2, rfl, trivial⟩
   ·rw [if_neg (fun h => hk h.2), List.append_nil, ← hout] at hs
    refine Z252 ?_; refine Z201 ?_; refine Z37 ?_; refine Z395 ?_; refine z7 (qs L _ rfl rfl rfl rfl rfl rfl rfl (by first | omega | decide) (by assumption)) rfl ?_; refine Z58 ?_; refine z7 (zw L rfl rfl (zk rfl) rfl rfl rfl (fun u H hH hle _ v1 h1 => zet hc hz hH h1)) rfl ?_; refine Z23 ?_; refine Z1 ?_; refine Z148 ?_; refine Z227 ?_; refine Z1 ?_; refine Z296 ?_; refine Z215 ?_; refine Z354 ?_
    exact yk (x := (i, out)) (i + 1, out) ⟨hlt, hs.symm⟩ (by dsimp only; omega) ⟨rfl, rfl, rfl, rfl, rfl, trivial⟩
  ·rw [if_neg (fun h => h0 h.1), List.append_nil, ← hout] at hs
   refine Z252 ?_; refine Z201 ?_; refine Z37 ?_; refine Z395 ?_; refine z7 (qs L _ rfl rfl rfl rfl rfl rfl rfl (by first | omega | decide) (by assumption)) rfl ?_; refine Z58 ?_; refine z7 (zw L rfl rfl (zk rfl) rfl rfl rfl (fun u H hH hle _ v1 h1 => zet hc hz hH h1)) rfl ?_; refine Z13 ?_; refine Z281 ?_; refine Z212 ?_; refine Z215 ?_; refine Z354 ?_
   exact yk (x := (i, out)) (i + 1, out) ⟨hlt, hs.symm⟩ (by dsimp only; omega) ⟨rfl, rfl, rfl, rfl, rfl, trivial⟩
 ·obtain rfl : i = R.length := by omega
  rw [List.take_length] at hout
  rw [← hout]
  refine zb1 7 rfl ?_
  refine Z252 ?_; refine Z265 ?_; refine Z40 ?_; refine Z4 ?_; refine Z260 ?_
  refine yf L (rs := [.tmp 6]) rfl (fun _ _ h => h) Since.refl fun u H hH hle => ?_
  exact fun v hv => hv
def b01 (b : Bool) : Int := if b then 1 else 0
set_option maxHeartbeats 1000000 in
theorem zg6 {a b : List Int} {f : Bool} {fa fb : Bool} (hf : decide (a = b) = f) (ha : a.length ≤ 100000) (hb : b.length ≤ 100000) {v1 v2 : Value} {w : World} {B : Heap} (hB : B.Le (hp w)) (h1 : RsV a fa v1 B) (h2 : RsV b fb v2 B) :
  Ret Tryz.prog 22 [v1, v2] w B (fun v _ => v = .int .i64 (b01 f)) := by
 subst hf
 refine yi Tryz.func22 rfl Tryz.ntmps22 (Nat.le_of_ble_eq_true rfl) hB ?_
 refine zaq 0 (RsV a fa) rfl SlV.mono h1 ?_
 refine zaq 1 (RsV b fb) rfl SlV.mono h2 ?_
 by_cases hl : a.length = b.length
 ·refine Z324 ?_; refine Z148 ?_; refine Z230 ?_; refine Z373 ?_
  refine zai (fun i : Nat => [(0, .sat (RsV a fa)), (1, .sat (RsV b fb)), (5, .is (.int .i64 i))]) (fun i => i ≤ a.length ∧ a.take i = b.take i) (fun i => a.length - i) 0 ⟨Nat.zero_le _, rfl⟩ ⟨rfl, rfl, rfl, trivial⟩ ?_
  rintro i ⟨hi, ht⟩
  by_cases hlt : i < a.length
  ·obtain ⟨x, hx⟩ := zae hlt
   obtain ⟨y, hy⟩ := zae (show i < b.length by omega)
   have hc1 := zl4 hx
   have hc2 := zl4 hy
   have hwk : IntKind.i64.wrap ((i : Int) + 1) = ((i + 1 : Nat) : Int) := zaa (by omega) (by omega)
   by_cases hxy : x = y
   ·refine Z277 ?_; refine Z178 ?_; refine z8 (qs L _ rfl rfl rfl rfl rfl rfl rfl (by first | omega | decide) (by assumption)) rfl ?_; refine Z130 ?_; refine Z178 ?_; refine z8 (qs L _ rfl rfl rfl rfl rfl rfl rfl (by first | omega | decide) (by assumption)) rfl ?_; refine Z130 ?_; refine z8 (yq rfl rfl rfl rfl (decide_eq_false (by omega))) rfl ?_; refine Z180 ?_; refine Z339 ?_; refine Z176 ?_; refine Z213 ?_
    exact yk (x := i) (i + 1) ⟨hlt, by rw [zcb hx, zcb hy, ht, hxy]⟩ (by omega) ⟨rfl, rfl, rfl, trivial⟩
   ·rw [decide_eq_false (z4x hx hy hxy)]
    refine Z277 ?_; refine Z178 ?_; refine z8 (qs L _ rfl rfl rfl rfl rfl rfl rfl (by first | omega | decide) (by assumption)) rfl ?_; refine Z130 ?_; refine Z178 ?_; refine z8 (qs L _ rfl rfl rfl rfl rfl rfl rfl (by first | omega | decide) (by assumption)) rfl ?_; refine Z130 ?_; refine z8 (yq rfl rfl rfl rfl (decide_eq_true (by omega))) rfl ?_; refine Z211 ?_; refine zh ?_; refine Z390 ?_
    refine yf L (rs := [.tmp 4]) rfl (fun _ _ h => h) Since.refl fun u H hH hle => ?_
    rfl
  ·obtain rfl : i = a.length := by omega
   have hab : a = b := by rw [List.take_length, hl, List.take_length] at ht; exact ht
   rw [decide_eq_true hab]
   refine Z374 ?_; refine Z367 ?_
   refine yf L (rs := [.tmp 4]) rfl (fun _ _ h => h) Since.refl fun u H hH hle => ?_
   rfl
 ·rw [decide_eq_false (z2l hl)]
  refine Z324 ?_; refine Z148 ?_; refine Z205 ?_; refine Z29 ?_; refine Z136 ?_
  refine yf L (rs := [.tmp 4]) rfl (fun _ _ h => h) Since.refl fun u H hH hle => ?_
  rfl
end Go.V.L10
set_option maxRecDepth 20000
namespace Go.V.L10
open Go.Proofs Go.RowKit Go.V Go.V.L2 Go.V.L8 Go.V.L6
def z1d (es : Ent) (l : List Int) : Ent := l.foldl (fun e g => zsb g e) es
theorem zvp {es : Ent} {l : List Int} {i : Nat} {g : Int} (h : l[i]? = some g) : z1d es (l.take (i + 1)) = zsb g (z1d es (l.take i)) := by unfold z1d; rw [zcb h, List.foldl_append]; rfl
theorem MapOK.dels : ∀ {l : List Int} {es : Ent} {R : List (Option (List U))}, MapOK es R → (∀ g ∈ l, 0 < g) → MapOK (z1d es l) (clrL R l)
 | [], _, _, h, _ => h
 | g :: l, _, _, h, hg => MapOK.dels (l := l) (h.del (hg g (List.mem_cons_self ..))) fun x hx => hg x (List.mem_cons_of_mem _ hx)
theorem EsV.dels : ∀ {l : List Int} {es : Ent} {H : Heap}, EsV es H → EsV (z1d es l) H
 | [], _, _, h => h
 | g :: l, _, _, h => EsV.dels (l := l) fun e he => h e ((zmf g _).subset he)
theorem zxl {P0 : List Int} {R : List (Option (List U))} {k : Nat} : ∀ g ∈ zdd P0 (zbj R) k, 0 < g := fun g hg => by
 unfold zdd at hg
 have h1 := List.mem_of_mem_take (List.mem_filter.1 hg).1
 exact (zfc (zev.1 h1)).1
theorem SetV.sst {l : List U} {v : Value} {H : Heap} (h : SetV l v H) : Sst za7 l := by
 obtain ⟨_, _, _, _, ht, _⟩ := h
 exact ht.st
theorem zmh {b n m t : Nat} {s : Value} {es : Ent} : ∀ v H u C, (StO b n m s t es).res.P v H u C → joinH H u C b = some (.cells (stc n m s t).toArray tyS) := by rw [zfk]; exact zu6
theorem zx0 {b n m t : Nat} {s : Value} {es : Ent} : ∀ v H u C, (StO b n m s t es).res.P v H u C → u.heap[b]? = some (.cells (stc n m s t).toArray tyS) := by rw [zfk]; exact zv0
def zlj (S : Sto) (a b : Int) : List CH × Int := if (atS S a).2 = 0 then (if (atS S b).2 = 0 then (z1f (atS S a).1 (atS S b).1, 0) else ([], (atS S b).2)) else ([], (atS S a).2)
theorem zv3 {S : Sto} (hI : z3m S) (r : Int) : (atS S r).1.length ≤ 4096 := by
 unfold atS
 split
 ·rename_i t h; exact hI.tl _ _ h
 ·exact Nat.zero_le _
attribute [local irreducible] V N X VO Par StepOK Has Ret RetL RetO RetT zb3 zdz RetY Src
abbrev zv9 (g : List Int) (e : Int) : Value → Heap → Prop := TupS [RsV g true, fun v _ => v = .int .i64 e]
set_option maxHeartbeats 4000000 in
set_option maxRecDepth 20000 in
theorem zef {S : Sto} {b : Nat} {keep : Int} (hn : S.R.length ≠ 0) (hz : S.P.length ≤ 100000) (hR : S.R.length ≤ 100000) {w : World} {B : Heap} {C : Nat → Prop} (hB : B.Le (hp w)) (hr : (StG b S).P B w C) (hC : ∀ k, C k → k < w.heap.size ∧ B k = none) :
  RetY Tryz.prog 21 [.pointer (some ⟨b, 0, none⟩), .int .i64 keep] w B C (StG b (zdf S keep).1) (zv9 (zdf S keep).2.1 (zdf S keep).2.2) := by
 unfold RetY
 refine zap 900 (StG b S) Tryz.func21 rfl Tryz.ntmps21 (Nat.le_of_ble_eq_true rfl) hB hr hC ?_
 rw [zo6]
 refine ze0 900 rfl fun x H hs0 hφ => ?_
 obtain ⟨m, s, es⟩ := x
 obtain ⟨hm, hes, hps⟩ := hφ
 dsimp only at hm hes hps ⊢
 obtain ⟨ps, pc, rfl⟩ := zav hps
 have hlen := hm.len
 have hkl := zfr S.R
 by_cases hk1 : keep < 1
 ·have hS : zdf S keep = (S, [], 4) := by unfold zdf; rw [if_neg (by omega)]
  rw [hS]
  refine Z144 ?_; refine Z198 ?_; refine Z351 ?_; refine yx (zbe L 900 (Φ := fun H => H b = some (.cells (stc S.R.length m (.slice ps (zak S.P).length pc) S.P.length).toArray tyS)) (c := .bool false) rfl rfl (zk rfl) rfl rfl rfl rfl rfl zmh (fun u H hH hle hb => zc5 hn hb hH)) ?_; refine Z209 ?_; refine Z173 ?_; refine Z8 ?_; refine Z179 ?_; refine Z7 ?_; refine Z250 ?_; refine Z294 ?_; refine Z182 ?_
  refine zc7 900 (StG b S).res rfl (zg0 hm hes hps) ?_
  exact zb0 L 900 (r := StG b S) (rs := [.tmp 4, .tmp 5]) rfl (fun _ _ h => h) hs0 rfl rfl (fun H hle => zen SlV.nil)
 ·by_cases hk2 : 1024 < keep
  ·have hS : zdf S keep = (S, [], 4) := by unfold zdf; rw [if_neg (by omega)]
   rw [hS]
   refine Z144 ?_; refine Z198 ?_; refine Z351 ?_; refine yx (zbe L 900 (Φ := fun H => H b = some (.cells (stc S.R.length m (.slice ps (zak S.P).length pc) S.P.length).toArray tyS)) (c := .bool false) rfl rfl (zk rfl) rfl rfl rfl rfl rfl zmh (fun u H hH hle hb => zc5 hn hb hH)) ?_; refine Z209 ?_; refine Z173 ?_; refine Z11 ?_; refine Z138 ?_; refine Z38 ?_; refine Z7 ?_; refine Z250 ?_; refine Z294 ?_; refine Z182 ?_
   refine zc7 900 (StG b S).res rfl (zg0 hm hes hps) ?_
   exact zb0 L 900 (r := StG b S) (rs := [.tmp 4, .tmp 5]) rfl (fun _ _ h => h) hs0 rfl rfl (fun H hle => zen SlV.nil)
  ·obtain ⟨k, rfl⟩ : ∃ k : Nat, keep = (k : Int) := ⟨keep.toNat, by omega⟩
   have hS : zdf S k = (⟨clrL S.R (zdd S.P (zbj S.R) k), S.P⟩, zdd S.P (zbj S.R) k, 0) := by unfold zdf; rw [if_pos (by omega)]; rfl
   rw [hS]
   have hgp : ∀ x ∈ zdd S.P (zbj S.R) k, 0 < x := zxl
   have hgl : (zdd S.P (zbj S.R) k).length ≤ 100000 := by
    unfold zdd
    refine Nat.le_trans (List.length_filter_le ..) ?_
    rw [List.length_take]; omega
   generalize hg : zdd S.P (zbj S.R) k = g at hgp hgl
   refine Z144 ?_; refine Z198 ?_; refine Z351 ?_; refine yx (zbe L 900 (Φ := fun H => H b = some (.cells (stc S.R.length m (.slice ps (zak S.P).length pc) S.P.length).toArray tyS)) (c := .bool false) rfl rfl (zk rfl) rfl rfl rfl rfl rfl zmh (fun u H hH hle hb => zc5 hn hb hH)) ?_; refine Z209 ?_; refine Z173 ?_; refine Z11 ?_; refine Z138 ?_; refine Z296 ?_; refine Z186 ?_; refine Z339 ?_; refine zh ?_
   refine qg (id := 5) [(200022, [900]), (200024, [900])] mixed (by kernel_rfl) ?_; refine Z188 ?_; refine qv (zuo L (q := 900) (vs := [_, _]) rfl rfl zx0 rfl rfl rfl rfl ⟨_, rfl⟩) rfl rfl ?_; refine Z3 ?_; refine qv (zbq L 900 (RsV (zbj S.R) true) (r := StO b S.R.length m _ S.P.length es) rfl rfl rfl rfl rfl SlV.mono (fun u H2 C2 hH hle hr2 hC2 => (zqw hm hn (by omega) hH hr2 hC2).pubY zmi)) rfl rfl ?_; refine Z3 ?_; refine z8 (yt (φ := RsV g true) L rfl rfl (zk rfl) rfl rfl rfl SlV.mono (fun u H2 hH hle _ v1 h1 => by rw [← hg]; exact zxk hz (by omega) (by omega) hH (hps.le hle) h1)) rfl ?_; refine Z375 ?_; refine Z137 ?_
   rw [zfk]
   refine zge 900 901 rfl (zaz _) ?_
   refine Z43 ?_; refine Z368 ?_
   refine zai (fun y : Nat × Ent => [(0, .is (.pointer (some ⟨b, 0, none⟩))), (6, .sat (RsV g true)), (27, .sat (RsV g true)), (28, .is (.int .i64 g.length)), (29, .is (.int .i64 y.1)), (900, .own (zaj b (stc S.R.length m (.slice ps (zak S.P).length pc) S.P.length) tyS)), (901, .own (zkw m .u64 vcE y.2))])
    (fun y => y.1 ≤ g.length ∧ y.2 = z1d es (g.take y.1)) (fun y => g.length - y.1) (0, es) ⟨Nat.zero_le _, rfl⟩ ⟨rfl, rfl, rfl, rfl, rfl, rfl, rfl, trivial⟩ ?_
   rintro ⟨i, ec⟩ ⟨hi, hec⟩
   dsimp only at hi hec ⊢
   by_cases hlt : i < g.length
   ·obtain ⟨x, hx⟩ := zae hlt
    have hc := zl4 hx
    have hnx := zvp (es := es) hx
    have hwk : IntKind.i64.wrap ((i : Int) + 1) = ((i + 1 : Nat) : Int) := zaa (by omega) (by omega)
    refine zh ?_; refine Z40 ?_; refine Z220 ?_; refine Z56 ?_; refine z7 (qs L _ rfl rfl rfl rfl rfl rfl rfl (by first | omega | decide) (by assumption)) rfl ?_; refine Z58 ?_; refine Z136 ?_; refine Z289 ?_; refine Z262 ?_; refine Z1 ?_; refine zcz (zr5 (q := 901) (vc := vcE) x mpS kyS rfl rfl rfl rfl rfl) ?_; refine Z233 ?_; refine Z67 ?_; refine Z20 ?_; refine Z263 ?_
    exact yk (x := (i, ec)) (i + 1, zsb x ec) ⟨hlt, by rw [hnx, hec]⟩ (by dsimp only; omega) ⟨rfl, rfl, rfl, rfl, rfl, rfl, rfl, trivial⟩
   ·obtain rfl : i = g.length := by omega
    rw [List.take_length] at hec
    subst hec
    refine zh ?_; refine Z40 ?_; refine Z321 ?_; refine Z65 ?_; refine Z4 ?_; refine Z51 ?_; refine Z136 ?_
    refine zb6 900 901 rfl rfl (zaz _) ?_
    refine zc7 900 (StG b ⟨clrL S.R g, S.P⟩).res rfl (fun v H u C hle h => zg0 (S := ⟨clrL S.R g, S.P⟩) (hm.dels hgp) hes.dels hps v H u C hle (by dsimp only; rw [zeb]; exact h)) ?_
    exact zb0 L 900 (r := StG b ⟨clrL S.R g, S.P⟩) (rs := [.tmp 4, .tmp 5]) rfl (fun _ _ h => h) hs0 rfl rfl (fun H hle => fun v hv => zen hv)
abbrev z3u (l : List CH) (e : Int) : Value → Heap → Prop := TupS [KS tyC l true, fun v _ => v = .int .i64 e]
set_option maxHeartbeats 4000000 in
set_option maxRecDepth 20000 in
theorem zfz {S : Sto} {b : Nat} {p q : Int} (hI : z3m S) (hn : S.R.length ≠ 0) {w : World} {B : Heap} {C : Nat → Prop} (hB : B.Le (hp w)) (hr : (StG b S).P B w C) (hC : ∀ k, C k → k < w.heap.size ∧ B k = none) :
  RetY Tryz.prog 28 [.pointer (some ⟨b, 0, none⟩), .int .u64 p, .int .u64 q] w B C (StG b S) (z3u (zlj S p q).1 (zlj S p q).2) := by
 refine RetY.ex hr fun x hφ hr => ?_
 obtain ⟨m, s, es⟩ := x
 obtain ⟨hm, hes, hps⟩ := hφ
 dsimp only at hm hes hps hr ⊢
 unfold RetY
 refine zap 900 (StO b S.R.length m s S.P.length es) Tryz.func28 rfl Tryz.ntmps28 (Nat.le_of_ble_eq_true rfl) hB hr hC ?_
 have la := zv3 hI p
 have lb := zv3 hI q
 unfold zlj
 obtain ⟨⟨ta, ea⟩, ha⟩ : ∃ x, atS S p = x := ⟨_, rfl⟩
 obtain ⟨⟨tb, eb⟩, hb⟩ : ∃ x, atS S q = x := ⟨_, rfl⟩
 rw [ha] at la ⊢
 rw [hb] at lb ⊢
 dsimp only at la lb ⊢
 refine Z258 ?_; refine Z160 ?_; refine Z138 ?_; refine yx (zbq L 900 (WithP ta ea) (r := StO b S.R.length m _ S.P.length es) rfl rfl rfl rfl rfl WithP.mono (fun u H2 C2 hH hle hr2 hC2 => by have h := zgz (S := S) (r := p) hm hn (hes.le hle) hH hr2 hC2; rw [ha] at h; exact h)) ?_; refine zbk 14 rfl fun v1 H1 hs1 hp1 => ?_; obtain ⟨sv, rfl, hsv⟩ := hp1; obtain ⟨f1, p1, f2, p2, rfl, hpl⟩ := hsv.shape; refine Z329 ?_
 by_cases h1 : ea = 0
 ·subst h1
  rw [if_pos rfl]
  have hes1 := hes.le hs1.le
  refine Z169 ?_; refine Z228 ?_; refine Z333 ?_; refine yx (zbq L 900 (WithP tb eb) (r := StO b S.R.length m _ S.P.length es) rfl rfl rfl rfl rfl WithP.mono (fun u H2 C2 hH hle hr2 hC2 => by have h := zgz (S := S) (r := q) hm hn (hes1.le hle) hH hr2 hC2; rw [hb] at h; exact h)) ?_; refine zbk 23 rfl fun v2 H2 hs2 hp2 => ?_; obtain ⟨sw, rfl, hsw⟩ := hp2; obtain ⟨f3, p3, f4, p4, rfl, hpl2⟩ := hsw.shape; refine Z329 ?_
  by_cases h2 : eb = 0
  ·subst h2
   rw [if_pos rfl]
   refine Z176 ?_; refine Z228 ?_; refine Z40 ?_; refine z7 (qb L (vs := [_, _, _, _]) (yl rfl) rfl rfl rfl rfl ⟨_, rfl⟩) rfl ?_; refine z7 (qb L (vs := [_, _, _, _]) (yl rfl) rfl rfl rfl rfl ⟨_, rfl⟩) rfl ?_; refine z7 (yt (φ := KS tyC (z1f ta tb) true) L rfl rfl (zk rfl) rfl rfl rfl SlV.mono (fun u H3 hH hle _ => zol la lb hsv.sst hsw.sst rfl hH (hsv.le (hs2.le.trans hle)) (hsw.le hle))) rfl ?_; refine Z51 ?_; refine Z136 ?_
   exact zb0 L 900 (r := StO b S.R.length m s S.P.length es) (rs := [.tmp 6, .tmp 7]) rfl (fun _ _ h => h) (hs1.trans hs2) rfl rfl (fun H hle => fun v hv => zen hv)
  ·rw [if_neg h2]
   refine Z176 ?_; refine Z205 ?_; refine Z187 ?_; refine Z182 ?_
   exact zb0 L 900 (r := StO b S.R.length m s S.P.length es) (rs := [.tmp 6, .tmp 7]) rfl (fun _ _ h => h) (hs1.trans hs2) rfl rfl (fun H hle => zen SlV.nil)
 ·rw [if_neg h1]
  refine Z169 ?_; refine Z205 ?_; refine Z173 ?_; refine Z182 ?_
  exact zb0 L 900 (r := StO b S.R.length m s S.P.length es) (rs := [.tmp 6, .tmp 7]) rfl (fun _ _ h => h) hs1 rfl rfl (fun H hle => zen SlV.nil)
end Go.V.L10
set_option maxRecDepth 20000
namespace Go.V
open Go.RowKit
def zpx {X : Type} (vf : X → Value) (g : X → GR) : Res where
 P v H u C := ∃ x, v = vf x ∧ (g x).P H u C
 st := fun ⟨x, h1, h2⟩ a b c d => ⟨x, h1, (g x).st h2 a b c d⟩
abbrev zyl {X : Type} (vf : X → Value) (g : X → GR) (ty : TypeId) : Res := zpx (fun p : Nat × X => .pointer (some ⟨p.1, 0, none⟩)) fun p => zyk (zab p.1 (zau (vf p.2)) ty) (g p.2)
section
variable {P : Program} {F : Fr} {B : Heap} {O : Boxes} {n : Nat} {ops : Array Oper} {κ : Kap} {d : Nat} {ty : TypeId} {pos : String} {aft : Array Edge} {g : Option (Nat × Bool)} {Q : Exit → Act → World → Prop} {a : Act} {u : World} {os : List Oper}
theorem znl {t : TypeId} {parts : Array (Nat × Operand)} {places : List (Nat × Nat)} {z cs : List Value} {vs : List (Nat × Value)} {a : Act} {u : World} {H : Heap} {fp : Nat → Nat → Prop} (e : Env F B O κ ⟨some d, .build t parts, ty, pos, aft, g⟩ a u H fp)
  (hp : PL P t places z) (hv : evP κ parts.toList = some vs) (hc : zhk places z vs = some cs) : (execOp a.eval ⟨some d, .build t parts, ty, pos, aft, g⟩).run P u = .ok (.value (.agg cs.toArray)) u := by
 have hm := zmr e parts.toList vs (fun p hp' => by simp [Op.operands]; exact ⟨p.1, by simpa using hp'⟩) hv
 obtain ⟨zv, hz1, hz2⟩ := hp.zr
 have hbt : P.built t vs = some cs.toArray := by
  have hpl := hp.pl
  unfold plI at hpl
  unfold zrI at hz1
  split at hz1
  ·rename_i it hit
   unfold Program.built
   split at hpl
   ·rename_i fs hu
    simp only [hit, hu, hz1, hpl]
    rw [zbt, hz2]
    exact zcu (fun i p h => by simpa using h) vs z cs hc
   ·rename_i m el hu
    split at hpl
    ·rename_i ie hie
     simp only [hit, hu, hz1, hie]
     cases hpl
     rw [zbt, hz2]
     exact zcu (fun i p h => by
      rw [List.getElem?_map] at h
      cases hr : (List.range m)[i]? with
      | none => rw [hr] at h; cases h
      | some j =>
       rw [hr] at h
       have : j = i := by
        have := List.getElem?_eq_some_iff.1 hr
        obtain ⟨h1, h2⟩ := this
        simpa using h2.symm
       subst this
       simpa using h) vs z cs hc
    ·cases hpl
   ·cases hpl
  ·cases hz1
 have hr := run_build (P := P) u t vs.toArray cs.toArray (by simpa using hbt)
 have harr : (parts.map fun (p : Nat × Operand) => (p.1, a.eval p.2)) = vs.toArray := by
  rw [← hm, ← List.map_toArray, Array.toArray_toList]
 simp only [execOp, Sem.run_bind]
 show Result.andThen ((Instr.build t (parts.map fun (p : Nat × Operand) => (p.1, a.eval p.2))).run P u) _ = _
 rw [harr, hr]
 rfl
theorem zk9 {X : Type} {q : Nat} {vf : X → Value} {gg : X → GR} {t : TypeId} {parts : Array (Nat × Operand)} {places : List (Nat × Nat)} {z : List Value} (vs : X → List (Nat × Value)) (cs : X → List Value) (hq : κ q = some (.own (zpx vf gg))) (hn : Nat.blt d n = true) (hg : gK ops κ ⟨some d, .build t parts, ty, pos, aft, g⟩ = some true)
  (hne : Nat.beq q d = false) (hp : PL P t places z) (hv : ∀ x, evP (upd κ q (.is (vf x))) parts.toList = some (vs x)) (hc : ∀ x, zhk places z (vs x) = some (cs x)) : StepOK2 P F B n ops O κ ⟨some d, .build t parts, ty, pos, aft, g⟩ q zed d (.own (zpx (fun x => .agg (cs x).toArray) gg)) := by
 rintro κ' a u hlk hks ⟨H, fp, hh⟩
 unfold After
 rw [if_pos (zaf hh hlk hg)]
 have hk' : κ' q = some (.own (zpx vf gg)) := hks.trans hq
 obtain ⟨⟨x, hx, hown⟩, hM⟩ := hh.slot q _ hk'
 have e := (hh.name q).env (κ := upd κ q (.is (vf x))) (ops := ops) (o := ⟨some d, .build t parts, ty, pos, aft, g⟩) fun s hs => by
  by_cases h : s = q
  ·subst h; rw [zad, zad, hx]
  ·rw [zac _ _ h, zac _ _ h]; exact hlk s hs
 rw [znl e hp (hv x) (hc x)]
 simp only [Upon]
 exact ⟨H, _, hh.usePut (C := fp q) hk' ⟨Keep.refl _ _, hh.sub, Heap.Le.refl _, fun _ _ _ => rfl⟩ (by simp [Act.put]) rfl (fun t ht => zal ht) (by rw [zan (by rw [hh.size]; exact zk hn)]; exact ⟨x, rfl, hown⟩) fun k hk => ⟨.inl hk, (hM k hk).1, (hM k hk).2.1⟩⟩
theorem Has.holdRf {X : Type} {t q : Nat} {vf : X → Value} {gg : X → GR} (hk : κ t = some (.own (zpx vf gg))) (h : Has F B O n κ a u) : ∃ x, Has F B O n (upd (upd (upd κ t zed) q (.own (gg x).res)) t (.is (vf x))) a u := by
 obtain ⟨H, fp, h⟩ := h
 obtain ⟨⟨x, hv, hx⟩, hM⟩ := h.slot t _ hk
 have h2 := h.usePut (d := q) (a' := a) (r' := (gg x).res) (C := fp t) hk ⟨Keep.refl _ _, h.sub, Heap.Le.refl _, fun _ _ _ => rfl⟩ rfl rfl (fun _ _ => rfl) hx fun k hk => ⟨.inl hk, (hM k hk).1, (hM k hk).2.1⟩
 have h3 := h2.name t
 rw [hv] at h3
 exact ⟨x, H, _, h3⟩
theorem zi8 (t q : Nat) {X : Type} {vf : X → Value} {gg : X → GR} {c : Code} (hk : κ t = some (.own (zpx vf gg))) (h : ∀ x, V P F B n O (upd (upd (upd κ t zed) q (.own (gg x).res)) t (.is (vf x))) c Q) : V P F B n O κ c Q := fun a u hh => let ⟨x, h'⟩ := hh.holdRf (q := q) hk; h x a u h'
theorem zs6 (t q : Nat) {X : Type} {vf : X → Value} {gg : X → GR} (hk : κ t = some (.own (zpx vf gg))) (h : ∀ x, VO P F B n O ops (upd (upd (upd κ t zed) q (.own (gg x).res)) t (.is (vf x))) os Q) : VO P F B n O ops κ os Q := fun a u hh => let ⟨x, h'⟩ := hh.holdRf (q := q) hk; h x a u h'
theorem Has.packRf {X : Type} {t q : Nat} {vf : X → Value} {gg : X → GR} (x : X) (hk : κ q = some (.own (gg x).res)) (ht : κ t = some (.is (vf x))) (h : Has F B O n κ a u) : Has F B O n (upd (upd κ q zed) t (.own (zpx vf gg))) a u := by
 obtain ⟨H, fp, h⟩ := h
 obtain ⟨hx, hM⟩ := h.slot q _ hk
 have hv : a.eval (.tmp t) = vf x := h.slot t _ ht
 exact ⟨H, _, h.usePut (d := t) (a' := a) (r' := zpx vf gg) (C := fp q) hk ⟨Keep.refl _ _, h.sub, Heap.Le.refl _, fun _ _ _ => rfl⟩ rfl rfl (fun _ _ => rfl) ⟨x, hv, hx⟩ fun k hk => ⟨.inl hk, (hM k hk).1, (hM k hk).2.1⟩⟩
theorem zrh (t q : Nat) {X : Type} (vf : X → Value) (gg : X → GR) {c : Code} (x : X) (hk : κ q = some (.own (gg x).res)) (ht : κ t = some (.is (vf x))) (h : V P F B n O (upd (upd κ q zed) t (.own (zpx vf gg))) c Q) : V P F B n O κ c Q := fun a u hh => h a u (hh.packRf x hk ht)
theorem StepOK.turn {o : Oper} {r r' : Res} (h : StepOK P F B n ops O κ o d (.own r)) (hr : ∀ v H u C, B.Le H → r.P v H u C → r'.P v H u C) : StepOK P F B n ops O κ o d (.own r') :=
 fun κ' a u hl hh => After.mono (fun a' u' h2 => by have := h2.turnO (t := d) (r' := r') (zad ..) hr; rwa [zbc] at this) (h κ' a u hl hh)
theorem StepOK2.turn {o : Oper} {q : Nat} {k1 : Kn} {r r' : Res} (h : StepOK2 P F B n ops O κ o q k1 d (.own r)) (hr : ∀ v H u C, B.Le H → r.P v H u C → r'.P v H u C) : StepOK2 P F B n ops O κ o q k1 d (.own r') :=
 fun κ' a u hl hq hh => After.mono (fun a' u' h2 => by have := h2.turnO (t := d) (r' := r') (zad ..) hr; rwa [zbc] at this) (h κ' a u hl hq hh)
abbrev z41 (s m : Nat) (xs : List Value) : Type := {p : Nat × Nat × List Value // m ≤ p.2.1 ∧ p.2.1 ≤ maxLen ∧ (xs ++ p.2.2).length = p.2.1 * s}
abbrev z5v (e : TypeId) (s m : Nat) (xs : List Value) : Res := zpx (fun p : z41 s m xs => .slice (some ⟨p.1.1, 0, none⟩) m p.1.2.1) fun p => zab p.1.1 (xs ++ p.1.2.2) e
theorem zys {e : TypeId} {s m : Nat} {xs : List Value} (hm : m ≠ 0) : ∀ v H u C, B.Le H → (SlR e s m xs).P v H u C → (z5v e s m xs).P v H u C := fun _ _ _ _ _ ⟨_, h⟩ => by
 rcases h with ⟨h0, _⟩ | ⟨b, cap, rest, h1, h2, h3, h4, h5, h6⟩
 ·exact absurd h0 hm
 ·exact ⟨⟨(b, cap, rest), h3, h4, h5⟩, h1, h2, h6⟩
theorem zk8 (L : Tabs P) {X : Type} {t t' : TypeId} {s q : Nat} {ag : Bool} {z : Nat} {cs : List Value} {vf : X → Value} {gg : X → GR} (hq : κ q = some (.own (zpx vf gg))) (hf : ∀ x, (zau (vf x)).length = z ∧ (zau (vf x)).all zbo = true)
  (hg : gK ops κ ⟨none, .store t (.tmp s) (.tmp q), ty, pos, aft, g⟩ = some true) (hk : κ s = some (.own (Cell cs t'))) (hl : L.ld t = some (ag, z)) (hcs : cs.length = z) (hne : Nat.beq q s = false) :
  StepOK2 P F B n ops O κ ⟨none, .store t (.tmp s) (.tmp q), ty, pos, aft, g⟩ q zed s (.own (zyl vf gg t')) := by
 have hne' : q ≠ s := Nat.ne_of_beq_eq_false hne
 rintro κ' a u hlk hks ⟨H, fp, hh⟩
 unfold After
 rw [if_pos (zaf hh hlk hg)]
 have hkq : κ' q = some (.own (zpx vf gg)) := hks.trans hq
 have hkss : κ' s = some (.own (Cell cs t')) := (hlk s (zdj (by simp [Op.operands]))).trans hk
 obtain ⟨⟨x, hx, hown⟩, hMq⟩ := hh.slot q _ hkq
 have h0 := hh.usePut (d := q) (a' := a) (r' := (gg x).res) (C := fp q) hkq ⟨Keep.refl _ _, hh.sub, Heap.Le.refl _, fun _ _ _ => rfl⟩ rfl rfl (fun _ _ => rfl) hown fun k hk => ⟨.inl hk, (hMq k hk).1, (hMq k hk).2.1⟩
 rw [zbc] at h0
 have hks0 : upd κ' q (.own (gg x).res) s = some (.own (Cell cs t')) := by rw [zac _ _ (Ne.symm hne')]; exact hkss
 obtain ⟨⟨b, hes, hb, hC⟩, hM⟩ := h0.slot s _ hks0
 have hrun : (execOp a.eval ⟨none, .store t (.tmp s) (.tmp q), ty, pos, aft, g⟩).run P u = .ok .skip (u.setRow b (zau (vf x)).toArray) := by
  simp only [execOp, hes, hx, Instr.storeAt, Instr.sureAddr, Sem.run_bind, Sem.run_pure, Result.andThen_ok]
  have := zbw (P := P) (off := 0) (v := vf x) (Tabs.ld_spec hl) hb (hf x).1 (by omega) (hf x).2
  rw [this, List.drop_of_length_le (by omega)]
  simp
 rw [hrun]
 simp only [Upon, Act.put]
 have hset := setRow_heap u b cs.toArray (zau (vf x)).toArray t' (0, 0) hb
 have hbm := hM b ((hC b).2 rfl)
 have h1 := h0.usePut (d := s) (a' := a) (r' := Cell (zau (vf x)) t') (C := fun k => k = b) hks0 (zbh h0.sub hb ((hC b).2 rfl) hbm.2.1 _) rfl rfl (fun _ _ => rfl) ⟨b, hes, hset, fun _ => Iff.rfl⟩ (fun k hk => by
  subst hk; exact ⟨.inl ((hC k).2 rfl), by rw [setRow_size]; exact hbm.1, hbm.2.1⟩)
 rw [zbc] at h1
 have h2 : Has F B O n _ a _ := ⟨H, _, h1⟩
 have h3 := h2.join2 (q := s) (g1 := q) (r1 := Cell (zau (vf x)) t') (r2 := (gg x).res) (Ne.symm hne') (zaz _) (zad ..) (by rw [zac _ _ hne', zad])
 have h4 := h3.turnO (t := s) (r := zhq (Cell (zau (vf x)) t') (gg x).res) (r' := zyl vf gg t') (zad ..) fun v H u C _ ⟨C1, C2, ⟨b, g1, g2, g3⟩, g4, g5, g6⟩ => ⟨(b, x), g1, C1, C2, ⟨g2, g3⟩, g4, g5, g6⟩
 have he : upd (upd (upd (upd (upd κ' q (.own (gg x).res)) s (.own (Cell (zau (vf x)) t'))) q zed) s (.own (zhq (Cell (zau (vf x)) t') (gg x).res))) s (.own (zyl vf gg t')) = upd (upd κ' q zed) s (.own (zyl vf gg t')) := by
  funext k
  by_cases h5 : k = s
  ·subst h5; rw [zad, zad]
  ·rw [zac _ _ h5, zac _ _ h5, zac _ _ h5]
   by_cases h6 : k = q
   ·subst h6; rw [zad, zad]
   ·rw [zac _ _ h6, zac _ _ h5, zac _ _ h6, zac _ _ h6]
 rw [he] at h4
 exact h4
variable {Y : Type} {kd : IntKind} {vc : Y → Value} {l : List (Int × Y)}
end
end Go.V
set_option maxRecDepth 20000
namespace Go.V.L10
open Go.Proofs Go.RowKit Go.V Go.V.L2 Go.V.L8 Go.V.L6
abbrev zm0 (b : Nat) : Value := .pointer (some ⟨b, 0, none⟩)
abbrev z40 (S : Sto) : Res := zpx zm0 fun b => StG b S
theorem zu3 {Y : Type} : MapOK ([] : List (Int × (List U × Y))) [] := ⟨List.nodup_nil, fun r => by
 cases h : kpt ([] : List (Option (List U))) r with
 | none => rfl
 | some t => have := zfc (R := []) (r := r) (by rw [h]; rfl); simp at this; omega⟩
theorem zu4 : MapOK [((1 : Int), (([] : List U), nilSet))] newS.R := by
 have h := (zu3 (Y := Value)).add [] nilSet
 have h2 := h.1
 rw [h.2] at h2
 exact h2
attribute [local irreducible] V N X VO Par StepOK Has Ret RetL RetO RetT zb3 zdz RetY Src
set_option maxHeartbeats 2000000 in
set_option maxRecDepth 20000 in
theorem zp9 {w : World} {B : Heap} (hB : B.Le (hp w)) : RetO Tryz.prog 18 [] w B (z40 newS) := by
 refine zek Tryz.func18 rfl Tryz.ntmps18 (Nat.le_of_ble_eq_true rfl) hB ?_
 refine Z184 ?_; refine z7 (zpf (hint := none) .u64 vcE rfl rfl) rfl ?_; refine zs7 1 901 rfl fun m => ?_; refine z7 (yu (cs := [_, _, _, _]) rfl rfl zrz rfl rfl) rfl ?_; refine zcz (zr2 (q := 901) (vc := vcE) 1 ([], nilSet) mpS kyS rfl rfl rfl rfl rfl rfl rfl) ?_; refine Z1 ?_; refine z7 (yu (cs := [_, _, _, _]) rfl rfl z5n rfl rfl) rfl ?_; refine Z96 ?_; refine qo (yn (.inr rfl) rfl rfl rfl rfl) ?_; refine Z135 ?_
 refine zri 0 900 rfl fun b => ?_
 refine zb6 900 901 rfl rfl (zaz (z47 m .u64 vcE [((1 : Int), (([] : List U), nilSet))])) ?_
 refine zc7 900 (StG b newS).res rfl (fun v H u C hle h => zg0 (S := newS) (s := .slice none 0 0) (m := m) (B := B) zu4 (fun e he => by rw [List.mem_singleton.1 he]; exact SetV.nil) SlV.nil v H u C hle h) ?_
 refine zrh 0 900 zm0 (fun b => StG b newS) b rfl rfl ?_
 exact zik rfl (fun _ _ h => h) Since.refl rfl
end Go.V.L10
set_option maxRecDepth 20000
namespace Go.V.L10
open Go.Proofs Go.RowKit Go.V Go.V.L2 Go.V.L8 Go.V.L6
def z5y (rs : List Int) : Prop := (0 :: rs).Pairwise (· < ·)
instance (rs : List Int) : Decidable (z5y rs) := inferInstanceAs (Decidable ((0 :: rs).Pairwise (· < ·)))
attribute [local irreducible] V N X VO Par StepOK Has Ret RetL RetO RetT zb3 zdz RetY Src
end Go.V.L10
set_option maxRecDepth 20000
namespace Go.V.L10
open Go.Proofs Go.RowKit Go.V Go.V.L2 Go.V.L8 Go.V.L6
attribute [local irreducible] V N X VO Par StepOK Has Ret RetL RetO RetT zb3 zdz RetY Src
end Go.V.L10
set_option maxRecDepth 20000
namespace Go.V.L10
open Go.Proofs Go.RowKit Go.V Go.V.L2 Go.V.L8 Go.V.L6
theorem _root_.Go.V.Z283 {A B : Prop} (h : B) (t : Wr B → A := by intro h; refine Z218 ?_; refine Z10 ?_; exact h.h) : A := t ⟨h⟩
abbrev z49 : TypeId := 89
abbrev z34 : TypeId := 32
abbrev zkv := Option (List U) × Value
def rrc (z : zkv) : List Value := [.bool z.1.isSome, z.2]
theorem zhw (z : zkv) : (rrc z).length = 2 := rfl
def RowOK (zs : List zkv) (H : Heap) : Prop := ∀ z ∈ zs, US (z.1.getD []) false z.2 H
theorem RowOK.le {zs : List zkv} {H H' : Heap} (h : RowOK zs H) (hle : H.Le H') : RowOK zs H' := fun z hz => (h z hz).le hle
abbrev RwV (zs : List zkv) : Value → Heap → Prop := SlV z49 2 (zs.flatMap rrc) zs.length false
def RlV (R : List (Option (List U))) : Value → Heap → Prop := fun v H => ∃ zs : List zkv, zs.map (·.1) = R ∧ RowOK zs H ∧ RwV zs v H
theorem RlV.le {R : List (Option (List U))} {v : Value} {H H' : Heap} (h : RlV R v H) (hle : H.Le H') : RlV R v H' := let ⟨zs, h1, h2, h3⟩ := h; ⟨zs, h1, h2.le hle, h3.le hle⟩
def RsS (S : Sto) : Value → Heap → Prop := fun v H => ∃ lv pv, v = .agg #[lv, pv] ∧ RlV S.R lv H ∧ RsV S.P false pv H
theorem RsS.mono {S : Sto} : Kn.mono (.sat (RsS S)) := fun _ _ _ ⟨lv, pv, h1, h2, h3⟩ hle => ⟨lv, pv, h1, h2.le hle, h3.le hle⟩
theorem RsS.le {S : Sto} {v : Value} {H H' : Heap} (h : RsS S v H) (hle : H.Le H') : RsS S v H' := RsS.mono _ _ _ h hle
theorem zrw {zs : List zkv} {i : Nat} {z : zkv} (h : zs[i]? = some z) : ((zs.flatMap rrc).drop (i * 2)).take 2 = [.bool z.1.isSome, z.2] := zde zhw zs i z h
theorem zqd {zs : List zkv} {H : Heap} (h : RowOK zs H) : (zs.flatMap rrc).all zbo = true := by
 rw [List.all_eq_true]
 intro x hx
 obtain ⟨z, hz, hx⟩ := List.mem_flatMap.1 hx
 obtain ⟨p, c, hs⟩ := zav (h z hz)
 unfold rrc at hx
 rw [hs] at hx
 simp only [List.mem_cons, List.mem_nil_iff, or_false] at hx
 rcases hx with rfl | rfl <;> rfl
theorem zk5 {zs : List zkv} {R : List (Option (List U))} (h : zs.map (·.1) = R) {i : Nat} {o : Option (List U)} (ho : R[i]? = some o) : ∃ v, zs[i]? = some (o, v) := by
 rw [← h, List.getElem?_map] at ho
 cases hz : zs[i]? with
 | none => rw [hz] at ho; cases ho
 | some z => rw [hz] at ho; cases ho; exact ⟨z.2, rfl⟩
def zka (R : List (Option (List U))) (i : Nat) : List Int := ((List.range i).filter fun i => ((R[i]?).join).isSome).map fun i => ((i + 1 : Nat) : Int)
theorem zsh {R : List (Option (List U))} {i : Nat} : zka R (i + 1) = zka R i ++ if ((R[i]?).join).isSome = true then [((i + 1 : Nat) : Int)] else [] := by
 unfold zka
 rw [List.range_succ, List.filter_append, List.map_append]
 congr 1
 by_cases h : ((R[i]?).join).isSome = true
 ·rw [if_pos h]; simp [h]
 ·rw [if_neg h]; simp [h]
theorem zj9 (R : List (Option (List U))) (i : Nat) : (zka R i).length ≤ i := by
 unfold zka
 rw [List.length_map]
 exact Nat.le_trans (List.length_filter_le ..) (by simp)
abbrev z07 (t : List U) (e : Int) : Value → Heap → Prop := TupS [US t false, fun v _ => v = .int .i64 e]
attribute [local irreducible] V N X VO Par StepOK Has Ret RetL RetO RetT zb3 zdz RetY Src
theorem zrx {w : World} {B : Heap} (hB : B.Le (hp w)) : Ret Tryz.prog 42 [] w B (RsS newS) := by
 refine yi Tryz.func42 rfl Tryz.ntmps42 (Nat.le_of_ble_eq_true rfl) hB ?_
 refine Z343 ?_; refine Z157 ?_; refine Z19 ?_; refine z7 (yu (cs := [_, _]) rfl rfl z37 rfl rfl) rfl ?_; refine Z34 ?_; refine zbk 2 rfl fun v1 H1 hs1 hv1 => ?_; obtain ⟨d1, rfl, hd1⟩ := hv1; refine z7 (yu (cs := [_, _]) rfl rfl z1z rfl rfl) rfl ?_; refine Z261 ?_
 refine yf L (rs := [.cell 0 32]) rfl (fun _ _ h => h) hs1 fun u H hH hle => ?_
 exact ⟨_, yl rfl, rfl, _, _, rfl, ⟨[(some [], .slice none 0 0)], rfl, fun z hz => by rw [List.mem_singleton.1 hz]; exact SlV.nil, (SlB.toV (n := 1) ⟨d1, rfl, hle _ _ hd1⟩ rfl).nofu⟩, SlV.nil⟩
theorem zgj {R : List (Option (List U))} {zs : List zkv} (hzs : zs.map (·.1) = R) (hR : R.length ≤ 100000) {lv pv : Value} (hpv : ∃ p k c, pv = .slice p k c) {w : World} {B : Heap} (hB : B.Le (hp w)) (hl : RwV zs lv B) :
  Ret Tryz.prog 34 [.agg #[lv, pv]] w B (RsV (zbj R) false) := by
 have hzl : zs.length = R.length := by rw [← hzs, List.length_map]
 obtain ⟨p, c, rfl⟩ := zav hl
 obtain ⟨p2, k2, c2, rfl⟩ := hpv
 refine yi Tryz.func34 rfl Tryz.ntmps34 (Nat.le_of_ble_eq_true rfl) hB ?_
 refine Z299 ?_; refine Z145 ?_
 refine zdp 3 zmz 1 rfl ?_
 refine Z370 ?_
 refine zai (fun y : Nat => [(1, .sat (At [.slice p zs.length c, .slice p2 k2 c2] z34 0)), (3, .own (SlR zmz 1 (zka R y).length ((zka R y).map (Value.int .u64)))), (4, .is (.int .i64 y))])
  (fun y => y ≤ R.length) (fun y => R.length - y) 0 (Nat.zero_le _) ⟨rfl, rfl, rfl, trivial⟩ ?_
 rintro i hi
 dsimp only at hi ⊢
 have htl := zj9 R i
 by_cases hlt : i < R.length
 ·obtain ⟨o, ho⟩ := zae hlt
  obtain ⟨v, hv⟩ := zk5 hzs ho
  have hc := zrw hv
  have hwk : IntKind.i64.wrap ((i : Int) + 1) = ((i + 1 : Nat) : Int) := zaa (by omega) (by omega)
  have hwu : IntKind.u64.wrap ((i + 1 : Nat) : Int) = ((i + 1 : Nat) : Int) := wrap_u64 (by omega) (by omega)
  have hs := zsh (R := R) (i := i)
  rw [ho] at hs
  cases o with
  | none =>
   have hs2 : zka R (i + 1) = zka R i := hs.trans (List.append_nil _)
   refine Z252 ?_; refine Z283 ?_; refine Z170 ?_; refine Z166 ?_; refine Z37 ?_; refine Z218 ?_; refine Z1 ?_; refine z7 (qs L _ rfl rfl rfl rfl rfl rfl rfl (by first | omega | decide) (by assumption)) rfl ?_; refine Z358 ?_; refine Z215 ?_; refine Z354 ?_
   exact yk (x := i) (i + 1) hlt (by omega) ⟨rfl, by rw [hs2]; rfl, rfl, trivial⟩
  | some t =>
   have hs2 : zka R (i + 1) = zka R i ++ [((i + 1 : Nat) : Int)] := hs
   refine Z252 ?_; refine Z283 ?_; refine Z170 ?_; refine Z166 ?_; refine Z37 ?_; refine Z218 ?_; refine Z1 ?_; refine z7 (qs L _ rfl rfl rfl rfl rfl rfl rfl (by first | omega | decide) (by assumption)) rfl ?_; refine Z358 ?_; refine Z141 ?_; refine Z43 ?_; refine qo (yn (.inl rfl) rfl rfl rfl rfl) ?_; refine Z1 ?_; refine Z20 ?_; refine z7 (zax rfl rfl rfl zb8.1 zb8.2 (wrap_u64 (by omega) (by omega))) rfl ?_; refine Z34 ?_; refine Z107 ?_; refine qo (yn (.inr rfl) rfl rfl rfl rfl) ?_; refine Z233 ?_; refine Z354 ?_
   exact yk (x := i) (i + 1) hlt (by omega) ⟨rfl, by rw [hs2]; exact zl2, rfl, trivial⟩
 ·obtain rfl : i = R.length := by omega
  refine Z252 ?_; refine Z283 ?_; refine Z245 ?_
  refine zb1 3 rfl ?_
  refine Z40 ?_; refine Z4 ?_; refine Z260 ?_
  refine yf L (rs := [.tmp 2]) rfl (fun _ _ h => h) Since.refl fun u H hH hle => ?_
  exact fun v hv => hv
set_option maxHeartbeats 1000000 in
theorem znq {S : Sto} {r : Int} (hn : S.R.length ≠ 0) (hr0 : 0 ≤ r) (hr1 : r < 18446744073709551616) (hz : S.R.length ≤ 1000000000) {v : Value} {w : World} {B : Heap} (hB : B.Le (hp w)) (hv : RsS S v B) :
  Ret Tryz.prog 27 [v, .int .u64 r] w B (z07 (atS S r).1 (atS S r).2) := by
 obtain ⟨lv, pv, rfl, ⟨zs, hzs, hrow, hlv⟩, hpv⟩ := hv
 have hzl : zs.length = S.R.length := by rw [← hzs, List.length_map]
 obtain ⟨p, c, rfl⟩ := zav hlv
 obtain ⟨p2, c2, rfl⟩ := zav hpv
 obtain ⟨k, hk⟩ : ∃ k : Nat, (k : Int) = if r = 0 then (S.R.length : Int) else r := ⟨(if r = 0 then (S.R.length : Int) else r).toNat, by split <;> omega⟩
 have hat : atS S r = match kpt S.R k with | some t => (t, 0) | none => ([], 14) := by rw [hk]; rfl
 have hk1 : 1 ≤ k := by split at hk <;> omega
 obtain ⟨j, rfl⟩ : ∃ j, k = j + 1 := ⟨k - 1, by omega⟩
 have hwl : IntKind.u64.wrap ((zs.length : Nat) : Int) = ((zs.length : Nat) : Int) := wrap_u64 (by omega) (by omega)
 have hws : IntKind.u64.wrap (((j + 1 : Nat) : Int) - 1) = ((j : Nat) : Int) := (wrap_u64 (by omega) (by split at hk <;> omega)).trans (by omega)
 rw [zfq] at hat
 by_cases hr : r = 0
 ·rw [if_pos hr] at hk
  subst hr
  have hjl : j < S.R.length := by omega
  obtain ⟨o, ho⟩ := zae hjl
  obtain ⟨v, hv⟩ := zk5 hzs ho
  have hc := zrw hv
  have hjz : zs.length = j + 1 := by omega
  rw [ho] at hat
  have hws2 : IntKind.u64.wrap (((zs.length : Nat) : Int) - 1) = ((j : Nat) : Int) := by rw [hjz]; exact hws
  cases o with
  | none =>
   rw [hat]
   refine yi Tryz.func27 rfl Tryz.ntmps27 (Nat.le_of_ble_eq_true rfl) hB ?_
   refine Z328 ?_; refine Z189 ?_; refine Z267 ?_; refine Z29 ?_; refine Z283 ?_; refine z7 (zax rfl rfl rfl zb8.1 zb8.2 (wrap_u64 (by omega) (by omega))) rfl ?_; refine Z332 ?_; refine Z283 ?_; refine z7 (zax rfl rfl rfl zb8.1 zb8.2 (wrap_u64 (by omega) (by omega))) rfl ?_; refine Z379 ?_; refine Z218 ?_; refine Z227 ?_; refine z7 (qs L _ rfl rfl rfl rfl rfl rfl rfl (by first | omega | decide) (by assumption)) rfl ?_; refine Z358 ?_; refine Z302 ?_; refine Z327 ?_; refine Z182 ?_
   refine yf L (rs := [.tmp 4, .tmp 5]) rfl (fun _ _ h => h) Since.refl fun u H hH hle => ?_
   exact zen SlV.nil
  | some t =>
   have hrz : US t false v B := hrow (some t, v) (List.mem_of_getElem? hv)
   obtain ⟨p3, c3, rfl⟩ := zav hrz
   rw [hat]
   refine yi Tryz.func27 rfl Tryz.ntmps27 (Nat.le_of_ble_eq_true rfl) hB ?_
   refine Z328 ?_; refine Z189 ?_; refine Z267 ?_; refine Z29 ?_; refine Z283 ?_; refine z7 (zax rfl rfl rfl zb8.1 zb8.2 (wrap_u64 (by omega) (by omega))) rfl ?_; refine Z332 ?_; refine Z283 ?_; refine z7 (zax rfl rfl rfl zb8.1 zb8.2 (wrap_u64 (by omega) (by omega))) rfl ?_; refine Z379 ?_; refine Z218 ?_; refine Z227 ?_; refine z7 (qs L _ rfl rfl rfl rfl rfl rfl rfl (by first | omega | decide) (by assumption)) rfl ?_; refine Z358 ?_; refine Z302 ?_; refine Z158 ?_; refine Z37 ?_; refine Z218 ?_; refine Z227 ?_; refine z7 (qs L _ rfl rfl rfl rfl rfl rfl rfl (by first | omega | decide) (by assumption)) rfl ?_; refine Z358 ?_; refine Z182 ?_
   refine yf L (rs := [.tmp 4, .tmp 5]) rfl (fun _ _ h => h) Since.refl fun u H hH hle => ?_
   exact zen (hrz.le hle)
 ·rw [if_neg hr] at hk
  subst hk
  by_cases hjl : j < S.R.length
  ·obtain ⟨o, ho⟩ := zae hjl
   obtain ⟨v, hv⟩ := zk5 hzs ho
   have hc := zrw hv
   rw [ho] at hat
   cases o with
   | none =>
    rw [hat]
    refine yi Tryz.func27 rfl Tryz.ntmps27 (Nat.le_of_ble_eq_true rfl) hB ?_
    refine Z328 ?_; refine Z189 ?_; refine Z269 ?_; refine Z173 ?_; refine Z283 ?_; refine z7 (zax rfl rfl rfl zb8.1 zb8.2 (wrap_u64 (by omega) (by omega))) rfl ?_; refine Z379 ?_; refine Z218 ?_; refine Z227 ?_; refine z7 (qs L _ rfl rfl rfl rfl rfl rfl rfl (by first | omega | decide) (by assumption)) rfl ?_; refine Z358 ?_; refine Z302 ?_; refine Z327 ?_; refine Z182 ?_
    refine yf L (rs := [.tmp 4, .tmp 5]) rfl (fun _ _ h => h) Since.refl fun u H hH hle => ?_
    exact zen SlV.nil
   | some t =>
    have hrz : US t false v B := hrow (some t, v) (List.mem_of_getElem? hv)
    obtain ⟨p3, c3, rfl⟩ := zav hrz
    rw [hat]
    refine yi Tryz.func27 rfl Tryz.ntmps27 (Nat.le_of_ble_eq_true rfl) hB ?_
    refine Z328 ?_; refine Z189 ?_; refine Z269 ?_; refine Z173 ?_; refine Z283 ?_; refine z7 (zax rfl rfl rfl zb8.1 zb8.2 (wrap_u64 (by omega) (by omega))) rfl ?_; refine Z379 ?_; refine Z218 ?_; refine Z227 ?_; refine z7 (qs L _ rfl rfl rfl rfl rfl rfl rfl (by first | omega | decide) (by assumption)) rfl ?_; refine Z358 ?_; refine Z302 ?_; refine Z158 ?_; refine Z37 ?_; refine Z218 ?_; refine Z227 ?_; refine z7 (qs L _ rfl rfl rfl rfl rfl rfl rfl (by first | omega | decide) (by assumption)) rfl ?_; refine Z358 ?_; refine Z182 ?_
    refine yf L (rs := [.tmp 4, .tmp 5]) rfl (fun _ _ h => h) Since.refl fun u H hH hle => ?_
    exact zen (hrz.le hle)
  ·rw [List.getElem?_eq_none (by omega)] at hat
   rw [hat]
   refine yi Tryz.func27 rfl Tryz.ntmps27 (Nat.le_of_ble_eq_true rfl) hB ?_
   refine Z328 ?_; refine Z189 ?_; refine Z269 ?_; refine Z173 ?_; refine Z283 ?_; refine z7 (zax rfl rfl rfl zb8.1 zb8.2 (wrap_u64 (by omega) (by omega))) rfl ?_; refine Z38 ?_; refine Z313 ?_; refine Z212 ?_; refine Z327 ?_; refine Z182 ?_
   refine yf L (rs := [.tmp 4, .tmp 5]) rfl (fun _ _ h => h) Since.refl fun u H hH hle => ?_
   exact zen SlV.nil
end Go.V.L10
set_option maxRecDepth 20000
namespace Go.V.L10
open Go.Proofs Go.RowKit Go.V Go.V.L2 Go.V.L8 Go.V.L6
theorem _root_.Go.V.Z362 {A B : Prop} (h : B) (t : Wr B → A := by intro h; refine Z47 ?_; refine z8 (StepOK.seeV (qk L (qn rfl) rfl rfl rfl rfl) (by assumption)) rfl ?_; exact h.h) : A := t ⟨h⟩
theorem zyv {φ : Value → Heap → Prop} {a v : Value} {H : Heap} (h : TupS [φ, fun v _ => v = a] v H) : ∃ tv, v = .tuple #[tv, a] ∧ φ tv H := by
 obtain ⟨vs, rfl, hl, hp⟩ := h
 match vs, hl with
 | [x, y], _ =>
  have h2 := hp 1 _ y rfl rfl
  exact ⟨x, by rw [← h2], hp 0 _ x rfl rfl⟩
abbrev Wr10P (S : Sto) (rev e : Int) : Value → Heap → Prop := TupS [RsS S, fun v _ => v = .int .u64 rev, fun v _ => v = .int .i64 e]
theorem z35 {φ : Value → Heap → Prop} {a b v : Value} {H : Heap} (h : φ v H) : TupS [φ, fun v _ => v = a, fun v _ => v = b] (.tuple #[v, a, b]) H := by
 refine ⟨[v, a, b], rfl, rfl, fun i ψ x hi hx => ?_⟩
 rcases i with _ | _ | _ | i
 ·cases hi; cases hx; exact h
 ·cases hi; cases hx; rfl
 ·cases hi; cases hx; rfl
 ·cases hi
theorem Wr10P.mono {S : Sto} {rev e : Int} : Kn.mono (.sat (Wr10P S rev e)) := TupS.mono fun ψ hψ => by
 simp only [List.mem_cons, List.mem_nil_iff, or_false] at hψ
 rcases hψ with rfl | rfl | rfl
 ·exact RsS.mono
 ·exact fun _ _ _ h _ => h
 ·exact fun _ _ _ h _ => h
attribute [local irreducible] V N X VO Par StepOK Has Ret RetL RetO RetT zb3 zdz RetY Src
set_option maxHeartbeats 4000000 in
set_option maxRecDepth 20000 in
theorem znf {S S' : Sto} {l cs : List CH} {rev e : Int} {fl fc : Bool} (hI : z3m S) (hR : S.R.length ≤ 100000) (hn : S.R.length ≠ 0) (hss : ∀ r t, kpt S.R r = some t → Sst za7 t ∧ ∀ x ∈ t, TZ x) (zl : ∀ c ∈ l, TM c.1) (zc : ∀ c ∈ cs, TM c.1) (ll : l.length ≤ 9223372036854775807) (lc : cs.length ≤ 9223372036854775807) (hw : zeo S l cs = (S', rev, e)) {v lv cv : Value} {w : World} {B : Heap} (hB : B.Le (hp w)) (hv : RsS S v B) (hl : KS tyM l fl lv B) (hc : KS tyC cs fc cv B) :
  Ret Tryz.prog 53 [v, lv, cv] w B (Wr10P S' rev e) := by
 obtain ⟨rv, pv, rfl, ⟨zs, hzs, hrow, hrv⟩, hpv⟩ := hv
 have hzl : zs.length = S.R.length := by rw [← hzs, List.length_map]
 obtain ⟨p, c, rfl⟩ := zav hrv
 obtain ⟨p2, c2, rfl⟩ := zav hpv
 obtain ⟨t0, ht0⟩ : ∃ t0, kpt S.R S.R.length = some t0 := Option.isSome_iff_exists.1 hI.last
 have hA : atS S 0 = (t0, 0) := by unfold atS; rw [if_pos rfl, ht0]
 have ht4 := hI.tl _ _ ht0
 have hts := hss _ _ ht0
 obtain ⟨⟨t1, made, e1⟩, hwr⟩ : ∃ x, zee t0 l cs = x := ⟨_, rfl⟩
 unfold zeo at hw
 rw [hA, hwr] at hw
 dsimp only at hw
 obtain ⟨j, hj⟩ : ∃ j, zs.length = j + 1 := ⟨zs.length - 1, by omega⟩
 have hws : IntKind.i64.wrap (((zs.length : Nat) : Int) - 1) = ((j : Nat) : Int) := (zaa (by omega) (by omega)).trans (by omega)
 obtain ⟨v0, hv0⟩ : ∃ v, zs[j]? = some (some t0, v) := zk5 hzs (by
  obtain ⟨o, ho⟩ := zae (show j < S.R.length by omega)
  have h2 : S.R.length = j + 1 := by omega
  rw [h2, zfq, ho] at ht0
  cases o with
  | none => cases ht0
  | some t => cases ht0; exact ho)
 have hrz : US t0 false v0 B := hrow (some t0, v0) (List.mem_of_getElem? hv0)
 obtain ⟨p3, c3, rfl⟩ := zav hrz
 have hc0 := zrw hv0
 have hkl := zj9 S.R S.R.length
 refine yi Tryz.func53 rfl Tryz.ntmps53 (Nat.le_of_ble_eq_true rfl) hB ?_
 refine zaq 1 (KS tyM l fl) rfl SlV.mono hl ?_
 refine zaq 2 (KS tyC cs fc) rfl SlV.mono hc ?_
 refine Z155 ?_; refine Z278 ?_; refine Z160 ?_; refine Z218 ?_; refine Z283 ?_; refine Z26 ?_; refine z7 (qs L _ rfl rfl rfl rfl rfl rfl rfl (by first | omega | decide) (by assumption)) rfl ?_; refine Z358 ?_; refine Z330 ?_; refine z7 (yt (φ := RWriteP t1 made e1) L rfl rfl (zk rfl) rfl rfl rfl RWriteP.mono (fun u H hH hle _ v1 h1 v2 h2 => zo8 zl zc ll lc ht4 hts.1 hts.2 hwr hH (hrz.le hle) h1 h2)) rfl ?_; refine zbk 25 rfl fun v1 H1 hs1 hp1 => ?_; obtain ⟨tv, mv, rfl, htv, hmv⟩ := hp1; obtain ⟨p4, c4, rfl⟩ := zav htv; refine Z171 ?_; refine Z14 ?_; refine Z2 ?_; refine Z224 ?_
 have hrow1 := hrow.le hs1.le
 have hrv1 := hrv.le hs1.le
 have hpv1 := hpv.le hs1.le
 by_cases he : e1 = 0
 ·subst he
  rw [if_pos rfl] at hw
  by_cases hk : 1024 ≤ (zbj S.R).length
  ·rw [if_pos hk] at hw
   cases hw
   refine Z169 ?_; refine Z23 ?_; refine Z1 ?_; refine z7 (qb L (vs := [_, _]) (qn rfl) rfl rfl rfl rfl ⟨_, rfl⟩) rfl ?_; refine z7 (yt (φ := RsV (zbj S.R) false) L rfl rfl (zk rfl) rfl rfl rfl SlV.mono (fun u H hH hle _ => zgj hzs (by omega) ⟨_, _, _, rfl⟩ hH (hrv1.le hle))) rfl ?_; refine Z10 ?_; refine Z41 ?_; refine Z249 ?_; refine Z28 ?_; refine Z145 ?_; refine Z156 ?_; refine Z205 ?_; refine Z37 ?_; refine z7 (qb L (vs := [_, _]) (qn rfl) rfl rfl rfl rfl ⟨_, rfl⟩) rfl ?_; refine Z1 ?_; refine Z16 ?_; refine Z182 ?_
   refine yf L (rs := [.cell 6 32, .tmp 7, .tmp 8]) rfl (fun _ _ h => h) hs1 fun u H hH hle => ?_
   exact ⟨_, yl rfl, rfl, z35 ⟨_, _, rfl, ⟨zs, hzs, hrow1.le hle, hrv1.le hle⟩, hpv1.le hle⟩⟩
  ·rw [if_neg hk] at hw
   cases hw
   have hlen : (zs.flatMap rrc).length = zs.length * 2 := zcg zhw zs
   have hpl := zqd hrow
   have hwu : IntKind.u64.wrap ((zs.length + 1 : Nat) : Int) = ((S.R.length + 1 : Nat) : Int) := (wrap_u64 (by omega) (by omega)).trans (by omega)
   refine Z169 ?_; refine Z23 ?_; refine Z1 ?_; refine z7 (qb L (vs := [_, _]) (qn rfl) rfl rfl rfl rfl ⟨_, rfl⟩) rfl ?_; refine z7 (yt (φ := RsV (zbj S.R) false) L rfl rfl (zk rfl) rfl rfl rfl SlV.mono (fun u H hH hle _ => zgj hzs (by omega) ⟨_, _, _, rfl⟩ hH (hrv1.le hle))) rfl ?_; refine Z10 ?_; refine Z46 ?_; refine Z7 ?_; refine Z165 ?_; refine Z156 ?_; refine Z228 ?_
   refine qg (id := 6) [(47, [43]), (50, [47]), (100012, [50])] mixed (by kernel_rfl) ?_; refine Z362 ?_; refine z8 (zck L rfl rfl rfl (zgu rfl) rfl z4r hlen hpl (by omega) (by omega)) rfl ?_; refine Z3 ?_; refine z8 (yu (cs := [_, _]) rfl rfl z37 rfl rfl) rfl ?_; refine Z111 ?_; refine zar (StepOK2.turn (zbr (q := 43) L rfl rfl rfl (zgv rfl) rfl z4r rfl rfl (by omega) (by omega)) (zys (Nat.succ_ne_zero _))) rfl rfl ?_; refine Z222 ?_; refine zar (zk9 (q := 47) (X := z41 2 (zs.length + 1) _) (fun x => [(0, .slice (some ⟨x.1.1, 0, none⟩) (zs.length + 1) x.1.2.1), (1, .slice p2 S.P.length c2)]) (fun x => [.slice (some ⟨x.1.1, 0, none⟩) (zs.length + 1) x.1.2.1, .slice p2 S.P.length c2]) rfl rfl rfl rfl z1z (fun _ => rfl) (fun _ => by rfl)) rfl rfl ?_; refine z8 (yh L rfl rfl rfl rfl) rfl ?_; refine zar (zk8 L (q := 50) rfl (fun _ => by exact ⟨rfl, rfl⟩) rfl rfl rfl rfl rfl) rfl rfl ?_; refine Z295 ?_
   refine zi8 12 902 rfl fun x => ?_
   obtain ⟨b12, ⟨b47, cap, rest⟩, hcap, _, hfl⟩ := x
   dsimp only at hcap hfl ⊢
   rw [zog]
   refine zge 902 903 rfl (zaz _) ?_
   refine zzd 903 rfl fun H2 hs2 _ hb47 => ?_
   refine qg (id := 7) [(200051, [902]), (200053, [902])] mixed (by kernel_rfl) ?_; refine qv (zam L (q := 902) (vs := [_, _]) rfl rfl rfl rfl rfl rfl ⟨_, rfl⟩) rfl rfl ?_; refine Z30 ?_; refine qv (qu L (q := 902) rfl rfl rfl rfl rfl rfl) rfl rfl ?_; refine z8 (zuq L rfl rfl rfl rfl) rfl ?_; refine z8 (zax rfl rfl rfl zb8.1 zb8.2 (wrap_u64 (by omega) (by omega))) rfl ?_; refine Z109 ?_; refine Z36 ?_; refine Z175 ?_
   refine yf L (rs := [.cell 6 32, .tmp 7, .tmp 8]) rfl (fun _ _ h => h) (hs1.trans hs2) fun u H hH hle => ?_
   have hrow2 : RowOK (zs ++ [(some t1, .slice p4 t1.length c4)]) H2 := fun z hz => by
    rcases List.mem_append.1 hz with hz | hz
    ·exact (hrow1.le hs2.le) z hz
    ·rw [List.mem_singleton.1 hz]; exact htv.le hs2.le
   have hfm : (zs ++ [(some t1, Value.slice p4 t1.length c4)]).flatMap rrc = zs.flatMap rrc ++ [.bool true, .slice p4 t1.length c4] := by rw [List.flatMap_append]; rfl
   have hrv2 : RwV (zs ++ [(some t1, .slice p4 t1.length c4)]) (.slice (some ⟨b47, 0, none⟩) (zs.length + 1) cap) H2 := by
    unfold RwV
    rw [hfm, List.length_append, List.length_singleton]
    exact ⟨by rw [List.length_append, hlen]; simp; omega, .inr ⟨b47, 0, cap, _, _, _, rfl, hb47, (by show (((zs.flatMap rrc ++ ([.bool true, .slice p4 t1.length c4] : List Value)) ++ rest).drop 0).take _ = _; rw [List.drop_zero]; exact List.take_left), hcap, fun h => by cases h⟩⟩
   rw [show S.R.length + 1 = zs.length + 1 by omega]
   exact ⟨_, yl rfl, rfl, z35 ⟨_, _, rfl, ⟨_, by rw [List.map_append, hzs]; rfl, hrow2.le hle, hrv2.le hle⟩, (hpv1.le hs2.le).le hle⟩⟩
 ·rw [if_neg he] at hw
  cases hw
  refine Z169 ?_; refine Z13 ?_; refine Z322 ?_; refine Z165 ?_; refine Z156 ?_; refine Z205 ?_; refine Z37 ?_; refine z7 (qb L (vs := [_, _]) (qn rfl) rfl rfl rfl rfl ⟨_, rfl⟩) rfl ?_; refine Z1 ?_; refine Z16 ?_; refine Z182 ?_
  refine yf L (rs := [.cell 6 32, .tmp 7, .tmp 8]) rfl (fun _ _ h => h) hs1 fun u H hH hle => ?_
  exact ⟨_, yl rfl, rfl, z35 ⟨_, _, rfl, ⟨zs, hzs, hrow1.le hle, hrv1.le hle⟩, hpv1.le hle⟩⟩
abbrev Pn10P (S : Sto) (e : Int) : Value → Heap → Prop := TupS [RsS S, fun v _ => v = .int .i64 e]
theorem Pn10P.mono {S : Sto} {e : Int} : Kn.mono (.sat (Pn10P S e)) := zdq RsS.mono
set_option maxHeartbeats 1000000 in
set_option maxRecDepth 20000 in
theorem zk4 {S S' : Sto} {r e : Int} {un : Bool} (hR : S.R.length ≤ 1000000000) (hr0 : 0 ≤ r) (hr1 : r < 18446744073709551616) (hz : S.P.length ≤ 1000) (hpos : ∀ x ∈ S.P, 0 < x) (hpn : zns S r un = (S', e)) {v : Value} {w : World} {B : Heap} (hB : B.Le (hp w)) (hv : RsS S v B) :
  Ret Tryz.prog 54 [v, .int .u64 r, .bool un] w B (Pn10P S' e) := by
 obtain ⟨rv, pv, rfl, ⟨zs, hzs, hrow, hrv⟩, hpv⟩ := hv
 have hzl : zs.length = S.R.length := by rw [← hzs, List.length_map]
 obtain ⟨p, c, rfl⟩ := zav hrv
 obtain ⟨p2, c2, rfl⟩ := zav hpv
 have hwl : IntKind.u64.wrap ((zs.length : Nat) : Int) = ((zs.length : Nat) : Int) := wrap_u64 (by omega) (by omega)
 unfold zns at hpn
 by_cases hk : (kpt S.R r).isSome = true
 ·rw [if_pos hk] at hpn
  obtain ⟨k0, k1⟩ := zfc hk
  obtain ⟨j, rfl⟩ : ∃ j : Nat, r = ((j + 1 : Nat) : Int) := ⟨(r - 1).toNat, by omega⟩
  have hws : IntKind.u64.wrap (((j + 1 : Nat) : Int) - 1) = ((j : Nat) : Int) := (wrap_u64 (by omega) (by omega)).trans (by omega)
  rw [zfq] at hk
  obtain ⟨o, ho⟩ := zae (show j < S.R.length by omega)
  rw [ho] at hk
  cases o with
  | none => cases hk
  | some t =>
   obtain ⟨v, hv⟩ := zk5 hzs ho
   have hc := zrw hv
   obtain ⟨⟨P1, e1⟩, hu⟩ : ∃ x, zfj S.P ((j + 1 : Nat) : Int) = x := ⟨_, rfl⟩
   refine yi Tryz.func54 rfl Tryz.ntmps54 (Nat.le_of_ble_eq_true rfl) hB ?_
   refine Z350 ?_; refine Z189 ?_; refine Z13 ?_; refine Z138 ?_; refine Z283 ?_; refine z7 (zax rfl rfl rfl zb8.1 zb8.2 (wrap_u64 (by omega) (by omega))) rfl ?_; refine Z296 ?_; refine Z1 ?_; refine Z218 ?_; refine Z227 ?_; refine z7 (qs L _ rfl rfl rfl rfl rfl rfl rfl (by first | omega | decide) (by assumption)) rfl ?_; refine Z358 ?_; refine Z302 ?_; refine Z158 ?_; refine Z28 ?_; refine Z218 ?_; refine Z1 ?_; refine z7 (yt (φ := RP2 (S.P ++ [((j + 1 : Nat) : Int)]) 0) L rfl rfl (zk rfl) rfl rfl rfl zqe (fun u H hH hle _ v1 h1 => zws (by omega) hpos hz hH h1)) rfl ?_; refine zbk 35 rfl fun v1 H1 hs1 hp1 => ?_; obtain ⟨tv, rfl, htv⟩ := zyv hp1; obtain ⟨p4, c4, rfl⟩ := zav htv; refine Z342 ?_
   have hrow1 := hrow.le hs1.le
   have hrv1 := hrv.le hs1.le
   have hpv1 := hpv.le hs1.le
   cases un with
   | false =>
    rw [if_neg (by decide)] at hpn
    cases hpn
    refine Z156 ?_; refine Z165 ?_; refine Z187 ?_; refine Z228 ?_; refine Z56 ?_; refine Z183 ?_; refine Z1 ?_; refine z7 (yu (cs := [_, _]) rfl rfl z1z rfl rfl) rfl ?_; refine Z231 ?_
    refine yf L (rs := [.cell 6 32, .tmp 7]) rfl (fun _ _ h => h) hs1 fun u H hH hle => ?_
    exact ⟨_, yl rfl, rfl, zen ⟨_, _, rfl, ⟨zs, hzs, hrow1.le hle, hrv1.le hle⟩, htv.le hle⟩⟩
   | true =>
    rw [if_pos rfl, hu] at hpn
    dsimp only at hpn
    refine Z156 ?_; refine Z141 ?_; refine Z37 ?_; refine Z218 ?_; refine Z1 ?_; refine z7 (yt (φ := RP2 P1 e1) L rfl rfl (zk rfl) rfl rfl rfl zqe (fun u H hH hle _ v1 h1 => zru hu hz hH h1)) rfl ?_; refine zbk 43 rfl fun v1 H2 hs2 hp2 => ?_; obtain ⟨uv, rfl, huv⟩ := zyv hp2; obtain ⟨p5, c5, rfl⟩ := zav huv; refine Z342 ?_
    have hrow2 := hrow1.le hs2.le
    have hrv2 := hrv1.le hs2.le
    have hpv2 := hpv1.le hs2.le
    by_cases h0 : e1 = 0
    ·subst h0
     rw [if_pos rfl] at hpn
     cases hpn
     refine Z187 ?_; refine Z228 ?_; refine Z56 ?_; refine Z183 ?_; refine Z1 ?_; refine z7 (yu (cs := [_, _]) rfl rfl z1z rfl rfl) rfl ?_; refine Z231 ?_
     refine yf L (rs := [.cell 6 32, .tmp 7]) rfl (fun _ _ h => h) (hs1.trans hs2) fun u H hH hle => ?_
     exact ⟨_, yl rfl, rfl, zen ⟨_, _, rfl, ⟨zs, hzs, hrow2.le hle, hrv2.le hle⟩, huv.le hle⟩⟩
    ·rw [if_neg h0] at hpn
     cases hpn
     refine Z187 ?_; refine Z205 ?_; refine Z40 ?_; refine z7 (qb L (vs := [_, _]) (qn rfl) rfl rfl rfl rfl ⟨_, rfl⟩) rfl ?_; refine Z1 ?_; refine Z231 ?_
     refine yf L (rs := [.cell 6 32, .tmp 7]) rfl (fun _ _ h => h) (hs1.trans hs2) fun u H hH hle => ?_
     exact ⟨_, yl rfl, rfl, zen ⟨_, _, rfl, ⟨zs, hzs, hrow2.le hle, hrv2.le hle⟩, hpv2.le hle⟩⟩
 ·rw [if_neg hk] at hpn
  cases hpn
  by_cases hr : r = 0
  ·refine yi Tryz.func54 rfl Tryz.ntmps54 (Nat.le_of_ble_eq_true rfl) hB ?_
   refine Z350 ?_; refine Z189 ?_; refine Z23 ?_; refine Z281 ?_; refine Z212 ?_; refine Z313 ?_; refine Z212 ?_; refine Z223 ?_; refine z7 (qb L (vs := [_, _]) (qn rfl) rfl rfl rfl rfl ⟨_, rfl⟩) rfl ?_; refine Z231 ?_
   refine yf L (rs := [.cell 6 32, .tmp 7]) rfl (fun _ _ h => h) Since.refl fun u H hH hle => ?_
   exact ⟨_, yl rfl, rfl, zen ⟨_, _, rfl, ⟨zs, hzs, hrow.le hle, hrv.le hle⟩, hpv.le hle⟩⟩
  ·obtain ⟨j, rfl⟩ : ∃ j : Nat, r = ((j + 1 : Nat) : Int) := ⟨(r - 1).toNat, by omega⟩
   have hws : IntKind.u64.wrap (((j + 1 : Nat) : Int) - 1) = ((j : Nat) : Int) := (wrap_u64 (by omega) (by omega)).trans (by omega)
   by_cases hjl : j < S.R.length
   ·rw [zfq] at hk
    obtain ⟨o, ho⟩ := zae hjl
    rw [ho] at hk
    cases o with
    | some t => exact absurd rfl hk
    | none =>
     obtain ⟨v, hv⟩ := zk5 hzs ho
     have hc := zrw hv
     refine yi Tryz.func54 rfl Tryz.ntmps54 (Nat.le_of_ble_eq_true rfl) hB ?_
     refine Z350 ?_; refine Z189 ?_; refine Z13 ?_; refine Z138 ?_; refine Z283 ?_; refine z7 (zax rfl rfl rfl zb8.1 zb8.2 (wrap_u64 (by omega) (by omega))) rfl ?_; refine Z296 ?_; refine Z1 ?_; refine Z218 ?_; refine Z227 ?_; refine z7 (qs L _ rfl rfl rfl rfl rfl rfl rfl (by first | omega | decide) (by assumption)) rfl ?_; refine Z358 ?_; refine Z302 ?_; refine Z223 ?_; refine z7 (qb L (vs := [_, _]) (qn rfl) rfl rfl rfl rfl ⟨_, rfl⟩) rfl ?_; refine Z231 ?_
     refine yf L (rs := [.cell 6 32, .tmp 7]) rfl (fun _ _ h => h) Since.refl fun u H hH hle => ?_
     exact ⟨_, yl rfl, rfl, zen ⟨_, _, rfl, ⟨zs, hzs, hrow.le hle, hrv.le hle⟩, hpv.le hle⟩⟩
   ·refine yi Tryz.func54 rfl Tryz.ntmps54 (Nat.le_of_ble_eq_true rfl) hB ?_
    refine Z350 ?_; refine Z189 ?_; refine Z13 ?_; refine Z138 ?_; refine Z283 ?_; refine z7 (zax rfl rfl rfl zb8.1 zb8.2 (wrap_u64 (by omega) (by omega))) rfl ?_; refine Z38 ?_; refine Z7 ?_; refine Z313 ?_; refine Z212 ?_; refine Z223 ?_; refine z7 (qb L (vs := [_, _]) (qn rfl) rfl rfl rfl rfl ⟨_, rfl⟩) rfl ?_; refine Z231 ?_
    refine yf L (rs := [.cell 6 32, .tmp 7]) rfl (fun _ _ h => h) Since.refl fun u H hH hle => ?_
    exact ⟨_, yl rfl, rfl, zen ⟨_, _, rfl, ⟨zs, hzs, hrow.le hle, hrv.le hle⟩, hpv.le hle⟩⟩
end Go.V.L10
set_option maxRecDepth 20000
namespace Go.V.L10
open Go.Proofs Go.RowKit Go.V Go.V.L2 Go.V.L8 Go.V.L6
theorem zq0 {α : Type} {f : α → List Value} {l : List α} {i : Nat} {x : α} (h : l[i]? = some x) (rest : List Value) : l.flatMap f ++ rest = (l.take i).flatMap f ++ (f x ++ ((l.drop (i + 1)).flatMap f ++ rest)) := by
 have hi := get_lt h
 have e : l = l.take i ++ x :: l.drop (i + 1) := by
  rw [show x :: l.drop (i + 1) = l.drop i by rw [List.drop_eq_getElem_cons hi, zec h], List.take_append_drop]
 conv => lhs; rw [e, List.flatMap_append, List.flatMap_cons]
 simp only [List.append_assoc]
theorem z2y {α : Type} {f : α → List Value} {s : Nat} (hf : ∀ a, (f a).length = s) {l : List α} {i : Nat} {x : α} (h : l[i]? = some x) (y : α) (rest : List Value) : (l.flatMap f ++ rest).take (0 + i * s) ++ (f y ++ (l.flatMap f ++ rest).drop (0 + i * s + s)) = (l.set i y).flatMap f ++ rest := by
 have hi := get_lt h
 have hl : ((l.take i).flatMap f).length = i * s := by rw [zcg hf, List.length_take, Nat.min_eq_left (Nat.le_of_lt hi)]
 have hs : (l.set i y)[i]? = some y := by rw [List.getElem?_set_self hi]
 rw [zq0 h rest, zq0 hs rest, List.take_set_of_le (Nat.le_refl _), List.drop_set_of_lt (Nat.lt_succ_self i)]
 have hx := hf x
 generalize (l.take i).flatMap f = A at hl ⊢
 generalize (l.drop (i + 1)).flatMap f ++ rest = T
 have e1 : (A ++ (f x ++ T)).take (0 + i * s) = A := by rw [Nat.zero_add, ← hl]; exact List.take_left
 have e2 : (A ++ (f x ++ T)).drop (0 + i * s + s) = T := by
  rw [← List.append_assoc, Nat.zero_add, ← hl]
  exact List.drop_left' (by rw [List.length_append, hx])
 rw [e1, e2]
def z0r (zs : List zkv) (g : Int) : List zkv := zs.set (g - 1).toNat (none, .slice none 0 0)
def zh9 (zs : List zkv) (l : List Int) : List zkv := l.foldl z0r zs
theorem zsw {zs : List zkv} {l : List Int} {i : Nat} {g : Int} (h : l[i]? = some g) : zh9 zs (l.take (i + 1)) = z0r (zh9 zs (l.take i)) g := by
 unfold zh9; rw [zcb h, List.foldl_append]; rfl
theorem zxx (zs : List zkv) (g : Int) : (z0r zs g).map (·.1) = clr (zs.map (·.1)) g := by unfold z0r clr; rw [List.map_set]
theorem zkk : ∀ (l : List Int) (zs : List zkv), (zh9 zs l).map (·.1) = clrL (zs.map (·.1)) l
 | [], _ => rfl
 | g :: l, zs => by
  have := zkk l (z0r zs g)
  rw [zxx] at this
  exact this
theorem zvr (l : List Int) (zs : List zkv) : (zh9 zs l).length = zs.length := by
 have := congrArg List.length (zkk l zs)
 rw [List.length_map, zeb, List.length_map] at this
 exact this
theorem RowOK.clr {zs : List zkv} {H : Heap} (h : RowOK zs H) (g : Int) : RowOK (z0r zs g) H := fun z hz => by
 rcases List.mem_or_eq_of_mem_set hz with hz | rfl
 ·exact h z hz
 ·exact SlV.nil
theorem RowOK.clrL : ∀ {l : List Int} {zs : List zkv} {H : Heap}, RowOK zs H → RowOK (zh9 zs l) H
 | [], _, _, h => h
 | g :: l, _, _, h => RowOK.clrL (l := l) (h.clr g)
attribute [local irreducible] V N X VO Par StepOK Has Ret RetL RetO RetT zb3 zdz RetY Src
def Cl10P (S : Sto) (g : List Int) (e : Int) : Value → Heap → Prop := fun v H => ∃ sv gv, v = .tuple #[sv, gv, .int .i64 e] ∧ RsS S sv H ∧ RsV g false gv H
set_option maxHeartbeats 1000000 in
set_option maxRecDepth 20000 in
theorem zks {S : Sto} {keep : Int} (hn : S.R.length ≠ 0) (hR : S.R.length ≤ 100000) (hz : S.P.length ≤ 100000) {v : Value} {w : World} {B : Heap} (hB : B.Le (hp w)) (hv : RsS S v B) :
  Ret Tryz.prog 55 [v, .int .i64 keep] w B (Cl10P (zdf S keep).1 (zdf S keep).2.1 (zdf S keep).2.2) := by
 obtain ⟨rv, pv, rfl, ⟨zs, hzs, hrow, hrv⟩, hpv⟩ := hv
 have hzl : zs.length = S.R.length := by rw [← hzs, List.length_map]
 obtain ⟨p, c, rfl⟩ := zav hrv
 obtain ⟨p2, c2, rfl⟩ := zav hpv
 have hkl := zj9 S.R S.R.length
 by_cases hk1 : keep < 1
 ·have hS : zdf S keep = (S, [], 4) := by unfold zdf; rw [if_neg (by omega)]
  rw [hS]
  refine yi Tryz.func55 rfl Tryz.ntmps55 (Nat.le_of_ble_eq_true rfl) hB ?_
  refine Z155 ?_; refine Z278 ?_; refine Z189 ?_; refine Z8 ?_; refine Z179 ?_; refine Z7 ?_; refine Z223 ?_; refine z7 (qb L (vs := [_, _]) (qn rfl) rfl rfl rfl rfl ⟨_, rfl⟩) rfl ?_; refine Z16 ?_; refine Z182 ?_
  refine yf L (rs := [.cell 4 32, .tmp 5, .tmp 6]) rfl (fun _ _ h => h) Since.refl fun u H hH hle => ?_
  exact ⟨_, yl rfl, rfl, _, _, rfl, ⟨_, _, rfl, ⟨zs, hzs, hrow.le hle, hrv.le hle⟩, hpv.le hle⟩, SlV.nil⟩
 ·by_cases hk2 : 1024 < keep
  ·have hS : zdf S keep = (S, [], 4) := by unfold zdf; rw [if_neg (by omega)]
   rw [hS]
   refine yi Tryz.func55 rfl Tryz.ntmps55 (Nat.le_of_ble_eq_true rfl) hB ?_
   refine Z155 ?_; refine Z278 ?_; refine Z189 ?_; refine Z11 ?_; refine Z138 ?_; refine Z38 ?_; refine Z7 ?_; refine Z223 ?_; refine z7 (qb L (vs := [_, _]) (qn rfl) rfl rfl rfl rfl ⟨_, rfl⟩) rfl ?_; refine Z16 ?_; refine Z182 ?_
   refine yf L (rs := [.cell 4 32, .tmp 5, .tmp 6]) rfl (fun _ _ h => h) Since.refl fun u H hH hle => ?_
   exact ⟨_, yl rfl, rfl, _, _, rfl, ⟨_, _, rfl, ⟨zs, hzs, hrow.le hle, hrv.le hle⟩, hpv.le hle⟩, SlV.nil⟩
  ·obtain ⟨k, rfl⟩ : ∃ k : Nat, keep = (k : Int) := ⟨keep.toNat, by omega⟩
   have hS : zdf S k = (⟨clrL S.R (zdd S.P (zbj S.R) k), S.P⟩, zdd S.P (zbj S.R) k, 0) := by unfold zdf; rw [if_pos (by omega)]; rfl
   rw [hS]
   have hgp : ∀ x ∈ zdd S.P (zbj S.R) k, 0 < x ∧ x ≤ S.R.length := fun x hx => by
    unfold zdd at hx
    exact zfc (zev.1 (List.mem_of_mem_take (List.mem_filter.1 hx).1))
   have hgl : (zdd S.P (zbj S.R) k).length ≤ 100000 := by
    unfold zdd
    refine Nat.le_trans (List.length_filter_le ..) ?_
    rw [List.length_take]
    have : (zbj S.R).length ≤ S.R.length := hkl
    omega
   generalize hg : zdd S.P (zbj S.R) k = g at hgp hgl
   have hlen : (zs.flatMap rrc).length = zs.length * 2 := zcg zhw zs
   have hpl := zqd hrow
   refine yi Tryz.func55 rfl Tryz.ntmps55 (Nat.le_of_ble_eq_true rfl) hB ?_
   refine Z155 ?_; refine Z278 ?_; refine Z189 ?_; refine Z11 ?_; refine Z138 ?_; refine Z296 ?_; refine Z158 ?_
   refine Z87 ?_; refine Z362 ?_; refine z8 (qb L (vs := [_, _]) (qn rfl) rfl rfl rfl rfl ⟨_, rfl⟩) rfl ?_; refine z8 (yt (φ := RsV (zbj S.R) false) L rfl rfl (zk rfl) rfl rfl rfl SlV.mono (fun u H hH hle _ => zgj hzs (by omega) ⟨_, _, _, rfl⟩ hH (hrv.le hle))) rfl ?_; refine Z3 ?_; refine z8 (yt (φ := RsV g false) L rfl rfl (zk rfl) rfl rfl rfl SlV.mono (fun u H hH hle _ v1 h1 v2 h2 => by rw [← hg]; exact ztt hz (Nat.le_trans hkl hR) (by omega) hH h1 h2)) rfl ?_; refine Z90 ?_; refine Z295 ?_
   refine qg (id := 4) [(28, [25]), (100008, [28])] mixed (by kernel_rfl) ?_; refine Z362 ?_; refine z8 (StepOK.turn (zck L rfl rfl rfl (zgu rfl) rfl z4r hlen hpl (by omega) (by omega)) (zys (by omega))) rfl ?_; refine Z222 ?_; refine zar (zk9 (q := 25) (X := z41 2 zs.length _) (fun x => [(0, .slice (some ⟨x.1.1, 0, none⟩) zs.length x.1.2.1), (1, .slice p2 S.P.length c2)]) (fun x => [.slice (some ⟨x.1.1, 0, none⟩) zs.length x.1.2.1, .slice p2 S.P.length c2]) rfl rfl rfl rfl z1z (fun _ => rfl) (fun _ => by rfl)) rfl rfl ?_; refine z8 (yh L rfl rfl rfl rfl) rfl ?_; refine zar (zk8 L (q := 28) rfl (fun _ => by exact ⟨rfl, rfl⟩) rfl rfl rfl rfl rfl) rfl rfl ?_; refine Z147 ?_; refine Z137 ?_
   refine zi8 8 902 rfl fun x => ?_
   obtain ⟨b8, ⟨b25, cap, rest⟩, hcap, _, hfl⟩ := x
   try dsimp only at hcap hfl ⊢
   rw [zog]
   refine zge 902 903 rfl (zaz _) ?_
   refine Z37 ?_; refine Z197 ?_
   refine zai (fun y : Nat => [(4, .own (Cell [.slice none 0 0, .slice none 0 0] z34)), (7, .sat (RsV g false)), (8, .is (.pointer (some ⟨b8, 0, none⟩))), (9, .is (.int .i64 y)), (902, .own (zaj b8 [.slice (some ⟨b25, 0, none⟩) zs.length cap, .slice p2 S.P.length c2] z34)), (903, .own (zaj b25 ((zh9 zs (g.take y)).flatMap rrc ++ rest) z49))])
    (fun y => y ≤ g.length) (fun y => g.length - y) 0 (Nat.zero_le _) ⟨rfl, rfl, rfl, rfl, rfl, rfl, trivial⟩ ?_
   rintro i hi
   try dsimp only at hi ⊢
   have hzc := zvr (g.take i) zs
   by_cases hlt : i < g.length
   ·obtain ⟨x, hx⟩ := zae hlt
    have hc := zl4 hx
    have hxp := hgp x (List.mem_of_getElem? hx)
    obtain ⟨j, rfl⟩ : ∃ j : Nat, x = ((j + 1 : Nat) : Int) := ⟨(x - 1).toNat, by omega⟩
    have hws : IntKind.u64.wrap (((j + 1 : Nat) : Int) - 1) = ((j : Nat) : Int) := (wrap_u64 (by omega) (by omega)).trans (by omega)
    have hwk : IntKind.i64.wrap ((i : Int) + 1) = ((i + 1 : Nat) : Int) := zaa (by omega) (by omega)
    obtain ⟨z0, hz0⟩ := zae (show j < (zh9 zs (g.take i)).length by omega)
    have hst := z2y zhw hz0 (none, .slice none 0 0) rest
    have hble : Nat.ble (0 + j * 2 + 2) ((zh9 zs (g.take i)).flatMap rrc ++ rest).length = true := Nat.ble_eq_true_of_le (by rw [List.length_append, zcg zhw]; omega)
    have hnx : (zh9 zs (g.take i)).set j (none, .slice none 0 0) = zh9 zs (g.take (i + 1)) := by
     rw [zsw hx]; unfold z0r; congr 1; omega
    rw [hnx] at hst
    refine Z137 ?_; refine Z187 ?_; refine Z191 ?_; refine Z232 ?_
    refine qg (id := 8) [(200036, [902]), (100043, [903])] mixed (by kernel_rfl) ?_; refine Z30 ?_; refine qv (qu L (q := 902) rfl rfl rfl rfl rfl rfl) rfl rfl ?_; refine Z178 ?_; refine z8 (qs L _ rfl rfl rfl rfl rfl rfl rfl (by first | omega | decide) (by assumption)) rfl ?_; refine Z130 ?_; refine Z59 ?_; refine z8 (yu (cs := [_, _]) rfl rfl z37 rfl rfl) rfl ?_; refine z8 (qh L _ rfl rfl rfl rfl rfl rfl rfl (by omega)) rfl ?_; refine x5 (yy L (q := 903) rfl rfl rfl rfl rfl rfl hble rfl hst) rfl ?_; refine Z264 ?_; refine Z195 ?_; refine Z213 ?_
    exact yk (x := i) (i + 1) hlt (by omega) ⟨rfl, rfl, rfl, rfl, rfl, rfl, trivial⟩
   ·obtain rfl : i = g.length := by omega
    rw [List.take_length] at hzc ⊢
    refine Z137 ?_; refine Z187 ?_; refine Z265 ?_
    refine zzd 903 rfl fun H2 hs2 _ hb25 => ?_
    refine Z60 ?_; refine yx (zam L (q := 902) (vs := [_, _]) rfl rfl rfl rfl rfl rfl ⟨_, rfl⟩) ?_; refine Z4 ?_; refine Z16 ?_; refine Z51 ?_; refine Z136 ?_
    refine yf L (rs := [.cell 4 32, .tmp 5, .tmp 6]) rfl (fun _ _ h => h) hs2 fun u H hH hle => ?_
    have hrw : RwV (zh9 zs g) (.slice (some ⟨b25, 0, none⟩) zs.length cap) H2 := by
     unfold RwV
     rw [hzc]
     refine ⟨by rw [zcg zhw, hzc], .inr ⟨b25, 0, cap, _, _, _, rfl, hb25, ?_, hcap, fun h => by cases h⟩⟩
     show (((zh9 zs g).flatMap rrc ++ rest).drop 0).take _ = _
     rw [List.drop_zero]
     exact List.take_left
    exact ⟨_, yl rfl, rfl, fun gv hgv => ⟨_, _, rfl, ⟨_, _, rfl, ⟨_, by rw [zkk, hzs], ((hrow.le hs2.le).clrL).le hle, hrw.le hle⟩, (hpv.le hs2.le).le hle⟩, hgv⟩⟩
end Go.V.L10
set_option maxRecDepth 20000
namespace Go.V.L10
open Go.Proofs Go.RowKit Go.V Go.V.L2 Go.V.L8 Go.V.L6
abbrev z1l : TypeId := 34
abbrev z08 : TypeId := 70
def BhG (pb b : Nat) (S : Sto) : GR := GEx (fun x : Value × Value => zab pb [zm0 b, x.1, x.2] z1l) (fun x H => RlV S.R x.1 H ∧ RsV S.P false x.2 H) fun _ _ _ ⟨h1, h2⟩ hle => ⟨h1.le hle, h2.le hle⟩
theorem zv2 (pb b : Nat) (S : Sto) : (BhG pb b S).res = ExR (fun x : Value × Value => zaj pb [zm0 b, x.1, x.2] z1l) (fun x H => RlV S.R x.1 H ∧ RsV S.P false x.2 H) (fun _ _ _ ⟨h1, h2⟩ hle => ⟨h1.le hle, h2.le hle⟩) := rfl
abbrev BoG (pb b : Nat) (S : Sto) : GR := zyk (BhG pb b S) (StG b S)
theorem zv1 (pb b : Nat) (S : Sto) : (BoG pb b S).res = zhq (BhG pb b S).res (StG b S).res := rfl
theorem zor {pb b : Nat} {S : Sto} {lv pv : Value} {B : Heap} (h1 : RlV S.R lv B) (h2 : RsV S.P false pv B) : ∀ (v : Value) H u C, B.Le H → (zaj pb [zm0 b, lv, pv] z1l).P v H u C → (BhG pb b S).res.P v H u C := fun _ _ _ _ hle h => ⟨(lv, pv), ⟨h1.le hle, h2.le hle⟩, h⟩
theorem zi6 {b : Nat} {S : Sto} {lv pv : Value} {cs : List Value} {H : Heap} (h : StP (fun c _ => c = [zm0 b, lv, pv]) (RsS S) 1 2 cs H) : ∃ lv' pv', cs = [zm0 b, lv', pv'] ∧ RlV S.R lv' H ∧ RsV S.P false pv' H := by
 obtain ⟨c, v, rfl, ⟨l2, p2, rfl, h1, h2⟩, rfl⟩ := h
 exact ⟨l2, p2, rfl, h1, h2⟩
theorem zg5 {S : Sto} {v : Value} {H : Heap} (h : RsS S v H) : (zau v).length = 2 ∧ (zau v).all zbo = true := by
 obtain ⟨lv, pv, rfl, ⟨zs, _, _, h1⟩, h2⟩ := h
 obtain ⟨p, c, rfl⟩ := zav h1
 obtain ⟨p2, c2, rfl⟩ := zav h2
 exact ⟨rfl, rfl⟩
def OvV (o : OO) (v : Value) (H : Heap) : Prop := ∃ mv cv, v = .agg #[.int .u8 o.wh, mv, cv, .int .u8 o.rv, .int .i64 o.kp] ∧ PS3 o.ms false mv H ∧ PS3 o.cs false cv H
structure OOK (o : OO) : Prop where
 wh : o.wh ≤ 255
 rv : o.rv ≤ 255
 ms : ∀ c ∈ o.ms, c.1 ≤ 255 ∧ c.2.1 ≤ 255 ∧ c.2.2 ≤ 255
 cs : ∀ c ∈ o.cs, c.1 ≤ 255 ∧ c.2.1 ≤ 255 ∧ c.2.2 ≤ 255
 lm : o.ms.length ≤ 9223372036854775807
 lc : o.cs.length ≤ 9223372036854775807
theorem OOK.rev {o : OO} (h : OOK o) : 0 ≤ o.rev ∧ o.rev < 18446744073709551616 := by
 have := h.rv
 unfold OO.rev
 split <;> omega
attribute [local irreducible] V N X VO Par StepOK Has Ret RetL RetO RetT zb3 zdz RetY Src
theorem rev_ret {o : OO} (ho : OOK o) {mv cv : Value} (hp1 : zbo mv = true) (hp2 : zbo cv = true) {w : World} {B : Heap} (hB : B.Le (hp w)) :
  Ret Tryz.prog 36 [.agg #[.int .u8 o.wh, mv, cv, .int .u8 o.rv, .int .i64 o.kp]] w B (fun v _ => v = .int .u64 o.rev) := by
 have hrv := ho.rv
 unfold OO.rev
 refine yi Tryz.func36 rfl Tryz.ntmps36 (Nat.le_of_ble_eq_true rfl) hB ?_
 by_cases h : o.rv = 255
 ·rw [if_pos h]
  refine Z340 ?_; refine Z183 ?_; refine Z23 ?_; refine Z323 ?_
  refine yf L (rs := [.tmp 2]) rfl (fun _ _ h => h) Since.refl fun u H hH hle => ?_
  rfl
 ·rw [if_neg h]
  have hwu : IntKind.u64.wrap (o.rv : Int) = (o.rv : Int) := wrap_u64 (by omega) (by omega)
  refine Z340 ?_; refine Z183 ?_; refine Z240 ?_; refine Z326 ?_; refine z7 (zax rfl rfl rfl zy4.1 zy4.2 (wrap_u64 (by omega) (by omega))) rfl ?_; refine Z136 ?_
  refine yf L (rs := [.tmp 2]) rfl (fun _ _ h => h) Since.refl fun u H hH hle => ?_
  rfl
end Go.V.L10
