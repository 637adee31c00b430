/- Texts on the way to StoresPlay, part 5: one behind another. -/
import Derived.Test.YtcppaheijljnfaaGreatStoresPlayM4
import Derived.Sort.LotD5
import Derived.Sort.Walk7
import Derived.Sort.WalkA14
import Derived.Sort.Walk13
import Derived.Lib.AppendZerosOnto
import Derived.Lib.Overlaps
import Derived.Laws.Externs
set_option linter.unusedVariables false
set_option linter.unusedSimpArgs false
set_option maxRecDepth 20000
namespace Go.V.So
open Go.Proofs Go.RowKit Go.V Go.Sort
theorem _root_.Go.V.Z116 {A B : Prop} (h : B) (t : Wr B → A := by intro h; refine zf (id := 21) ?_; exact h.h) : A := t ⟨h⟩
theorem _root_.Go.V.Z355 {A B : Prop} (h : B) (t : Wr B → A := by intro h; refine Z97 ?_; refine Z140 ?_; exact h.h) : A := t ⟨h⟩
theorem _root_.Go.V.Z399 {A B : Prop} (h : B) (t : Wr B → A := by intro h; refine Z116 ?_; refine Z1 ?_; exact h.h) : A := t ⟨h⟩
attribute [local irreducible] V N X VO Par StepOK Has Ret RetL RetO zcb zdt Src
theorem zfl {d : Array Int} {e i : Nat} (h : ¬ (i < e ∧ lt d[i]! d[i - 1]! = false)) : scanSorted lt d e i = i := by
 rw [scanSorted, if_neg]
 simpa using h
theorem zl2 {d : Array Int} {e i : Nat} (h1 : i < e) (h2 : lt d[i]! d[i - 1]! = false) : scanSorted lt d e i = scanSorted lt d e (i + 1) := by
 rw [scanSorted, if_pos (by simp [h1, h2])]
set_option maxHeartbeats 2000000 in
set_option maxRecDepth 20000 in
theorem pins_ret {d : Array Int} {rest : List Value} {b m cap a e : Nat} (hab : a < e) (he : e ≤ d.size) (hm : d.size = m) (hm1 : m ≤ 100000) {w : World} {B : Heap} {C : Nat → Prop} (hB : B.Le (hp w))
  (hr : (zab b (uC d ++ rest) tyU).P B w C) (hC : ∀ k, C k → k < w.heap.size ∧ B k = none) :
  zdt Tryz.prog 106 [.slice (some ⟨b, 0, none⟩) m cap, .int .i64 a, .int .i64 e] w B C (zab b (uC (partialInsertionSort lt d a e).1 ++ rest) tyU) (.bool (partialInsertionSort lt d a e).2) := by
 unfold zdt
 refine zas 900 (zab b (uC d ++ rest) tyU) Tryz.func106 rfl Tryz.ntmps106 (Nat.le_of_ble_eq_true rfl) hB hr hC ?_
 rw [za1]
 have hw1 : IntKind.i64.wrap ((a : Int) + 1) = ((a + 1 : Nat) : Int) := zaa (by omega) (by omega)
 have hw2 : IntKind.i64.wrap ((e : Int) - (a : Int)) = ((e - a : Nat) : Int) := zaa (by omega) (by omega) |>.trans (by omega)
 obtain ⟨X, hX⟩ : ∃ X, X = partialInsertionSort lt d a e := ⟨_, rfl⟩
 rw [← hX]
 unfold partialInsertionSort at hX
 refine Z293 ?_; refine Z17 ?_; refine Z147 ?_; refine Z338 ?_
 refine zaj (fun s : (Nat × Nat) × Array Int => [(0, .is (.slice (some ⟨b, 0, none⟩) m cap)), (1, .is (.int .i64 a)), (2, .is (.int .i64 e)), (7, .is (.int .i64 s.1.2)), (8, .is (.int .i64 s.1.1)), (900, .own (zal b (uC s.2 ++ rest) tyU))]) (fun s => s.1.1 ≤ 5 ∧ a + 1 ≤ s.1.2 ∧ s.1.2 ≤ e ∧ s.2.size = m ∧ partialIns lt a e (5 - s.1.1) s.1.2 s.2 = X) (fun s => 5 - s.1.1) ((0, a + 1), d) ⟨by dsimp only; omega, by dsimp only; omega, by dsimp only; omega, hm, hX.symm⟩ ⟨rfl, rfl, rfl, rfl, rfl, rfl, trivial⟩ ?_
 rintro ⟨⟨k, i0⟩, D⟩ ⟨hk, hi1, hi2, hD, hL⟩
 dsimp only at hk hi1 hi2 hD hL ⊢
 clear hX
 by_cases hk5 : k < 5
 ·obtain ⟨s, hs⟩ : ∃ s, 5 - k = s + 1 := ⟨5 - k - 1, by omega⟩
  have hs' : 5 - (k + 1) = s := by omega
  rw [hs, partialIns] at hL
  dsimp only at hL
  refine Z234 ?_; refine Z176 ?_; refine Z170 ?_; refine qh ?_
  refine zhc (zdk (fun i : Nat => [(0, .is (.slice (some ⟨b, 0, none⟩) m cap)), (1, .is (.int .i64 a)), (2, .is (.int .i64 e)), (7, .is (.int .i64 i)), (8, .is (.int .i64 k)), (900, .own (zal b (uC D ++ rest) tyU))]) (fun i => a + 1 ≤ i ∧ i ≤ e ∧ i = scanSorted lt D e i0) (fun _ => []) ?_) ?_
  rotate_left
  ·refine zaj (fun i : Nat => [(0, .is (.slice (some ⟨b, 0, none⟩) m cap)), (1, .is (.int .i64 a)), (2, .is (.int .i64 e)), (7, .is (.int .i64 i)), (8, .is (.int .i64 k)), (900, .own (zal b (uC D ++ rest) tyU))]) (fun i => a + 1 ≤ i ∧ i ≤ e ∧ scanSorted lt D e i = scanSorted lt D e i0) (fun i => e - i) i0 ⟨hi1, hi2, rfl⟩ ⟨rfl, rfl, rfl, rfl, rfl, rfl, trivial⟩ ?_
   rintro i ⟨h1, h2, h3⟩
   by_cases hle : i < e
   ·obtain ⟨_, q1⟩ := zcy (rest := rest) (show i < D.size by omega) (0 + (i) * 1) rfl
    obtain ⟨_, q2⟩ := zcy (rest := rest) (show i - 1 < D.size by omega) (0 + (i - 1) * 1) rfl
    have hw3 : IntKind.i64.wrap ((i : Int) - 1) = ((i - 1 : Nat) : Int) := zaa (by omega) (by omega) |>.trans (by omega)
    cases hc : lt D[i]! D[i - 1]! with
    | false =>
     have hw4 : IntKind.i64.wrap ((i : Int) + 1) = ((i + 1 : Nat) : Int) := zaa (by omega) (by omega)
     refine Z139 ?_; refine qd (id := 5) [(200024, [900]), (200029, [900])] mixed (by kernel_rfl) ?_; refine Z145 ?_; refine Z72 ?_; refine Z179 ?_; refine z8 (qg L _ rfl rfl rfl rfl rfl rfl rfl (by omega)) rfl ?_; refine qn (qp L (q := 900) rfl rfl rfl rfl rfl q1) rfl rfl ?_; refine Z241 ?_; refine z8 (qg L _ rfl rfl rfl rfl rfl rfl rfl (by omega)) rfl ?_; refine qn (qp L (q := 900) rfl rfl rfl rfl rfl q2) rfl rfl ?_; refine z8 (zp L rfl rfl (zk rfl) rfl rfl rfl (fun u H hH _ _ => zbc hc hH)) rfl ?_; refine Z64 ?_; refine Z264 ?_; refine Z142 ?_; refine qh ?_; refine Z190 ?_; refine Z209 ?_; refine ya ?_
     exact yh (x := i) (i + 1) ⟨by omega, by omega, by rw [← h3]; exact (zl2 hle hc).symm⟩ (by omega) ⟨rfl, rfl, rfl, rfl, rfl, rfl, trivial⟩
    | true =>
     refine Z139 ?_; refine qd (id := 5) [(200024, [900]), (200029, [900])] mixed (by kernel_rfl) ?_; refine Z145 ?_; refine Z72 ?_; refine Z179 ?_; refine z8 (qg L _ rfl rfl rfl rfl rfl rfl rfl (by omega)) rfl ?_; refine qn (qp L (q := 900) rfl rfl rfl rfl rfl q1) rfl rfl ?_; refine Z241 ?_; refine z8 (qg L _ rfl rfl rfl rfl rfl rfl rfl (by omega)) rfl ?_; refine qn (qp L (q := 900) rfl rfl rfl rfl rfl q2) rfl rfl ?_; refine z8 (zp L rfl rfl (zk rfl) rfl rfl rfl (fun u H hH _ _ => zbc hc hH)) rfl ?_; refine Z64 ?_; refine Z267 ?_
     exact za5 i Since.refl ⟨h1, h2, by rw [← h3]; exact (zfl (by rintro ⟨_, h⟩; simp [hc] at h)).symm⟩ rfl ⟨rfl, rfl, rfl, rfl, rfl, rfl, trivial⟩
   ·refine Z139 ?_; refine Z124 ?_; refine Z145 ?_; refine Z86 ?_; refine Z295 ?_; refine Z6 ?_; refine Z267 ?_
    exact za5 i Since.refl ⟨h1, h2, by rw [← h3]; exact (zfl (by rintro ⟨h, _⟩; exact hle h)).symm⟩ rfl ⟨rfl, rfl, rfl, rfl, rfl, rfl, trivial⟩
  ·rintro i ⟨h1, h2, h3⟩
   rw [← h3] at hL
   by_cases hie : i = e
   ·rw [if_pos hie] at hL
    subst hie
    rw [← hL]
    refine Z139 ?_; refine Z325 ?_; refine Z294 ?_; refine Z389 ?_
    exact zfw L 900 (r := zab b _ tyU) (rs := [.tmp 6]) rfl (fun _ _ h => h) Since.refl rfl rfl (fun _ => rfl)
   ·rw [if_neg hie] at hL
    by_cases h50 : e - a < 50
    ·rw [if_pos h50] at hL
     rw [← hL]
     refine Z139 ?_; refine Z325 ?_; refine Z274 ?_; refine Z59 ?_; refine Z208 ?_; refine Z7 ?_; refine Z155 ?_; refine Z68 ?_; refine Z138 ?_
     exact zfw L 900 (r := zab b _ tyU) (rs := [.tmp 6]) rfl (fun _ _ h => h) Since.refl rfl rfl (fun _ => rfl)
    ·rw [if_neg h50] at hL
     have hw3 : IntKind.i64.wrap ((i : Int) - 1) = ((i - 1 : Nat) : Int) := zaa (by omega) (by omega) |>.trans (by omega)
     have hw4 : IntKind.i64.wrap ((i : Int) - (a : Int)) = ((i - a : Nat) : Int) := zaa (by omega) (by omega) |>.trans (by omega)
     have hw5 : IntKind.i64.wrap ((e : Int) - (i : Int)) = ((e - i : Nat) : Int) := zaa (by omega) (by omega) |>.trans (by omega)
     have hw6 : IntKind.i64.wrap ((i : Int) + 1) = ((i + 1 : Nat) : Int) := zaa (by omega) (by omega)
     have hw7 : IntKind.i64.wrap ((k : Int) + 1) = ((k + 1 : Nat) : Int) := zaa (by omega) (by omega)
     have hDs := zbm D i (i - 1)
     obtain ⟨_, qj⟩ := zcy (rest := rest) (show i - 1 < D.size by omega) (0 + (i - 1) * 1) rfl
     obtain ⟨_, qi⟩ := zcy (rest := rest) (show i < D.size by omega) (0 + (i) * 1) rfl
     have s1 := zb9 (rest := rest) D[i - 1]! (show i < D.size by omega) (0 + (i) * 1) rfl
     have b1 := zca (rest := rest) (show i < D.size by omega) (0 + (i) * 1) rfl
     have hz : i - 1 < (D.setIfInBounds (i) D[i - 1]!).size := by rw [Array.size_setIfInBounds]; omega
     have s2 := zb9 (rest := rest) D[i]! hz (0 + (i - 1) * 1) rfl
     have b2 := zca (rest := rest) hz (0 + (i - 1) * 1) rfl
     rw [zc5] at s2
     refine Z139 ?_; refine Z325 ?_; refine Z274 ?_; refine Z59 ?_; refine Z208 ?_; refine Z10 ?_; refine Z158 ?_; refine qd (id := 11) [(200051, [900]), (200055, [900]), (100056, [900]), (100057, [900])] mixed (by kernel_rfl) ?_; refine Z145 ?_; refine Z241 ?_; refine Z241 ?_; refine z8 (qg L _ rfl rfl rfl rfl rfl rfl rfl (by omega)) rfl ?_; refine qn (qp L (q := 900) rfl rfl rfl rfl rfl qj) rfl rfl ?_; refine Z145 ?_; refine z8 (qg L _ rfl rfl rfl rfl rfl rfl rfl (by omega)) rfl ?_; refine qn (qp L (q := 900) rfl rfl rfl rfl rfl qi) rfl rfl ?_; refine z8 (qg L _ rfl rfl rfl rfl rfl rfl rfl (by omega)) rfl ?_; refine yy (yw L (q := 900) rfl rfl rfl rfl rfl rfl b1 rfl s1) rfl ?_; refine z8 (qg L _ rfl rfl rfl rfl rfl rfl rfl (by omega)) rfl ?_; refine yy (yw L (q := 900) rfl rfl rfl rfl rfl rfl b2 rfl s2) rfl ?_; refine Z149 ?_; refine Z139 ?_
     generalize swp D i (i - 1) = D1 at *
     obtain ⟨D2, hD2⟩ : ∃ D2, D2 = (if i - a ≥ 2 then shiftDown lt (i - 1) D1 else D1) := ⟨_, rfl⟩
     rw [← hD2] at hL
     refine ze8 (fun E : Array Int => [(0, .is (.slice (some ⟨b, 0, none⟩) m cap)), (1, .is (.int .i64 a)), (2, .is (.int .i64 e)), (7, .is (.int .i64 i)), (8, .is (.int .i64 k)), (900, .own (zal b (uC E ++ rest) tyU))]) (fun E => E.size = m ∧ E = D2) (fun _ => []) ?_ ?_
     rotate_left
     ·by_cases h2a : i - a ≥ 2
      ·rw [if_pos h2a] at hD2
       refine Z79 ?_; refine Z208 ?_; refine Z42 ?_; refine Z155 ?_; refine Z84 ?_; refine Z228 ?_; refine Z196 ?_
       refine zaj (fun t : Nat × Array Int => [(0, .is (.slice (some ⟨b, 0, none⟩) m cap)), (1, .is (.int .i64 a)), (2, .is (.int .i64 e)), (7, .is (.int .i64 i)), (8, .is (.int .i64 k)), (9, .is (.int .i64 t.1)), (900, .own (zal b (uC t.2 ++ rest) tyU))]) (fun t => t.1 ≤ i - 1 ∧ t.2.size = m ∧ shiftDown lt t.1 t.2 = D2) (fun t => t.1) (i - 1, D1) ⟨Nat.le_refl _, by dsimp only; omega, hD2.symm⟩ ⟨rfl, rfl, rfl, rfl, rfl, rfl, rfl, trivial⟩ ?_
       rintro ⟨j, E⟩ ⟨hj, hE, hS⟩
       dsimp only at hj hE hS ⊢
       clear hD2
       rcases j with _ | j
       ·rw [shiftDown] at hS
        refine Z139 ?_; refine Z265 ?_; refine Z46 ?_; refine Z172 ?_
        exact za5 E Since.refl ⟨hE, hS⟩ rfl ⟨rfl, rfl, rfl, rfl, rfl, rfl, trivial⟩
       ·rw [shiftDown] at hS
        have hw8 : IntKind.i64.wrap (((j + 1 : Nat) : Int) - 1) = (j : Int) := zaa (by omega) (by omega) |>.trans (by omega)
        obtain ⟨_, q1⟩ := zcy (rest := rest) (show j + 1 < E.size by omega) (0 + (j + 1) * 1) rfl
        obtain ⟨_, q2⟩ := zcy (rest := rest) (show j < E.size by omega) (0 + (j) * 1) rfl
        cases hc : lt E[j + 1]! E[j]! with
        | false =>
         rw [if_pos (by rw [hc]; rfl)] at hS
         refine Z139 ?_; refine Z265 ?_; refine Z255 ?_; refine Z308 ?_; refine qd (id := 16) [(200071, [900]), (200076, [900])] mixed (by kernel_rfl) ?_; refine Z145 ?_; refine z8 (qg L _ rfl rfl rfl rfl rfl rfl rfl (by omega)) rfl ?_; refine qn (qp L (q := 900) rfl rfl rfl rfl rfl q1) rfl rfl ?_; refine Z241 ?_; refine z8 (qg L _ rfl rfl rfl rfl rfl rfl rfl (by omega)) rfl ?_; refine qn (qp L (q := 900) rfl rfl rfl rfl rfl q2) rfl rfl ?_; refine z8 (zp L rfl rfl (zk rfl) rfl rfl rfl (fun u H hH _ _ => zbc hc hH)) rfl ?_; refine Z64 ?_; refine Z213 ?_; refine Z162 ?_; refine zko rfl ?_; refine y7 ?_; refine y7 ?_; refine yt ?_
         exact za5 E Since.refl ⟨hE, hS⟩ rfl ⟨rfl, rfl, rfl, rfl, rfl, rfl, trivial⟩
        | true =>
         rw [if_neg (by rw [hc]; simp)] at hS
         obtain ⟨_, qj⟩ := zcy (rest := rest) (show j < E.size by omega) (0 + (j) * 1) rfl
         obtain ⟨_, qi⟩ := zcy (rest := rest) (show j + 1 < E.size by omega) (0 + (j + 1) * 1) rfl
         have s1 := zb9 (rest := rest) E[j]! (show j + 1 < E.size by omega) (0 + (j + 1) * 1) rfl
         have b1 := zca (rest := rest) (show j + 1 < E.size by omega) (0 + (j + 1) * 1) rfl
         have hz : j < (E.setIfInBounds (j + 1) E[j]!).size := by rw [Array.size_setIfInBounds]; omega
         have s2 := zb9 (rest := rest) E[j + 1]! hz (0 + (j) * 1) rfl
         have b2 := zca (rest := rest) hz (0 + (j) * 1) rfl
         rw [zc5] at s2
         refine Z139 ?_; refine Z265 ?_; refine Z255 ?_; refine Z308 ?_; refine qd (id := 16) [(200071, [900]), (200076, [900])] mixed (by kernel_rfl) ?_; refine Z145 ?_; refine z8 (qg L _ rfl rfl rfl rfl rfl rfl rfl (by omega)) rfl ?_; refine qn (qp L (q := 900) rfl rfl rfl rfl rfl q1) rfl rfl ?_; refine Z241 ?_; refine z8 (qg L _ rfl rfl rfl rfl rfl rfl rfl (by omega)) rfl ?_; refine qn (qp L (q := 900) rfl rfl rfl rfl rfl q2) rfl rfl ?_; refine z8 (zp L rfl rfl (zk rfl) rfl rfl rfl (fun u H hH _ _ => zbc hc hH)) rfl ?_; refine Z64 ?_; refine Z182 ?_; refine Z142 ?_; refine qd (id := 17) [(200088, [900]), (200092, [900]), (100093, [900]), (100094, [900])] mixed (by kernel_rfl) ?_; refine Z145 ?_; refine Z241 ?_; refine Z241 ?_; refine z8 (qg L _ rfl rfl rfl rfl rfl rfl rfl (by omega)) rfl ?_; refine qn (qp L (q := 900) rfl rfl rfl rfl rfl qj) rfl rfl ?_; refine Z145 ?_; refine z8 (qg L _ rfl rfl rfl rfl rfl rfl rfl (by omega)) rfl ?_; refine qn (qp L (q := 900) rfl rfl rfl rfl rfl qi) rfl rfl ?_; refine z8 (qg L _ rfl rfl rfl rfl rfl rfl rfl (by omega)) rfl ?_; refine yy (yw L (q := 900) rfl rfl rfl rfl rfl rfl b1 rfl s1) rfl ?_; refine z8 (qg L _ rfl rfl rfl rfl rfl rfl rfl (by omega)) rfl ?_; refine yy (yw L (q := 900) rfl rfl rfl rfl rfl rfl b2 rfl s2) rfl ?_; refine Z275 ?_; refine Z92 ?_; refine Z228 ?_; refine Z152 ?_
         exact yh (x := (j + 1, E)) (j, swp E (j + 1) j) ⟨by dsimp only; omega, by dsimp only; rw [zbm]; exact hE, hS⟩ (by dsimp only; omega) ⟨rfl, rfl, rfl, rfl, rfl, rfl, rfl, trivial⟩
      ·rw [if_neg h2a] at hD2
       refine Z79 ?_; refine Z208 ?_; refine Z46 ?_; refine Z192 ?_
       exact za5 D1 Since.refl ⟨by omega, hD2.symm⟩ rfl ⟨rfl, rfl, rfl, rfl, rfl, rfl, trivial⟩
     ·rintro G ⟨hG, hGe⟩
      rw [← hGe] at hL
      clear hD2 hGe
      by_cases h2b : e - i ≥ 2
      ·rw [if_pos h2b] at hL
       obtain ⟨D3, hD3⟩ : ∃ D3, D3 = shiftUp lt e (i + 1) G := ⟨_, rfl⟩
       rw [← hD3] at hL
       refine zh ?_; refine Z103 ?_; refine Z208 ?_; refine Z42 ?_; refine Z155 ?_; refine Z119 ?_; refine Z1 ?_; refine Z17 ?_; refine Z196 ?_
       ·refine zaj (fun t : Nat × Array Int => [(0, .is (.slice (some ⟨b, 0, none⟩) m cap)), (1, .is (.int .i64 a)), (2, .is (.int .i64 e)), (7, .is (.int .i64 i)), (8, .is (.int .i64 k)), (10, .is (.int .i64 t.1)), (900, .own (zal b (uC t.2 ++ rest) tyU))]) (fun t => i + 1 ≤ t.1 ∧ t.1 ≤ e ∧ t.2.size = m ∧ shiftUp lt e t.1 t.2 = D3) (fun t => e - t.1) (i + 1, G) ⟨Nat.le_refl _, by dsimp only; omega, hG, hD3.symm⟩ ⟨rfl, rfl, rfl, rfl, rfl, rfl, rfl, trivial⟩ ?_
        rintro ⟨j, E⟩ ⟨hj1, hj2, hE, hS⟩
        dsimp only at hj1 hj2 hE hS ⊢
        clear hD3
        rw [shiftUp] at hS
        by_cases hje : j < e
        ·rw [if_pos hje] at hS
         have hw8 : IntKind.i64.wrap ((j : Int) - 1) = ((j - 1 : Nat) : Int) := zaa (by omega) (by omega) |>.trans (by omega)
         have hw9 : IntKind.i64.wrap ((j : Int) + 1) = ((j + 1 : Nat) : Int) := zaa (by omega) (by omega)
         obtain ⟨_, q1⟩ := zcy (rest := rest) (show j < E.size by omega) (0 + (j) * 1) rfl
         obtain ⟨_, q2⟩ := zcy (rest := rest) (show j - 1 < E.size by omega) (0 + (j - 1) * 1) rfl
         cases hc : lt E[j]! E[j - 1]! with
         | false =>
          rw [if_pos (by rw [hc]; rfl)] at hS
          refine Z139 ?_; refine Z355 ?_; refine Z176 ?_; refine Z308 ?_; refine qd (id := 22) [(200109, [900]), (200114, [900])] mixed (by kernel_rfl) ?_; refine Z145 ?_; refine z8 (qg L _ rfl rfl rfl rfl rfl rfl rfl (by omega)) rfl ?_; refine qn (qp L (q := 900) rfl rfl rfl rfl rfl q1) rfl rfl ?_; refine Z241 ?_; refine z8 (qg L _ rfl rfl rfl rfl rfl rfl rfl (by omega)) rfl ?_; refine qn (qp L (q := 900) rfl rfl rfl rfl rfl q2) rfl rfl ?_; refine z8 (zp L rfl rfl (zk rfl) rfl rfl rfl (fun u H hH _ _ => zbc hc hH)) rfl ?_; refine Z64 ?_; refine Z213 ?_; refine Z162 ?_; refine zko rfl ?_; refine y7 ?_; refine y7 ?_; refine yt ?_; refine Z166 ?_; refine Z312 ?_
          exact yh (x := ((k, i0), D)) ((k + 1, i), E) ⟨by dsimp only; omega, by dsimp only; omega, by dsimp only; omega, hE, by dsimp only; rw [hs', hS]; exact hL⟩ (by dsimp only; omega) ⟨rfl, rfl, rfl, rfl, rfl, rfl, trivial⟩
         | true =>
          rw [if_neg (by rw [hc]; simp)] at hS
          obtain ⟨_, qj⟩ := zcy (rest := rest) (show j - 1 < E.size by omega) (0 + (j - 1) * 1) rfl
          obtain ⟨_, qi⟩ := zcy (rest := rest) (show j < E.size by omega) (0 + (j) * 1) rfl
          have s1 := zb9 (rest := rest) E[j - 1]! (show j < E.size by omega) (0 + (j) * 1) rfl
          have b1 := zca (rest := rest) (show j < E.size by omega) (0 + (j) * 1) rfl
          have hz : j - 1 < (E.setIfInBounds (j) E[j - 1]!).size := by rw [Array.size_setIfInBounds]; omega
          have s2 := zb9 (rest := rest) E[j]! hz (0 + (j - 1) * 1) rfl
          have b2 := zca (rest := rest) hz (0 + (j - 1) * 1) rfl
          rw [zc5] at s2
          refine Z139 ?_; refine Z355 ?_; refine Z176 ?_; refine Z308 ?_; refine qd (id := 22) [(200109, [900]), (200114, [900])] mixed (by kernel_rfl) ?_; refine Z145 ?_; refine z8 (qg L _ rfl rfl rfl rfl rfl rfl rfl (by omega)) rfl ?_; refine qn (qp L (q := 900) rfl rfl rfl rfl rfl q1) rfl rfl ?_; refine Z241 ?_; refine z8 (qg L _ rfl rfl rfl rfl rfl rfl rfl (by omega)) rfl ?_; refine qn (qp L (q := 900) rfl rfl rfl rfl rfl q2) rfl rfl ?_; refine z8 (zp L rfl rfl (zk rfl) rfl rfl rfl (fun u H hH _ _ => zbc hc hH)) rfl ?_; refine Z64 ?_; refine Z182 ?_; refine Z142 ?_; refine qd (id := 23) [(200126, [900]), (200130, [900]), (100131, [900]), (100132, [900])] mixed (by kernel_rfl) ?_; refine Z145 ?_; refine Z241 ?_; refine Z241 ?_; refine z8 (qg L _ rfl rfl rfl rfl rfl rfl rfl (by omega)) rfl ?_; refine qn (qp L (q := 900) rfl rfl rfl rfl rfl qj) rfl rfl ?_; refine Z145 ?_; refine z8 (qg L _ rfl rfl rfl rfl rfl rfl rfl (by omega)) rfl ?_; refine qn (qp L (q := 900) rfl rfl rfl rfl rfl qi) rfl rfl ?_; refine z8 (qg L _ rfl rfl rfl rfl rfl rfl rfl (by omega)) rfl ?_; refine yy (yw L (q := 900) rfl rfl rfl rfl rfl rfl b1 rfl s1) rfl ?_; refine z8 (qg L _ rfl rfl rfl rfl rfl rfl rfl (by omega)) rfl ?_; refine yy (yw L (q := 900) rfl rfl rfl rfl rfl rfl b2 rfl s2) rfl ?_; refine Z275 ?_; refine Z399 ?_; refine Z209 ?_
          exact yh (x := (j, E)) (j + 1, swp E j (j - 1)) ⟨by dsimp only; omega, by dsimp only; omega, by dsimp only; rw [zbm]; exact hE, hS⟩ (by dsimp only; omega) ⟨rfl, rfl, rfl, rfl, rfl, rfl, rfl, trivial⟩
        ·rw [if_neg hje] at hS
         refine Z139 ?_; refine Z97 ?_; refine Z266 ?_; refine Z172 ?_; refine Z166 ?_; refine Z312 ?_
         exact yh (x := ((k, i0), D)) ((k + 1, i), E) ⟨by dsimp only; omega, by dsimp only; omega, by dsimp only; omega, hE, by dsimp only; rw [hs', hS]; exact hL⟩ (by dsimp only; omega) ⟨rfl, rfl, rfl, rfl, rfl, rfl, trivial⟩
      ·rw [if_neg h2b] at hL
       refine zh ?_; refine Z103 ?_; refine Z208 ?_; refine Z46 ?_; refine Z215 ?_; refine Z312 ?_
       exact yh (x := ((k, i0), D)) ((k + 1, i), G) ⟨by dsimp only; omega, by dsimp only; omega, by dsimp only; omega, hG, by dsimp only; rw [hs']; exact hL⟩ (by dsimp only; omega) ⟨rfl, rfl, rfl, rfl, rfl, rfl, trivial⟩
 ·obtain rfl : k = 5 := by omega
  have hL' : (D, false) = X := hL
  rw [← hL']
  refine Z234 ?_; refine Z247 ?_; refine zf (id := 24) ?_; refine Z138 ?_
  exact zfw L 900 (r := zab b _ tyU) (rs := [.tmp 6]) rfl (fun _ _ h => h) Since.refl rfl rfl (fun _ => rfl)
end Go.V.So
set_option maxRecDepth 20000
namespace Go.V.So
open Go.Proofs Go.RowKit Go.V Go.Sort
theorem _root_.Go.V.Z60 {A B : Prop} (h : B) (t : Wr B → A := by intro h; refine qn (qp L (q := 900) rfl rfl rfl rfl rfl rfl) rfl rfl ?_; exact h.h) : A := t ⟨h⟩
theorem _root_.Go.V.Z65 {A B : Prop} (h : B) (t : Wr B → A := by intro h; refine yq (qp L (q := 900) rfl rfl rfl rfl rfl rfl) ?_; exact h.h) : A := t ⟨h⟩
theorem _root_.Go.V.Z384 {A B : Prop} (h : B) (t : Wr B → A := by intro h; refine Z34 ?_; refine yy (yw L (q := 900) rfl rfl rfl rfl rfl rfl rfl rfl rfl) rfl ?_; exact h.h) : A := t ⟨h⟩
abbrev tyX : TypeId := 233
attribute [local irreducible] V N X VO Par StepOK Has Ret RetL RetO zcb zdt Src
set_option maxRecDepth 20000 in
theorem zqf {x b : Nat} (hx : x < 18446744073709551616) {w : World} {B : Heap} {C : Nat → Prop} (hB : B.Le (hp w))
  (hr : (zab b [.int .u64 x] tyX).P B w C) (hC : ∀ k, C k → k < w.heap.size ∧ B k = none) :
  zdt Tryz.prog 150 [.pointer (some ⟨b, 0, none⟩)] w B C (zab b [.int .u64 (xorNextN x : Nat)] tyX) (.int .u64 (xorNextN x : Nat)) := by
 obtain ⟨X1, h1⟩ : ∃ X1 : Nat, X1 = x ^^^ (x * 8192 % 18446744073709551616) := ⟨_, rfl⟩
 obtain ⟨X2, h2⟩ : ∃ X2 : Nat, X2 = X1 ^^^ (X1 / 128) := ⟨_, rfl⟩
 obtain ⟨X3, h3⟩ : ∃ X3 : Nat, X3 = X2 ^^^ (X2 * 131072 % 18446744073709551616) := ⟨_, rfl⟩
 have l1 : X1 < 18446744073709551616 := by rw [h1]; exact Nat.xor_lt_two_pow (n := 64) (by omega) (by omega)
 have l2 : X2 < 18446744073709551616 := by rw [h2]; exact Nat.xor_lt_two_pow (n := 64) (by omega) (by omega)
 have l3 : X3 < 18446744073709551616 := by rw [h3]; exact Nat.xor_lt_two_pow (n := 64) (by omega) (by omega)
 have hv : xorNextN x = X3 := by unfold xorNextN; simp only []; rw [← h1, ← h2, ← h3]
 have s1 : IntKind.u64.wrap ((x : Int) * 2 ^ min (13 : Int).toNat IntKind.u64.bits) = ((x * 8192 % 18446744073709551616 : Nat) : Int) := by
  rw [IntKind.wrap_u64, show ((2 : Int) ^ min (13 : Int).toNat IntKind.u64.bits) = 8192 from by decide]; omega
 have s2 : (X1 : Int).fdiv (2 ^ min (7 : Int).toNat IntKind.u64.bits) = ((X1 / 128 : Nat) : Int) := by
  rw [show ((2 : Int) ^ min (7 : Int).toNat IntKind.u64.bits) = 128 from by decide, Int.fdiv_eq_ediv_of_nonneg _ (by omega)]; omega
 have s3 : IntKind.u64.wrap ((X2 : Int) * 2 ^ min (17 : Int).toNat IntKind.u64.bits) = ((X2 * 131072 % 18446744073709551616 : Nat) : Int) := by
  rw [IntKind.wrap_u64, show ((2 : Int) ^ min (17 : Int).toNat IntKind.u64.bits) = 131072 from by decide]; omega
 have x1 : bits .xor .u64 (x : Int) ((x * 8192 % 18446744073709551616 : Nat) : Int) = (X1 : Int) := by rw [bits_xor_u64_nat _ _ hx (by omega), h1]
 have x2 : bits .xor .u64 (X1 : Int) ((X1 / 128 : Nat) : Int) = (X2 : Int) := by rw [bits_xor_u64_nat _ _ l1 (by omega), h2]
 have x3 : bits .xor .u64 (X2 : Int) ((X2 * 131072 % 18446744073709551616 : Nat) : Int) = (X3 : Int) := by rw [bits_xor_u64_nat _ _ l2 (by omega), h3]
 rw [hv]
 clear hv h1 h2 h3
 unfold zdt
 refine zas 900 (zab b [.int .u64 x] tyX) Tryz.func150 rfl Tryz.ntmps150 (Nat.le_of_ble_eq_true rfl) hB hr hC ?_
 rw [za1]
 refine Z146 ?_; refine Z144 ?_; refine qd (id := 1) [(200005, [900]), (200008, [900]), (100011, [900])] mixed (by kernel_rfl) ?_; refine Z3 ?_; refine Z34 ?_; refine Z60 ?_; refine Z3 ?_; refine Z34 ?_; refine Z60 ?_; refine z8 (zt4 rfl rfl rfl rfl (by decide) s1) rfl ?_; refine z8 (zt2 rfl rfl rfl rfl x1) rfl ?_; refine Z384 ?_; refine Z290 ?_; refine qd (id := 2) [(200014, [900]), (200017, [900]), (100020, [900])] mixed (by kernel_rfl) ?_; refine Z3 ?_; refine Z34 ?_; refine Z60 ?_; refine Z3 ?_; refine Z34 ?_; refine Z60 ?_; refine z8 (zyq rfl rfl rfl rfl (by decide) s2) rfl ?_; refine z8 (zt2 rfl rfl rfl rfl x2) rfl ?_; refine Z384 ?_; refine Z290 ?_; refine qd (id := 3) [(200023, [900]), (200026, [900]), (100029, [900])] mixed (by kernel_rfl) ?_; refine Z3 ?_; refine Z34 ?_; refine Z60 ?_; refine Z3 ?_; refine Z34 ?_; refine Z60 ?_; refine z8 (zt4 rfl rfl rfl rfl (by decide) s3) rfl ?_; refine z8 (zt2 rfl rfl rfl rfl x3) rfl ?_; refine Z384 ?_; refine Z290 ?_; refine Z161 ?_; refine Z61 ?_; refine Z65 ?_; refine Z138 ?_
 exact zfw L 900 (r := zab b _ tyX) (rs := [.tmp 2]) rfl (fun _ _ h => h) Since.refl rfl rfl (fun _ => rfl)
end Go.V.So
set_option maxRecDepth 20000
namespace Go.V.So
open Go.Proofs Go.RowKit Go.V Go.Sort
theorem _root_.Go.V.Z253 {A B : Prop} (h : B) (t : Wr B → A := by intro h; refine Z50 ?_; refine Z222 ?_; exact h.h) : A := t ⟨h⟩
theorem _root_.Go.V.Z328 {A B : Prop} (h : B) (t : Wr B → A := by intro h; refine Z30 ?_; refine Z140 ?_; exact h.h) : A := t ⟨h⟩
attribute [local irreducible] V N X VO Par StepOK Has Ret RetL RetO zcb zdt Src
set_option maxRecDepth 20000 in
theorem zkm {n : Nat} (hn : n < 18446744073709551616) {w : World} {B : Heap} (hB : B.Le (hp w)) : Ret Tryz.prog 73 [.int .u64 n] w B (fun v _ => v = .int .i64 (bitsLen n)) := by
 refine yf Tryz.func73 rfl Tryz.ntmps73 (Nat.le_of_ble_eq_true rfl) hB ?_
 refine Z146 ?_; refine Z144 ?_; refine Z9 ?_; refine Z148 ?_; refine Z175 ?_; refine z7 (zp L rfl rfl (zk rfl) rfl rfl rfl (fun u H hH _ _ => Ret.of_same hH (Tryz.bits_Len64 (n : Int) u (by omega) (by omega)))) rfl ?_; refine Z138 ?_
 refine yd L (rs := [.tmp 2]) rfl (fun _ _ h => h) Since.refl fun u H hH hle => ?_
 rw [Int.toNat_natCast, bitLen_eq n hn]
 rfl
theorem zwy {n : Nat} (hn : n ≤ 100000) {w : World} {B : Heap} (hB : B.Le (hp w)) : Ret Tryz.prog 149 [.int .i64 n] w B (fun v _ => v = .int .u64 (1 <<< bitsLen n : Nat)) := by
 have hb : bitsLen n ≤ 17 := (bitsLen_le_iff n 17).2 (by omega)
 have hp2 : (2 : Nat) ^ bitsLen n ≤ 2 ^ 17 := Nat.pow_le_pow_right (by omega) hb
 have hmin : min ((bitsLen n : Nat) : Int).toNat IntKind.u64.bits = bitsLen n := by
  rw [Int.toNat_natCast]
  have : IntKind.u64.bits = 64 := by decide
  omega
 have s1 : IntKind.u64.wrap ((1 : Int) * 2 ^ min ((bitsLen n : Nat) : Int).toNat IntKind.u64.bits) = ((1 <<< bitsLen n : Nat) : Int) := by
  rw [hmin, Nat.shiftLeft_eq, Nat.one_mul, Int.one_mul, Int.natCast_pow]
  have e2 : ((2 : Nat) : Int) ^ bitsLen n = ((2 ^ bitsLen n : Nat) : Int) := (Int.natCast_pow 2 _).symm
  rw [show ((2 : Int) ^ bitsLen n) = ((2 : Nat) : Int) ^ bitsLen n from rfl, e2]
  have hp3 : 2 ^ bitsLen n ≤ 131072 := hp2
  clear hp2 hmin e2
  generalize 2 ^ bitsLen n = M at *
  exact wrap_u64 (by omega) (by omega)
 have hc : IntKind.u64.wrap (n : Int) = (n : Int) := wrap_u64 (by omega) (by omega)
 refine yf Tryz.func149 rfl Tryz.ntmps149 (Nat.le_of_ble_eq_true rfl) hB ?_
 refine Z293 ?_; refine z7 (zau rfl rfl rfl zbn.1 zbn.2 (wrap_u64 (by omega) (by omega))) rfl ?_; refine z7 (zp L rfl rfl (zk rfl) rfl rfl rfl (fun u H hH _ _ => zkm (by omega) hH)) rfl ?_; refine z7 (zt4 rfl rfl rfl rfl (by omega) s1) rfl ?_; refine Z138 ?_
 refine yd L (rs := [.tmp 2]) rfl (fun _ _ h => h) Since.refl fun u H hH hle => ?_
 rfl
set_option maxHeartbeats 2000000 in
set_option maxRecDepth 20000 in
theorem z0p {d : Array Int} {rest : List Value} {b m cap a e : Nat} (hab : a ≤ e) (he : e ≤ d.size) (hm : d.size = m) (hm1 : m ≤ 100000) {w : World} {B : Heap} {C : Nat → Prop} (hB : B.Le (hp w))
  (hr : (zab b (uC d ++ rest) tyU).P B w C) (hC : ∀ k, C k → k < w.heap.size ∧ B k = none) :
  zcb Tryz.prog 103 [.slice (some ⟨b, 0, none⟩) m cap, .int .i64 a, .int .i64 e] w B C (zab b (uC (breakPatterns d a e) ++ rest) tyU) := by
 unfold zcb
 refine zas 900 (zab b (uC d ++ rest) tyU) Tryz.func103 rfl Tryz.ntmps103 (Nat.le_of_ble_eq_true rfl) hB hr hC ?_
 rw [za1]
 obtain ⟨Ln, rfl⟩ : ∃ Ln, e = a + Ln := ⟨e - a, by omega⟩
 have hw0 : IntKind.i64.wrap (((a + Ln : Nat) : Int) - (a : Int)) = (Ln : Int) := zaa (by omega) (by omega) |>.trans (by omega)
 by_cases h8 : 8 ≤ Ln
 ·have hX := breakPatterns_eq d a Ln h8
  obtain ⟨M, hM⟩ : ∃ M, M = 1 <<< bitsLen Ln := ⟨_, rfl⟩
  have hb17 : bitsLen Ln ≤ 17 := (bitsLen_le_iff Ln 17).2 (by omega)
  have hMp : 1 ≤ M ∧ M ≤ 131072 := by
   rw [hM, Nat.shiftLeft_eq, Nat.one_mul]
   exact ⟨Nat.one_le_two_pow, Nat.pow_le_pow_right (by omega) hb17⟩
  have hM2 : M ≤ 2 * Ln := by
   rw [hM, Nat.shiftLeft_eq, Nat.one_mul]
   exact two_pow_bitsLen_le (by omega)
  obtain ⟨I0, hI0⟩ : ∃ I0, I0 = a + Ln / 4 * 2 - 1 := ⟨_, rfl⟩
  rw [← hM, ← hI0] at hX
  have hc1 : IntKind.u64.wrap (Ln : Int) = (Ln : Int) := wrap_u64 (by omega) (by omega)
  have et : ((Ln : Nat) : Int).tdiv 4 = ((Ln / 4 : Nat) : Int) := by
   rw [Int.tdiv_eq_ediv_of_nonneg (by omega)]
   omega
  have hq : IntKind.i64.wrap (((Ln : Nat) : Int).tdiv 4) = ((Ln / 4 : Nat) : Int) := by rw [et]; exact zaa (by omega) (by omega)
  have hw1 : IntKind.i64.wrap (((Ln / 4 : Nat) : Int) * 2) = ((Ln / 4 * 2 : Nat) : Int) := zaa (by omega) (by omega) |>.trans (by omega)
  have hw2 : IntKind.i64.wrap ((a : Int) + ((Ln / 4 * 2 : Nat) : Int)) = ((a + Ln / 4 * 2 : Nat) : Int) := zaa (by omega) (by omega) |>.trans (by omega)
  have hw3 : IntKind.i64.wrap (((a + Ln / 4 * 2 : Nat) : Int) - 1) = (I0 : Int) := zaa (by omega) (by omega) |>.trans (by omega)
  have hw4 : IntKind.i64.wrap (((a + Ln / 4 * 2 : Nat) : Int) + 1) = ((I0 + 2 : Nat) : Int) := zaa (by omega) (by omega) |>.trans (by omega)
  have hM1 : IntKind.u64.wrap ((M : Int) - 1) = ((M - 1 : Nat) : Int) := wrap_u64 (by omega) (by omega) |>.trans (by omega)
  have hln : (UInt64.ofNat Ln).toNat = Ln := by
   rw [UInt64.toNat_ofNat']
   exact Nat.mod_eq_of_lt (by omega)
  refine Z146 ?_; refine Z208 ?_; refine Z159 ?_; refine Z1 ?_; refine Z42 ?_; refine Z155 ?_; refine Z175 ?_; refine z7 (zau rfl rfl rfl zvj.1 zvj.2 (wrap_u64 (by omega) (by omega))) rfl ?_; refine Z203 ?_; refine Z160 ?_
  refine zrb 7 901 rfl fun br => ?_
  refine Z171 ?_; refine z7 (zp L rfl rfl (zk rfl) rfl rfl rfl (fun u H hH _ _ => hM ▸ zwy (n := Ln) (by omega) hH)) rfl ?_; refine Z144 ?_; refine Z328 ?_; refine Z253 ?_; refine Z26 ?_; refine Z196 ?_
  refine zaj (fun s : Nat × (UInt64 × Array Int) => [(0, .is (.slice (some ⟨b, 0, none⟩) m cap)), (1, .is (.int .i64 a)), (6, .is (.int .i64 Ln)), (7, .is (.pointer (some ⟨br, 0, none⟩))), (8, .is (.int .u64 M)), (9, .is (.int .i64 (I0 + s.1 : Nat))), (900, .own (zal b (uC s.2.2 ++ rest) tyU)), (901, .own (zal br [.int .u64 s.2.1.toNat] tyX))]) (fun s => s.1 ≤ 3 ∧ s.2.2.size = m ∧ bpRest a Ln M I0 (3 - s.1) s.1 s.2 = breakPatterns d a (a + Ln)) (fun s => 3 - s.1) (0, (UInt64.ofNat Ln, d)) ⟨by dsimp only; omega, hm, hX.symm⟩ ⟨rfl, rfl, rfl, rfl, rfl, rfl, rfl, by dsimp only; rw [hln]; rfl, trivial⟩ ?_
  rintro ⟨t, ⟨r, D⟩⟩ ⟨ht3, hD, hst⟩
  dsimp only at ht3 hD hst ⊢
  have hrl : r.toNat < 18446744073709551616 := UInt64.toNat_lt r
  by_cases ht : t < 3
  ·obtain ⟨o1, ho1⟩ : ∃ o1, o1 = xorNextN r.toNat &&& (M - 1) := ⟨_, rfl⟩
   have ho1l : o1 ≤ M - 1 := by rw [ho1]; exact Nat.and_le_right
   have hand : bits .and .u64 ((xorNextN r.toNat : Nat) : Int) ((M - 1 : Nat) : Int) = (o1 : Int) := by rw [bits_and_u64_nat _ _ (xorNextN_lt _ hrl) (by omega), ho1]
   have hcv : IntKind.i64.wrap (o1 : Int) = (o1 : Int) := zaa (by omega) (by omega)
   have hwt : IntKind.i64.wrap (((I0 + t : Nat) : Int) + 1) = ((I0 + (t + 1) : Nat) : Int) := zaa (by omega) (by omega) |>.trans (by omega)
   by_cases hoL : Ln ≤ o1
   ·have hw5 : IntKind.i64.wrap ((o1 : Int) - (Ln : Int)) = ((o1 - Ln : Nat) : Int) := zaa (by omega) (by omega) |>.trans (by omega)
    have hw6 : IntKind.i64.wrap ((a : Int) + ((o1 - Ln : Nat) : Int)) = ((a + (o1 - Ln) : Nat) : Int) := zaa (by omega) (by omega)
    have ho : (if (xorNext r).toNat &&& (M - 1) ≥ Ln then ((xorNext r).toNat &&& (M - 1)) - Ln else (xorNext r).toNat &&& (M - 1)) = o1 - Ln := by rw [xorNext_toNat, ← ho1, if_pos hoL]
    obtain ⟨_, qj⟩ := zcy (rest := rest) (show a + (o1 - Ln) < D.size by omega) (0 + (a + (o1 - Ln)) * 1) rfl
    obtain ⟨_, qi⟩ := zcy (rest := rest) (show I0 + t < D.size by omega) (0 + (I0 + t) * 1) rfl
    have s1 := zb9 (rest := rest) D[a + (o1 - Ln)]! (show I0 + t < D.size by omega) (0 + (I0 + t) * 1) rfl
    have b1 := zca (rest := rest) (show I0 + t < D.size by omega) (0 + (I0 + t) * 1) rfl
    have hz : a + (o1 - Ln) < (D.setIfInBounds (I0 + t) D[a + (o1 - Ln)]!).size := by rw [Array.size_setIfInBounds]; omega
    have s2 := zb9 (rest := rest) D[I0 + t]! hz (0 + (a + (o1 - Ln)) * 1) rfl
    have b2 := zca (rest := rest) hz (0 + (a + (o1 - Ln)) * 1) rfl
    rw [zc5] at s2
    refine Z139 ?_; refine Z38 ?_; refine Z174 ?_; refine Z253 ?_; refine Z17 ?_; refine Z73 ?_; refine Z143 ?_; refine Z170 ?_; refine Z43 ?_; refine qo (zah L 901 (zab br [.int .u64 (xorNextN r.toNat : Nat)] tyX) (.int .u64 (xorNextN r.toNat : Nat)) (r := zab br [.int .u64 r.toNat] tyX) rfl rfl rfl rfl rfl (fun u H C hH _ hr hC => zqf hrl hH hr hC)) ?_; refine Z228 ?_; refine z7 (zyt rfl rfl rfl rfl hand) rfl ?_; refine z7 (zau rfl rfl rfl zbo.1 zbo.2 (zaa (by omega) (by omega))) rfl ?_; refine Z147 ?_; refine Z57 ?_; refine Z140 ?_; refine Z255 ?_; refine Z59 ?_; refine Z208 ?_; refine Z138 ?_; refine qd (id := 10) [(200058, [900]), (200062, [900]), (100063, [900]), (100064, [900])] mixed (by kernel_rfl) ?_; refine Z145 ?_; refine Z205 ?_; refine Z205 ?_; refine z8 (qg L _ rfl rfl rfl rfl rfl rfl rfl (by omega)) rfl ?_; refine qn (qp L (q := 900) rfl rfl rfl rfl rfl qj) rfl rfl ?_; refine Z145 ?_; refine z8 (qg L _ rfl rfl rfl rfl rfl rfl rfl (by omega)) rfl ?_; refine qn (qp L (q := 900) rfl rfl rfl rfl rfl qi) rfl rfl ?_; refine z8 (qg L _ rfl rfl rfl rfl rfl rfl rfl (by omega)) rfl ?_; refine yy (yw L (q := 900) rfl rfl rfl rfl rfl rfl b1 rfl s1) rfl ?_; refine z8 (qg L _ rfl rfl rfl rfl rfl rfl rfl (by omega)) rfl ?_; refine yy (yw L (q := 900) rfl rfl rfl rfl rfl rfl b2 rfl s2) rfl ?_; refine Z275 ?_; refine Z190 ?_; refine Z209 ?_
    exact yh (x := (t, (r, D))) (t + 1, (xorNext r, swp D (I0 + t) (a + (o1 - Ln)))) ⟨by dsimp only; omega, by dsimp only; rw [zbm]; exact hD, by dsimp only; rw [← hst, bp_step a Ln M I0 t r D ((o1 - Ln)) ht ho]⟩ (by dsimp only; omega) ⟨rfl, rfl, rfl, rfl, rfl, rfl, rfl, by dsimp only; rw [xorNext_toNat]; rfl, trivial⟩
   ·have hw6 : IntKind.i64.wrap ((a : Int) + (o1 : Int)) = ((a + o1 : Nat) : Int) := zaa (by omega) (by omega)
    have ho : (if (xorNext r).toNat &&& (M - 1) ≥ Ln then ((xorNext r).toNat &&& (M - 1)) - Ln else (xorNext r).toNat &&& (M - 1)) = o1 := by rw [xorNext_toNat, ← ho1, if_neg (by omega)]
    obtain ⟨_, qj⟩ := zcy (rest := rest) (show a + o1 < D.size by omega) (0 + (a + o1) * 1) rfl
    obtain ⟨_, qi⟩ := zcy (rest := rest) (show I0 + t < D.size by omega) (0 + (I0 + t) * 1) rfl
    have s1 := zb9 (rest := rest) D[a + o1]! (show I0 + t < D.size by omega) (0 + (I0 + t) * 1) rfl
    have b1 := zca (rest := rest) (show I0 + t < D.size by omega) (0 + (I0 + t) * 1) rfl
    have hz : a + o1 < (D.setIfInBounds (I0 + t) D[a + o1]!).size := by rw [Array.size_setIfInBounds]; omega
    have s2 := zb9 (rest := rest) D[I0 + t]! hz (0 + (a + o1) * 1) rfl
    have b2 := zca (rest := rest) hz (0 + (a + o1) * 1) rfl
    rw [zc5] at s2
    refine Z139 ?_; refine Z38 ?_; refine Z174 ?_; refine Z253 ?_; refine Z17 ?_; refine Z73 ?_; refine Z143 ?_; refine Z170 ?_; refine Z43 ?_; refine qo (zah L 901 (zab br [.int .u64 (xorNextN r.toNat : Nat)] tyX) (.int .u64 (xorNextN r.toNat : Nat)) (r := zab br [.int .u64 r.toNat] tyX) rfl rfl rfl rfl rfl (fun u H C hH _ hr hC => zqf hrl hH hr hC)) ?_; refine Z228 ?_; refine z7 (zyt rfl rfl rfl rfl hand) rfl ?_; refine z7 (zau rfl rfl rfl zbo.1 zbo.2 (zaa (by omega) (by omega))) rfl ?_; refine Z147 ?_; refine Z57 ?_; refine Z140 ?_; refine Z46 ?_; refine Z141 ?_; refine Z142 ?_; refine qd (id := 10) [(200058, [900]), (200062, [900]), (100063, [900]), (100064, [900])] mixed (by kernel_rfl) ?_; refine Z145 ?_; refine Z205 ?_; refine Z205 ?_; refine z8 (qg L _ rfl rfl rfl rfl rfl rfl rfl (by omega)) rfl ?_; refine qn (qp L (q := 900) rfl rfl rfl rfl rfl qj) rfl rfl ?_; refine Z145 ?_; refine z8 (qg L _ rfl rfl rfl rfl rfl rfl rfl (by omega)) rfl ?_; refine qn (qp L (q := 900) rfl rfl rfl rfl rfl qi) rfl rfl ?_; refine z8 (qg L _ rfl rfl rfl rfl rfl rfl rfl (by omega)) rfl ?_; refine yy (yw L (q := 900) rfl rfl rfl rfl rfl rfl b1 rfl s1) rfl ?_; refine z8 (qg L _ rfl rfl rfl rfl rfl rfl rfl (by omega)) rfl ?_; refine yy (yw L (q := 900) rfl rfl rfl rfl rfl rfl b2 rfl s2) rfl ?_; refine Z275 ?_; refine Z190 ?_; refine Z209 ?_
    exact yh (x := (t, (r, D))) (t + 1, (xorNext r, swp D (I0 + t) (a + o1))) ⟨by dsimp only; omega, by dsimp only; rw [zbm]; exact hD, by dsimp only; rw [← hst, bp_step a Ln M I0 t r D (o1) ht ho]⟩ (by dsimp only; omega) ⟨rfl, rfl, rfl, rfl, rfl, rfl, rfl, by dsimp only; rw [xorNext_toNat]; rfl, trivial⟩
  ·obtain rfl : t = 3 := by omega
   have hst' : D = breakPatterns d a (a + Ln) := hst
   rw [hst']
   refine Z139 ?_; refine Z38 ?_; refine Z174 ?_; refine Z253 ?_; refine Z17 ?_; refine Z70 ?_; refine Z172 ?_
   exact zba L 900 (r := zab b _ tyU) rfl (fun _ _ h => h) Since.refl rfl rfl
 ·have : breakPatterns d a (a + Ln) = d := by unfold breakPatterns; simp only [Nat.add_sub_cancel_left]; rw [if_neg (by omega)]
  rw [this]
  refine Z146 ?_; refine Z208 ?_; refine Z159 ?_; refine Z1 ?_; refine Z46 ?_; refine Z192 ?_
  exact zba L 900 (r := zab b _ tyU) rfl (fun _ _ h => h) Since.refl rfl rfl
end Go.V.So
set_option maxRecDepth 20000
namespace Go.V.So
open Go.Proofs Go.RowKit Go.V Go.Sort
theorem _root_.Go.V.Z127 {A B : Prop} (h : B) (t : Wr B → A := by intro h; refine z8 (zuf L (yc rfl (by assumption)) rfl rfl rfl (by assumption)) rfl ?_; exact h.h) : A := t ⟨h⟩
abbrev tyI : TypeId := 3
theorem z07 {d : Array Int} {rest : List Value} {j : Nat} (h : j < d.size) : (uC d ++ rest)[0 + j * 1]? = some (.int .u64 d[j]!) := by
 rw [Nat.zero_add, Nat.mul_one, List.getElem?_append_left (by rw [zi5]; exact h)]
 exact zyg h
attribute [local irreducible] V N X VO Par StepOK Has Ret RetL RetO zcb zdt Src
set_option maxRecDepth 20000 in
theorem zmb {d : Array Int} {rest : List Value} {b m cap a e bs k : Nat} (ha : a < m) (he : e < m) (hm : d.size = m) (hm1 : m ≤ 100000) (hk : k ≤ 1000) {w : World} {B : Heap} {C : Nat → Prop} (hB : B.Le (hp w)) (hb : B b = some (.cells (uC d ++ rest).toArray tyU))
  (hr : (zab bs [.int .i64 k] tyI).P B w C) (hC : ∀ k, C k → k < w.heap.size ∧ B k = none) :
  zdt Tryz.prog 169 [.slice (some ⟨b, 0, none⟩) m cap, .int .i64 a, .int .i64 e, .pointer (some ⟨bs, 0, none⟩)] w B C (zab bs [.int .i64 (order2 lt d a e k).2.2] tyI) (.tuple #[.int .i64 (order2 lt d a e k).1, .int .i64 (order2 lt d a e k).2.1]) := by
 unfold zdt
 refine zas 900 (zab bs [.int .i64 k] tyI) Tryz.func169 rfl Tryz.ntmps169 (Nat.le_of_ble_eq_true rfl) hB hr hC ?_
 rw [za1]
 have g1 := z07 (rest := rest) (show a < d.size by omega)
 have g2 := z07 (rest := rest) (show e < d.size by omega)
 have hw : IntKind.i64.wrap ((k : Int) + 1) = ((k + 1 : Nat) : Int) := zaa (by omega) (by omega)
 unfold order2
 cases hc : lt d[e]! d[a]! with
 | true =>
  refine Z146 ?_; refine Z221 ?_; refine Z77 ?_; refine Z145 ?_; refine z8 (qg L _ rfl rfl rfl rfl rfl rfl rfl (by omega)) rfl ?_; refine Z127 ?_; refine Z145 ?_; refine z8 (qg L _ rfl rfl rfl rfl rfl rfl rfl (by omega)) rfl ?_; refine Z127 ?_; refine z8 (zp L rfl rfl (zk rfl) rfl rfl rfl (fun u H hH _ _ => zbc hc hH)) rfl ?_; refine Z213 ?_; refine zh ?_; refine Z175 ?_; refine Z61 ?_; refine Z65 ?_; refine Z17 ?_; refine Z61 ?_; refine zcr (yw L (q := 900) rfl rfl rfl rfl rfl rfl rfl rfl rfl) ?_; refine Z160 ?_; refine Z202 ?_; refine Z185 ?_
  exact zfw L 900 (r := zab bs _ tyI) (rs := [.tmp 8, .tmp 9]) rfl (fun _ _ h => h) Since.refl rfl rfl (fun _ => rfl)
 | false =>
  refine Z146 ?_; refine Z221 ?_; refine Z77 ?_; refine Z145 ?_; refine z8 (qg L _ rfl rfl rfl rfl rfl rfl rfl (by omega)) rfl ?_; refine Z127 ?_; refine Z145 ?_; refine z8 (qg L _ rfl rfl rfl rfl rfl rfl rfl (by omega)) rfl ?_; refine Z127 ?_; refine z8 (zp L rfl rfl (zk rfl) rfl rfl rfl (fun u H hH _ _ => zbc hc hH)) rfl ?_; refine Z182 ?_; refine Z148 ?_; refine Z328 ?_; refine Z185 ?_
  exact zfw L 900 (r := zab bs _ tyI) (rs := [.tmp 8, .tmp 9]) rfl (fun _ _ h => h) Since.refl rfl rfl (fun _ => rfl)
theorem zjz (d : Array Int) {a e m k : Nat} (ha : a < m) (he : e < m) : (order2 lt d a e k).1 < m ∧ (order2 lt d a e k).2.1 < m ∧ (order2 lt d a e k).2.2 ≤ k + 1 := by
 unfold order2
 split
 ·exact ⟨he, ha, Nat.le_refl _⟩
 ·exact ⟨ha, he, Nat.le_succ _⟩
set_option maxRecDepth 20000 in
theorem zgp {d : Array Int} {rest : List Value} {b m cap x y z bs k : Nat} (hx : x < m) (hy : y < m) (hz : z < m) (hm : d.size = m) (hm1 : m ≤ 100000) (hk : k ≤ 900) {w : World} {B : Heap} {C : Nat → Prop} (hB : B.Le (hp w)) (hb : B b = some (.cells (uC d ++ rest).toArray tyU))
  (hr : (zab bs [.int .i64 k] tyI).P B w C) (hC : ∀ k, C k → k < w.heap.size ∧ B k = none) :
  zdt Tryz.prog 152 [.slice (some ⟨b, 0, none⟩) m cap, .int .i64 x, .int .i64 y, .int .i64 z, .pointer (some ⟨bs, 0, none⟩)] w B C (zab bs [.int .i64 (median lt d x y z k).2] tyI) (.int .i64 (median lt d x y z k).1) := by
 unfold zdt
 refine zas 900 (zab bs [.int .i64 k] tyI) Tryz.func152 rfl Tryz.ntmps152 (Nat.le_of_ble_eq_true rfl) hB hr hC ?_
 rw [za1]
 unfold median
 dsimp only
 obtain ⟨r1, hr1⟩ : ∃ r, r = order2 lt d x y k := ⟨_, rfl⟩
 rw [← hr1]
 obtain ⟨r2, hr2⟩ : ∃ r, r = order2 lt d r1.2.1 z r1.2.2 := ⟨_, rfl⟩
 rw [← hr2]
 obtain ⟨r3, hr3⟩ : ∃ r, r = order2 lt d r1.1 r2.1 r2.2.2 := ⟨_, rfl⟩
 rw [← hr3]
 obtain ⟨a1, a2, a3⟩ := hr1 ▸ zjz d (k := k) hx hy
 obtain ⟨b1, b2, b3⟩ := hr2 ▸ zjz d (k := r1.2.2) a2 hz
 refine Z186 ?_; refine Z219 ?_; refine qo (zah L 900 (zab bs [.int .i64 r1.2.2] tyI) (.tuple #[.int .i64 r1.1, .int .i64 r1.2.1]) (r := zab bs [.int .i64 k] tyI) rfl rfl rfl rfl rfl (fun u H C hH hle hr hC => by have h := zmb (rest := rest) (cap := cap) hx hy hm hm1 (k := k) (by omega) hH (hle _ _ hb) hr hC; rw [← hr1] at h; exact h)) ?_; refine Z240 ?_; refine Z29 ?_; refine Z219 ?_; refine qo (zah L 900 (zab bs [.int .i64 r2.2.2] tyI) (.tuple #[.int .i64 r2.1, .int .i64 r2.2.1]) (r := zab bs [.int .i64 r1.2.2] tyI) rfl rfl rfl rfl rfl (fun u H C hH hle hr hC => by have h := zmb (rest := rest) (cap := cap) a2 hz hm hm1 (k := r1.2.2) (by omega) hH (hle _ _ hb) hr hC; rw [← hr2] at h; exact h)) ?_; refine Z240 ?_; refine Z202 ?_; refine Z140 ?_; refine qo (zah L 900 (zab bs [.int .i64 r3.2.2] tyI) (.tuple #[.int .i64 r3.1, .int .i64 r3.2.1]) (r := zab bs [.int .i64 r2.2.2] tyI) rfl rfl rfl rfl rfl (fun u H C hH hle hr hC => by have h := zmb (rest := rest) (cap := cap) a1 b1 hm hm1 (k := r2.2.2) (by omega) hH (hle _ _ hb) hr hC; rw [← hr3] at h; exact h)) ?_; refine Z240 ?_; refine Z161 ?_; refine Z138 ?_
 exact zfw L 900 (r := zab bs _ tyI) (rs := [.tmp 10]) rfl (fun _ _ h => h) Since.refl rfl rfl (fun _ => rfl)
theorem zut (d : Array Int) {x y z m k : Nat} (hx : x < m) (hy : y < m) (hz : z < m) : (median lt d x y z k).1 < m ∧ (median lt d x y z k).2 ≤ k + 3 := by
 unfold median
 dsimp only
 obtain ⟨a1, a2, a3⟩ := zjz d (k := k) hx hy
 obtain ⟨b1, b2, b3⟩ := zjz d (k := (order2 lt d x y k).2.2) a2 hz
 obtain ⟨c1, c2, c3⟩ := zjz d (k := (order2 lt d (order2 lt d x y k).2.1 z (order2 lt d x y k).2.2).2.2) a1 b1
 exact ⟨c2, by omega⟩
set_option maxRecDepth 20000 in
theorem zdn {d : Array Int} {rest : List Value} {b m cap x bs k : Nat} (h1 : 1 ≤ x) (hx : x + 1 < m) (hm : d.size = m) (hm1 : m ≤ 100000) (hk : k ≤ 900) {w : World} {B : Heap} {C : Nat → Prop} (hB : B.Le (hp w)) (hb : B b = some (.cells (uC d ++ rest).toArray tyU))
  (hr : (zab bs [.int .i64 k] tyI).P B w C) (hC : ∀ k, C k → k < w.heap.size ∧ B k = none) :
  zdt Tryz.prog 151 [.slice (some ⟨b, 0, none⟩) m cap, .int .i64 x, .pointer (some ⟨bs, 0, none⟩)] w B C (zab bs [.int .i64 (medianAdjacent lt d x k).2] tyI) (.int .i64 (medianAdjacent lt d x k).1) := by
 unfold zdt
 refine zas 900 (zab bs [.int .i64 k] tyI) Tryz.func151 rfl Tryz.ntmps151 (Nat.le_of_ble_eq_true rfl) hB hr hC ?_
 rw [za1]
 unfold medianAdjacent
 have hw1 : IntKind.i64.wrap ((x : Int) - 1) = ((x - 1 : Nat) : Int) := zaa (by omega) (by omega) |>.trans (by omega)
 have hw2 : IntKind.i64.wrap ((x : Int) + 1) = ((x + 1 : Nat) : Int) := zaa (by omega) (by omega)
 refine Z186 ?_; refine Z208 ?_; refine Z285 ?_; refine Z1 ?_; refine qo (zah L 900 (zab bs [.int .i64 (median lt d (x - 1) x (x + 1) k).2] tyI) (.int .i64 (median lt d (x - 1) x (x + 1) k).1) (r := zab bs [.int .i64 k] tyI) rfl rfl rfl rfl rfl (fun u H C hH hle hr hC => zgp (rest := rest) (cap := cap) (by omega) (by omega) (by omega) hm hm1 hk hH (hle _ _ hb) hr hC)) ?_; refine Z138 ?_
 exact zfw L 900 (r := zab bs _ tyI) (rs := [.tmp 6]) rfl (fun _ _ h => h) Since.refl rfl rfl (fun _ => rfl)
end Go.V.So
set_option maxRecDepth 20000
namespace Go.V.So
open Go.Proofs Go.RowKit Go.V Go.Sort
theorem _root_.Go.V.Z128 {A B : Prop} (h : B) (t : Wr B → A := by intro h; refine yq (qp L (q := 901) rfl rfl rfl rfl rfl rfl) ?_; exact h.h) : A := t ⟨h⟩
theorem _root_.Go.V.Z242 {A B : Prop} (h : B) (t : Wr B → A := by intro h; refine Z12 ?_; refine Z210 ?_; exact h.h) : A := t ⟨h⟩
theorem _root_.Go.V.Z329 {A B : Prop} (h : B) (t : Wr B → A := by intro h; refine Z23 ?_; refine Z251 ?_; exact h.h) : A := t ⟨h⟩
theorem _root_.Go.V.Z356 {A B : Prop} (h : B) (t : Wr B → A := by intro h; refine Z253 ?_; refine Z144 ?_; exact h.h) : A := t ⟨h⟩
def zmp : Hint → Int
 | .unknown => 0
 | .increasing => 1
 | .decreasing => 2
attribute [local irreducible] V N X VO Par StepOK Has Ret RetL RetO zcb zdt Src
set_option maxHeartbeats 1000000 in
set_option maxRecDepth 20000 in
theorem zzq {d : Array Int} {rest : List Value} {b m cap a e : Nat} (h12 : 12 < e - a) (he : e ≤ m) (hm : d.size = m) (hm1 : m ≤ 100000) {w : World} {B : Heap} (hB : B.Le (hp w)) (hb : B b = some (.cells (uC d ++ rest).toArray tyU)) :
  Ret Tryz.prog 104 [.slice (some ⟨b, 0, none⟩) m cap, .int .i64 a, .int .i64 e] w B (fun v _ => v = .tuple #[.int .i64 (choosePivot lt d a e).1, .int .i64 (zmp (choosePivot lt d a e).2)]) := by
 obtain ⟨Ln, rfl⟩ : ∃ Ln, e = a + Ln := ⟨e - a, by omega⟩
 rw [Nat.add_sub_cancel_left] at h12
 unfold choosePivot
 rw [Nat.add_sub_cancel_left]
 dsimp only
 obtain ⟨q, hq⟩ : ∃ q, q = Ln / 4 := ⟨_, rfl⟩
 rw [← hq, if_pos (by omega)]
 have hw0 : IntKind.i64.wrap (((a + Ln : Nat) : Int) - (a : Int)) = (Ln : Int) := zaa (by omega) (by omega) |>.trans (by omega)
 have et : ((Ln : Nat) : Int).tdiv 4 = (q : Int) := by
  rw [Int.tdiv_eq_ediv_of_nonneg (by omega)]
  omega
 have hq1 : IntKind.i64.wrap (((Ln : Nat) : Int).tdiv 4) = (q : Int) := by rw [et]; exact zaa (by omega) (by omega)
 have m1 : IntKind.i64.wrap ((q : Int) * 1) = ((q * 1 : Nat) : Int) := zaa (by omega) (by omega) |>.trans (by omega)
 have m2 : IntKind.i64.wrap ((q : Int) * 2) = ((q * 2 : Nat) : Int) := zaa (by omega) (by omega) |>.trans (by omega)
 have m3 : IntKind.i64.wrap ((q : Int) * 3) = ((q * 3 : Nat) : Int) := zaa (by omega) (by omega) |>.trans (by omega)
 have p1 : IntKind.i64.wrap ((a : Int) + ((q * 1 : Nat) : Int)) = ((a + q * 1 : Nat) : Int) := zaa (by omega) (by omega) |>.trans (by omega)
 have p2 : IntKind.i64.wrap ((a : Int) + ((q * 2 : Nat) : Int)) = ((a + q * 2 : Nat) : Int) := zaa (by omega) (by omega) |>.trans (by omega)
 have p3 : IntKind.i64.wrap ((a : Int) + ((q * 3 : Nat) : Int)) = ((a + q * 3 : Nat) : Int) := zaa (by omega) (by omega) |>.trans (by omega)
 refine yf Tryz.func104 rfl Tryz.ntmps104 (Nat.le_of_ble_eq_true rfl) hB ?_
 refine Z257 ?_; refine Z159 ?_; refine Z208 ?_; refine Z144 ?_; refine Z29 ?_; refine Z27 ?_; refine Z160 ?_
 refine zrb 9 901 rfl fun bs => ?_
 by_cases h50 : Ln ≥ 50
 ·rw [if_pos h50]
  obtain ⟨r1, hr1⟩ : ∃ r, r = medianAdjacent lt d (a + q * 1) 0 := ⟨_, rfl⟩
  rw [← hr1]
  obtain ⟨r2, hr2⟩ : ∃ r, r = medianAdjacent lt d (a + q * 2) r1.2 := ⟨_, rfl⟩
  rw [← hr2]
  obtain ⟨r3, hr3⟩ : ∃ r, r = medianAdjacent lt d (a + q * 3) r2.2 := ⟨_, rfl⟩
  rw [← hr3]
  obtain ⟨r4, hr4⟩ : ∃ r, r = median lt d r1.1 r2.1 r3.1 r3.2 := ⟨_, rfl⟩
  rw [← hr4]
  obtain ⟨l1, s1⟩ : r1.1 < m ∧ r1.2 ≤ 0 + 3 := hr1 ▸ zut d (by omega) (by omega) (by omega)
  obtain ⟨l2, s2⟩ : r2.1 < m ∧ r2.2 ≤ r1.2 + 3 := hr2 ▸ zut d (by omega) (by omega) (by omega)
  obtain ⟨l3, s3⟩ : r3.1 < m ∧ r3.2 ≤ r2.2 + 3 := hr3 ▸ zut d (by omega) (by omega) (by omega)
  by_cases z0 : r4.2 = 0
  ·rw [if_pos z0]
   refine Z202 ?_; refine Z356 ?_; refine Z328 ?_; refine Z356 ?_; refine Z244 ?_; refine Z253 ?_; refine Z350 ?_; refine Z255 ?_; refine Z139 ?_; refine Z193 ?_; refine Z42 ?_; refine Z155 ?_; refine Z57 ?_; refine Z140 ?_; refine qo (zah L 901 (zab bs [.int .i64 r1.2] tyI) (.int .i64 r1.1) (r := zab bs [.int .i64 0] tyI) rfl rfl rfl rfl rfl (fun u H C hH hle hr hC => by have h := zdn (rest := rest) (cap := cap) (d := d) (x := a + q * 1) (k := 0) (by omega) (by omega) hm hm1 (by omega) hH (hle _ _ hb) hr hC; rw [← hr1] at h; exact h)) ?_; refine Z144 ?_; refine Z59 ?_; refine Z140 ?_; refine qo (zah L 901 (zab bs [.int .i64 r2.2] tyI) (.int .i64 r2.1) (r := zab bs [.int .i64 r1.2] tyI) rfl rfl rfl rfl rfl (fun u H C hH hle hr hC => by have h := zdn (rest := rest) (cap := cap) (d := d) (x := a + q * 2) (k := r1.2) (by omega) (by omega) hm hm1 (by omega) hH (hle _ _ hb) hr hC; rw [← hr2] at h; exact h)) ?_; refine Z138 ?_; refine Z391 ?_; refine qo (zah L 901 (zab bs [.int .i64 r3.2] tyI) (.int .i64 r3.1) (r := zab bs [.int .i64 r2.2] tyI) rfl rfl rfl rfl rfl (fun u H C hH hle hr hC => by have h := zdn (rest := rest) (cap := cap) (d := d) (x := a + q * 3) (k := r2.2) (by omega) (by omega) hm hm1 (by omega) hH (hle _ _ hb) hr hC; rw [← hr3] at h; exact h)) ?_; refine Z138 ?_; refine Z66 ?_; refine Z219 ?_; refine qo (zah L 901 (zab bs [.int .i64 r4.2] tyI) (.int .i64 r4.1) (r := zab bs [.int .i64 r3.2] tyI) rfl rfl rfl rfl rfl (fun u H C hH hle hr hC => by have h := zgp (rest := rest) (cap := cap) (d := d) (x := r1.1) (y := r2.1) (z := r3.1) (k := r3.2) (by omega) (by omega) (by omega) hm hm1 (by omega) hH (hle _ _ hb) hr hC; rw [← hr4] at h; exact h)) ?_; refine Z144 ?_; refine Z79 ?_; refine Z128 ?_; refine Z137 ?_; refine Z151 ?_; refine Z74 ?_; refine Z329 ?_; refine zh ?_; refine Z371 ?_; refine Z185 ?_
   refine yd L (rs := [.tmp 6, .tmp 7]) rfl (fun _ _ h => h) Since.refl fun u H hH hle => ?_
   rfl
  ·rw [if_neg z0]
   by_cases z12 : r4.2 = 12
   ·rw [if_pos z12]
    refine Z202 ?_; refine Z356 ?_; refine Z328 ?_; refine Z356 ?_; refine Z244 ?_; refine Z253 ?_; refine Z350 ?_; refine Z255 ?_; refine Z139 ?_; refine Z193 ?_; refine Z42 ?_; refine Z155 ?_; refine Z57 ?_; refine Z140 ?_; refine qo (zah L 901 (zab bs [.int .i64 r1.2] tyI) (.int .i64 r1.1) (r := zab bs [.int .i64 0] tyI) rfl rfl rfl rfl rfl (fun u H C hH hle hr hC => by have h := zdn (rest := rest) (cap := cap) (d := d) (x := a + q * 1) (k := 0) (by omega) (by omega) hm hm1 (by omega) hH (hle _ _ hb) hr hC; rw [← hr1] at h; exact h)) ?_; refine Z144 ?_; refine Z59 ?_; refine Z140 ?_; refine qo (zah L 901 (zab bs [.int .i64 r2.2] tyI) (.int .i64 r2.1) (r := zab bs [.int .i64 r1.2] tyI) rfl rfl rfl rfl rfl (fun u H C hH hle hr hC => by have h := zdn (rest := rest) (cap := cap) (d := d) (x := a + q * 2) (k := r1.2) (by omega) (by omega) hm hm1 (by omega) hH (hle _ _ hb) hr hC; rw [← hr2] at h; exact h)) ?_; refine Z138 ?_; refine Z391 ?_; refine qo (zah L 901 (zab bs [.int .i64 r3.2] tyI) (.int .i64 r3.1) (r := zab bs [.int .i64 r2.2] tyI) rfl rfl rfl rfl rfl (fun u H C hH hle hr hC => by have h := zdn (rest := rest) (cap := cap) (d := d) (x := a + q * 3) (k := r2.2) (by omega) (by omega) hm hm1 (by omega) hH (hle _ _ hb) hr hC; rw [← hr3] at h; exact h)) ?_; refine Z138 ?_; refine Z66 ?_; refine Z219 ?_; refine qo (zah L 901 (zab bs [.int .i64 r4.2] tyI) (.int .i64 r4.1) (r := zab bs [.int .i64 r3.2] tyI) rfl rfl rfl rfl rfl (fun u H C hH hle hr hC => by have h := zgp (rest := rest) (cap := cap) (d := d) (x := r1.1) (y := r2.1) (z := r3.1) (k := r3.2) (by omega) (by omega) (by omega) hm hm1 (by omega) hH (hle _ _ hb) hr hC; rw [← hr4] at h; exact h)) ?_; refine Z144 ?_; refine Z79 ?_; refine Z128 ?_; refine Z137 ?_; refine Z151 ?_; refine Z74 ?_; refine Z242 ?_; refine Z102 ?_; refine Z329 ?_; refine zh ?_; refine Z108 ?_; refine Z1 ?_; refine Z185 ?_
    refine yd L (rs := [.tmp 6, .tmp 7]) rfl (fun _ _ h => h) Since.refl fun u H hH hle => ?_
    rfl
   ·rw [if_neg z12]
    refine Z202 ?_; refine Z356 ?_; refine Z328 ?_; refine Z356 ?_; refine Z244 ?_; refine Z253 ?_; refine Z350 ?_; refine Z255 ?_; refine Z139 ?_; refine Z193 ?_; refine Z42 ?_; refine Z155 ?_; refine Z57 ?_; refine Z140 ?_; refine qo (zah L 901 (zab bs [.int .i64 r1.2] tyI) (.int .i64 r1.1) (r := zab bs [.int .i64 0] tyI) rfl rfl rfl rfl rfl (fun u H C hH hle hr hC => by have h := zdn (rest := rest) (cap := cap) (d := d) (x := a + q * 1) (k := 0) (by omega) (by omega) hm hm1 (by omega) hH (hle _ _ hb) hr hC; rw [← hr1] at h; exact h)) ?_; refine Z144 ?_; refine Z59 ?_; refine Z140 ?_; refine qo (zah L 901 (zab bs [.int .i64 r2.2] tyI) (.int .i64 r2.1) (r := zab bs [.int .i64 r1.2] tyI) rfl rfl rfl rfl rfl (fun u H C hH hle hr hC => by have h := zdn (rest := rest) (cap := cap) (d := d) (x := a + q * 2) (k := r1.2) (by omega) (by omega) hm hm1 (by omega) hH (hle _ _ hb) hr hC; rw [← hr2] at h; exact h)) ?_; refine Z138 ?_; refine Z391 ?_; refine qo (zah L 901 (zab bs [.int .i64 r3.2] tyI) (.int .i64 r3.1) (r := zab bs [.int .i64 r2.2] tyI) rfl rfl rfl rfl rfl (fun u H C hH hle hr hC => by have h := zdn (rest := rest) (cap := cap) (d := d) (x := a + q * 3) (k := r2.2) (by omega) (by omega) hm hm1 (by omega) hH (hle _ _ hb) hr hC; rw [← hr3] at h; exact h)) ?_; refine Z138 ?_; refine Z66 ?_; refine Z219 ?_; refine qo (zah L 901 (zab bs [.int .i64 r4.2] tyI) (.int .i64 r4.1) (r := zab bs [.int .i64 r3.2] tyI) rfl rfl rfl rfl rfl (fun u H C hH hle hr hC => by have h := zgp (rest := rest) (cap := cap) (d := d) (x := r1.1) (y := r2.1) (z := r3.1) (k := r3.2) (by omega) (by omega) (by omega) hm hm1 (by omega) hH (hle _ _ hb) hr hC; rw [← hr4] at h; exact h)) ?_; refine Z144 ?_; refine Z79 ?_; refine Z128 ?_; refine Z137 ?_; refine Z151 ?_; refine Z74 ?_; refine Z242 ?_; refine Z102 ?_; refine Z242 ?_; refine Z309 ?_; refine Z185 ?_
    refine yd L (rs := [.tmp 6, .tmp 7]) rfl (fun _ _ h => h) Since.refl fun u H hH hle => ?_
    rfl
 ·rw [if_neg h50]
  obtain ⟨r4, hr4⟩ : ∃ r, r = median lt d (a + q * 1) (a + q * 2) (a + q * 3) 0 := ⟨_, rfl⟩
  rw [← hr4]
  by_cases z0 : r4.2 = 0
  ·rw [if_pos z0]
   refine Z202 ?_; refine Z356 ?_; refine Z328 ?_; refine Z356 ?_; refine Z244 ?_; refine Z253 ?_; refine Z350 ?_; refine Z255 ?_; refine Z139 ?_; refine Z193 ?_; refine Z46 ?_; refine Z141 ?_; refine Z142 ?_; refine Z66 ?_; refine Z219 ?_; refine qo (zah L 901 (zab bs [.int .i64 r4.2] tyI) (.int .i64 r4.1) (r := zab bs [.int .i64 0] tyI) rfl rfl rfl rfl rfl (fun u H C hH hle hr hC => by have h := zgp (rest := rest) (cap := cap) (d := d) (x := a + q * 1) (y := a + q * 2) (z := a + q * 3) (k := 0) (by omega) (by omega) (by omega) hm hm1 (by omega) hH (hle _ _ hb) hr hC; rw [← hr4] at h; exact h)) ?_; refine Z144 ?_; refine Z79 ?_; refine Z128 ?_; refine Z137 ?_; refine Z151 ?_; refine Z74 ?_; refine Z329 ?_; refine zh ?_; refine Z371 ?_; refine Z185 ?_
   refine yd L (rs := [.tmp 6, .tmp 7]) rfl (fun _ _ h => h) Since.refl fun u H hH hle => ?_
   rfl
  ·rw [if_neg z0]
   by_cases z12 : r4.2 = 12
   ·rw [if_pos z12]
    refine Z202 ?_; refine Z356 ?_; refine Z328 ?_; refine Z356 ?_; refine Z244 ?_; refine Z253 ?_; refine Z350 ?_; refine Z255 ?_; refine Z139 ?_; refine Z193 ?_; refine Z46 ?_; refine Z141 ?_; refine Z142 ?_; refine Z66 ?_; refine Z219 ?_; refine qo (zah L 901 (zab bs [.int .i64 r4.2] tyI) (.int .i64 r4.1) (r := zab bs [.int .i64 0] tyI) rfl rfl rfl rfl rfl (fun u H C hH hle hr hC => by have h := zgp (rest := rest) (cap := cap) (d := d) (x := a + q * 1) (y := a + q * 2) (z := a + q * 3) (k := 0) (by omega) (by omega) (by omega) hm hm1 (by omega) hH (hle _ _ hb) hr hC; rw [← hr4] at h; exact h)) ?_; refine Z144 ?_; refine Z79 ?_; refine Z128 ?_; refine Z137 ?_; refine Z151 ?_; refine Z74 ?_; refine Z242 ?_; refine Z102 ?_; refine Z329 ?_; refine zh ?_; refine Z108 ?_; refine Z1 ?_; refine Z185 ?_
    refine yd L (rs := [.tmp 6, .tmp 7]) rfl (fun _ _ h => h) Since.refl fun u H hH hle => ?_
    rfl
   ·rw [if_neg z12]
    refine Z202 ?_; refine Z356 ?_; refine Z328 ?_; refine Z356 ?_; refine Z244 ?_; refine Z253 ?_; refine Z350 ?_; refine Z255 ?_; refine Z139 ?_; refine Z193 ?_; refine Z46 ?_; refine Z141 ?_; refine Z142 ?_; refine Z66 ?_; refine Z219 ?_; refine qo (zah L 901 (zab bs [.int .i64 r4.2] tyI) (.int .i64 r4.1) (r := zab bs [.int .i64 0] tyI) rfl rfl rfl rfl rfl (fun u H C hH hle hr hC => by have h := zgp (rest := rest) (cap := cap) (d := d) (x := a + q * 1) (y := a + q * 2) (z := a + q * 3) (k := 0) (by omega) (by omega) (by omega) hm hm1 (by omega) hH (hle _ _ hb) hr hC; rw [← hr4] at h; exact h)) ?_; refine Z144 ?_; refine Z79 ?_; refine Z128 ?_; refine Z137 ?_; refine Z151 ?_; refine Z74 ?_; refine Z242 ?_; refine Z102 ?_; refine Z242 ?_; refine Z309 ?_; refine Z185 ?_
    refine yd L (rs := [.tmp 6, .tmp 7]) rfl (fun _ _ h => h) Since.refl fun u H hH hle => ?_
    rfl
end Go.V.So
set_option maxRecDepth 20000
namespace Go.V.So
open Go.Proofs Go.RowKit Go.V Go.Sort
theorem _root_.Go.V.Z94 {A B : Prop} (h : B) (t : Wr B → A := by intro h; refine qd (id := 17) [(200080, [900]), (200084, [900])] mixed (by kernel_rfl) ?_; exact h.h) : A := t ⟨h⟩
theorem _root_.Go.V.Z301 {A B : Prop} (h : B) (t : Wr B → A := by intro h; refine Z144 ?_; refine zf (id := 22) ?_; exact h.h) : A := t ⟨h⟩
theorem _root_.Go.V.Z302 {A B : Prop} (h : B) (t : Wr B → A := by intro h; refine zf (id := 23) ?_; refine Z1 ?_; exact h.h) : A := t ⟨h⟩
theorem _root_.Go.V.Z332 {A B : Prop} (h : B) (t : Wr B → A := by intro h; refine Z144 ?_; refine zf (id := 24) ?_; exact h.h) : A := t ⟨h⟩
theorem _root_.Go.V.Z333 {A B : Prop} (h : B) (t : Wr B → A := by intro h; refine zf (id := 25) ?_; refine Z140 ?_; exact h.h) : A := t ⟨h⟩
theorem _root_.Go.V.Z365 {A B : Prop} (h : B) (t : Wr B → A := by intro h; refine Z141 ?_; refine zh ?_; exact h.h) : A := t ⟨h⟩
theorem zvb {h : Hint} : zmp h = 2 ↔ h = .decreasing := by cases h <;> simp [zmp]
theorem zz6 {b : Nat} {cs : List Value} {ty : TypeId} : ∀ v H u C, (zal b cs ty).P v H u C → joinH H u C b = some (.cells cs.toArray ty) := fun _ _ _ _ ⟨hb, hC⟩ => (zg4 ((hC b).2 rfl)).trans hb
attribute [local irreducible] V N X VO Par StepOK Has Ret RetL RetO zcb zdt Src
set_option maxHeartbeats 4000000 in
set_option maxRecDepth 20000 in
theorem zzu : ∀ (N : Nat) {d : Array Int} {rest : List Value} {b m cap a e lim : Nat} (_ : e - a < N) (_ : a ≤ e) (_ : e ≤ m) (_ : d.size = m) (_ : m ≤ 100000) (_ : lim ≤ 1000) (_ : Below lt a e d) {w : World} {B : Heap} {C : Nat → Prop} (_ : B.Le (hp w))
  (_ : (zab b (uC d ++ rest) tyU).P B w C) (_ : ∀ k, C k → k < w.heap.size ∧ B k = none),
  zcb Tryz.prog 72 [.slice (some ⟨b, 0, none⟩) m cap, .int .i64 a, .int .i64 e, .int .i64 lim] w B C (zab b (uC (pdq lt d a e lim true true) ++ rest) tyU) := by
 intro N
 induction N with
 | zero => intro d rest b m cap a e lim h; omega
 | succ N ih =>
 intro d rest b m cap a e lim hN hab he hm hm1 hlim hBel w B C hB hr hC
 unfold zcb
 refine zas 900 (zab b (uC d ++ rest) tyU) Tryz.func72 rfl Tryz.ntmps72 (Nat.le_of_ble_eq_true rfl) hB hr hC ?_
 rw [za1]
 obtain ⟨X, hX⟩ : ∃ X, X = pdq lt d a e lim true true := ⟨_, rfl⟩
 rw [← hX]
 refine Z186 ?_; refine Z196 ?_
 refine zaj (fun s : ((Nat × Nat) × Nat) × ((Bool × Bool) × Array Int) => [(0, .is (.slice (some ⟨b, 0, none⟩) m cap)), (1, .is (.int .i64 s.1.1.1)), (2, .is (.int .i64 s.1.1.2)), (3, .is (.int .i64 s.1.2)), (8, .is (.bool s.2.1.1)), (9, .is (.bool s.2.1.2)), (900, .own (zal b (uC s.2.2 ++ rest) tyU))])
  (fun s => s.1.1.1 ≤ s.1.1.2 ∧ s.1.1.2 ≤ m ∧ s.1.1.2 - s.1.1.1 ≤ e - a ∧ s.1.2 ≤ 1000 ∧ s.2.2.size = m ∧ Below lt s.1.1.1 s.1.1.2 s.2.2 ∧ pdq lt s.2.2 s.1.1.1 s.1.1.2 s.1.2 s.2.1.1 s.2.1.2 = X) (fun s => s.1.1.2 - s.1.1.1) (((a, e), lim), ((true, true), d)) ⟨hab, he, Nat.le_refl _, hlim, hm, hBel, hX.symm⟩ ⟨rfl, rfl, rfl, rfl, rfl, rfl, rfl, trivial⟩ ?_
 rintro ⟨⟨⟨x, y⟩, l⟩, ⟨⟨wb, wp⟩, D⟩⟩ ⟨hxy, hy, hL, hl, hD, hBl, hP⟩
 dsimp only at hxy hy hL hl hD hBl hP ⊢
 clear hX hBel hm
 have hw0 : IntKind.i64.wrap ((y : Int) - (x : Int)) = ((y - x : Nat) : Int) := zaa (by omega) (by omega) |>.trans (by omega)
 by_cases h12 : y - x ≤ 12
 ·rw [pdq_small h12] at hP
  rw [← hP]
  refine Z151 ?_; refine Z29 ?_; refine Z208 ?_; refine Z327 ?_; refine Z73 ?_; refine Z321 ?_; refine Z174 ?_; refine qo (za0 L 900 (zab b (uC (insertionSort lt D x y) ++ rest) tyU) (r := zab b (uC D ++ rest) tyU) rfl rfl rfl rfl rfl (fun u H C hH _ hr hC => ins_ret hxy (by omega) hD hm1 hH hr hC)) ?_; refine Z137 ?_
  exact zbh L 900 (r := zab b _ tyU) rfl (fun _ _ h => h) Since.refl rfl rfl
 ·by_cases hl0 : l = 0
  ·rw [pdq_heap h12 hl0] at hP
   rw [← hP]
   refine Z151 ?_; refine Z29 ?_; refine Z208 ?_; refine Z327 ?_; refine Z70 ?_; refine Z168 ?_; refine Z180 ?_; refine Z294 ?_; refine Z45 ?_; refine Z174 ?_; refine qo (za0 L 900 (zab b (uC (heapSort lt D x y) ++ rest) tyU) (r := zab b (uC D ++ rest) tyU) rfl rfl rfl rfl rfl (fun u H C hH _ hr hC => zxa (by omega) (by omega) hD hm1 hH hr hC)) ?_; refine Z137 ?_
   exact zbh L 900 (r := zab b _ tyU) rfl (fun _ _ h => h) Since.refl rfl rfl
  ·obtain ⟨s1, B1, hc1, s2, B2, hpv, s3, B3⟩ := rd_facts (lt := lt) (limit := l) (wb := wb) (wp := wp) swo_ltInt partialInsertionSort_holds reverseRange_holds (show x < y by omega) (show y ≤ D.size by omega) hBl
   have hlle : (rd lt D x y l wb wp).lim ≤ 1000 := Nat.le_trans rd_lim_le hl
   have hdone := fun h => pdq_done (lt := lt) (d := D) (wb := wb) (wp := wp) h12 hl0 h
   have heq := fun h1 h2 h3 => pdq_eq (lt := lt) (d := D) (wb := wb) (wp := wp) h12 hl0 h1 h2 h3
   have hleft := fun h1 h2 h3 h4 => pdq_left (lt := lt) (d := D) (wb := wb) (wp := wp) h12 hl0 h1 h2 h3 h4
   have hright := fun h1 h2 h3 h4 => pdq_right (lt := lt) (d := D) (wb := wb) (wp := wp) h12 hl0 h1 h2 h3 h4
   have hrt : wb = true → (rd lt D x y l wb wp).d1 = D ∧ (rd lt D x y l wb wp).lim = l := fun e => by subst e; exact rd_true
   have hrf : wb = false → (rd lt D x y l wb wp).d1 = breakPatterns D x y ∧ (rd lt D x y l wb wp).lim = l - 1 := fun e => by subst e; exact rd_false
   have hrc := rd_c (lt := lt) (d := D) (a := x) (b := y) (limit := l) (wb := wb) (wp := wp)
   have hde := fun h => rd_dec (lt := lt) (d := D) (a := x) (b := y) (limit := l) (wb := wb) (wp := wp) h
   have hno := fun h => rd_not (lt := lt) (d := D) (a := x) (b := y) (limit := l) (wb := wb) (wp := wp) h
   have hpy := fun h => rd_pi_yes (lt := lt) (d := D) (a := x) (b := y) (limit := l) (wb := wb) (wp := wp) h
   have hpn := fun h => rd_pi_no (lt := lt) (d := D) (a := x) (b := y) (limit := l) (wb := wb) (wp := wp) h
   rw [hP] at hdone heq hleft hright
   generalize (rd lt D x y l wb wp) = R at *
   refine Z151 ?_; refine Z29 ?_; refine Z208 ?_; refine Z327 ?_; refine Z70 ?_; refine Z168 ?_; refine Z180 ?_; refine Z274 ?_
   refine ze8 (fun _ : Unit => [(0, .is (.slice (some ⟨b, 0, none⟩) m cap)), (1, .is (.int .i64 x)), (2, .is (.int .i64 y)), (3, .is (.int .i64 R.lim)), (8, .is (.bool wb)), (9, .is (.bool wp)), (10, .is (.int .i64 (y - x : Nat))), (900, .own (zal b (uC R.d1 ++ rest) tyU))]) (fun _ => True) (fun _ => []) ?rest1 ?first1
   case first1 =>
    cases wb with
    | true =>
     obtain ⟨e1, e2⟩ := hrt rfl
     rw [e1, e2]
     refine Z193 ?_; refine Z53 ?_; refine Z192 ?_
     exact za5 () Since.refl trivial rfl ⟨rfl, rfl, rfl, rfl, rfl, rfl, rfl, rfl, trivial⟩
    | false =>
     obtain ⟨e1, e2⟩ := hrf rfl
     have hw1 : IntKind.i64.wrap ((l : Int) - 1) = ((l - 1 : Nat) : Int) := zaa (by omega) (by omega) |>.trans (by omega)
     rw [e1, e2]
     refine Z193 ?_; refine Z53 ?_; refine Z155 ?_; refine Z57 ?_; refine Z174 ?_; refine qo (za0 L 900 (zab b (uC (breakPatterns D x y) ++ rest) tyU) (r := zab b (uC D ++ rest) tyU) rfl rfl rfl rfl rfl (fun u H C hH _ hr hC => z0p (by omega) (by omega) hD hm1 hH hr hC)) ?_; refine Z137 ?_; refine Z59 ?_; refine Z228 ?_; refine Z152 ?_
     exact za5 () Since.refl trivial rfl ⟨rfl, rfl, rfl, rfl, rfl, rfl, rfl, rfl, trivial⟩
   intro _ _
   refine zh ?_; refine Z68 ?_; refine Z174 ?_; refine yq (zav L 900 (Φ := fun H => H b = some (.cells (uC R.d1 ++ rest).toArray tyU)) (c := .tuple #[.int .i64 R.c.1, .int .i64 (zmp R.c.2)]) rfl rfl (zk rfl) rfl rfl rfl rfl rfl zz6 (fun u H hH hle h1 => by rw [hrc]; exact zzq (by omega) hy (by omega) hm1 hH h1)) ?_; refine Z340 ?_
   refine ze8 (fun _ : Unit => [(0, .is (.slice (some ⟨b, 0, none⟩) m cap)), (1, .is (.int .i64 x)), (2, .is (.int .i64 y)), (3, .is (.int .i64 R.lim)), (8, .is (.bool wb)), (9, .is (.bool wp)), (10, .is (.int .i64 (y - x : Nat))), (11, .is (.int .i64 R.pivot)), (12, .is (.int .i64 (zmp R.hint))), (900, .own (zal b (uC R.d2 ++ rest) tyU))]) (fun _ => True) (fun _ => []) ?rest2 ?first2
   case first2 =>
    by_cases hdec : R.c.2 = .decreasing
    ·obtain ⟨e1, e2, e3⟩ := hde hdec
     have hz : zmp R.c.2 = 2 := by rw [hdec]; rfl
     rw [e1, e2, e3]
     have w1 : IntKind.i64.wrap ((y : Int) - 1) = ((y - 1 : Nat) : Int) := zaa (by omega) (by omega) |>.trans (by omega)
     have w2 : IntKind.i64.wrap ((R.c.1 : Int) - (x : Int)) = ((R.c.1 - x : Nat) : Int) := zaa (by omega) (by omega) |>.trans (by omega)
     have w3 : IntKind.i64.wrap (((y - 1 : Nat) : Int) - ((R.c.1 - x : Nat) : Int)) = ((y - 1 - (R.c.1 - x) : Nat) : Int) := zaa (by omega) (by omega) |>.trans (by omega)
     refine Z279 ?_; refine Z294 ?_; refine Z79 ?_; refine Z174 ?_; refine qo (za0 L 900 (zab b (uC (reverseRange R.d1 x y) ++ rest) tyU) (r := zab b (uC R.d1 ++ rest) tyU) rfl rfl rfl rfl rfl (fun u H C hH _ hr hC => rev_ret (by omega) (by omega) (by omega) hm1 hH hr hC)) ?_; refine Z160 ?_; refine Z84 ?_; refine Z228 ?_; refine Z208 ?_; refine Z26 ?_; refine Z138 ?_; refine Z74 ?_; refine Z152 ?_
     exact za5 () Since.refl trivial rfl ⟨rfl, rfl, rfl, rfl, rfl, rfl, rfl, rfl, rfl, rfl, trivial⟩
    ·obtain ⟨e1, e2, e3⟩ := hno hdec
     have hz : zmp R.c.2 ≠ 2 := fun h => hdec (zvb.1 h)
     rw [e1, e2, e3]
     refine Z279 ?_; refine Z12 ?_; refine Z192 ?_
     exact za5 () Since.refl trivial rfl ⟨rfl, rfl, rfl, rfl, rfl, rfl, rfl, rfl, rfl, rfl, trivial⟩
   intro _ _
   refine zh (zh (ze8 (fun _ : Unit => [(0, .is (.slice (some ⟨b, 0, none⟩) m cap)), (1, .is (.int .i64 x)), (2, .is (.int .i64 y)), (3, .is (.int .i64 R.lim)), (8, .is (.bool wb)), (9, .is (.bool wp)), (10, .is (.int .i64 (y - x : Nat))), (11, .is (.int .i64 R.pivot)), (900, .own (zal b (uC R.pi.1 ++ rest) tyU))]) (fun _ => R.pi.2 = false) (fun _ => []) ?rest3 ?first3))
   case first3 =>
    cases wb with
    | false =>
     have hpi := hpn rfl
     rw [hpi]
     refine Z92 ?_; refine Z140 ?_; refine Z194 ?_; refine Z183 ?_; refine Z8 ?_; refine Z192 ?_
     exact za5 () Since.refl rfl rfl ⟨rfl, rfl, rfl, rfl, rfl, rfl, rfl, rfl, rfl, trivial⟩
    | true =>
     cases wp with
     | false =>
      have hpi := hpn rfl
      rw [hpi]
      refine Z92 ?_; refine Z174 ?_; refine Z8 ?_; refine Z183 ?_; refine Z8 ?_; refine Z192 ?_
      exact za5 () Since.refl rfl rfl ⟨rfl, rfl, rfl, rfl, rfl, rfl, rfl, rfl, rfl, trivial⟩
     | true =>
      by_cases hi : R.hint = .increasing
      ·have hz : zmp R.hint = 1 := by rw [hi]; rfl
       have hpi := hpy (by rw [hi]; rfl)
       cases hb : (partialInsertionSort lt R.d2 x y).2 with
       | true =>
        rw [hdone (by rw [hpi]; exact hb)]
        refine Z92 ?_; refine Z174 ?_; refine Z232 ?_; refine Z23 ?_; refine Z8 ?_; refine Z155 ?_; refine Z102 ?_; refine Z174 ?_; refine qo (zah L 900 (zab b (uC R.pi.1 ++ rest) tyU) (.bool true) (r := zab b (uC R.d2 ++ rest) tyU) rfl rfl rfl rfl rfl (fun u H C hH hle hr hC => by have h := pins_ret (rest := rest) (cap := cap) (d := R.d2) (a := x) (e := y) (m := m) (by omega) (by omega) (by omega) hm1 hH hr hC; rw [hb, ← hpi] at h; exact h)) ?_; refine Z143 ?_
        exact zbh L 900 (r := zab b _ tyU) rfl (fun _ _ h => h) Since.refl rfl rfl
       | false =>
        refine Z92 ?_; refine Z174 ?_; refine Z232 ?_; refine Z23 ?_; refine Z8 ?_; refine Z155 ?_; refine Z102 ?_; refine Z174 ?_; refine qo (zah L 900 (zab b (uC R.pi.1 ++ rest) tyU) (.bool false) (r := zab b (uC R.d2 ++ rest) tyU) rfl rfl rfl rfl rfl (fun u H C hH hle hr hC => by have h := pins_ret (rest := rest) (cap := cap) (d := R.d2) (a := x) (e := y) (m := m) (by omega) (by omega) (by omega) hm1 hH hr hC; rw [hb, ← hpi] at h; exact h)) ?_; refine Z192 ?_
        exact za5 () Since.refl (by rw [hpi]; exact hb) rfl ⟨rfl, rfl, rfl, rfl, rfl, rfl, rfl, rfl, rfl, trivial⟩
      ·have hz : zmp R.hint ≠ 1 := fun h => by
        cases hh : R.hint with
        | unknown => rw [hh] at h; cases h
        | increasing => exact hi hh
        | decreasing => rw [hh] at h; cases h
       have hpi := hpn (by simp [hi])
       rw [hpi]
       refine Z92 ?_; refine Z174 ?_; refine Z232 ?_; refine Z12 ?_; refine Z8 ?_; refine Z192 ?_
       exact za5 () Since.refl rfl rfl ⟨rfl, rfl, rfl, rfl, rfl, rfl, rfl, rfl, rfl, trivial⟩
   intro _ h2
   obtain ⟨_, q2⟩ := zcy (rest := rest) (show R.pivot < R.pi.1.size by omega) (0 + (R.pivot) * 1) rfl
   by_cases hx0 : 0 < x
   ·obtain ⟨_, q1⟩ := zcy (rest := rest) (show x - 1 < R.pi.1.size by omega) (0 + (x - 1) * 1) rfl
    have hw3 : IntKind.i64.wrap ((x : Int) - 1) = ((x - 1 : Nat) : Int) := zaa (by omega) (by omega) |>.trans (by omega)
    cases hc : lt R.pi.1[x - 1]! R.pi.1[R.pivot]! with
    | false =>
     obtain ⟨mid, d4, hx⟩ : ∃ mid d4, partitionEqual lt R.pi.1 x y R.pivot = (mid, d4) := ⟨_, _, rfl⟩
     obtain ⟨g1, g2, g3, g4, _⟩ := round_eq swo_ltInt (partitionEqual_holds lt) hx0 hpv.1 hpv.2 (by omega) B3 hc hx
     have hn := heq h2 (by simp [hx0, hc]) (by rw [hx]; exact ⟨g1, g2⟩)
     rw [hx] at hn
     refine Z139 ?_; refine Z94 ?_; refine Z3 ?_; refine Z88 ?_; refine Z179 ?_; refine Z58 ?_; refine z8 (qg L _ rfl rfl rfl rfl rfl rfl rfl (by omega)) rfl ?_; refine qn (qp L (q := 900) rfl rfl rfl rfl rfl q1) rfl rfl ?_; refine Z145 ?_; refine z8 (qg L _ rfl rfl rfl rfl rfl rfl rfl (by omega)) rfl ?_; refine qn (qp L (q := 900) rfl rfl rfl rfl rfl q2) rfl rfl ?_; refine z8 (zp L rfl rfl (zk rfl) rfl rfl rfl (fun u H hH _ _ => zbc hc hH)) rfl ?_; refine Z64 ?_; refine Z264 ?_; refine zh ?_; refine Z103 ?_; refine Z219 ?_; refine qo (zah L 900 (zab b (uC d4 ++ rest) tyU) (.int .i64 mid) (r := zab b (uC R.pi.1 ++ rest) tyU) rfl rfl rfl rfl rfl (fun u H C hH hle hr hC => by have h := zzt (rest := rest) (cap := cap) (d := R.pi.1) hpv.1 hpv.2 (by omega) (m := m) (by omega) hm1 hH hr hC; rw [hx] at h; exact h)) ?_; refine Z144 ?_; refine Z119 ?_; refine Z1 ?_; refine Z138 ?_; refine Z162 ?_; refine yt ?_
     exact yh (x := (((x, y), l), ((wb, wp), D))) (((mid, y), R.lim), ((wb, wp), d4)) ⟨by dsimp only; omega, hy, by dsimp only; omega, hlle, by dsimp only; omega, g4, hn.symm⟩ (by dsimp only; omega) ⟨rfl, rfl, rfl, rfl, rfl, rfl, rfl, trivial⟩
    | true =>
     have h2b : (decide (x > 0) && !lt R.pi.1[x - 1]! R.pi.1[R.pivot]!) = false := by simp [hc]
     obtain ⟨mid, ap, d4, hx⟩ : ∃ mid ap d4, Go.Sort.partition lt R.pi.1 x y R.pivot = (mid, ap, d4) := ⟨_, _, _, rfl⟩
     obtain ⟨g1, g2, g3, g4, g5, gL, gR⟩ := round_part swo_ltInt (partition_holds lt) hpv.1 hpv.2 (by omega) B3 hx
     have w1 : IntKind.i64.wrap ((mid : Int) - (x : Int)) = ((mid - x : Nat) : Int) := zaa (by omega) (by omega) |>.trans (by omega)
     have w2 : IntKind.i64.wrap ((y : Int) - (mid : Int)) = ((y - mid : Nat) : Int) := zaa (by omega) (by omega) |>.trans (by omega)
     have w4 : IntKind.i64.wrap ((mid : Int) + 1) = ((mid + 1 : Nat) : Int) := zaa (by omega) (by omega)
     have et : ((y - x : Nat) : Int).tdiv 8 = (((y - x) / 8 : Nat) : Int) := by
      rw [Int.tdiv_eq_ediv_of_nonneg (by omega)]
      omega
     have w3 : IntKind.i64.wrap (((y - x : Nat) : Int).tdiv 8) = (((y - x) / 8 : Nat) : Int) := by rw [et]; exact zaa (by omega) (by omega)
     by_cases hlr : mid - x < y - mid
     ·have hn := hleft h2 h2b (by rw [hx]; exact ⟨g1, g2⟩) (by rw [hx]; exact hlr)
      rw [hx] at hn
      dsimp only at hn
      obtain ⟨pL, sL⟩ := pdq_sorts lt swo_ltInt d4 x mid R.lim true true g1 (by omega) g4
      obtain ⟨LL, hLL⟩ : ∃ LL, LL = pdq lt d4 x mid R.lim true true := ⟨_, rfl⟩
      rw [← hLL] at hn pL sL
      obtain ⟨gB, _⟩ := gL LL pL sL
      have hLs : LL.size = d4.size := pL.1
      by_cases h8 : mid - x ≥ (y - x) / 8
      ·rw [decide_eq_true h8] at hn
       refine Z139 ?_; refine Z94 ?_; refine Z3 ?_; refine Z88 ?_; refine Z179 ?_; refine Z58 ?_; refine z8 (qg L _ rfl rfl rfl rfl rfl rfl rfl (by omega)) rfl ?_; refine qn (qp L (q := 900) rfl rfl rfl rfl rfl q1) rfl rfl ?_; refine Z145 ?_; refine z8 (qg L _ rfl rfl rfl rfl rfl rfl rfl (by omega)) rfl ?_; refine qn (qp L (q := 900) rfl rfl rfl rfl rfl q2) rfl rfl ?_; refine z8 (zp L rfl rfl (zk rfl) rfl rfl rfl (fun u H hH _ _ => zbc hc hH)) rfl ?_; refine Z64 ?_; refine Z204 ?_; refine Z148 ?_; refine Z97 ?_; refine Z219 ?_; refine qo (zah L 900 (zab b (uC d4 ++ rest) tyU) (.tuple #[.int .i64 mid, .bool ap]) (r := zab b (uC R.pi.1 ++ rest) tyU) rfl rfl rfl rfl rfl (fun u H C hH hle hr hC => by have h := zea (rest := rest) (cap := cap) (d := R.pi.1) hpv.1 hpv.2 (by omega) (m := m) (by omega) hm1 hH hr hC; rw [hx] at h; exact h)) ?_; refine Z240 ?_; refine Z399 ?_; refine Z301 ?_; refine Z208 ?_; refine Z208 ?_; refine Z199 ?_; refine Z302 ?_; refine Z50 ?_; refine Z332 ?_; refine Z311 ?_; refine Z155 ?_; refine Z333 ?_; refine Z42 ?_; refine Z144 ?_; refine zf (id := 26) ?_; refine Z219 ?_; refine qo (za0 L 900 (zab b (uC LL ++ rest) tyU) (r := zab b (uC d4 ++ rest) tyU) rfl rfl rfl rfl rfl (fun u H C hH _ hr hC => by rw [hLL]; exact ih (by omega) g1 (by omega) (by omega) hm1 hlle g4 hH hr hC)) ?_; refine Z137 ?_; refine zf (id := 27) ?_; refine Z1 ?_; refine Z209 ?_; refine ya ?_
       exact yh (x := (((x, y), l), ((wb, wp), D))) (((mid + 1, y), R.lim), ((true, ap), LL)) ⟨by dsimp only; omega, hy, by dsimp only; omega, hlle, by dsimp only; omega, gB, hn.symm⟩ (by dsimp only; omega) ⟨rfl, rfl, rfl, rfl, rfl, rfl, rfl, trivial⟩
      ·rw [decide_eq_false h8] at hn
       refine Z139 ?_; refine Z94 ?_; refine Z3 ?_; refine Z88 ?_; refine Z179 ?_; refine Z58 ?_; refine z8 (qg L _ rfl rfl rfl rfl rfl rfl rfl (by omega)) rfl ?_; refine qn (qp L (q := 900) rfl rfl rfl rfl rfl q1) rfl rfl ?_; refine Z145 ?_; refine z8 (qg L _ rfl rfl rfl rfl rfl rfl rfl (by omega)) rfl ?_; refine qn (qp L (q := 900) rfl rfl rfl rfl rfl q2) rfl rfl ?_; refine z8 (zp L rfl rfl (zk rfl) rfl rfl rfl (fun u H hH _ _ => zbc hc hH)) rfl ?_; refine Z64 ?_; refine Z204 ?_; refine Z148 ?_; refine Z97 ?_; refine Z219 ?_; refine qo (zah L 900 (zab b (uC d4 ++ rest) tyU) (.tuple #[.int .i64 mid, .bool ap]) (r := zab b (uC R.pi.1 ++ rest) tyU) rfl rfl rfl rfl rfl (fun u H C hH hle hr hC => by have h := zea (rest := rest) (cap := cap) (d := R.pi.1) hpv.1 hpv.2 (by omega) (m := m) (by omega) hm1 hH hr hC; rw [hx] at h; exact h)) ?_; refine Z240 ?_; refine Z399 ?_; refine Z301 ?_; refine Z208 ?_; refine Z208 ?_; refine Z199 ?_; refine Z302 ?_; refine Z50 ?_; refine Z332 ?_; refine Z311 ?_; refine Z155 ?_; refine Z333 ?_; refine Z46 ?_; refine Z144 ?_; refine zf (id := 26) ?_; refine Z219 ?_; refine qo (za0 L 900 (zab b (uC LL ++ rest) tyU) (r := zab b (uC d4 ++ rest) tyU) rfl rfl rfl rfl rfl (fun u H C hH _ hr hC => by rw [hLL]; exact ih (by omega) g1 (by omega) (by omega) hm1 hlle g4 hH hr hC)) ?_; refine Z137 ?_; refine zf (id := 27) ?_; refine Z1 ?_; refine Z209 ?_; refine ya ?_
       exact yh (x := (((x, y), l), ((wb, wp), D))) (((mid + 1, y), R.lim), ((false, ap), LL)) ⟨by dsimp only; omega, hy, by dsimp only; omega, hlle, by dsimp only; omega, gB, hn.symm⟩ (by dsimp only; omega) ⟨rfl, rfl, rfl, rfl, rfl, rfl, rfl, trivial⟩
     ·have hn := hright h2 h2b (by rw [hx]; exact ⟨g1, g2⟩) (by rw [hx]; exact hlr)
      rw [hx] at hn
      dsimp only at hn
      obtain ⟨pL, sL⟩ := pdq_sorts lt swo_ltInt d4 (mid + 1) y R.lim true true (by omega) (by omega) g5
      obtain ⟨LL, hLL⟩ : ∃ LL, LL = pdq lt d4 (mid + 1) y R.lim true true := ⟨_, rfl⟩
      rw [← hLL] at hn pL sL
      obtain ⟨gB, _⟩ := gR LL pL sL
      have hLs : LL.size = d4.size := pL.1
      by_cases h8 : y - mid ≥ (y - x) / 8
      ·rw [decide_eq_true h8] at hn
       refine Z139 ?_; refine Z94 ?_; refine Z3 ?_; refine Z88 ?_; refine Z179 ?_; refine Z58 ?_; refine z8 (qg L _ rfl rfl rfl rfl rfl rfl rfl (by omega)) rfl ?_; refine qn (qp L (q := 900) rfl rfl rfl rfl rfl q1) rfl rfl ?_; refine Z145 ?_; refine z8 (qg L _ rfl rfl rfl rfl rfl rfl rfl (by omega)) rfl ?_; refine qn (qp L (q := 900) rfl rfl rfl rfl rfl q2) rfl rfl ?_; refine z8 (zp L rfl rfl (zk rfl) rfl rfl rfl (fun u H hH _ _ => zbc hc hH)) rfl ?_; refine Z64 ?_; refine Z204 ?_; refine Z148 ?_; refine Z97 ?_; refine Z219 ?_; refine qo (zah L 900 (zab b (uC d4 ++ rest) tyU) (.tuple #[.int .i64 mid, .bool ap]) (r := zab b (uC R.pi.1 ++ rest) tyU) rfl rfl rfl rfl rfl (fun u H C hH hle hr hC => by have h := zea (rest := rest) (cap := cap) (d := R.pi.1) hpv.1 hpv.2 (by omega) (m := m) (by omega) hm1 hH hr hC; rw [hx] at h; exact h)) ?_; refine Z240 ?_; refine Z399 ?_; refine Z301 ?_; refine Z208 ?_; refine Z208 ?_; refine Z199 ?_; refine Z302 ?_; refine Z50 ?_; refine Z332 ?_; refine Z266 ?_; refine Z365 ?_; refine zf (id := 28) ?_; refine Z140 ?_; refine Z42 ?_; refine Z144 ?_; refine zf (id := 29) ?_; refine Z285 ?_; refine Z140 ?_; refine qo (za0 L 900 (zab b (uC LL ++ rest) tyU) (r := zab b (uC d4 ++ rest) tyU) rfl rfl rfl rfl rfl (fun u H C hH _ hr hC => by rw [hLL]; exact ih (by omega) (by omega) hy (by omega) hm1 hlle g5 hH hr hC)) ?_; refine Z137 ?_; refine zf (id := 30) ?_; refine Z1 ?_; refine Z243 ?_
       exact yh (x := (((x, y), l), ((wb, wp), D))) (((x, mid), R.lim), ((true, ap), LL)) ⟨by dsimp only; omega, by dsimp only; omega, by dsimp only; omega, hlle, by dsimp only; omega, gB, hn.symm⟩ (by dsimp only; omega) ⟨rfl, rfl, rfl, rfl, rfl, rfl, rfl, trivial⟩
      ·rw [decide_eq_false h8] at hn
       refine Z139 ?_; refine Z94 ?_; refine Z3 ?_; refine Z88 ?_; refine Z179 ?_; refine Z58 ?_; refine z8 (qg L _ rfl rfl rfl rfl rfl rfl rfl (by omega)) rfl ?_; refine qn (qp L (q := 900) rfl rfl rfl rfl rfl q1) rfl rfl ?_; refine Z145 ?_; refine z8 (qg L _ rfl rfl rfl rfl rfl rfl rfl (by omega)) rfl ?_; refine qn (qp L (q := 900) rfl rfl rfl rfl rfl q2) rfl rfl ?_; refine z8 (zp L rfl rfl (zk rfl) rfl rfl rfl (fun u H hH _ _ => zbc hc hH)) rfl ?_; refine Z64 ?_; refine Z204 ?_; refine Z148 ?_; refine Z97 ?_; refine Z219 ?_; refine qo (zah L 900 (zab b (uC d4 ++ rest) tyU) (.tuple #[.int .i64 mid, .bool ap]) (r := zab b (uC R.pi.1 ++ rest) tyU) rfl rfl rfl rfl rfl (fun u H C hH hle hr hC => by have h := zea (rest := rest) (cap := cap) (d := R.pi.1) hpv.1 hpv.2 (by omega) (m := m) (by omega) hm1 hH hr hC; rw [hx] at h; exact h)) ?_; refine Z240 ?_; refine Z399 ?_; refine Z301 ?_; refine Z208 ?_; refine Z208 ?_; refine Z199 ?_; refine Z302 ?_; refine Z50 ?_; refine Z332 ?_; refine Z266 ?_; refine Z365 ?_; refine zf (id := 28) ?_; refine Z140 ?_; refine Z46 ?_; refine Z144 ?_; refine zf (id := 29) ?_; refine Z285 ?_; refine Z140 ?_; refine qo (za0 L 900 (zab b (uC LL ++ rest) tyU) (r := zab b (uC d4 ++ rest) tyU) rfl rfl rfl rfl rfl (fun u H C hH _ hr hC => by rw [hLL]; exact ih (by omega) (by omega) hy (by omega) hm1 hlle g5 hH hr hC)) ?_; refine Z137 ?_; refine zf (id := 30) ?_; refine Z1 ?_; refine Z243 ?_
       exact yh (x := (((x, y), l), ((wb, wp), D))) (((x, mid), R.lim), ((false, ap), LL)) ⟨by dsimp only; omega, by dsimp only; omega, by dsimp only; omega, hlle, by dsimp only; omega, gB, hn.symm⟩ (by dsimp only; omega) ⟨rfl, rfl, rfl, rfl, rfl, rfl, rfl, trivial⟩
   ·have h2b : (decide (x > 0) && !lt R.pi.1[x - 1]! R.pi.1[R.pivot]!) = false := by simp [hx0]
    obtain ⟨mid, ap, d4, hx⟩ : ∃ mid ap d4, Go.Sort.partition lt R.pi.1 x y R.pivot = (mid, ap, d4) := ⟨_, _, _, rfl⟩
    obtain ⟨g1, g2, g3, g4, g5, gL, gR⟩ := round_part swo_ltInt (partition_holds lt) hpv.1 hpv.2 (by omega) B3 hx
    have w1 : IntKind.i64.wrap ((mid : Int) - (x : Int)) = ((mid - x : Nat) : Int) := zaa (by omega) (by omega) |>.trans (by omega)
    have w2 : IntKind.i64.wrap ((y : Int) - (mid : Int)) = ((y - mid : Nat) : Int) := zaa (by omega) (by omega) |>.trans (by omega)
    have w4 : IntKind.i64.wrap ((mid : Int) + 1) = ((mid + 1 : Nat) : Int) := zaa (by omega) (by omega)
    have et : ((y - x : Nat) : Int).tdiv 8 = (((y - x) / 8 : Nat) : Int) := by
     rw [Int.tdiv_eq_ediv_of_nonneg (by omega)]
     omega
    have w3 : IntKind.i64.wrap (((y - x : Nat) : Int).tdiv 8) = (((y - x) / 8 : Nat) : Int) := by rw [et]; exact zaa (by omega) (by omega)
    by_cases hlr : mid - x < y - mid
    ·have hn := hleft h2 h2b (by rw [hx]; exact ⟨g1, g2⟩) (by rw [hx]; exact hlr)
     rw [hx] at hn
     dsimp only at hn
     obtain ⟨pL, sL⟩ := pdq_sorts lt swo_ltInt d4 x mid R.lim true true g1 (by omega) g4
     obtain ⟨LL, hLL⟩ : ∃ LL, LL = pdq lt d4 x mid R.lim true true := ⟨_, rfl⟩
     rw [← hLL] at hn pL sL
     obtain ⟨gB, _⟩ := gL LL pL sL
     have hLs : LL.size = d4.size := pL.1
     by_cases h8 : mid - x ≥ (y - x) / 8
     ·rw [decide_eq_true h8] at hn
      refine Z139 ?_; refine Z94 ?_; refine Z3 ?_; refine Z93 ?_; refine Z295 ?_; refine Z6 ?_; refine Z204 ?_; refine Z148 ?_; refine Z97 ?_; refine Z219 ?_; refine qo (zah L 900 (zab b (uC d4 ++ rest) tyU) (.tuple #[.int .i64 mid, .bool ap]) (r := zab b (uC R.pi.1 ++ rest) tyU) rfl rfl rfl rfl rfl (fun u H C hH hle hr hC => by have h := zea (rest := rest) (cap := cap) (d := R.pi.1) hpv.1 hpv.2 (by omega) (m := m) (by omega) hm1 hH hr hC; rw [hx] at h; exact h)) ?_; refine Z240 ?_; refine Z399 ?_; refine Z301 ?_; refine Z208 ?_; refine Z208 ?_; refine Z199 ?_; refine Z302 ?_; refine Z50 ?_; refine Z332 ?_; refine Z311 ?_; refine Z155 ?_; refine Z333 ?_; refine Z42 ?_; refine Z144 ?_; refine zf (id := 26) ?_; refine Z219 ?_; refine qo (za0 L 900 (zab b (uC LL ++ rest) tyU) (r := zab b (uC d4 ++ rest) tyU) rfl rfl rfl rfl rfl (fun u H C hH _ hr hC => by rw [hLL]; exact ih (by omega) g1 (by omega) (by omega) hm1 hlle g4 hH hr hC)) ?_; refine Z137 ?_; refine zf (id := 27) ?_; refine Z1 ?_; refine Z209 ?_; refine ya ?_
      exact yh (x := (((x, y), l), ((wb, wp), D))) (((mid + 1, y), R.lim), ((true, ap), LL)) ⟨by dsimp only; omega, hy, by dsimp only; omega, hlle, by dsimp only; omega, gB, hn.symm⟩ (by dsimp only; omega) ⟨rfl, rfl, rfl, rfl, rfl, rfl, rfl, trivial⟩
     ·rw [decide_eq_false h8] at hn
      refine Z139 ?_; refine Z94 ?_; refine Z3 ?_; refine Z93 ?_; refine Z295 ?_; refine Z6 ?_; refine Z204 ?_; refine Z148 ?_; refine Z97 ?_; refine Z219 ?_; refine qo (zah L 900 (zab b (uC d4 ++ rest) tyU) (.tuple #[.int .i64 mid, .bool ap]) (r := zab b (uC R.pi.1 ++ rest) tyU) rfl rfl rfl rfl rfl (fun u H C hH hle hr hC => by have h := zea (rest := rest) (cap := cap) (d := R.pi.1) hpv.1 hpv.2 (by omega) (m := m) (by omega) hm1 hH hr hC; rw [hx] at h; exact h)) ?_; refine Z240 ?_; refine Z399 ?_; refine Z301 ?_; refine Z208 ?_; refine Z208 ?_; refine Z199 ?_; refine Z302 ?_; refine Z50 ?_; refine Z332 ?_; refine Z311 ?_; refine Z155 ?_; refine Z333 ?_; refine Z46 ?_; refine Z144 ?_; refine zf (id := 26) ?_; refine Z219 ?_; refine qo (za0 L 900 (zab b (uC LL ++ rest) tyU) (r := zab b (uC d4 ++ rest) tyU) rfl rfl rfl rfl rfl (fun u H C hH _ hr hC => by rw [hLL]; exact ih (by omega) g1 (by omega) (by omega) hm1 hlle g4 hH hr hC)) ?_; refine Z137 ?_; refine zf (id := 27) ?_; refine Z1 ?_; refine Z209 ?_; refine ya ?_
      exact yh (x := (((x, y), l), ((wb, wp), D))) (((mid + 1, y), R.lim), ((false, ap), LL)) ⟨by dsimp only; omega, hy, by dsimp only; omega, hlle, by dsimp only; omega, gB, hn.symm⟩ (by dsimp only; omega) ⟨rfl, rfl, rfl, rfl, rfl, rfl, rfl, trivial⟩
    ·have hn := hright h2 h2b (by rw [hx]; exact ⟨g1, g2⟩) (by rw [hx]; exact hlr)
     rw [hx] at hn
     dsimp only at hn
     obtain ⟨pL, sL⟩ := pdq_sorts lt swo_ltInt d4 (mid + 1) y R.lim true true (by omega) (by omega) g5
     obtain ⟨LL, hLL⟩ : ∃ LL, LL = pdq lt d4 (mid + 1) y R.lim true true := ⟨_, rfl⟩
     rw [← hLL] at hn pL sL
     obtain ⟨gB, _⟩ := gR LL pL sL
     have hLs : LL.size = d4.size := pL.1
     by_cases h8 : y - mid ≥ (y - x) / 8
     ·rw [decide_eq_true h8] at hn
      refine Z139 ?_; refine Z94 ?_; refine Z3 ?_; refine Z93 ?_; refine Z295 ?_; refine Z6 ?_; refine Z204 ?_; refine Z148 ?_; refine Z97 ?_; refine Z219 ?_; refine qo (zah L 900 (zab b (uC d4 ++ rest) tyU) (.tuple #[.int .i64 mid, .bool ap]) (r := zab b (uC R.pi.1 ++ rest) tyU) rfl rfl rfl rfl rfl (fun u H C hH hle hr hC => by have h := zea (rest := rest) (cap := cap) (d := R.pi.1) hpv.1 hpv.2 (by omega) (m := m) (by omega) hm1 hH hr hC; rw [hx] at h; exact h)) ?_; refine Z240 ?_; refine Z399 ?_; refine Z301 ?_; refine Z208 ?_; refine Z208 ?_; refine Z199 ?_; refine Z302 ?_; refine Z50 ?_; refine Z332 ?_; refine Z266 ?_; refine Z365 ?_; refine zf (id := 28) ?_; refine Z140 ?_; refine Z42 ?_; refine Z144 ?_; refine zf (id := 29) ?_; refine Z285 ?_; refine Z140 ?_; refine qo (za0 L 900 (zab b (uC LL ++ rest) tyU) (r := zab b (uC d4 ++ rest) tyU) rfl rfl rfl rfl rfl (fun u H C hH _ hr hC => by rw [hLL]; exact ih (by omega) (by omega) hy (by omega) hm1 hlle g5 hH hr hC)) ?_; refine Z137 ?_; refine zf (id := 30) ?_; refine Z1 ?_; refine Z243 ?_
      exact yh (x := (((x, y), l), ((wb, wp), D))) (((x, mid), R.lim), ((true, ap), LL)) ⟨by dsimp only; omega, by dsimp only; omega, by dsimp only; omega, hlle, by dsimp only; omega, gB, hn.symm⟩ (by dsimp only; omega) ⟨rfl, rfl, rfl, rfl, rfl, rfl, rfl, trivial⟩
     ·rw [decide_eq_false h8] at hn
      refine Z139 ?_; refine Z94 ?_; refine Z3 ?_; refine Z93 ?_; refine Z295 ?_; refine Z6 ?_; refine Z204 ?_; refine Z148 ?_; refine Z97 ?_; refine Z219 ?_; refine qo (zah L 900 (zab b (uC d4 ++ rest) tyU) (.tuple #[.int .i64 mid, .bool ap]) (r := zab b (uC R.pi.1 ++ rest) tyU) rfl rfl rfl rfl rfl (fun u H C hH hle hr hC => by have h := zea (rest := rest) (cap := cap) (d := R.pi.1) hpv.1 hpv.2 (by omega) (m := m) (by omega) hm1 hH hr hC; rw [hx] at h; exact h)) ?_; refine Z240 ?_; refine Z399 ?_; refine Z301 ?_; refine Z208 ?_; refine Z208 ?_; refine Z199 ?_; refine Z302 ?_; refine Z50 ?_; refine Z332 ?_; refine Z266 ?_; refine Z365 ?_; refine zf (id := 28) ?_; refine Z140 ?_; refine Z46 ?_; refine Z144 ?_; refine zf (id := 29) ?_; refine Z285 ?_; refine Z140 ?_; refine qo (za0 L 900 (zab b (uC LL ++ rest) tyU) (r := zab b (uC d4 ++ rest) tyU) rfl rfl rfl rfl rfl (fun u H C hH _ hr hC => by rw [hLL]; exact ih (by omega) (by omega) hy (by omega) hm1 hlle g5 hH hr hC)) ?_; refine Z137 ?_; refine zf (id := 30) ?_; refine Z1 ?_; refine Z243 ?_
      exact yh (x := (((x, y), l), ((wb, wp), D))) (((x, mid), R.lim), ((false, ap), LL)) ⟨by dsimp only; omega, by dsimp only; omega, by dsimp only; omega, hlle, by dsimp only; omega, gB, hn.symm⟩ (by dsimp only; omega) ⟨rfl, rfl, rfl, rfl, rfl, rfl, rfl, trivial⟩
end Go.V.So
set_option maxRecDepth 20000
namespace Go.V.So
open Go.Proofs Go.RowKit Go.V Go.Sort
theorem _root_.Go.V.Z85 {A B : Prop} (h : B) (t : Wr B → A := by intro h; refine z7 (zme L rfl rfl rfl rfl) rfl ?_; exact h.h) : A := t ⟨h⟩
attribute [local irreducible] V N X VO Par StepOK Has Ret RetL RetO zcb zdt Src
set_option maxRecDepth 20000 in
theorem sortU_ret {d : Array Int} {rest : List Value} {b m cap : Nat} (hm : d.size = m) (hm1 : m ≤ 100000) {w : World} {B : Heap} {C : Nat → Prop} (hB : B.Le (hp w))
  (hr : (zab b (uC d ++ rest) tyU).P B w C) (hC : ∀ k, C k → k < w.heap.size ∧ B k = none) :
  zcb Tryz.prog 44 [.slice (some ⟨b, 0, none⟩) m cap] w B C (zab b (uC (Go.Sort.sort lt d) ++ rest) tyU) := by
 unfold zcb
 refine zas 900 (zab b (uC d ++ rest) tyU) Tryz.func44 rfl Tryz.ntmps44 (Nat.le_of_ble_eq_true rfl) hB hr hC ?_
 rw [za1]
 have hc : IntKind.u64.wrap (m : Int) = (m : Int) := wrap_u64 (by omega) (by omega)
 have hb17 : bitsLen m ≤ 17 := (bitsLen_le_iff m 17).2 (by omega)
 refine Z146 ?_; refine Z1 ?_; refine Z85 ?_; refine Z138 ?_; refine Z20 ?_; refine Z174 ?_; refine z7 (zau rfl rfl rfl zbn.1 zbn.2 (wrap_u64 (by omega) (by omega))) rfl ?_; refine z7 (zp L rfl rfl (zk rfl) rfl rfl rfl (fun u H hH _ _ => zkm (by omega) hH)) rfl ?_; refine qo (za0 L 900 (zab b (uC (Go.Sort.sort lt d) ++ rest) tyU) (r := zab b (uC d ++ rest) tyU) rfl rfl rfl rfl rfl (fun u H C hH _ hr hC => by have h := zzu (rest := rest) (cap := cap) (m := m) (d := d) (a := 0) (e := m) (lim := bitsLen m) (m + 1) (by omega) (by omega) (by omega) hm hm1 (by omega) (Or.inl rfl) hH hr hC; unfold Go.Sort.sort; rw [hm]; exact h)) ?_; refine zi ?_
 exact zba L 900 (r := zab b _ tyU) rfl (fun _ _ h => h) Since.refl rfl rfl
end Go.V.So
set_option maxRecDepth 20000
namespace Go.V
open Go.RowKit
section
variable {P : Program} {F : Fr} {B : Heap} {O : Boxes} {n : Nat} {ops : Array Oper} {κ : Kap} {d : Nat} {ty : TypeId} {pos : String} {aft : Array Edge} {g : Option (Nat × Bool)} {a : Act} {u : World} {H : Heap} {fp : Nat → Nat → Prop} {os : List Oper} {Q : Exit → Act → World → Prop} {ex : Exs}
theorem zkk {b : Nat} {cs : List Value} {t : TypeId} (hb : u.heap[b]? = some (.cells cs.toArray t)) (off j : Nat) : u.cell? ((⟨b, off, none⟩ : Addr).add j) = cs[off + j]? := by
 rw [zc4, za2 hb]; simp
theorem zic {cs news : List Value} {off k j : Nat} {v : Value} (hn : news = (cs.drop off).take k) (hj : news[j]? = some v) : cs[off + j]? = some v := by
 subst hn
 rw [List.getElem?_take] at hj
 split at hj
 ·rwa [List.getElem?_drop] at hj
 ·cases hj
theorem zjm {t ti e : TypeId} {i : TypeInfo} {b off m c k : Nat} {cur : List Value} {ty0 : TypeId} {ad : Addr} {m' c' : Nat} {news : List Value} (ht : P.underlying t = some (.slice e)) (hi : P.info? e = some i) (hb : u.heap[b]? = some (.cells cur.toArray ty0)) (hl : news.length = k * i.size) (hk : Nat.min m' m = k) (hcl : off + news.length ≤ cur.length)
  (h1 : ∀ v ∈ news, v.oneCell' = true) (hy : ∀ j v, news[j]? = some v → u.cell? (ad.add j) = some v) :
  (Builtin.copy_ #[t, ti] ty #[.slice (some ⟨b, off, none⟩) m c, .slice (some ad) m' c']).run P u = .ok (goInt k) (u.setRow b (cur.take off ++ (news ++ cur.drop (off + news.length))).toArray) := by
 have hf := run_firstCells_some (P := P) u i.size k ad m' c' news hl hy
 have hst := zcl (P := P) b ty0 off news 0 cur.toArray u hb (by simpa using hcl) h1
 simp only [Nat.add_zero, List.append_assoc] at hst
 simp [Builtin.copy_, run_underlying ht, Builtin.lenOf, sizeOf, typeInfo, hi, hk, hf, hst]
theorem zmf (L : Tabs P) {q b off m c m' : Nat} {x y : Operand} {t e ti t' : TypeId} {s by_ : Nat} {cur all news cur' : List Value} (k : Nat) (hn : Nat.blt d n = true) (hg : gK ops κ ⟨some d, .call ⟨.builtin .copy, #[x, y], #[t, ti]⟩, ty, pos, aft, g⟩ = some true)
  (hx : evK κ x = some (.slice (some ⟨b, off, none⟩) m c)) (hq : κ q = some (.own (zal b cur t'))) (hy : Apd F B O κ y m' all) (ht : L.sl t = some e) (he : elI P e = some (s, by_)) (hm : 0 < m') (hk : Nat.min m' m = k) (hal : k * s ≤ all.length) (hnews : all.take (k * s) = news) (hcl : off + k * s ≤ cur.length) (h1 : news.all zbi = true)
  (hr : cur.take off ++ (news ++ cur.drop (off + k * s)) = cur') :
  StepOK2 P F B n ops O κ ⟨some d, .call ⟨.builtin .copy, #[x, y], #[t, ti]⟩, ty, pos, aft, g⟩ q (.own (zal b cur' t')) d (.is (.int .i64 k)) := by
 rintro κ' a u hlk hks ⟨H, fp, hh⟩
 unfold After
 rw [if_pos (zaf hh hlk hg)]
 have en := hh.env hlk
 have hk' : κ' q = some (.own (zal b cur t')) := hks.trans hq
 have hxe := en.is_ x _ (by simp [Op.operands, Call.operands]) hx
 obtain ⟨⟨hb, hC⟩, hM⟩ := hh.slot q _ hk'
 obtain ⟨i, z, hi, hz, hs1, hs2, hs3, hs4⟩ := zb8 he
 subst hs1
 have hnl : news.length = k * i.size := by rw [← hnews, List.length_take, Nat.min_eq_left hal]
 rcases hy _ a u H fp (by simp [Op.operands, Call.operands]) en with ⟨h0, _⟩ | ⟨ad, c', hye, hcy⟩
 ·omega
 have hrun0 := zjm (P := P) (ty := ty) (ti := ti) (c := c) (c' := c') (Tabs.sl_spec ht) hi hb hnl hk (by rw [hnl]; exact hcl) (fun v hv => zc2 (List.all_eq_true.1 h1 v hv)) (ad := ad) (fun j v hj => hcy j v (by
  rw [← hnews, List.getElem?_take] at hj
  split at hj
  ·exact hj
  ·cases hj))
 rw [hnl, hr] at hrun0
 have hrun : (execOp a.eval ⟨some d, .call ⟨.builtin .copy, #[x, y], #[t, ti]⟩, ty, pos, aft, g⟩).run P u = .ok (.value (goInt k)) (u.setRow b cur'.toArray) := by
  simp only [execOp, resolve, invoke, builtin, Sem.run_bind, Sem.run_pure, Result.andThen_ok, List.map_toArray, List.map_cons, List.map_nil, hxe, hye, hrun0]
 rw [hrun]
 simp only [Upon]
 have hbm := hM b ((hC b).2 rfl)
 have h2 := hh.usePut (d := q) (a' := a) (r' := zal b cur' t') (C := fun k => k = b) hk' (zbl hh.sub hb ((hC b).2 rfl) hbm.2.1 _) rfl rfl (fun _ _ => rfl) ⟨setRow_heap u b cur.toArray cur'.toArray t' (0, 0) hb, fun _ => Iff.rfl⟩ (fun k hk => by
  subst hk; exact ⟨.inl ((hC k).2 rfl), by rw [setRow_size]; exact hbm.1, hbm.2.1⟩)
 rw [za6] at h2
 exact ⟨H, _, h2.put (k := .is (.int .i64 k)) (zk hn) trivial rfl⟩
theorem zuh (L : Tabs P) {q b off m c off2 m' c' : Nat} {x y : Operand} {t e ti t' : TypeId} {s by_ : Nat} {cur news cur' : List Value} (k : Nat) (hn : Nat.blt d n = true) (hg : gK ops κ ⟨some d, .call ⟨.builtin .copy, #[x, y], #[t, ti]⟩, ty, pos, aft, g⟩ = some true)
  (hx : evK κ x = some (.slice (some ⟨b, off, none⟩) m c)) (hq : κ q = some (.own (zal b cur t'))) (hy : evK κ y = some (.slice (some ⟨b, off2, none⟩) m' c')) (ht : L.sl t = some e) (he : elI P e = some (s, by_)) (hk : Nat.min m' m = k) (hnews : (cur.drop off2).take (k * s) = news) (hnl : news.length = k * s) (hcl : off + k * s ≤ cur.length) (h1 : news.all zbi = true)
  (hr : cur.take off ++ (news ++ cur.drop (off + k * s)) = cur') :
  StepOK2 P F B n ops O κ ⟨some d, .call ⟨.builtin .copy, #[x, y], #[t, ti]⟩, ty, pos, aft, g⟩ q (.own (zal b cur' t')) d (.is (.int .i64 k)) := by
 rintro κ' a u hlk hks ⟨H, fp, hh⟩
 unfold After
 rw [if_pos (zaf hh hlk hg)]
 have en := hh.env hlk
 have hk' : κ' q = some (.own (zal b cur t')) := hks.trans hq
 have hxe := en.is_ x _ (by simp [Op.operands, Call.operands]) hx
 have hye := en.is_ y _ (by simp [Op.operands, Call.operands]) hy
 obtain ⟨⟨hb, hC⟩, hM⟩ := hh.slot q _ hk'
 obtain ⟨i, z, hi, hz, hs1, hs2, hs3, hs4⟩ := zb8 he
 subst hs1
 have hrun0 := zjm (P := P) (ty := ty) (ti := ti) (c := c) (c' := c') (Tabs.sl_spec ht) hi hb hnl hk (by rw [hnl]; exact hcl) (fun v hv => zc2 (List.all_eq_true.1 h1 v hv)) (ad := ⟨b, off2, none⟩) (fun j v hj => (zkk hb off2 j).trans (zic hnews.symm hj))
 rw [hnl, hr] at hrun0
 have hrun : (execOp a.eval ⟨some d, .call ⟨.builtin .copy, #[x, y], #[t, ti]⟩, ty, pos, aft, g⟩).run P u = .ok (.value (goInt k)) (u.setRow b cur'.toArray) := by
  simp only [execOp, resolve, invoke, builtin, Sem.run_bind, Sem.run_pure, Result.andThen_ok, List.map_toArray, List.map_cons, List.map_nil, hxe, hye, hrun0]
 rw [hrun]
 simp only [Upon]
 have hbm := hM b ((hC b).2 rfl)
 have h2 := hh.usePut (d := q) (a' := a) (r' := zal b cur' t') (C := fun k => k = b) hk' (zbl hh.sub hb ((hC b).2 rfl) hbm.2.1 _) rfl rfl (fun _ _ => rfl) ⟨setRow_heap u b cur.toArray cur'.toArray t' (0, 0) hb, fun _ => Iff.rfl⟩ (fun k hk => by
  subst hk; exact ⟨.inl ((hC k).2 rfl), by rw [setRow_size]; exact hbm.1, hbm.2.1⟩)
 rw [za6] at h2
 exact ⟨H, _, h2.put (k := .is (.int .i64 k)) (zk hn) trivial rfl⟩
theorem zj1 (L : Tabs P) {q b nn cap off2 m' c' : Nat} {x y : Operand} {t e : TypeId} {s by_ : Nat} {cur news cur' : List Value} (hn : Nat.blt d n = true) (hg : gK ops κ ⟨some d, .call ⟨.builtin .append, #[x, y], #[t, t]⟩, ty, pos, aft, g⟩ = some true)
  (hx : evK κ x = some (.slice (some ⟨b, 0, none⟩) nn cap)) (hq : κ q = some (.own (zal b cur e))) (hy : evK κ y = some (.slice (some ⟨b, off2, none⟩) m' c')) (ht : L.sl t = some e) (he : elI P e = some (s, by_)) (hnews : (cur.drop off2).take (m' * s) = news) (hnl : news.length = m' * s) (hroom : nn + m' ≤ cap) (hcl : nn * s + m' * s ≤ cur.length) (h1 : news.all zbi = true)
  (hr : cur.take (nn * s) ++ (news ++ cur.drop (nn * s + m' * s)) = cur') :
  StepOK2 P F B n ops O κ ⟨some d, .call ⟨.builtin .append, #[x, y], #[t, t]⟩, ty, pos, aft, g⟩ q (.own (zal b cur' e)) d (.is (.slice (some ⟨b, 0, none⟩) (nn + m') cap)) := by
 rintro κ' a u hlk hks ⟨H, fp, hh⟩
 unfold After
 rw [if_pos (zaf hh hlk hg)]
 have en := hh.env hlk
 have hk' : κ' q = some (.own (zal b cur e)) := hks.trans hq
 have hxe := en.is_ x _ (by simp [Op.operands, Call.operands]) hx
 have hye := en.is_ y _ (by simp [Op.operands, Call.operands]) hy
 obtain ⟨⟨hb, hC⟩, hM⟩ := hh.slot q _ hk'
 obtain ⟨i, z, hi, hz, hs1, hs2, hs3, hs4⟩ := zb8 he
 subst hs1
 have hrun0 := run_append_room (P := P) u t ty e i (Tabs.sl_spec ht) hi b nn cap cur.toArray hb ⟨b, off2, none⟩ m' c' news hnl (fun j v hj => (zkk hb off2 j).trans (zic hnews.symm hj)) (fun v hv => zc2 (List.all_eq_true.1 h1 v hv)) hroom (by rw [hnl]; simpa using hcl)
 rw [hnl] at hrun0
 simp only [List.append_assoc] at hrun0
 rw [hr] at hrun0
 have hrun : (execOp a.eval ⟨some d, .call ⟨.builtin .append, #[x, y], #[t, t]⟩, ty, pos, aft, g⟩).run P u = .ok (.value (.slice (some ⟨b, 0, none⟩) (nn + m') cap)) (u.setRow b cur'.toArray) := by
  simp only [execOp, resolve, invoke, builtin, Sem.run_bind, Sem.run_pure, Result.andThen_ok, List.map_toArray, List.map_cons, List.map_nil, hxe, hye, hrun0]
 rw [hrun]
 simp only [Upon]
 have hbm := hM b ((hC b).2 rfl)
 have h2 := hh.usePut (d := q) (a' := a) (r' := zal b cur' e) (C := fun k => k = b) hk' (zbl hh.sub hb ((hC b).2 rfl) hbm.2.1 _) rfl rfl (fun _ _ => rfl) ⟨setRow_heap u b cur.toArray cur'.toArray e (0, 0) hb, fun _ => Iff.rfl⟩ (fun k hk => by
  subst hk; exact ⟨.inl ((hC k).2 rfl), by rw [setRow_size]; exact hbm.1, hbm.2.1⟩)
 rw [za6] at h2
 exact ⟨H, _, h2.put (k := .is _) (zk hn) trivial rfl⟩
theorem zrw (L : Tabs P) {q b nn cap k : Nat} {x y : Operand} {t ti e t' : TypeId} {s by_ : Nat} {kn : IntKind} {cur xs zs : List Value} {z : Value} (hn : Nat.blt d n = true) (hg : gK ops κ ⟨some d, .call ⟨.builtin .append, #[x, y], #[t, ti]⟩, ty, pos, aft, g⟩ = some true)
  (hx : evK κ x = some (.slice (some ⟨b, 0, none⟩) nn cap)) (hq : κ q = some (.own (zal b cur t'))) (hy : evK κ y = some (.int .i64 k)) (ht : L.sl t = some e) (hti : P.underlying ti = some (.int kn)) (he : elI P e = some (s, by_)) (hz : L.zr e = some z) (h0 : 0 < k) (hg2 : cap < nn + k) (hxs : cur.take (nn * s) = xs) (hxl : nn * s ≤ cur.length) (hzs : (Builtin.zeroCells z.cells k).toList = zs)
  (hb : (nn + k) * by_ ≤ 140737488355328) (h63 : nn + k ≤ 4611686018427387904) :
  zdi P F B n ops O κ ⟨some d, .call ⟨.builtin .append, #[x, y], #[t, ti]⟩, ty, pos, aft, g⟩ q d (.own (SlR e s (nn + k) (xs ++ zs))) := by
 rintro κ' a u hlk hks ⟨H, fp, hh⟩
 unfold After
 rw [if_pos (zaf hh hlk hg)]
 have en := hh.env hlk
 have hk' : κ' q = some (.own (zal b cur t')) := hks.trans hq
 have hxe := en.is_ x _ (by simp [Op.operands, Call.operands]) hx
 have hye := en.is_ y _ (by simp [Op.operands, Call.operands]) hy
 obtain ⟨⟨hbb, hC⟩, hM⟩ := hh.slot q _ hk'
 obtain ⟨i, z', hi, hz', hs1, hs2, hs3, hs4⟩ := zb8 he
 have hzz : i.zero = some z := by
  have := Tabs.zr_spec hz
  unfold zrI at this
  rw [hi] at this
  exact this
 rw [hz'] at hzz
 obtain rfl := Option.some.inj hzz
 subst hs1
 subst hs2
 have hold : (Builtin.firstCells i.size nn (.slice (some ⟨b, 0, none⟩) nn cap)).run P u.drew = .ok xs.toArray u.drew := run_firstCells_some (P := P) u.drew i.size nn ⟨b, 0, none⟩ nn cap xs (by rw [← hxs, List.length_take, Nat.min_eq_left hxl]) fun j v hj => by
  have hb2 : u.drew.heap[b]? = some (.cells cur.toArray t') := hbb
  rw [zkk hb2 0 j, Nat.zero_add]
  rw [← hxs, List.getElem?_take] at hj
  split at hj
  ·exact hj
  ·cases hj
 have hkb : k * i.bytes ≤ (nn + k) * i.bytes := Nat.mul_le_mul_right _ (by omega)
 have hns := growslice_fits hg2 hb
 have hr := Lib.run_append_grow_zeros (P := P) u t ti ty e i z' .i64 kn (Tabs.sl_spec ht) hti hi hz' (some ⟨b, 0, none⟩) nn cap xs hold k h0 hs4 hg2 (by omega) (by omega) hns
 have hrun : (execOp a.eval ⟨some d, .call ⟨.builtin .append, #[x, y], #[t, ti]⟩, ty, pos, aft, g⟩).run P u = .ok (.value (.slice (some ⟨u.heap.size, 0, none⟩) (nn + k) (grownCap u (nn + k) cap e))) (u.drew.alloc (.cells (xs.toArray ++ Builtin.zeroCells z'.cells k ++ Builtin.zeroCells z'.cells (grownCap u (nn + k) cap e - (nn + k))) e)) := by
  simp only [execOp, resolve, invoke, builtin, Sem.run_bind, Sem.run_pure, Result.andThen_ok, List.map_toArray, List.map_cons, List.map_nil, hxe, hye, hr]
 rw [hrun]
 simp only [Upon]
 have hge := grownCap_ge u (nn + k) cap e
 have hmx : nn + k ≤ maxLen := by simp only [maxLen]; omega
 have hxl2 : xs.length = nn * i.size := by rw [← hxs, List.length_take, Nat.min_eq_left hxl]
 have hzl : zs.length = k * i.size := by rw [← hzs, Array.length_toList, size_zeroCells, hs3]
 have hg3 := hh.grow (u' := u.drew.alloc (.cells (xs.toArray ++ Builtin.zeroCells z'.cells k ++ Builtin.zeroCells z'.cells (grownCap u (nn + k) cap e - (nn + k))) e)) (H' := H) ⟨⟨rfl, rfl, rfl, by simp, fun k hk _ => zb2 u.drew _ hk, Nat.le_succ _⟩, fun k v hv => by
  have := hh.sub.size hv
  show (u.drew.alloc _).heap[k]? = some v
  rw [zb2 u.drew _ this]; exact hh.sub k v hv, Heap.Le.refl _, fun _ _ _ => rfl⟩
 refine ⟨H, _, hg3.putR (C := fun k => k = u.heap.size) (by simp [Act.put]) rfl (fun t ht => zan ht) ⟨by rw [List.length_append, hxl2, hzl, Nat.add_mul], .inr ⟨u.heap.size, _, (Builtin.zeroCells z'.cells (grownCap u (nn + k) cap e - (nn + k))).toList, zap (by rw [hh.size]; exact zk hn), ?_, hge, grownCap_le_maxLen u (nn + k) cap e hmx, ?_, fun _ => Iff.rfl⟩⟩ (fun k hk => ?_) fun t r' htd ht k hf hk => ?_⟩
 ·rw [show u.heap.size = u.drew.heap.size from rfl, heap_alloc_new]
  congr 2
  apply Array.ext'
  simp [← hzs]
 ·have hz2 : (Builtin.zeroCells z'.cells (grownCap u (nn + k) cap e - (nn + k))).toList.length = (grownCap u (nn + k) cap e - (nn + k)) * i.size := (Array.length_toList).trans (by rw [size_zeroCells, hs3])
  rw [List.length_append, List.length_append, hz2, hxl2, hzl, ← Nat.add_mul, ← Nat.add_mul]
  congr 1
  omega
 ·subst hk
  exact ⟨by simp, zbf hh.sub (Nat.le_refl _), .inl hh.keep.size, fun y hy e => by have := zag (hh.boxes y hy).1; omega⟩
 ·have := ((hh.slot t _ ht).2 k hf).1
  omega
theorem zo4 (L : Tabs P) {q w b off m f len cap : Nat} {y : Operand} {t e t' : TypeId} {ag : Bool} {s : Nat} {cur cs : List Value} {te : TypeId} {fo : Operand} {tR : TypeId} (hn : Nat.blt d n = true) {at_ : Array TypeId} (hg : gK ops κ ⟨some d, .call { callee := .value fo, args := #[.tmp w, y], argTypes := at_ }, ty, pos, aft, g⟩ = some true)
  (hfo : evK κ fo = some (.func (.func f) #[] #[])) (hext : ∀ args u, (callFunc f args).run P u = ((Extern.SlicesOverlaps.overlaps #[t, t] #[tR] args).run P u).andThen fun v w' => .ok (.value v) w')
  (hx : κ w = some (.sat (SlB cs te len))) (hy : evK κ y = some (.slice (some ⟨b, off, none⟩) m cap)) (hq : κ q = some (.own (zal b cur t'))) (ht : L.sl t = some e) (hl : L.ld e = some (ag, s)) (hc : 0 < cur.length) :
  zdi P F B n ops O κ ⟨some d, .call { callee := .value fo, args := #[.tmp w, y], argTypes := at_ }, ty, pos, aft, g⟩ q d (.is (.bool false)) := by
 rintro κ' a u hlk hks ⟨H, fp, hh⟩
 unfold After
 rw [if_pos (zaf hh hlk hg)]
 have en := hh.env hlk
 have hk' : κ' q = some (.own (zal b cur t')) := hks.trans hq
 have hfe : a.eval fo = .func (.func f) #[] #[] := en.is_ fo _ (by simp [Op.operands, Call.operands]) hfo
 have hye := en.is_ y _ (by simp [Op.operands, Call.operands]) hy
 obtain ⟨b2, hxe, hb2⟩ := en.sat_ w _ (by simp [Op.operands, Call.operands]) hx
 obtain ⟨⟨hbb, hC⟩, hM⟩ := hh.slot q _ hk'
 have hbm := hM b ((hC b).2 rfl)
 have hne : b2 ≠ b := fun e => by subst e; rw [hbm.2.1] at hb2; cases hb2
 have hb2' := en.sub _ _ hb2
 have hsz : ∀ w, (Go.sizeOf e).run P w = .ok s w := za9 (Tabs.ld_spec hl)
 have hr := Lib.run_overlaps_apart (P := P) u t tR e (Tabs.sl_spec ht) s hsz ⟨b2, 0, none⟩ ⟨b, off, none⟩ len len m cap hne te t' cs.length cur.length
  (by simp [World.shape?, hp] at hb2' ⊢; simp [hb2']) (by simp [World.shape?, hbb]) (by omega) (by simp [World.frozen?, hp] at hb2' ⊢; simp [hb2']) (by simp [World.frozen?, hp] at hb2' ⊢; simp [hb2'])
 have hrun : (execOp a.eval ⟨some d, .call { callee := .value fo, args := #[.tmp w, y], argTypes := at_ }, ty, pos, aft, g⟩).run P u = .ok (.value (.bool false)) u := by
  simp only [execOp, resolve, hfe, Deferred.ofValue, Sem.run_bind, Sem.run_pure, Result.andThen_ok, invoke]
  simp [hext, hxe, hye, hr]
 rw [hrun]
 simp only [Upon]
 exact ⟨H, fp, hh.put (k := .is (.bool false)) (zk hn) trivial rfl⟩
theorem zrq (L : Tabs P) {x y : Operand} {tt e : TypeId} {s : Nat} {k : IntKind} {ag : Bool} (hn : Nat.blt d n = true) (hg : gK ops κ ⟨some d, .slice tt x (some y) none none, ty, pos, aft, g⟩ = some true)
  (hx : evK κ x = some (.slice none 0 0)) (ht : L.sl tt = some e) (hl : L.ld e = some (ag, s)) {p : Int} (hy : evK κ y = some (.int k p)) (hp : p = (0 : Nat)) :
  StepOK P F B n ops O κ ⟨some d, .slice tt x (some y) none none, ty, pos, aft, g⟩ d (.is (.slice none 0 0)) :=
 zaw rfl (zk hn) hg trivial fun a u H fp en => ⟨_, by
  have hu := Tabs.sl_spec ht
  have h1 := en.is_ x _ (by simp [Op.operands]) hx
  have h2 := en.is_ y _ (by simp [Op.operands]) hy
  subst hp
  have hrun : (Instr.sliceBounds true 0 0 (some (a.eval y)) none none).run P u = .ok (0, 0, 0) u := by
   have h4 := fun c w => za4 (P := P) 0 k 0 c (Nat.le_refl _) w
   simp only [h2, Instr.sliceBounds, Sem.run_bind, h4, Result.andThen_ok, Sem.run_pure]
  simp only [execOp, h1, Instr.sliceAt, Instr.slice, Sem.run_bind, run_underlying hu, Result.andThen_ok, Option.map_none, Option.map_some, hrun, za9 (Tabs.ld_spec hl)]
  rfl, rfl⟩
theorem znv (L : Tabs P) {x y1 y2 y3 : Operand} {tt e : TypeId} {s m b off cap : Nat} {k1 k2 k3 : IntKind} {ag : Bool} (i j l : Nat) {p1 p2 p3 : Int} (hn : Nat.blt d n = true) (hg : gK ops κ ⟨some d, .slice tt x (some y1) (some y2) (some y3), ty, pos, aft, g⟩ = some true)
  (hx : evK κ x = some (.slice (some ⟨b, off, none⟩) m cap)) (ht : L.sl tt = some e) (hl : L.ld e = some (ag, s)) (h1 : evK κ y1 = some (.int k1 p1)) (h2 : evK κ y2 = some (.int k2 p2)) (h3 : evK κ y3 = some (.int k3 p3)) (e1 : p1 = i) (e2 : p2 = j) (e3 : p3 = l)
  (hij : i ≤ j) (hjl : j ≤ l) (hlc : l ≤ cap) :
  StepOK P F B n ops O κ ⟨some d, .slice tt x (some y1) (some y2) (some y3), ty, pos, aft, g⟩ d (.is (.slice (some (if l = i then ⟨b, off, none⟩ else ⟨b, off + i * s, none⟩)) (j - i) (l - i))) :=
 zaw rfl (zk hn) hg trivial fun a u H fp en => ⟨_, by
  have hu := Tabs.sl_spec ht
  subst e1 e2 e3
  have q0 := en.is_ x _ (by simp [Op.operands]) hx
  have q1 := en.is_ y1 _ (by simp [Op.operands]) h1
  have q2 := en.is_ y2 _ (by simp [Op.operands]) h2
  have q3 := en.is_ y3 _ (by simp [Op.operands]) h3
  have hrun : (Instr.sliceBounds true m cap (some (a.eval y1)) (some (a.eval y2)) (some (a.eval y3))).run P u = .ok (i, j, l) u := by
   simp [q1, q2, q3, Instr.sliceBounds, za4 i k1 _ _ hij, za4 j k2 _ _ hjl, za4 l k3 _ _ hlc]
  simp only [execOp, q0, Instr.sliceAt, Instr.slice, Sem.run_bind, run_underlying hu, Result.andThen_ok, Option.map_some, hrun, za9 (Tabs.ld_spec hl), Sem.run_pure]
  congr 3
  split <;> simp [Addr.add], rfl⟩
end
end Go.V
set_option maxRecDepth 20000
namespace Go.V.L10
open Go.Proofs Go.RowKit Go.V
theorem _root_.Go.V.Z44 {A B : Prop} (h : B) (t : Wr B → A := by intro h; refine z7 (StepOK.seeV (qf L (qm rfl) rfl rfl rfl rfl) (by assumption)) rfl ?_; exact h.h) : A := t ⟨h⟩
theorem _root_.Go.V.Z101 {A B : Prop} (h : B) (t : Wr B → A := by intro h; refine z7 (zyq rfl rfl rfl rfl (by omega) (by assumption)) rfl ?_; exact h.h) : A := t ⟨h⟩
theorem _root_.Go.V.Z212 {A B : Prop} (h : B) (t : Wr B → A := by intro h; refine Z16 ?_; refine Z44 ?_; exact h.h) : A := t ⟨h⟩
theorem _root_.Go.V.Z357 {A B : Prop} (h : B) (t : Wr B → A := by intro h; refine Z78 ?_; refine Z56 ?_; exact h.h) : A := t ⟨h⟩
abbrev zs5 : TypeId := 137
abbrev zi6 : TypeId := 49
def pnc (p : Int × Int) : List Value := [.int .u64 p.1, .int .i64 p.2]
theorem ztu (p : Int × Int) : (pnc p).length = 2 := rfl
theorem zgz (l : List (Int × Int)) : (l.flatMap pnc).all zbi = true := by
 rw [List.all_eq_true]
 intro v hv
 obtain ⟨x, _, hx⟩ := List.mem_flatMap.1 hv
 simp only [pnc, List.mem_cons, List.mem_nil_iff, or_false] at hx
 rcases hx with rfl | rfl <;> rfl
abbrev PsV (l : List (Int × Int)) : Value → Heap → Prop := SlV zs5 2 (l.flatMap pnc) l.length false
theorem zwo {l : List (Int × Int)} {i : Nat} {x : Int × Int} (h : l[i]? = some x) : ((l.flatMap pnc).drop (i * 2)).take 2 = [.int .u64 x.1, .int .i64 x.2] := zda ztu l i x h
abbrev RsV (l : List Int) (fu : Bool) : Value → Heap → Prop := SlV zi6 1 (l.map (Value.int .u64)) l.length fu
theorem zl6 (l : List Int) : (l.map (Value.int .u64)).all zbi = true := by
 rw [List.all_eq_true]
 intro v hv
 obtain ⟨x, _, rfl⟩ := List.mem_map.1 hv
 rfl
theorem zjq {l : List Int} {i : Nat} {x : Int} (h : l[i]? = some x) : ((l.map (Value.int .u64)).drop (i * 1)).take 1 = [.int .u64 x] := by
 rw [Nat.mul_one, List.take_one]
 simp [List.head?_drop, h]
attribute [local irreducible] V N X VO Par StepOK Has Ret RetL RetO zcb zdt Src
theorem cmpU_ret (a b : Int) {w : World} {B : Heap} (hB : B.Le (hp w)) : Ret Tryz.prog 130 [.int .u64 a, .int .u64 b] w B (fun v _ => v = .int .i64 (cP a b)) := by
 unfold cP
 refine yf Tryz.func130 rfl Tryz.ntmps130 (Nat.le_of_ble_eq_true rfl) hB ?_
 by_cases h : a < b
 ·rw [if_pos h]
  refine Z293 ?_; refine z7 (zp L rfl rfl (zk rfl) rfl rfl rfl (fun u H hH _ _ => So.isnanU _ hH)) rfl ?_; refine Z249 ?_; refine z7 (zp L rfl rfl (zk rfl) rfl rfl rfl (fun u H hH _ _ => So.isnanU _ hH)) rfl ?_; refine Z327 ?_; refine Z168 ?_; refine Z193 ?_; refine Z168 ?_; refine Z59 ?_; refine Z311 ?_; refine Z155 ?_; refine Z68 ?_; refine Z138 ?_
  refine yd L (rs := [.tmp 4]) rfl (fun _ _ h => h) Since.refl fun u H hH hle => ?_
  rfl
 ·rw [if_neg h]
  by_cases h2 : b < a
  ·rw [if_pos h2]
   refine Z293 ?_; refine z7 (zp L rfl rfl (zk rfl) rfl rfl rfl (fun u H hH _ _ => So.isnanU _ hH)) rfl ?_; refine Z249 ?_; refine z7 (zp L rfl rfl (zk rfl) rfl rfl rfl (fun u H hH _ _ => So.isnanU _ hH)) rfl ?_; refine Z327 ?_; refine Z168 ?_; refine Z193 ?_; refine Z168 ?_; refine Z59 ?_; refine Z266 ?_; refine Z168 ?_; refine Z66 ?_; refine Z140 ?_; refine Z39 ?_; refine Z155 ?_; refine Z79 ?_; refine Z138 ?_
   refine yd L (rs := [.tmp 4]) rfl (fun _ _ h => h) Since.refl fun u H hH hle => ?_
   rfl
  ·rw [if_neg h2]
   refine Z293 ?_; refine z7 (zp L rfl rfl (zk rfl) rfl rfl rfl (fun u H hH _ _ => So.isnanU _ hH)) rfl ?_; refine Z249 ?_; refine z7 (zp L rfl rfl (zk rfl) rfl rfl rfl (fun u H hH _ _ => So.isnanU _ hH)) rfl ?_; refine Z327 ?_; refine Z168 ?_; refine Z193 ?_; refine Z168 ?_; refine Z59 ?_; refine Z266 ?_; refine Z168 ?_; refine Z66 ?_; refine Z140 ?_; refine Z31 ?_; refine Z158 ?_; refine Z84 ?_; refine Z138 ?_
   refine yd L (rs := [.tmp 4]) rfl (fun _ _ h => h) Since.refl fun u H hH hle => ?_
   rfl
theorem zg8 (a n b : Int) {w : World} {B : Heap} (hB : B.Le (hp w)) : Ret Tryz.prog 129 [.agg #[.int .u64 a, .int .i64 n], .int .u64 b] w B (fun v _ => v = .int .i64 (cP a b)) := by
 refine yf Tryz.func129 rfl Tryz.ntmps129 (Nat.le_of_ble_eq_true rfl) hB ?_
 refine Z271 ?_; refine Z181 ?_; refine Z1 ?_; refine z7 (zp L rfl rfl (zk rfl) rfl rfl rfl (fun u H hH _ _ => cmpU_ret _ _ hH)) rfl ?_; refine Z138 ?_
 refine yd L (rs := [.tmp 4]) rfl (fun _ _ h => h) Since.refl fun u H hH hle => ?_
 rfl
abbrev BSP : Nat := 128
abbrev fvP : Value := .func (.func 129) #[] #[]
set_option maxHeartbeats 2000000 in
theorem z0n {L0 : List Int} {r : Int} (hz : (zai L0).length ≤ 100000) {v : Value} {w : World} {B : Heap} (hB : B.Le (hp w)) (hv : PsV (zai L0) v B) :
  Ret Tryz.prog BSP [v, .int .u64 r, fvP] w B (fun v _ => v = .tuple #[.int .i64 (zgi cP r (zak L0) : Nat), .bool (decide (r ∈ zak L0))]) := by
 have hs := za7 L0
 obtain ⟨l, hl⟩ : ∃ l, l = zak L0 := ⟨_, rfl⟩
 obtain ⟨ps, hps⟩ : ∃ ps, ps = zai L0 := ⟨_, rfl⟩
 have hat : ∀ (i : Nat) (x : Int), l[i]? = some x → ps[i]? = some (x, (L0.count x : Int)) := fun i x h => by subst hl hps; exact zjw h
 have hlen : ps.length = l.length := by subst hl hps; exact zb4 L0
 rw [← hl] at hs ⊢
 rw [← hps] at hv hz
 clear hl hps
 refine yf Tryz.func128 rfl Tryz.ntmps128 (Nat.le_of_ble_eq_true rfl) hB ?_
 refine zaz 0 (PsV ps) rfl SlV.mono hv ?_
 refine Z257 ?_; refine Z159 ?_; refine Z150 ?_; refine Z249 ?_; refine Z199 ?_; refine qh ?_
 refine zaj (fun s : Nat × Nat => [(0, .sat (PsV ps)), (2, .is fvP), (1, .is (.int .u64 r)), (8, .is (.int .i64 ps.length)), (9, .is (.int .i64 s.1)), (10, .is (.int .i64 s.2))])
  (fun s => s.1 ≤ s.2 ∧ s.2 ≤ l.length ∧ (∀ (k : Nat) (x : Int), k < s.1 → l[k]? = some x → cP x r < 0) ∧ ∀ (k : Nat) (x : Int), s.2 ≤ k → l[k]? = some x → ¬ cP x r < 0) (fun s => s.2 - s.1) (0, ps.length) ⟨Nat.zero_le _, Nat.le_of_eq hlen, fun k x h => (by cases h), fun k x h hx => (by rw [List.getElem?_eq_none (by dsimp only at h; omega)] at hx; cases hx)⟩ ⟨rfl, rfl, rfl, rfl, rfl, rfl, trivial⟩ ?_
 rintro ⟨i, j⟩ ⟨hij, hjl, hlo, hhi⟩
 dsimp only at hij hjl hlo hhi ⊢
 by_cases hlt : i < j
 ·obtain ⟨h, hh⟩ : ∃ h, h = (i + j) / 2 := ⟨_, rfl⟩
  have hsh : ((i : Int) + (j : Int)).fdiv (2 ^ min (1 : Int).toNat IntKind.u64.bits) = (h : Int) := by
   show ((i : Int) + (j : Int)).fdiv 2 = (h : Int)
   rw [Int.fdiv_eq_ediv_of_nonneg _ (by decide)]
   omega
  obtain ⟨y, hy⟩ := zae (show h < l.length by omega)
  have hc := zwo (hat h y hy)
  by_cases hcm : cP y r < 0
  ·refine Z229 ?_; refine Z398 ?_; refine Z328 ?_; refine Z22 ?_; refine z7 (zau rfl rfl rfl zbn.1 zbn.2 (wrap_u64 (by omega) (by omega))) rfl ?_; refine Z101 ?_; refine z7 (zau rfl rfl rfl zbo.1 zbo.2 (zaa (by omega) (by omega))) rfl ?_; refine Z144 ?_; refine Z180 ?_; refine Z200 ?_; refine z7 (qu L _ rfl rfl rfl rfl rfl rfl rfl (by first | omega | decide) (by assumption)) rfl ?_; refine z7 (yg L (vs := [_, _]) rfl rfl rfl rfl rfl ⟨_, rfl⟩) rfl ?_; refine Z1 ?_; refine z7 (zp L rfl rfl (zk rfl) rfl rfl rfl (fun u H hH _ _ => zg8 _ _ _ hH)) rfl ?_; refine Z176 ?_; refine Z190 ?_; refine Z197 ?_; refine ya ?_
   exact yh (x := (i, j)) (h + 1, j) ⟨by dsimp only; omega, hjl, fun k x hk hx => zk3 zci hs hy hx (by dsimp only at hk; omega) hcm, hhi⟩ (by dsimp only; omega) ⟨rfl, rfl, rfl, rfl, rfl, rfl, trivial⟩
  ·refine Z229 ?_; refine Z398 ?_; refine Z328 ?_; refine Z22 ?_; refine z7 (zau rfl rfl rfl zbn.1 zbn.2 (wrap_u64 (by omega) (by omega))) rfl ?_; refine Z101 ?_; refine z7 (zau rfl rfl rfl zbo.1 zbo.2 (zaa (by omega) (by omega))) rfl ?_; refine Z144 ?_; refine Z180 ?_; refine Z200 ?_; refine z7 (qu L _ rfl rfl rfl rfl rfl rfl rfl (by first | omega | decide) (by assumption)) rfl ?_; refine z7 (yg L (vs := [_, _]) rfl rfl rfl rfl rfl ⟨_, rfl⟩) rfl ?_; refine Z1 ?_; refine z7 (zp L rfl rfl (zk rfl) rfl rfl rfl (fun u H hH _ _ => zg8 _ _ _ hH)) rfl ?_; refine Z10 ?_; refine Z141 ?_; refine Z193 ?_; refine Z243 ?_
   exact yh (x := (i, j)) (i, h) ⟨by dsimp only; omega, by dsimp only; omega, hlo, fun k x hk hx hcx => hcm (zk3 zci hs hx hy hk hcx)⟩ (by dsimp only; omega) ⟨rfl, rfl, rfl, rfl, rfl, rfl, trivial⟩
 ·obtain rfl : i = j := by omega
  rw [ztt zci hs hlo hhi hjl]
  by_cases hin : i < l.length
  ·obtain ⟨y, hy⟩ := zae hin
   have hc := zwo (hat i y hy)
   have hm := z16 zci hs hlo hy hhi
   by_cases hcm : cP y r = 0
   ·rw [decide_eq_true (hm.2 hcm)]
    refine Z229 ?_; refine Z247 ?_; refine Z57 ?_; refine Z174 ?_; refine Z7 ?_; refine Z140 ?_; refine Z200 ?_; refine z7 (qu L _ rfl rfl rfl rfl rfl rfl rfl (by first | omega | decide) (by assumption)) rfl ?_; refine z7 (yg L (vs := [_, _]) rfl rfl rfl rfl rfl ⟨_, rfl⟩) rfl ?_; refine Z1 ?_; refine z7 (zp L rfl rfl (zk rfl) rfl rfl rfl (fun u H hH _ _ => zg8 _ _ _ hH)) rfl ?_; refine Z23 ?_; refine Z8 ?_; refine Z185 ?_
    refine yd L (rs := [.tmp 6, .tmp 7]) rfl (fun _ _ h => h) Since.refl fun u H hH hle => ?_
    rfl
   ·rw [decide_eq_false fun h => hcm (hm.1 h)]
    refine Z229 ?_; refine Z247 ?_; refine Z57 ?_; refine Z174 ?_; refine Z7 ?_; refine Z140 ?_; refine Z200 ?_; refine z7 (qu L _ rfl rfl rfl rfl rfl rfl rfl (by first | omega | decide) (by assumption)) rfl ?_; refine z7 (yg L (vs := [_, _]) rfl rfl rfl rfl rfl ⟨_, rfl⟩) rfl ?_; refine Z1 ?_; refine z7 (zp L rfl rfl (zk rfl) rfl rfl rfl (fun u H hH _ _ => zg8 _ _ _ hH)) rfl ?_; refine Z12 ?_; refine Z8 ?_; refine Z185 ?_
    refine yd L (rs := [.tmp 6, .tmp 7]) rfl (fun _ _ h => h) Since.refl fun u H hH hle => ?_
    rfl
  ·obtain rfl : i = l.length := by omega
   rw [decide_eq_false (zo8 zci hlo)]
   refine Z229 ?_; refine Z247 ?_; refine Z57 ?_; refine Z174 ?_; refine Z10 ?_; refine Z336 ?_; refine Z217 ?_; refine Z185 ?_
   refine yd L (rs := [.tmp 6, .tmp 7]) rfl (fun _ _ h => h) Since.refl fun u H hH hle => ?_
   rfl
abbrev pnv (s : Value) (t : Nat) : Value := .agg #[s, .int .i64 t]
set_option maxHeartbeats 1000000 in
theorem zf6 {L0 : List Int} {r : Int} {t : Nat} (hz : L0.length ≤ 100000) {s : Value} {w : World} {B : Heap} (hB : B.Le (hp w)) (hv : PsV (zai L0) s B) :
  Ret Tryz.prog 88 [pnv s t, .int .u64 r] w B (fun v _ => v = .tuple #[.int .i64 (zgi cP r (zak L0) : Nat), .bool (decide (r ∈ zak L0))]) := by
 have hz2 : (zai L0).length ≤ 100000 := by rw [zb4]; exact Nat.le_trans (zbt _) hz
 obtain ⟨p, c, rfl⟩ := zao hv
 refine yf Tryz.func88 rfl Tryz.ntmps88 (Nat.le_of_ble_eq_true rfl) hB ?_
 refine Z326 ?_; refine Z159 ?_; refine Z181 ?_; refine Z1 ?_; refine z7 (zp L rfl rfl (zk rfl) rfl rfl rfl (fun u H hH hle _ => z0n hz2 hH (hv.le hle))) rfl ?_; refine Z169 ?_; refine Z185 ?_
 refine yd L (rs := [.tmp 4, .tmp 5]) rfl (fun _ _ h => h) Since.refl fun u H hH hle => ?_
 rfl
theorem zhv {L0 : List Int} {r : Int} (h : r ∈ zak L0) : (zai L0)[zgi cP r (zak L0)]? = some (r, (L0.count r : Int)) := zjw (zl9 zci (za7 L0) h)
set_option maxHeartbeats 1000000 in
theorem count_ret {L0 : List Int} {r : Int} {t : Nat} (hz : L0.length ≤ 100000) {s : Value} {w : World} {B : Heap} (hB : B.Le (hp w)) (hv : PsV (zai L0) s B) :
  Ret Tryz.prog 58 [pnv s t, .int .u64 r] w B (fun v _ => v = .int .i64 (L0.count r : Nat)) := by
 obtain ⟨p, c, rfl⟩ := zao hv
 refine yf Tryz.func58 rfl Tryz.ntmps58 (Nat.le_of_ble_eq_true rfl) hB ?_
 by_cases h : r ∈ zak L0
 ·have hf : decide (r ∈ zak L0) = true := decide_eq_true h
  have hp := zhv h
  have hlt := get_lt hp
  have hc := zwo hp
  refine Z366 ?_; refine z7 (zz L (vs := [_, _]) (qm rfl) rfl rfl rfl rfl ⟨_, rfl⟩) rfl ?_; refine Z1 ?_; refine z7 (zp L rfl rfl (zk rfl) rfl rfl rfl (fun u H hH hle _ => hf ▸ zf6 (t := t) hz hH (hv.le hle))) rfl ?_; refine Z240 ?_; refine Z175 ?_; refine Z155 ?_; refine Z28 ?_; refine Z212 ?_; refine Z1 ?_; refine z7 (qu L _ rfl rfl rfl rfl rfl rfl rfl (by first | omega | decide) (by assumption)) rfl ?_; refine Z357 ?_; refine Z138 ?_
  refine yd L (rs := [.tmp 4]) rfl (fun _ _ h => h) Since.refl fun u H hH hle => ?_
  rfl
 ·have hf : decide (r ∈ zak L0) = false := decide_eq_false h
  have hc0 : L0.count r = 0 := List.count_eq_zero.2 fun hm => h (zax.2 hm)
  rw [hc0]
  refine Z366 ?_; refine z7 (zz L (vs := [_, _]) (qm rfl) rfl rfl rfl rfl ⟨_, rfl⟩) rfl ?_; refine Z1 ?_; refine z7 (zp L rfl rfl (zk rfl) rfl rfl rfl (fun u H hH hle _ => hf ▸ zf6 (t := t) hz hH (hv.le hle))) rfl ?_; refine Z240 ?_; refine Z175 ?_; refine Z158 ?_; refine Z30 ?_; refine Z138 ?_
  refine yd L (rs := [.tmp 4]) rfl (fun _ _ h => h) Since.refl fun u H hH hle => ?_
  rfl
end Go.V.L10
set_option maxRecDepth 20000
namespace Go.V.L10
open Go.Proofs Go.RowKit Go.V
theorem _root_.Go.V.Z110 {A B : Prop} (h : B) (t : Wr B → A := by intro h; refine qo (zce L rfl rfl rfl (zh2 rfl) rfl zxj rfl rfl (by omega) (by omega)) ?_; exact h.h) : A := t ⟨h⟩
theorem _root_.Go.V.Z260 {A B : Prop} (h : B) (t : Wr B → A := by intro h; refine Z212 ?_; refine Z11 ?_; exact h.h) : A := t ⟨h⟩
attribute [local irreducible] V N X VO Par StepOK Has Ret RetL RetO zcb zdt Src
set_option maxHeartbeats 1000000 in
theorem zmq {L0 : List Int} {t : Nat} (hz : L0.length ≤ 100000) {s : Value} {w : World} {B : Heap} (hB : B.Le (hp w)) (hv : PsV (zai L0) s B) :
  Ret Tryz.prog 26 [pnv s t] w B (RsV (zak L0) true) := by
 have hz2 : (zai L0).length ≤ 100000 := by rw [zb4]; exact Nat.le_trans (zbt _) hz
 have hat : ∀ (i : Nat) (x : Int), (zak L0)[i]? = some x → (zai L0)[i]? = some (x, (L0.count x : Int)) := fun i x h => zjw h
 have hlen : (zai L0).length = (zak L0).length := zb4 L0
 obtain ⟨p, c, rfl⟩ := zao hv
 refine yf Tryz.func26 rfl Tryz.ntmps26 (Nat.le_of_ble_eq_true rfl) hB ?_
 by_cases h0 : (zak L0).length = 0
 ·have hnil : zak L0 = [] := List.eq_nil_of_length_eq_zero h0
  rw [hnil]
  refine Z271 ?_; refine Z181 ?_; refine Z85 ?_; refine z7 (zmd L (zak L0).length rfl rfl rfl zxj rfl rfl (congrArg (Nat.cast (R := Int)) hlen) (congrArg (Nat.cast (R := Int)) hlen) (by omega) (by unfold maxLen; omega)) rfl ?_; refine qo (yn (.inr rfl) rfl rfl rfl rfl) ?_; refine Z188 ?_; refine Z29 ?_; refine Z260 ?_; refine Z305 ?_
  refine zy8 3 rfl ?_
  refine zaj (fun _ : Unit => [(3, .sat (SlV zi6 1 (zsL Tryz.prog zi6 ((zak L0).length * 1)) (zak L0).length true)), (13, .is (.int .i64 0)), (12, .is (.int .i64 (zai L0).length))]) (fun _ => True) (fun _ => 0) () trivial ⟨rfl, rfl, rfl, trivial⟩ ?_
  rintro _ _
  refine zh ?_; refine Z28 ?_; refine Z314 ?_; refine Z43 ?_; refine Z4 ?_; refine Z259 ?_
  refine yd L (rs := [.tmp 2]) rfl (fun _ _ h => h) Since.refl fun u H hH hle => ?_
  intro v hv
  have h1 : (zak L0).length * 1 = 0 := by omega
  rw [h0] at hv
  have hzl : zsL Tryz.prog zi6 (0 * 1) = [] := by
   have := hv.1
   exact List.eq_nil_of_length_eq_zero (by simpa using this)
  rw [hzl] at hv
  exact hv
 ·refine Z271 ?_; refine Z181 ?_; refine Z85 ?_; refine z7 (zmd L (zak L0).length rfl rfl rfl zxj rfl rfl (congrArg (Nat.cast (R := Int)) hlen) (congrArg (Nat.cast (R := Int)) hlen) (by omega) (by unfold maxLen; omega)) rfl ?_; refine qo (yn (.inr rfl) rfl rfl rfl rfl) ?_; refine Z188 ?_
  refine z0r 3 901 (by omega) rfl fun b hzl => ?_
  refine Z29 ?_; refine Z260 ?_; refine Z305 ?_
  generalize zsL Tryz.prog zi6 ((zak L0).length * 1) = zs at hzl ⊢
  refine zaj (fun s : Nat × List Value => [(3, .is (.slice (some ⟨b, 0, none⟩) (zak L0).length (zak L0).length)), (11, .sat (PsV (zai L0))), (13, .is (.int .i64 s.1)), (12, .is (.int .i64 (zai L0).length)), (901, .own (zal b s.2 zi6))])
   (fun s => s.1 ≤ (zak L0).length ∧ s.2.length = (zak L0).length ∧ s.2.take s.1 = ((zak L0).take s.1).map (Value.int .u64)) (fun s => (zak L0).length - s.1) (0, zs) ⟨Nat.zero_le _, by dsimp only; omega, rfl⟩ ⟨rfl, rfl, rfl, rfl, rfl, trivial⟩ ?_
  rintro ⟨i, cs⟩ ⟨hi, hcs, htk⟩
  dsimp only at hi hcs htk ⊢
  by_cases hlt : i < (zak L0).length
  ·obtain ⟨x, hx⟩ := zae hlt
   have hc := zwo (hat i x hx)
   have hle1 : 0 + i * 1 + 1 ≤ cs.length := by rw [hcs]; omega
   have hwi : IntKind.i64.wrap ((i : Int) + 1) = ((i + 1 : Nat) : Int) := zaa (by omega) (by omega)
   refine zh ?_; refine Z28 ?_; refine Z224 ?_; refine Z161 ?_; refine z7 (qu L _ rfl rfl rfl rfl rfl rfl rfl (by first | omega | decide) (by assumption)) rfl ?_; refine z7 (yg L (vs := [_, _]) rfl rfl rfl rfl rfl ⟨_, rfl⟩) rfl ?_; refine Z263 ?_; refine Z252 ?_; refine Z244 ?_; refine z06 5 rfl ?_; refine Z181 ?_; refine z7 (qg L _ rfl rfl rfl rfl rfl rfl rfl (by omega)) rfl ?_; refine zcr (yw L (q := 901) rfl rfl rfl rfl rfl rfl (Nat.ble_eq_true_of_le hle1) rfl rfl) ?_; refine Z238 ?_; refine Z45 ?_; refine Z17 ?_; refine Z269 ?_
   exact yh (x := (i, cs)) (i + 1, cs.take (0 + i * 1) ++ ([.int .u64 x] ++ cs.drop (0 + i * 1 + 1))) ⟨hlt, by dsimp only; rw [List.length_append, List.length_append, List.length_take, List.length_drop]; simp only [List.length_cons, List.length_nil]; omega, by
    dsimp only
    rw [zbr hx, List.map_append, ← htk, Nat.zero_add, Nat.mul_one, List.take_append, List.take_take, Nat.min_eq_right (by omega), List.length_take, Nat.min_eq_left (by omega), show i + 1 - i = 1 by omega]
    rfl⟩ (by dsimp only; omega) ⟨rfl, rfl, rfl, rfl, rfl, trivial⟩
  ·obtain rfl : i = (zak L0).length := by omega
   have hcs2 : cs = (zak L0).map (Value.int .u64) := by
    rw [List.take_of_length_le (by omega), List.take_length] at htk
    exact htk
   subst hcs2
   refine zh ?_; refine Z28 ?_; refine Z314 ?_
   refine zy6 (s := 1) 3 901 rfl rfl (by simp) (by unfold maxLen; omega) ?_
   refine zy8 3 rfl ?_
   refine Z43 ?_; refine Z4 ?_; refine Z259 ?_
   refine yd L (rs := [.tmp 2]) rfl (fun _ _ h => h) Since.refl fun u H hH hle => ?_
   exact fun v hv => hv
theorem zs6 {s : Value} {t : Nat} (_hs : (zat s).length = 1 ∧ (zat s).all zbi = true) {w : World} {B : Heap} (hB : B.Le (hp w)) :
  Ret Tryz.prog 56 [pnv s t] w B (fun v _ => v = .int .i64 t) := by
 refine yf Tryz.func56 rfl Tryz.ntmps56 (Nat.le_of_ble_eq_true rfl) hB ?_
 refine Z271 ?_; refine Z181 ?_; refine Z138 ?_
 refine yd L (rs := [.tmp 2]) rfl (fun _ _ h => h) Since.refl fun u H hH hle => ?_
 rfl
theorem zvl {l : List Int} {fu : Bool} {v : Value} {w : World} {B : Heap} (hB : B.Le (hp w)) (hv : RsV l fu v B) : Ret Tryz.prog 83 [v] w B (RsV l true) := by
 refine yf Tryz.func83 rfl Tryz.ntmps83 (Nat.le_of_ble_eq_true rfl) hB ?_
 refine zaz 0 (RsV l fu) rfl SlV.mono hv ?_
 refine Z186 ?_; refine Z4 ?_; refine Z150 ?_; refine Z150 ?_; refine Z121 ?_; refine Z259 ?_
 refine yd L (rs := [.tmp 2]) rfl (fun _ _ h => h) Since.refl fun u H hH hle => ?_
 exact fun v hv => hv
theorem zl5 {l : List Int} {x : Int} : some (Kn.own (SlR zi6 1 (l.length + 1) (l.map (Value.int .u64) ++ [.int .u64 x]))) = some (Kn.own (SlR zi6 1 (l ++ [x]).length ((l ++ [x]).map (Value.int .u64)))) := by
 rw [List.map_append, List.length_append]; rfl
set_option maxHeartbeats 1000000 in
set_option maxRecDepth 10000 in
theorem zxb {L0 R : List Int} {t keep : Nat} {fu : Bool} (hz : L0.length ≤ 100000) (hR : R.length ≤ 100000) (hkp : keep ≤ 100000) {s v : Value} {w : World} {B : Heap} (hB : B.Le (hp w)) (hv : PsV (zai L0) s B) (hr : RsV R fu v B) :
  Ret Tryz.prog 52 [pnv s t, v, .int .i64 keep] w B (RsV (zc9 L0 R keep) true) := by
 obtain ⟨p, c, rfl⟩ := zao hv
 obtain ⟨n1, hn1⟩ : ∃ n1, n1 = R.length - keep := ⟨_, rfl⟩
 have hmx : (if (0 : Int) > (keep : Int) then (0 : Int) else (keep : Int)) = (keep : Int) := if_neg (by omega)
 have hmn : (if (R.length : Int) < (keep : Int) then (R.length : Int) else (keep : Int)) = (min R.length keep : Nat) := by split <;> omega
 have hsub : IntKind.i64.wrap ((R.length : Int) - (min R.length keep : Nat)) = (n1 : Int) := zaa (by omega) (by omega) |>.trans (by omega)
 have hys : ((R.map (Value.int .u64)).drop (0 * 1)).take ((n1 - 0) * 1) = (R.take n1).map (Value.int .u64) := by simp
 obtain ⟨g, hg⟩ : ∃ g, g = R.take n1 := ⟨_, rfl⟩
 have hgl : g.length = n1 := by rw [hg, List.length_take]; omega
 have hgo : zc9 L0 R keep = g.filter fun r => decide (L0.count r = 0) := by unfold zc9; rw [hg, hn1]
 rw [← hg] at hys
 rw [hgo]
 clear hg hgo
 refine yf Tryz.func52 rfl Tryz.ntmps52 (Nat.le_of_ble_eq_true rfl) hB ?_
 refine zaz 1 (RsV R fu) rfl SlV.mono hr ?_
 refine Z271 ?_; refine Z147 ?_
 refine zd2 7 zi6 1 rfl ?_
 refine Z29 ?_; refine Z4 ?_; refine Z150 ?_; refine Z1 ?_; refine z7 (zgb rfl rfl rfl rfl (by assumption)) rfl ?_; refine Z150 ?_; refine z7 (zuc rfl rfl rfl rfl (by assumption)) rfl ?_; refine Z26 ?_; refine z7 (za8 L (kl := .i64) (pl := 0) (km := .i64) (pm := 0) 0 _ false rfl rfl rfl rfl rfl rfl ⟨rfl, rfl⟩ (fun h => by cases h) (by omega) (by omega) (by assumption)) rfl ?_; refine Z11 ?_; refine Z305 ?_
 refine zx5 19 (RsV g false) rfl SlV.mono (fun v H h => by unfold RsV; rw [hgl]; exact h) ?_
 refine zaj (fun y : Nat × List Int => [(3, .sat (At [.slice p (zai L0).length c, .int .i64 t] 74 0)), (7, .own (SlR zi6 1 y.2.length (y.2.map (Value.int .u64)))), (19, .sat (RsV g false)), (20, .is (.int .i64 n1)), (21, .is (.int .i64 y.1))])
  (fun y => y.1 ≤ g.length ∧ y.2 = (g.take y.1).filter fun r => decide (L0.count r = 0)) (fun y => g.length - y.1) (0, []) ⟨Nat.zero_le _, rfl⟩ ⟨rfl, rfl, rfl, rfl, rfl, trivial⟩ ?_
 rintro ⟨k, out⟩ ⟨hk, hout⟩
 dsimp only at hk hout ⊢
 have hol : out.length ≤ k := by rw [hout]; exact Nat.le_trans (List.length_filter_le ..) (by rw [List.length_take]; omega)
 by_cases hlt : k < g.length
 ·obtain ⟨x, hx⟩ := zae hlt
  have hc := zjq hx
  have htk := zbr hx
  have hwk : IntKind.i64.wrap ((k : Int) + 1) = ((k + 1 : Nat) : Int) := zaa (by omega) (by omega)
  by_cases h0 : L0.count x = 0
  ·have ho : out ++ [x] = (g.take (k + 1)).filter fun r => decide (L0.count r = 0) := by rw [htk, List.filter_append, ← hout]; simp [h0]
   refine zh ?_; refine Z28 ?_; refine Z224 ?_; refine Z30 ?_; refine z7 (qu L _ rfl rfl rfl rfl rfl rfl rfl (by first | omega | decide) (by assumption)) rfl ?_; refine Z56 ?_; refine Z144 ?_; refine Z38 ?_; refine z7 (zz L (vs := [_, _]) (qm rfl) rfl rfl rfl rfl ⟨_, rfl⟩) rfl ?_; refine Z1 ?_; refine z7 (zp L rfl rfl (zk rfl) rfl rfl rfl (fun u H hH hle _ => count_ret hz hH (hv.le hle))) rfl ?_; refine Z280 ?_; refine Z45 ?_; refine qo (yn (.inl rfl) rfl rfl rfl rfl) ?_; refine Z1 ?_; refine Z36 ?_; refine Z110 ?_; refine qo (yn (.inr rfl) rfl rfl rfl rfl) ?_; refine Z238 ?_; refine Z43 ?_; refine Z17 ?_; refine Z269 ?_
   exact yh (x := (k, out)) (k + 1, out ++ [x]) ⟨hlt, ho⟩ (by dsimp only; omega) ⟨rfl, zl5, rfl, rfl, rfl, trivial⟩
  ·have ho : out = (g.take (k + 1)).filter fun r => decide (L0.count r = 0) := by rw [htk, List.filter_append, ← hout]; simp [h0]
   refine zh ?_; refine Z28 ?_; refine Z224 ?_; refine Z30 ?_; refine z7 (qu L _ rfl rfl rfl rfl rfl rfl rfl (by first | omega | decide) (by assumption)) rfl ?_; refine Z56 ?_; refine Z144 ?_; refine Z38 ?_; refine z7 (zz L (vs := [_, _]) (qm rfl) rfl rfl rfl rfl ⟨_, rfl⟩) rfl ?_; refine Z1 ?_; refine z7 (zp L rfl rfl (zk rfl) rfl rfl rfl (fun u H hH hle _ => count_ret hz hH (hv.le hle))) rfl ?_; refine Z12 ?_; refine Z215 ?_; refine Z43 ?_; refine Z17 ?_; refine Z269 ?_
   exact yh (x := (k, out)) (k + 1, out) ⟨hlt, ho⟩ (by dsimp only; omega) ⟨rfl, rfl, rfl, rfl, rfl, trivial⟩
 ·obtain rfl : k = g.length := by omega
  rw [List.take_length] at hout
  rw [← hout]
  refine zcj 7 rfl ?_
  refine zh ?_; refine Z28 ?_; refine Z314 ?_; refine Z57 ?_; refine Z4 ?_; refine z7 (yr (φ := RsV out true) L rfl rfl (zk rfl) rfl rfl rfl SlV.mono (fun u H hH _ _ v1 h1 => zvl hH h1)) rfl ?_; refine Z259 ?_
  refine yd L (rs := [.tmp 6]) rfl (fun _ _ h => h) Since.refl fun u H hH hle => ?_
  exact fun v hv => hv
theorem z18 {α : Type} {a b : List α} (h : a.length ≠ b.length) : a ≠ b := fun e => h (congrArg List.length e)
theorem z4d {α : Type} {a b : List α} {i : Nat} {x y : α} (hx : a[i]? = some x) (hy : b[i]? = some y) (h : x ≠ y) : a ≠ b := fun e => h (by subst e; rw [hx] at hy; exact Option.some.inj hy)
end Go.V.L10
set_option maxRecDepth 20000
namespace Go.V.L10
open Go.Proofs Go.RowKit Go.V
theorem _root_.Go.V.Z385 {A B : Prop} (h : B) (t : Wr B → A := by intro h; refine Z4 ?_; refine z7 (zwr L rfl rfl rfl rfl) rfl ?_; exact h.h) : A := t ⟨h⟩
theorem zc6 (l : List (Int × Int)) : (l.flatMap pnc).length = l.length * 2 := zch ztu l
section
variable {A Bq R X Z : List Value} {a b : Nat}
theorem zyz (hA : A.length = a) (T : List Value) : (A ++ T).take a = A ∧ (A ++ T).drop a = T := by subst hA; simp
theorem z3u (hA : A.length = a) (hB : Bq.length = b) (_hR : 2 ≤ R.length) :
  ((A ++ (Bq ++ R)).drop a).take b = Bq ∧
  ((A ++ (Bq ++ R)).take (a + 2) ++ (Bq ++ (A ++ (Bq ++ R)).drop (a + 2 + b))) = A ++ ((Bq ++ R).take 2 ++ (Bq ++ R.drop 2)) ∧
  ∀ (W : List Value), W.length = 2 → ((A ++ (W ++ (Bq ++ R.drop 2))).take a ++ (X ++ (A ++ (W ++ (Bq ++ R.drop 2))).drop (a + 2))) = A ++ (X ++ (Bq ++ R.drop 2)) := by
 subst hA hB
 refine ⟨by simp, ?_, fun W hW => ?_⟩
 ·have e1 : (A ++ (Bq ++ R)).take (A.length + 2) = A ++ (Bq ++ R).take 2 := by rw [List.take_append, List.take_of_length_le (by omega)]; congr 2; omega
  have e2 : (A ++ (Bq ++ R)).drop (A.length + 2 + Bq.length) = R.drop 2 := by
   rw [← List.append_assoc, List.drop_append, List.drop_eq_nil_of_le (by rw [List.length_append]; omega), List.nil_append]
   congr 1
   rw [List.length_append]; omega
  rw [e1, e2, List.append_assoc]
 ·rw [List.take_append, List.take_of_length_le (Nat.le_refl _), Nat.sub_self, List.take_zero, List.append_nil, List.drop_append, List.drop_eq_nil_of_le (by omega), List.nil_append, show A.length + 2 - A.length = 2 by omega, List.drop_append, List.drop_eq_nil_of_le (by omega), List.nil_append, hW, Nat.sub_self, List.drop_zero]
theorem z13 (hA : A.length = a) (hB : Bq.length = b) (hZ : Z.length = b + 2) (hX : X.length = 2) :
  ((A ++ Z ++ R).take a ++ (X ++ (A ++ Z ++ R).drop (a + 2))) = A ++ (X ++ (Z.drop 2 ++ R)) ∧
  ((A ++ (X ++ (Z.drop 2 ++ R))).take (a + 2) ++ (Bq ++ (A ++ (X ++ (Z.drop 2 ++ R))).drop (a + 2 + b))) = A ++ (X ++ (Bq ++ R)) := by
 subst hA hB
 refine ⟨?_, ?_⟩
 ·rw [List.append_assoc, List.take_append, List.take_of_length_le (Nat.le_refl _), Nat.sub_self, List.take_zero, List.append_nil, List.drop_append, List.drop_eq_nil_of_le (by omega), List.nil_append, show A.length + 2 - A.length = 2 by omega, List.drop_append, show 2 - Z.length = 0 by omega, List.drop_zero]
 ·have e1 : (A ++ (X ++ (Z.drop 2 ++ R))).take (A.length + 2) = A ++ X := by
   rw [← List.append_assoc, List.take_append, List.take_of_length_le (by rw [List.length_append]; omega), List.length_append, show A.length + 2 - (A.length + X.length) = 0 by omega, List.take_zero, List.append_nil]
  have e2 : (A ++ (X ++ (Z.drop 2 ++ R))).drop (A.length + 2 + Bq.length) = R := by
   rw [← List.append_assoc, ← List.append_assoc, List.drop_append, List.drop_eq_nil_of_le (by rw [List.length_append, List.length_append, List.length_drop]; omega), List.nil_append, List.length_append, List.length_append, List.length_drop, show A.length + 2 + Bq.length - (A.length + X.length + (Z.length - 2)) = 0 by omega, List.drop_zero]
  rw [e1, e2, List.append_assoc]
theorem z11 (hA : A.length = a) (hB : Bq.length = b) (hX : X.length = 2) :
  ((A ++ (X ++ (Bq ++ R))).drop (a + 2)).take b = Bq ∧
  ((A ++ (X ++ (Bq ++ R))).take a ++ (Bq ++ (A ++ (X ++ (Bq ++ R))).drop (a + b))) = A ++ (Bq ++ ((X ++ (Bq ++ R)).drop b)) ∧
  ∀ (W : List Value), ((A ++ (Bq ++ W)).take (a + b) ++ (Z ++ (A ++ (Bq ++ W)).drop (a + b + 2))) = A ++ Bq ++ (Z ++ W.drop 2) := by
 subst hA hB
 refine ⟨?_, ?_, fun W => ?_⟩
 ·rw [List.drop_append, List.drop_eq_nil_of_le (by omega), List.nil_append, show A.length + 2 - A.length = 2 by omega, List.drop_append, List.drop_eq_nil_of_le (by omega), List.nil_append, hX, Nat.sub_self, List.drop_zero]; simp
 ·rw [List.take_append, List.take_of_length_le (Nat.le_refl _), Nat.sub_self, List.take_zero, List.append_nil, List.drop_append, List.drop_eq_nil_of_le (by omega), List.nil_append, show A.length + Bq.length - A.length = Bq.length by omega]
 ·rw [← List.append_assoc A Bq W, List.take_append, List.take_of_length_le (by rw [List.length_append]; omega), List.length_append, Nat.sub_self, List.take_zero, List.append_nil, List.drop_append, List.drop_eq_nil_of_le (by rw [List.length_append]; omega), List.nil_append, List.length_append, show A.length + Bq.length + 2 - (A.length + Bq.length) = 2 by omega]
end
attribute [local irreducible] V N X VO Par StepOK Has Ret RetL RetO RetT zcb zdt Src
theorem zhr {l : List (Int × Int)} (hz : l.length ≤ 100000) {v : Value} {w : World} {B : Heap} (hB : B.Le (hp w)) (hv : PsV l v B) :
  RetO Tryz.prog 99 [v] w B (SlR zs5 2 l.length (l.flatMap pnc)) := by
 have hv0 := hv
 have hlen := zc6 l
 have hpl := zgz l
 obtain ⟨p, c, rfl⟩ := zao hv
 rcases p with _ | b
 ·obtain ⟨h0, rfl⟩ : l.length = 0 ∧ c = 0 := zp4 hv
  have hn : l = [] := List.eq_nil_of_length_eq_zero h0
  subst hn
  refine zeg Tryz.func99 rfl Tryz.ntmps99 (Nat.le_of_ble_eq_true rfl) hB ?_
  refine Z276 ?_; refine z7 (zgj rfl rfl rfl rfl z4p rfl) rfl ?_; refine Z337 ?_
  refine zd2 2 zs5 2 rfl ?_
  exact zif rfl (fun _ _ h => h) Since.refl rfl
 ·refine zeg Tryz.func99 rfl Tryz.ntmps99 (Nat.le_of_ble_eq_true rfl) hB ?_
  refine Z276 ?_; refine z7 (zgj rfl rfl rfl rfl z4p rfl) rfl ?_; refine Z158 ?_
  refine zaz 0 (PsV l) rfl SlV.mono hv0 ?_
  refine Z28 ?_; refine z7 (zgc L rfl rfl rfl rfl rfl) rfl ?_; refine Z4 ?_; refine qo (zce L rfl rfl rfl (zh1 rfl) rfl zik (by assumption) (by assumption) (by omega) (by omega)) ?_; refine qo (yn (.inr rfl) rfl rfl rfl rfl) ?_; refine Z137 ?_
  rw [Nat.zero_add, List.nil_append]
  exact zif rfl (fun _ _ h => h) Since.refl rfl
def zsa (l : List (Int × Int)) (i : Nat) (x : Int × Int) : List (Int × Int) := l.take i ++ x :: l.drop i
theorem zpb {l : List (Int × Int)} {i : Nat} {x : Int × Int} (hi : i ≤ l.length) : (zsa l i x).length = l.length + 1 := by
 unfold zsa; rw [List.length_append, List.length_cons, List.length_take, List.length_drop]; omega
theorem zlk {l : List (Int × Int)} {i : Nat} {x : Int × Int} : (zsa l i x).flatMap pnc = (l.take i).flatMap pnc ++ ([.int .u64 x.1, .int .i64 x.2] ++ (l.drop i).flatMap pnc) := by
 unfold zsa; rw [List.flatMap_append, List.flatMap_cons]; rfl
theorem zzv (args : Array Value) (u : World) : (callFunc 155 args).run Tryz.prog u = ((Extern.SlicesOverlaps.overlaps #[72, 72] #[4] args).run Tryz.prog u).andThen fun v w' => .ok (.value v) w' :=
 run_callFunc_extern Tryz.func155 (by kernel_rfl) (by kernel_rfl) (by kernel_rfl) (by kernel_rfl) args u
abbrev zPn : Value := .agg #[.int .u64 0, .int .i64 0]
def zPs (m : Nat) : List Value := (Builtin.zeroCells (Value.cells zPn) m).toList
theorem zsr (m : Nat) : (zPs m).length = m * 2 := by unfold zPs; rw [Array.length_toList, size_zeroCells]; rfl
set_option maxHeartbeats 4000000 in
set_option maxRecDepth 20000 in
theorem zr9 {l : List (Int × Int)} {i : Nat} {y : Int × Int} (hi : i ≤ l.length) (hz : l.length ≤ 100000) {x v2 : Value} {w : World} {B : Heap} {C : Nat → Prop} (hB : B.Le (hp w)) (h2 : SlB [Value.int .u64 y.1, Value.int .i64 y.2] zs5 1 v2 B) (hx : (SlR zs5 2 l.length (l.flatMap pnc)).P x B w C) (hC : ∀ k, C k → k < w.heap.size ∧ B k = none) :
  RetT Tryz.prog 123 [x, .int .i64 i, v2] w B C (SlR zs5 2 (l.length + 1) ((zsa l i y).flatMap pnc)) := by
 have hpl := zgz l
 unfold RetT
 refine zm1 0 (x := x) (SlR zs5 2 l.length (l.flatMap pnc)) rfl Tryz.func123 rfl Tryz.ntmps123 (Nat.le_of_ble_eq_true rfl) hB hx hC ?_
 refine zaz 2 (SlB [Value.int .u64 y.1, Value.int .i64 y.2] zs5 1) rfl SlB.mono h2 ?_
 have hw1 : IntKind.i64.wrap ((l.length : Int) + ((1 : Nat) : Int)) = ((l.length + 1 : Nat) : Int) := zaa (by omega) (by omega)
 refine zgt 0 900 rfl (fun hm hn => ?_) fun b cap rest hl hmc hcm hcl => ?_
 ·have h0 : l = [] := List.eq_nil_of_length_eq_zero hm
  subst h0
  obtain rfl : i = 0 := by simpa using hi
  refine Z186 ?_; refine Z140 ?_; refine z7 (zrq L rfl rfl rfl rfl rfl rfl rfl) rfl ?_; refine Z160 ?_; refine Z29 ?_; refine Z385 ?_; refine Z327 ?_; refine Z245 ?_; refine Z180 ?_; refine Z85 ?_; refine Z147 ?_; refine Z277 ?_; refine Z294 ?_; refine Z193 ?_; refine Z4 ?_; refine z7 (zcw L rfl rfl rfl (zh2 rfl) rfl zik rfl rfl (by omega) (by omega)) rfl ?_; refine qo (yn (.inr rfl) rfl rfl rfl rfl) ?_; refine Z137 ?_
  exact zkp rfl (fun _ _ h => h) Since.refl rfl
 ·by_cases hin : i = l.length
  ·subst hin
   have e1 : (zsa l l.length y).flatMap pnc = l.flatMap pnc ++ [Value.int .u64 y.1, Value.int .i64 y.2] := by rw [zlk, List.take_length, List.drop_length]; simp
   rw [e1]
   refine Z186 ?_; refine Z140 ?_; refine z7 (zbe L (kh := .i64) (ph := 0) _ _ rfl rfl rfl rfl rfl ⟨rfl, rfl⟩ rfl (by omega) (by omega)) rfl ?_; refine Z160 ?_; refine Z29 ?_; refine Z385 ?_; refine Z327 ?_; refine Z245 ?_; refine Z180 ?_; refine Z85 ?_; refine Z147 ?_; refine Z277 ?_; refine Z294 ?_; refine Z193 ?_; refine Z4 ?_; refine qo (zrx L (q := 900) rfl rfl rfl rfl hl hmc hcm hcl (zh2 rfl) rfl zik rfl rfl (by omega) (by omega)) ?_; refine qo (yn (.inr rfl) rfl rfl rfl rfl) ?_; refine Z137 ?_
   exact zkp rfl (fun _ _ h => h) Since.refl rfl
  ·have hil : i < l.length := by omega
   have hA : ((l.take i).flatMap pnc).length = i * 2 := by rw [zc6, List.length_take, Nat.min_eq_left (by omega)]
   have hBq : ((l.drop i).flatMap pnc).length = (l.length - i) * 2 := by rw [zc6, List.length_drop]
   have hcur : l.flatMap pnc = (l.take i).flatMap pnc ++ (l.drop i).flatMap pnc := by rw [← List.flatMap_append, List.take_append_drop]
   have hpB := zgz (l.drop i)
   have hwi : IntKind.i64.wrap ((i : Int) + ((1 : Nat) : Int)) = ((i + 1 : Nat) : Int) := zaa (by omega) (by omega)
   rw [zlk]
   generalize hAe : (l.take i).flatMap pnc = A at *
   generalize hBe : (l.drop i).flatMap pnc = Bq at *
   rw [hcur, List.append_assoc] at hcl
   rw [hcur, List.append_assoc]
   rw [List.length_append, List.length_append, hA, hBq] at hcl
   by_cases hg : l.length + 1 ≤ cap
   ·have hne1 : ¬ cap = i := by omega
    have hne2 : ¬ cap = i + 1 := by omega
    have hne3 : ¬ cap = 0 := by omega
    have hR : 2 ≤ rest.length := by omega
    obtain ⟨m1, m2, m3⟩ := z3u (R := rest) (X := [Value.int .u64 y.1, Value.int .i64 y.2]) hA hBq hR
    have m3' := m3 ((Bq ++ rest).take 2) (by rw [List.length_take, List.length_append]; omega)
    have q1 : ((A ++ (Bq ++ rest)).drop (0 + i * 2)).take ((l.length - i) * 2) = Bq := by rw [Nat.zero_add]; exact m1
    have q2 : (A ++ (Bq ++ rest)).take (0 + (i + 1) * 2) ++ (Bq ++ (A ++ (Bq ++ rest)).drop (0 + (i + 1) * 2 + (l.length - i) * 2)) = A ++ ((Bq ++ rest).take 2 ++ (Bq ++ rest.drop 2)) := by rw [Nat.zero_add, Nat.add_mul i 1 2]; exact m2
    have q3 : (A ++ ((Bq ++ rest).take 2 ++ (Bq ++ rest.drop 2))).take (0 + i * 2) ++ ([Value.int .u64 y.1, Value.int .i64 y.2] ++ (A ++ ((Bq ++ rest).take 2 ++ (Bq ++ rest.drop 2))).drop (0 + i * 2 + 1 * 2)) = A ++ ([Value.int .u64 y.1, Value.int .i64 y.2] ++ (Bq ++ rest.drop 2)) := by rw [Nat.zero_add]; exact m3'
    have q4 : 0 + (i + 1) * 2 + (l.length - i) * 2 ≤ (A ++ (Bq ++ rest)).length := by rw [List.length_append, List.length_append]; omega
    have q5 : 0 + i * 2 + 1 * 2 ≤ (A ++ ((Bq ++ rest).take 2 ++ (Bq ++ rest.drop 2))).length := by rw [List.length_append, List.length_append, List.length_append, List.length_take, List.length_append]; omega
    have q8 : 0 < (A ++ (Bq ++ rest)).length := by rw [List.length_append, List.length_append]; omega
    have q6 : Nat.min (l.length + 1 - i) (l.length + 1 - (i + 1)) = l.length - i := by show min _ _ = _; omega
    have q7 : Nat.min 1 (l.length + 1 - i) = 1 := by show min _ _ = _; omega
    refine Z186 ?_; refine Z140 ?_; refine z7 (zbe L (kh := .i64) (ph := 0) _ _ rfl rfl rfl rfl rfl ⟨rfl, rfl⟩ rfl (by omega) (by omega)) rfl ?_; rw [if_neg hne1]; refine Z160 ?_; refine Z29 ?_; refine Z385 ?_; refine Z327 ?_; refine Z245 ?_; refine Z180 ?_; refine Z85 ?_; refine Z147 ?_; refine Z277 ?_; refine Z274 ?_; refine Z57 ?_; refine Z285 ?_; refine Z1 ?_; refine z7 (zuj L rfl rfl rfl rfl) rfl ?_; refine Z31 ?_; refine Z158 ?_; refine Z84 ?_; refine Z174 ?_; refine Z17 ?_; refine z7 (zbe L (kl := .i64) (pl := 0) 0 (l.length + 1) rfl rfl rfl rfl rfl rfl ⟨rfl, rfl⟩ (by omega) (by omega)) rfl ?_; rw [if_neg hne3, show (0 + 0 * 2 : Nat) = 0 from rfl, Nat.sub_zero, Nat.sub_zero]; refine Z147 ?_
    refine Z74 ?_; refine Z4 ?_; refine Z174 ?_; refine Z17 ?_; refine z7 (zbe L (kh := .i64) (ph := 0) (i + 1) _ rfl rfl rfl rfl rfl ⟨rfl, rfl⟩ rfl (by omega) (by omega)) rfl ?_; rw [if_neg hne2]; refine yq (zo4 L (q := 900) rfl rfl rfl zzv rfl rfl rfl rfl rfl q8) ?_; refine Z53 ?_; refine Z155 ?_; refine qd (id := 15) [(77, [900])] mixed (by kernel_rfl) ?_; refine Z205 ?_; refine z8 (zbe L (kh := .i64) (ph := 0) (i + 1) _ rfl rfl rfl rfl rfl ⟨rfl, rfl⟩ rfl (by omega) (by omega)) rfl ?_; rw [if_neg hne2]; refine Z145 ?_; refine z8 (zbe L (kh := .i64) (ph := 0) i _ rfl rfl rfl rfl rfl ⟨rfl, rfl⟩ rfl (by omega) (by omega)) rfl ?_; rw [if_neg hne1]; refine za3 (zuh L (q := 900) (l.length - i) rfl rfl rfl rfl rfl rfl zik q6 q1 hBq q4 hpB q2) rfl rfl ?_; refine Z290 ?_; refine Z102 ?_; refine Z140 ?_; refine z7 (zbe L (kh := .i64) (ph := 0) i _ rfl rfl rfl rfl rfl ⟨rfl, rfl⟩ rfl (by omega) (by omega)) rfl ?_; rw [if_neg hne1]; refine Z4 ?_; refine qo (zmf L (q := 900) 1 rfl rfl rfl rfl (zh2 rfl) rfl zik (by decide) q7 (Nat.le_refl 2) rfl q5 rfl q3) ?_; refine Z160 ?_; refine Z108 ?_; refine Z1 ?_; refine Z138 ?_
    refine zb7 (s := 2) (xs := A ++ ([Value.int .u64 y.1, Value.int .i64 y.2] ++ Bq)) (rest := rest.drop 2) 6 900 (by simp [List.append_assoc]) rfl rfl (by simp only [List.length_append, List.length_cons, List.length_nil]; omega) hg hcm (by simp only [List.length_append, List.length_cons, List.length_nil, List.length_drop]; omega) ?_
    exact zkp rfl (fun _ _ h => h) Since.refl rfl
   ·have hne1 : ¬ cap = i := by omega
    have hne3 : ¬ cap = 0 := by omega
    have hr0 : rest = [] := List.eq_nil_of_length_eq_zero (by omega)
    subst hr0
    have hcap : cap = l.length := by omega
    subst hcap
    rw [List.append_nil]
    have hwk : IntKind.i64.wrap (((l.length + 1 : Nat) : Int) - (i : Int)) = ((l.length + 1 - i : Nat) : Int) := zaa (by omega) (by omega) |>.trans (by omega)
    have hxs : (A ++ Bq).take (i * 2) = A := (zyz hA Bq).1
    have hxl : i * 2 ≤ (A ++ Bq).length := by rw [List.length_append]; omega
    have hZ := zsr (l.length + 1 - i)
    have hgt : l.length < i + (l.length + 1 - i) := by omega
    refine Z186 ?_; refine Z140 ?_; refine z7 (zbe L (kh := .i64) (ph := 0) _ _ rfl rfl rfl rfl rfl ⟨rfl, rfl⟩ rfl (by omega) (by omega)) rfl ?_; rw [if_neg hne1]; refine Z160 ?_; refine Z29 ?_; refine Z385 ?_; refine Z327 ?_; refine Z245 ?_; refine Z180 ?_; refine Z85 ?_; refine Z147 ?_; refine Z277 ?_; refine Z274 ?_; refine Z57 ?_; refine Z285 ?_; refine Z1 ?_; refine z7 (zuj L rfl rfl rfl rfl) rfl ?_; refine Z39 ?_; refine Z155 ?_; refine Z59 ?_; refine Z140 ?_; refine z7 (zbe L (kl := .i64) (pl := 0) 0 i rfl rfl rfl rfl rfl rfl ⟨rfl, rfl⟩ (by omega) (by omega)) rfl ?_; rw [if_neg hne3, show (0 + 0 * 2 : Nat) = 0 from rfl, Nat.sub_zero, Nat.sub_zero]; refine Z285 ?_; refine Z228 ?_; refine yq (zrw L (q := 900) (z := zPn) (k := l.length + 1 - i) (kn := .i64) rfl rfl rfl rfl rfl rfl (by kernel_rfl) zik rfl (by omega) hgt hxs hxl rfl (by omega) (by omega)) ?_; refine qo (yn (.inr rfl) rfl rfl rfl rfl) ?_; refine Z160 ?_
    rw [show (Builtin.zeroCells (Value.cells zPn) (l.length + 1 - i)).toList = zPs (l.length + 1 - i) from rfl]
    have hlt : i + (l.length + 1 - i) = l.length + 1 := by omega
    rw [hlt]
    refine zgt 9 901 rfl (fun hm _ => by omega) fun b2 cap2 rest2 hl2 hmc2 hcm2 hcl2 => ?_
    have hn1 : ¬ cap2 = i := by omega
    have hn2 : ¬ cap2 = i + 1 := by omega
    have hZ2 : (zPs (l.length + 1 - i)).length = (l.length - i) * 2 + 2 := by omega
    obtain ⟨m1, m2⟩ := z13 (R := rest2) (X := [Value.int .u64 y.1, Value.int .i64 y.2]) hA hBq hZ2 rfl
    have q1 : (A ++ zPs (l.length + 1 - i) ++ rest2).take (0 + i * 2) ++ ([Value.int .u64 y.1, Value.int .i64 y.2] ++ (A ++ zPs (l.length + 1 - i) ++ rest2).drop (0 + i * 2 + 1 * 2)) = A ++ ([Value.int .u64 y.1, Value.int .i64 y.2] ++ ((zPs (l.length + 1 - i)).drop 2 ++ rest2)) := by rw [Nat.zero_add]; exact m1
    have q2 : (A ++ ([Value.int .u64 y.1, Value.int .i64 y.2] ++ ((zPs (l.length + 1 - i)).drop 2 ++ rest2))).take (0 + (i + 1) * 2) ++ (Bq ++ (A ++ ([Value.int .u64 y.1, Value.int .i64 y.2] ++ ((zPs (l.length + 1 - i)).drop 2 ++ rest2))).drop (0 + (i + 1) * 2 + (l.length - i) * 2)) = A ++ ([Value.int .u64 y.1, Value.int .i64 y.2] ++ (Bq ++ rest2)) := by rw [Nat.zero_add, Nat.add_mul i 1 2]; exact m2
    have q3 : 0 + i * 2 + 1 * 2 ≤ (A ++ zPs (l.length + 1 - i) ++ rest2).length := by rw [List.length_append, List.length_append]; omega
    have q4 : 0 + (i + 1) * 2 + (l.length - i) * 2 ≤ (A ++ ([Value.int .u64 y.1, Value.int .i64 y.2] ++ ((zPs (l.length + 1 - i)).drop 2 ++ rest2))).length := by simp only [List.length_append, List.length_cons, List.length_nil, List.length_drop]; omega
    have q5 : Nat.min 1 (l.length + 1 - i) = 1 := by show min _ _ = _; omega
    have q6 : Nat.min (l.length - i) (l.length + 1 - (i + 1)) = l.length - i := by show min _ _ = _; omega
    have q7 : ((A ++ Bq).drop (i * 2)).take ((l.length - i) * 2) = Bq := by rw [(zyz hA Bq).2, List.take_of_length_le (by omega)]
    have q8 : Bq.take ((l.length - i) * 2) = Bq := List.take_of_length_le (by omega)
    have q9 : (l.length - i) * 2 ≤ Bq.length := by omega
    refine Z391 ?_; refine z7 (zbe L (kh := .i64) (ph := 0) i _ rfl rfl rfl rfl rfl ⟨rfl, rfl⟩ rfl (by omega) (by omega)) rfl ?_; rw [if_neg hn1]; refine Z4 ?_; refine qo (zmf L (q := 901) 1 rfl rfl rfl rfl (zh2 rfl) rfl zik (by decide) q5 (Nat.le_refl 2) rfl q3 rfl q1) ?_; refine Z160 ?_
    refine zb7 (s := 2) (xs := A ++ Bq) (rest := []) 0 900 (List.append_nil _).symm rfl rfl (by rw [← hcur]; exact hl) (Nat.le_refl _) hcm (by rw [← hcur]; exact hl) ?_
    refine zcj 0 rfl ?_
    refine qd (id := 11) [(54, [901])] mixed (by kernel_rfl) ?_; refine Z205 ?_; refine z8 (zbe L (kh := .i64) (ph := 0) (i + 1) _ rfl rfl rfl rfl rfl ⟨rfl, rfl⟩ rfl (by omega) (by omega)) rfl ?_; rw [if_neg hn2]; refine Z198 ?_; refine z8 (za8 L (kh := .i64) (ph := 0) (km := .i64) (pm := 0) i l.length false rfl rfl rfl rfl rfl ⟨rfl, rfl⟩ ⟨rfl, rfl⟩ (fun h => by cases h) (by omega) (by omega) q7) rfl ?_; refine za3 (zmf L (q := 901) (l.length - i) rfl rfl rfl rfl (zh1 rfl) rfl zik (by omega) q6 q9 q8 q4 hpB q2) rfl rfl ?_; refine Z290 ?_
    refine zb7 (s := 2) (xs := A ++ ([Value.int .u64 y.1, Value.int .i64 y.2] ++ Bq)) (rest := rest2) 9 901 (by simp [List.append_assoc]) rfl rfl (by simp only [List.length_append, List.length_cons, List.length_nil]; omega) hmc2 hcm2 (by simp only [List.length_append, List.length_cons, List.length_nil] at hcl2 ⊢; omega) ?_
    refine Z79 ?_; refine qo (yn (.inl rfl) rfl rfl rfl rfl) ?_; refine qo (yn (.inr rfl) rfl rfl rfl rfl) ?_; refine Z137 ?_
    exact zkp rfl (fun _ _ h => h) Since.refl rfl
theorem zvh (l : List (Int × Int)) (i : Nat) : (l.eraseIdx i).flatMap pnc = (l.take i).flatMap pnc ++ (l.drop (i + 1)).flatMap pnc := by rw [List.eraseIdx_eq_take_drop_succ, List.flatMap_append]
set_option maxHeartbeats 4000000 in
set_option maxRecDepth 20000 in
theorem zsi {l : List (Int × Int)} {i : Nat} (hi : i < l.length) (hz : l.length ≤ 100000) {x : Value} {j : Int} (hj : j = ((i + 1 : Nat) : Int)) {w : World} {B : Heap} {C : Nat → Prop} (hB : B.Le (hp w)) (hx : (SlR zs5 2 l.length (l.flatMap pnc)).P x B w C) (hC : ∀ k, C k → k < w.heap.size ∧ B k = none) :
  RetT Tryz.prog 100 [x, .int .i64 i, .int .i64 j] w B C (SlR zs5 2 (l.length - 1) ((l.eraseIdx i).flatMap pnc)) := by
 subst hj
 unfold RetT
 refine zm1 0 (x := x) (SlR zs5 2 l.length (l.flatMap pnc)) rfl Tryz.func100 rfl Tryz.ntmps100 (Nat.le_of_ble_eq_true rfl) hB hx hC ?_
 refine zgt 0 900 rfl (fun hm hn => by omega) fun b cap rest hl hmc hcm hcl => ?_
 obtain ⟨y, hy⟩ := zae hi
 have hA : ((l.take i).flatMap pnc).length = i * 2 := by rw [zc6, List.length_take, Nat.min_eq_left (by omega)]
 have hBq : ((l.drop (i + 1)).flatMap pnc).length = (l.length - (i + 1)) * 2 := by rw [zc6, List.length_drop]
 have hcur : l.flatMap pnc = (l.take i).flatMap pnc ++ (pnc y ++ (l.drop (i + 1)).flatMap pnc) := by
  rw [← List.flatMap_cons, ← List.flatMap_append]
  congr 1
  rw [show y :: l.drop (i + 1) = l.drop i by rw [List.drop_eq_getElem_cons hi, zd0 hy], List.take_append_drop]
 have hpB := zgz (l.drop (i + 1))
 rw [zvh]
 generalize hAe : (l.take i).flatMap pnc = A at *
 generalize hBe : (l.drop (i + 1)).flatMap pnc = Bq at *
 rw [hcur, List.append_assoc, List.append_assoc] at hcl
 rw [hcur, List.append_assoc, List.append_assoc]
 obtain ⟨X, hX⟩ : ∃ X, X = pnc y := ⟨_, rfl⟩
 have hXl : X.length = 2 := by rw [hX]; rfl
 rw [← hX] at hcl hcur ⊢
 rw [List.length_append, List.length_append, List.length_append, hA, hBq, hXl] at hcl
 clear hX hAe hBe
 obtain ⟨m1, m2, m3⟩ := z11 (R := rest) (Z := zPs 1) hA hBq hXl
 have m3' := m3 ((X ++ (Bq ++ rest)).drop ((l.length - (i + 1)) * 2))
 have hw1 : i + (l.length - (i + 1)) = l.length - 1 := by omega
 have hw2 : l.length - (l.length - 1) = 1 := by omega
 have e1 : i * 2 + (l.length - (i + 1)) * 2 = (l.length - 1) * 2 := by omega
 have q2 : (A ++ (X ++ (Bq ++ rest))).take (i * 2) ++ (Bq ++ (A ++ (X ++ (Bq ++ rest))).drop (i * 2 + (l.length - (i + 1)) * 2)) = A ++ (Bq ++ ((X ++ (Bq ++ rest)).drop ((l.length - (i + 1)) * 2))) := m2
 have q3 : (A ++ (Bq ++ ((X ++ (Bq ++ rest)).drop ((l.length - (i + 1)) * 2)))).take (0 + (l.length - 1) * 2) ++ (zPs 1 ++ (A ++ (Bq ++ ((X ++ (Bq ++ rest)).drop ((l.length - (i + 1)) * 2)))).drop (0 + (l.length - 1) * 2 + 1 * 2)) = A ++ Bq ++ (zPs 1 ++ ((X ++ (Bq ++ rest)).drop ((l.length - (i + 1)) * 2)).drop 2) := by rw [Nat.zero_add, ← e1]; exact m3'
 have q4 : i * 2 + (l.length - (i + 1)) * 2 ≤ (A ++ (X ++ (Bq ++ rest))).length := by simp only [List.length_append]; omega
 have q5 : 0 + (l.length - 1) * 2 + 1 * 2 ≤ (A ++ (Bq ++ ((X ++ (Bq ++ rest)).drop ((l.length - (i + 1)) * 2)))).length := by simp only [List.length_append, List.length_drop]; omega
 have hne3 : ¬ cap = 0 := by omega
 have hne4 : ¬ l.length = i := by omega
 have hne5 : ¬ cap = l.length - 1 := by omega
 have fin : (A ++ Bq ++ (zPs 1 ++ ((X ++ (Bq ++ rest)).drop ((l.length - (i + 1)) * 2)).drop 2)).length = cap * 2 := by simp only [List.length_append, List.length_drop, zsr]; omega
 by_cases hc : cap = i + 1
 ·have hl1 : l.length - (i + 1) = 0 := by omega
  have hB0 : Bq = [] := List.eq_nil_of_length_eq_zero (by omega)
  have q1 : ((A ++ (X ++ (Bq ++ rest))).drop 0).take ((l.length - (i + 1)) * 2) = Bq := by rw [hl1, hB0]; rfl
  refine Z186 ?_; refine Z219 ?_; refine Z85 ?_; refine z7 (znv L i (i + 1) l.length rfl rfl rfl rfl rfl rfl rfl rfl rfl rfl rfl (by omega) (by omega) hmc) rfl ?_; refine Z188 ?_; refine Z233 ?_; refine Z245 ?_; refine Z161 ?_; refine Z85 ?_; refine Z144 ?_; refine qd (id := 5) [(26, [900])] mixed (by kernel_rfl) ?_; refine Z145 ?_; refine z8 (zbe L (kl := .i64) (pl := 0) 0 i rfl rfl rfl rfl rfl rfl ⟨rfl, rfl⟩ (by omega) (by omega)) rfl ?_; rw [if_neg hne3, show (0 + 0 * 2 : Nat) = 0 from rfl, Nat.sub_zero, Nat.sub_zero]; refine Z145 ?_; refine z8 (zbe L (kh := .i64) (ph := 0) (i + 1) _ rfl rfl rfl rfl rfl ⟨rfl, rfl⟩ rfl (by omega) (by omega)) rfl ?_; rw [if_pos hc]; refine za3 (zj1 L (q := 900) rfl rfl rfl rfl rfl rfl zik q1 hBq (by omega) q4 hpB q2) rfl rfl ?_; rw [hw1]; refine Z239 ?_; refine Z277 ?_; refine Z85 ?_; refine Z1 ?_; refine z7 (zbe L (l.length - 1) l.length rfl rfl rfl rfl rfl ⟨rfl, rfl⟩ ⟨rfl, rfl⟩ (by omega) (by omega)) rfl ?_; rw [if_neg hne5, hw2]; refine zcr (zny L (q := 900) rfl rfl rfl rfl zik rfl rfl (.inr q5) (fun _ => q3) (fun h => by cases h)) ?_; refine Z160 ?_
  refine Z193 ?_; refine Z138 ?_
  refine zb7 (s := 2) (xs := A ++ Bq) 6 900 rfl rfl rfl (by rw [List.length_append]; omega) (by omega) hcm fin ?_
  exact zkp rfl (fun _ _ h => h) Since.refl rfl
 ·have q1 : ((A ++ (X ++ (Bq ++ rest))).drop (0 + (i + 1) * 2)).take ((l.length - (i + 1)) * 2) = Bq := by rw [Nat.zero_add, Nat.add_mul]; exact m1
  refine Z186 ?_; refine Z219 ?_; refine Z85 ?_; refine z7 (znv L i (i + 1) l.length rfl rfl rfl rfl rfl rfl rfl rfl rfl rfl rfl (by omega) (by omega) hmc) rfl ?_; refine Z188 ?_; refine Z233 ?_; refine Z245 ?_; refine Z161 ?_; refine Z85 ?_; refine Z144 ?_; refine qd (id := 5) [(26, [900])] mixed (by kernel_rfl) ?_; refine Z145 ?_; refine z8 (zbe L (kl := .i64) (pl := 0) 0 i rfl rfl rfl rfl rfl rfl ⟨rfl, rfl⟩ (by omega) (by omega)) rfl ?_; rw [if_neg hne3, show (0 + 0 * 2 : Nat) = 0 from rfl, Nat.sub_zero, Nat.sub_zero]; refine Z145 ?_; refine z8 (zbe L (kh := .i64) (ph := 0) (i + 1) _ rfl rfl rfl rfl rfl ⟨rfl, rfl⟩ rfl (by omega) (by omega)) rfl ?_; rw [if_neg hc]; refine za3 (zj1 L (q := 900) rfl rfl rfl rfl rfl rfl zik q1 hBq (by omega) q4 hpB q2) rfl rfl ?_; rw [hw1]; refine Z239 ?_; refine Z277 ?_; refine Z85 ?_; refine Z1 ?_; refine z7 (zbe L (l.length - 1) l.length rfl rfl rfl rfl rfl ⟨rfl, rfl⟩ ⟨rfl, rfl⟩ (by omega) (by omega)) rfl ?_; rw [if_neg hne5, hw2]; refine zcr (zny L (q := 900) rfl rfl rfl rfl zik rfl rfl (.inr q5) (fun _ => q3) (fun h => by cases h)) ?_; refine Z160 ?_
  refine Z193 ?_; refine Z138 ?_
  refine zb7 (s := 2) (xs := A ++ Bq) 6 900 rfl rfl rfl (by rw [List.length_append]; omega) (by omega) hcm fin ?_
  exact zkp rfl (fun _ _ h => h) Since.refl rfl
end Go.V.L10
set_option maxRecDepth 20000
namespace Go.V.L10
open Go.Proofs Go.RowKit Go.V
theorem _root_.Go.V.Z358 {A B : Prop} (h : B) (t : Wr B → A := by intro h; refine Z12 ?_; refine Z187 ?_; exact h.h) : A := t ⟨h⟩
def PinP (L0 : List Int) (e : Int) : Value → Heap → Prop := fun v H => ∃ s, v = .tuple #[pnv s L0.length, .int .i64 e] ∧ PsV (zai L0) s H
theorem PinP.mono {L0 : List Int} {e : Int} : Kn.mono (.sat (PinP L0 e)) := fun _ _ _ ⟨s, h1, h2⟩ hle => ⟨s, h1, h2.le hle⟩
theorem zma {l : List (Int × Int)} {i : Nat} {x : Int × Int} (h : l[i]? = some x) (rest : List Value) : l.flatMap pnc ++ rest = (l.take i).flatMap pnc ++ (pnc x ++ ((l.drop (i + 1)).flatMap pnc ++ rest)) := by
 have hi := get_lt h
 have e : l = l.take i ++ x :: l.drop (i + 1) := by
  rw [show x :: l.drop (i + 1) = l.drop i by rw [List.drop_eq_getElem_cons hi, zd0 h], List.take_append_drop]
 conv => lhs; rw [e, List.flatMap_append, List.flatMap_cons]
 simp only [List.append_assoc]
theorem zwn {l : List (Int × Int)} {i : Nat} {r c : Int} (h : l[i]? = some (r, c)) (rest : List Value) : ∃ t, (l.flatMap pnc ++ rest).drop (0 + i * 2 + 1) = .int .i64 c :: t := by
 rw [zma h rest]
 have hl : ((l.take i).flatMap pnc).length = i * 2 := by rw [zc6, List.length_take, Nat.min_eq_left (Nat.le_of_lt (get_lt h))]
 refine ⟨(l.drop (i + 1)).flatMap pnc ++ rest, ?_⟩
 rw [List.drop_append, List.drop_eq_nil_of_le (by omega), List.nil_append, show 0 + i * 2 + 1 - ((l.take i).flatMap pnc).length = 1 by omega]
 rfl
theorem ztv {l : List (Int × Int)} {i : Nat} {r c : Int} (h : l[i]? = some (r, c)) (c' : Int) (rest : List Value) : (l.flatMap pnc ++ rest).take (0 + i * 2 + 1) ++ ([Value.int .i64 c'] ++ (l.flatMap pnc ++ rest).drop (0 + i * 2 + 1 + 1)) = (l.set i (r, c')).flatMap pnc ++ rest := by
 have hi := get_lt h
 have hl : ((l.take i).flatMap pnc).length = i * 2 := by rw [zc6, List.length_take, Nat.min_eq_left (Nat.le_of_lt hi)]
 have hs : (l.set i (r, c'))[i]? = some (r, c') := by rw [List.getElem?_set_self hi]
 rw [zma h rest, zma hs rest, List.take_set_of_le (Nat.le_refl _), List.drop_set_of_lt (Nat.lt_succ_self i)]
 generalize (l.take i).flatMap pnc = A at hl ⊢
 generalize (l.drop (i + 1)).flatMap pnc ++ rest = T
 subst_vars
 have e1 : (A ++ (pnc (r, c) ++ T)).take (0 + i * 2 + 1) = A ++ [Value.int .u64 r] := by
  rw [List.take_append, List.take_of_length_le (by omega), show 0 + i * 2 + 1 - A.length = 1 by omega]; rfl
 have e2 : (A ++ (pnc (r, c) ++ T)).drop (0 + i * 2 + 1 + 1) = T := by
  rw [List.drop_append, List.drop_eq_nil_of_le (by omega), List.nil_append, show 0 + i * 2 + 1 + 1 - A.length = 2 by omega]; rfl
 rw [e1, e2]
 simp [pnc]
theorem ztw {l : List (Int × Int)} {i : Nat} (h : i < l.length) (rest : List Value) : Nat.ble (0 + i * 2 + 1 + 1) (l.flatMap pnc ++ rest).length = true := Nat.ble_eq_true_of_le (by rw [List.length_append, zc6]; omega)
theorem z0b {l : List (Int × Int)} {i : Nat} {x : Int × Int} (hi : i ≤ l.length) : (zsa l i x)[i]? = some x := by
 unfold zsa; rw [List.getElem?_append_right (by rw [List.length_take]; omega), List.length_take, Nat.min_eq_left hi, Nat.sub_self]; rfl
theorem zw8 {l : List (Int × Int)} {i : Nat} {x y : Int × Int} (hi : i ≤ l.length) : (zsa l i x).set i y = zsa l i y := by
 unfold zsa; rw [List.set_append_right _ _ (by rw [List.length_take]; omega), List.length_take, Nat.min_eq_left hi, Nat.sub_self]; rfl
theorem z1k {L0 : List Int} (r : Int) : zgi cP r (zak L0) ≤ (zai L0).length := by rw [zb4]; exact zts r _
attribute [local irreducible] V N X VO Par StepOK Has Ret RetL RetO RetT zcb zdt Src
set_option maxHeartbeats 4000000 in
set_option maxRecDepth 20000 in
theorem zw2 {L0 : List Int} {r : Int} (hr : r ≠ 0) (hz : L0.length ≤ 1000) {s : Value} {w : World} {B : Heap} (hB : B.Le (hp w)) (hv : PsV (zai L0) s B) :
  Ret Tryz.prog 82 [pnv s L0.length, .int .u64 r, .int .i64 1] w B (PinP (L0 ++ [r]) 0) := by
 have hz2 : (zai L0).length ≤ 1000 := by rw [zb4]; exact Nat.le_trans (zbt _) hz
 have hcz : L0.count r ≤ 1000 := Nat.le_trans List.count_le_length hz
 have hws : IntKind.i64.wrap (4096 - ((L0.count r : Nat) : Int)) = 4096 - ((L0.count r : Nat) : Int) := zaa (by omega) (by omega)
 have hwt : IntKind.i64.wrap ((L0.length : Int) + 1) = ((L0 ++ [r]).length : Nat) := by rw [List.length_append]; exact zaa (by omega) (by omega)
 obtain ⟨p, c, rfl⟩ := zao hv
 have hpl := z1k (L0 := L0) r
 by_cases hm : r ∈ zak L0
 ·have hf : decide (r ∈ zak L0) = true := decide_eq_true hm
  have hp := zhv hm
  have hpi := get_lt hp
  have e1 := zjv (zax.1 hm)
  have hwc : IntKind.i64.wrap (((L0.count r : Nat) : Int) + 1) = ((L0.count r : Nat) : Int) + 1 := zaa (by omega) (by omega)
  generalize hat : zgi cP r (zak L0) = at_ at *
  refine yf Tryz.func82 rfl Tryz.ntmps82 (Nat.le_of_ble_eq_true rfl) hB ?_
  refine Z349 ?_; refine Z144 ?_; refine Z352 ?_; refine Z10 ?_; refine Z210 ?_; refine Z171 ?_; refine Z242 ?_; refine Z180 ?_; refine Z358 ?_; refine Z335 ?_; refine zh ?_; refine Z43 ?_; refine z7 (zz L (vs := [_, _]) (qm rfl) rfl rfl rfl rfl ⟨_, rfl⟩) rfl ?_; refine Z1 ?_; refine z7 (zp L rfl rfl (zk rfl) rfl rfl rfl (fun u H hH hle _ => hf ▸ hat ▸ zf6 (L0 := L0) (t := L0.length) (by omega) hH (hv.le hle))) rfl ?_; refine Z340 ?_; refine Z226 ?_; refine z7 (zz L (vs := [_, _]) (qm rfl) rfl rfl rfl rfl ⟨_, rfl⟩) rfl ?_; refine Z1 ?_; refine z7 (zp L rfl rfl (zk rfl) rfl rfl rfl (fun u H hH hle _ => count_ret (by omega) hH (hv.le hle))) rfl ?_; refine Z26 ?_; refine Z31 ?_; refine Z140 ?_; refine Z53 ?_; refine Z315 ?_; refine Z284 ?_; refine Z68 ?_; refine Z181 ?_; refine z7 (zeb L rfl rfl (zk rfl) rfl rfl rfl (fun u H hH hle _ => zhr (by omega) hH (hv.le hle))) rfl ?_; refine qo (yn (.inr rfl) rfl rfl rfl rfl) ?_; refine Z188 ?_; refine Z279 ?_; refine Z53 ?_; refine Z158 ?_
  refine zgt 10 900 rfl (fun h0 _ => by omega) fun b cap rest hl hmc hcm hcl => ?_
  obtain ⟨tl, hld⟩ := zwn hp rest
  have hst := ztv hp (((L0.count r : Nat) : Int) + 1) rest
  have hbl := ztw hpi rest
  refine Z84 ?_; refine Z140 ?_; refine z7 (qg L _ rfl rfl rfl rfl rfl rfl rfl (by omega)) rfl ?_; refine Z41 ?_; refine yq (qp L (q := 900) rfl rfl rfl rfl rfl hld) ?_; refine Z1 ?_; refine Z17 ?_; refine z7 (qg L _ rfl rfl rfl rfl rfl rfl rfl (by omega)) rfl ?_; refine Z41 ?_; refine zcr (yw L (q := 900) rfl rfl rfl rfl rfl rfl hbl rfl hst) ?_; refine Z160 ?_
  have hln : (zai (L0 ++ [r])).length = (zai L0).length := by rw [e1, List.length_set]
  rw [← e1]
  refine zb7 (s := 2) (xs := (zai (L0 ++ [r])).flatMap pnc) (rest := rest) 10 900 rfl rfl rfl (by rw [zc6, hln]) hmc hcm (by rw [List.length_append, zc6, hln, ← zc6, ← List.length_append]; exact hcl) ?_
  refine zq9 10 rfl fun x H hs _ hsw => ?_
  have hsv : PsV (zai (L0 ++ [r])) x H := by unfold PsV; rw [hln]; exact hsw.toV
  obtain ⟨p2, c2, rfl⟩ := zao hsv
  refine Z265 ?_; refine Z181 ?_; refine Z1 ?_; refine Z17 ?_; refine z7 (yv (cs := [_, _]) rfl rfl z1l rfl rfl) rfl ?_; refine Z235 ?_
  refine yd L (rs := [.cell 6 74, .tmp 7]) rfl (fun _ _ h => h) hs fun u H hH hle => ?_
  exact ⟨_, yk rfl, rfl, _, rfl, hsv.le hle⟩
 ·have hf : decide (r ∈ zak L0) = false := decide_eq_false hm
  have e1 := zo2 (L := L0) fun h => hm (zax.2 h)
  generalize hat : zgi cP r (zak L0) = at_ at *
  have e2 : zai (L0 ++ [r]) = (zsa (zai L0) at_ (r, 0)).set at_ (r, 1) := by rw [zw8 hpl]; exact e1
  have hp := z0b (x := (r, (0 : Int))) hpl
  have hpi := get_lt hp
  have hil := zpb (x := (r, (0 : Int))) hpl
  refine yf Tryz.func82 rfl Tryz.ntmps82 (Nat.le_of_ble_eq_true rfl) hB ?_
  refine Z349 ?_; refine Z144 ?_; refine Z352 ?_; refine Z10 ?_; refine Z210 ?_; refine Z171 ?_; refine Z242 ?_; refine Z180 ?_; refine Z358 ?_; refine Z335 ?_; refine zh ?_; refine Z43 ?_; refine z7 (zz L (vs := [_, _]) (qm rfl) rfl rfl rfl rfl ⟨_, rfl⟩) rfl ?_; refine Z1 ?_; refine z7 (zp L rfl rfl (zk rfl) rfl rfl rfl (fun u H hH hle _ => hf ▸ hat ▸ zf6 (L0 := L0) (t := L0.length) (by omega) hH (hv.le hle))) rfl ?_; refine Z340 ?_; refine Z226 ?_; refine z7 (zz L (vs := [_, _]) (qm rfl) rfl rfl rfl rfl ⟨_, rfl⟩) rfl ?_; refine Z1 ?_; refine z7 (zp L rfl rfl (zk rfl) rfl rfl rfl (fun u H hH hle _ => count_ret (by omega) hH (hv.le hle))) rfl ?_; refine Z26 ?_; refine Z31 ?_; refine Z140 ?_; refine Z53 ?_; refine Z1 ?_; refine Z181 ?_; refine Z85 ?_; refine Z12 ?_; refine Z8 ?_; refine Z284 ?_; refine Z68 ?_; refine Z181 ?_; refine z7 (zeb L rfl rfl (zk rfl) rfl rfl rfl (fun u H hH hle _ => zhr (by omega) hH (hv.le hle))) rfl ?_; refine qo (yn (.inr rfl) rfl rfl rfl rfl) ?_; refine Z188 ?_; refine Z279 ?_; refine Z53 ?_; refine Z143 ?_; refine Z79 ?_; refine qo (yn (.inl rfl) rfl rfl rfl rfl) ?_; refine Z140 ?_; refine z7 (yv (cs := [_, _]) rfl rfl z3q rfl rfl) rfl ?_; refine Z36 ?_; refine qo (znz L (q := 51) rfl rfl rfl rfl rfl (fun u H C x hH hle hx hC v2 hv2 => zr9 (y := (r, 0)) hpl (by omega) hH hv2 hx hC)) ?_; refine qo (yn (.inr rfl) rfl rfl rfl rfl) ?_; refine Z160 ?_
  rw [← hil]
  refine zgt 10 900 rfl (fun h0 _ => by omega) fun b cap rest hl hmc hcm hcl => ?_
  obtain ⟨tl, hld⟩ := zwn hp rest
  have hst := ztv hp 1 rest
  have hbl := ztw hpi rest
  refine Z84 ?_; refine Z140 ?_; refine z7 (qg L _ rfl rfl rfl rfl rfl rfl rfl (by omega)) rfl ?_; refine Z41 ?_; refine yq (qp L (q := 900) rfl rfl rfl rfl rfl hld) ?_; refine Z1 ?_; refine Z22 ?_; refine z7 (qg L _ rfl rfl rfl rfl rfl rfl rfl (by omega)) rfl ?_; refine Z41 ?_; refine zcr (yw L (q := 900) rfl rfl rfl rfl rfl rfl hbl rfl hst) ?_; refine Z160 ?_
  have hln : (zai (L0 ++ [r])).length = (zsa (zai L0) at_ (r, 0)).length := by rw [e2, List.length_set]
  rw [← e2]
  refine zb7 (s := 2) (xs := (zai (L0 ++ [r])).flatMap pnc) (rest := rest) 10 900 rfl rfl rfl (by rw [zc6, hln]) hmc hcm (by rw [List.length_append, zc6, hln, ← zc6, ← List.length_append]; exact hcl) ?_
  refine zq9 10 rfl fun x H hs _ hsw => ?_
  have hsv : PsV (zai (L0 ++ [r])) x H := by unfold PsV; rw [hln]; exact hsw.toV
  obtain ⟨p2, c2, rfl⟩ := zao hsv
  refine Z265 ?_; refine Z181 ?_; refine Z1 ?_; refine Z17 ?_; refine z7 (yv (cs := [_, _]) rfl rfl z1l rfl rfl) rfl ?_; refine Z235 ?_
  refine yd L (rs := [.cell 6 74, .tmp 7]) rfl (fun _ _ h => h) hs fun u H hH hle => ?_
  exact ⟨_, yk rfl, rfl, _, rfl, hsv.le hle⟩
theorem zzr {L0 : List Int} {r : Int} (hr : r ≠ 0) (hz : L0.length ≤ 1000) {s : Value} {w : World} {B : Heap} (hB : B.Le (hp w)) (hv : PsV (zai L0) s B) :
  Ret Tryz.prog 51 [pnv s L0.length, .int .u64 r] w B (PinP (L0 ++ [r]) 0) := by
 obtain ⟨p, c, rfl⟩ := zao hv
 refine yf Tryz.func51 rfl Tryz.ntmps51 (Nat.le_of_ble_eq_true rfl) hB ?_
 refine Z349 ?_; refine Z159 ?_; refine z7 (zz L (vs := [_, _]) (qm rfl) rfl rfl rfl rfl ⟨_, rfl⟩) rfl ?_; refine Z1 ?_; refine z7 (yr L rfl rfl (zk rfl) rfl rfl rfl PinP.mono (fun u H hH hle _ => zw2 hr hz hH (hv.le hle))) rfl ?_; refine zbq 8 rfl fun v1 H1 hs1 hp1 => ?_; obtain ⟨s1, rfl, hq1⟩ := hp1; obtain ⟨p1, c1, rfl⟩ := zao hq1; refine Z169 ?_; refine Z235 ?_
 refine yd L (rs := [.cell 4 74, .tmp 5]) rfl (fun _ _ h => h) hs1 fun u H hH hle => ?_
 exact ⟨_, yk rfl, rfl, _, rfl, hq1.le hle⟩
theorem PinP.nil {e : Int} {B : Heap} : PinP [] e (.tuple #[pnv (.slice none 0 0) 0, .int .i64 e]) B := ⟨_, rfl, SlV.nil⟩
set_option maxHeartbeats 4000000 in
set_option maxRecDepth 20000 in
theorem zs4 {L0 L1 : List Int} {r : Int} {e : Nat} (hr : zfi L0 r = (L1, e)) (hz : L0.length ≤ 1000) {s : Value} {w : World} {B : Heap} (hB : B.Le (hp w)) (hv : PsV (zai L0) s B) :
  Ret Tryz.prog 69 [pnv s L0.length, .int .u64 r] w B (PinP L1 e) := by
 have hz2 : (zai L0).length ≤ 1000 := by rw [zb4]; exact Nat.le_trans (zbt _) hz
 have hcz : L0.count r ≤ 1000 := Nat.le_trans List.count_le_length hz
 obtain ⟨p, c, rfl⟩ := zao hv
 unfold zfi at hr
 by_cases h0 : L0.count r = 0
 ·rw [if_pos h0] at hr
  cases hr
  have hm : r ∉ zak L0 := fun h => (List.count_eq_zero.1 h0) (zax.1 h)
  have hf : decide (r ∈ zak L0) = false := decide_eq_false hm
  refine yf Tryz.func69 rfl Tryz.ntmps69 (Nat.le_of_ble_eq_true rfl) hB ?_
  refine Z349 ?_; refine Z159 ?_; refine z7 (zz L (vs := [_, _]) (qm rfl) rfl rfl rfl rfl ⟨_, rfl⟩) rfl ?_; refine Z1 ?_; refine z7 (zp L rfl rfl (zk rfl) rfl rfl rfl (fun u H hH hle _ => hf ▸ zf6 (L0 := L0) (t := L0.length) (by omega) hH (hv.le hle))) rfl ?_; refine Z340 ?_; refine Z175 ?_; refine Z53 ?_; refine Z155 ?_; refine Z28 ?_; refine z7 (yv (cs := [_, _]) rfl rfl z1l rfl rfl) rfl ?_; refine Z235 ?_
  refine yd L (rs := [.cell 4 74, .tmp 5]) rfl (fun _ _ h => h) Since.refl fun u H hH hle => ?_
  exact ⟨_, yk rfl, rfl, PinP.nil⟩
 ·rw [if_neg h0] at hr
  cases hr
  have hmem : r ∈ L0 := List.count_pos_iff.1 (by omega)
  have hm : r ∈ zak L0 := zax.2 hmem
  have hf : decide (r ∈ zak L0) = true := decide_eq_true hm
  have hp := zhv hm
  have hpi := get_lt hp
  have hL1 : (L0.erase r).length = L0.length - 1 := by rw [List.length_erase_of_mem hmem]
  have hL0 : 0 < L0.length := List.length_pos_of_mem hmem
  have hwt : IntKind.i64.wrap ((L0.length : Int) - 1) = ((L0.erase r).length : Nat) := by rw [hL1]; exact zaa (by omega) (by omega) |>.trans (by omega)
  have hwc : IntKind.i64.wrap (((L0.count r : Nat) : Int) - 1) = ((L0.count r : Nat) : Int) - 1 := zaa (by omega) (by omega)
  have e1 : 1 < L0.count r → zai (L0.erase r) = (zai L0).set (zgi cP r (zak L0)) (r, ((L0.count r : Nat) : Int) - 1) := zhq
  have e2 : L0.count r = 1 → zai (L0.erase r) = (zai L0).eraseIdx (zgi cP r (zak L0)) := zig
  generalize hat : zgi cP r (zak L0) = at_ at *
  have hwi : IntKind.i64.wrap ((at_ : Int) + 1) = ((at_ + 1 : Nat) : Int) := zaa (by omega) (by omega)
  refine yf Tryz.func69 rfl Tryz.ntmps69 (Nat.le_of_ble_eq_true rfl) hB ?_
  refine Z349 ?_; refine Z159 ?_; refine z7 (zz L (vs := [_, _]) (qm rfl) rfl rfl rfl rfl ⟨_, rfl⟩) rfl ?_; refine Z1 ?_; refine z7 (zp L rfl rfl (zk rfl) rfl rfl rfl (fun u H hH hle _ => hf ▸ hat ▸ zf6 (L0 := L0) (t := L0.length) (by omega) hH (hv.le hle))) rfl ?_; refine Z340 ?_; refine Z175 ?_; refine Z53 ?_; refine Z158 ?_; refine Z30 ?_; refine Z181 ?_; refine z7 (zeb L rfl rfl (zk rfl) rfl rfl rfl (fun u H hH hle _ => zhr (by omega) hH (hv.le hle))) rfl ?_; refine qo (yn (.inr rfl) rfl rfl rfl rfl) ?_; refine Z188 ?_
  refine zgt 8 900 rfl (fun h0 _ => by omega) fun b cap rest hl hmc hcm hcl => ?_
  obtain ⟨tl, hld⟩ := zwn hp rest
  have hst := ztv hp (((L0.count r : Nat) : Int) - 1) rest
  have hbl := ztw hpi rest
  have hp2 : ((zai L0).set at_ (r, ((L0.count r : Nat) : Int) - 1))[at_]? = some (r, ((L0.count r : Nat) : Int) - 1) := by rw [List.getElem?_set_self hpi]
  obtain ⟨tl2, hld2⟩ := zwn hp2 rest
  have hsl : ((zai L0).set at_ (r, ((L0.count r : Nat) : Int) - 1)).length = (zai L0).length := List.length_set ..
  have hcl2 : (((zai L0).set at_ (r, ((L0.count r : Nat) : Int) - 1)).flatMap pnc ++ rest).length = cap * 2 := by rw [List.length_append, zc6, hsl, ← zc6, ← List.length_append]; exact hcl
  have hers : ((zai L0).set at_ (r, ((L0.count r : Nat) : Int) - 1)).eraseIdx at_ = (zai L0).eraseIdx at_ := by rw [List.eraseIdx_set_eq]
  by_cases h1 : L0.count r = 1
  ·have hz0 : ((L0.count r : Nat) : Int) - 1 = 0 := by omega
   refine Z244 ?_; refine z7 (qg L _ rfl rfl rfl rfl rfl rfl rfl (by omega)) rfl ?_; refine Z41 ?_; refine yq (qp L (q := 900) rfl rfl rfl rfl rfl hld) ?_; refine Z26 ?_; refine z7 (qg L _ rfl rfl rfl rfl rfl rfl rfl (by omega)) rfl ?_; refine Z41 ?_; refine zcr (yw L (q := 900) rfl rfl rfl rfl rfl rfl hbl rfl hst) ?_; refine Z160 ?_; refine Z277 ?_; refine z7 (qg L _ rfl rfl rfl rfl rfl rfl rfl (by omega)) rfl ?_; refine Z41 ?_; refine yq (qp L (q := 900) rfl rfl rfl rfl rfl hld2) ?_; refine Z280 ?_
   refine zb7 (s := 2) (xs := ((zai L0).set at_ (r, ((L0.count r : Nat) : Int) - 1)).flatMap pnc) (rest := rest) 8 900 rfl rfl rfl (by rw [zc6, hsl]) hmc hcm hcl2 ?_
   refine Z43 ?_; refine qo (yn (.inl rfl) rfl rfl rfl rfl) ?_; refine Z285 ?_; refine qo (znz L (q := 35) rfl rfl rfl rfl rfl (fun u H C x hH hle hx hC => zsi (l := (zai L0).set at_ (r, ((L0.count r : Nat) : Int) - 1)) (by rw [hsl]; exact hpi) (by rw [hsl]; omega) rfl hH (by rw [hsl]; exact hx) hC)) ?_; refine qo (yn (.inr rfl) rfl rfl rfl rfl) ?_; refine Z160 ?_
   rw [hers, hsl, ← e2 h1]
   refine zq9 8 rfl fun x H hs _ hsw => ?_
   have hsv : PsV (zai (L0.erase r)) x H := by
    unfold PsV
    rw [show (zai (L0.erase r)).length = (zai L0).length - 1 by rw [e2 h1, List.length_eraseIdx_of_lt hpi]]
    exact hsw.toV
   obtain ⟨p2, c2, rfl⟩ := zao hsv
   refine Z226 ?_; refine Z181 ?_; refine Z26 ?_; refine z7 (yv (cs := [_, _]) rfl rfl z1l rfl rfl) rfl ?_; refine Z235 ?_
   refine yd L (rs := [.cell 4 74, .tmp 5]) rfl (fun _ _ h => h) hs fun u H hH hle => ?_
   exact ⟨_, yk rfl, rfl, _, rfl, hsv.le hle⟩
  ·have hz0 : ((L0.count r : Nat) : Int) - 1 ≠ 0 := by omega
   refine Z244 ?_; refine z7 (qg L _ rfl rfl rfl rfl rfl rfl rfl (by omega)) rfl ?_; refine Z41 ?_; refine yq (qp L (q := 900) rfl rfl rfl rfl rfl hld) ?_; refine Z26 ?_; refine z7 (qg L _ rfl rfl rfl rfl rfl rfl rfl (by omega)) rfl ?_; refine Z41 ?_; refine zcr (yw L (q := 900) rfl rfl rfl rfl rfl rfl hbl rfl hst) ?_; refine Z160 ?_; refine Z277 ?_; refine z7 (qg L _ rfl rfl rfl rfl rfl rfl rfl (by omega)) rfl ?_; refine Z41 ?_; refine yq (qp L (q := 900) rfl rfl rfl rfl rfl hld2) ?_; refine Z245 ?_
   refine zb7 (s := 2) (xs := ((zai L0).set at_ (r, ((L0.count r : Nat) : Int) - 1)).flatMap pnc) (rest := rest) 8 900 rfl rfl rfl (by rw [zc6, hsl]) hmc hcm hcl2 ?_
   rw [← e1 (by omega)] at hsl ⊢
   refine zq9 8 rfl fun x H hs _ hsw => ?_
   have hsv : PsV (zai (L0.erase r)) x H := by unfold PsV; rw [hsl]; exact hsw.toV
   obtain ⟨p2, c2, rfl⟩ := zao hsv
   refine Z226 ?_; refine Z181 ?_; refine Z26 ?_; refine z7 (yv (cs := [_, _]) rfl rfl z1l rfl rfl) rfl ?_; refine Z235 ?_
   refine yd L (rs := [.cell 4 74, .tmp 5]) rfl (fun _ _ h => h) hs fun u H hH hle => ?_
   exact ⟨_, yk rfl, rfl, _, rfl, hsv.le hle⟩
end Go.V.L10
set_option maxRecDepth 20000
namespace Go.V.L10
open Go.Proofs Go.RowKit Go.V Go.V.L2 Go.V.L8 Go.V.L6
theorem _root_.Go.V.Z261 {A B : Prop} (h : B) (t : Wr B → A := by intro h; refine Z201 ?_; refine Z65 ?_; exact h.h) : A := t ⟨h⟩
abbrev tyS : TypeId := 94
abbrev Ent := List (Int × (List U × Value))
abbrev vcE (p : List U × Value) : Value := p.2
abbrev stc (n m : Nat) (s : Value) (t : Nat) : List Value := [.int .u64 n, .map (some m), s, .int .i64 t]
abbrev StO (b n m : Nat) (s : Value) (t : Nat) (es : Ent) : GR := zyc (zab b (stc n m s t) tyS) (z4l m .u64 vcE es)
theorem zey (b n m : Nat) (s : Value) (t : Nat) (es : Ent) : (StO b n m s t es).res = zgv (zal b (stc n m s t) tyS) (zls m .u64 vcE es) := rfl
def EsV (es : Ent) (H : Heap) : Prop := ∀ e ∈ es, SetV e.2.1 e.2.2 H
theorem EsV.le {es : Ent} {H H' : Heap} (h : EsV es H) (hle : H.Le H') : EsV es H' := fun e he => (h e he).le hle
theorem zib {b : Nat} {cs : List Value} {ty : TypeId} : ∀ v H u C, (zal b cs ty).P v H u C → joinH H u C b = some (.cells cs.toArray ty) := fun _ _ _ _ ⟨hb, hC⟩ => (zg4 ((hC b).2 rfl)).trans hb
theorem z04 {P : Program} (L : Tabs P) {e : TypeId} {z : Value} (hz : L.zr e = some z) (w : World) : (zeroValue e).run P w = .ok z w := by
 have h := Tabs.zr_spec hz
 unfold zrI at h
 split at h
 ·rename_i it hit; simp [zeroValue, typeInfo, hit, h]
 ·cases h
abbrev z4y : TypeId := 92
abbrev z4m : TypeId := 45
theorem mpS : Tryz.prog.underlying z4y = some (.map zi6 z4m) := by kernel_rfl
theorem kyS : Tryz.prog.underlying zi6 = some (.int .u64) := by kernel_rfl
theorem zrS (w : World) : (zeroValue z4m).run Tryz.prog w = .ok nilSet w := z04 L rfl w
attribute [local irreducible] V N X VO Par StepOK Has Ret RetL RetO RetT zcb zdt RetY Src
theorem zcm {b n : Nat} {rest : List Value} (hn : n ≠ 0) {w : World} {B : Heap} (hb : B b = some (.cells (Value.int .u64 n :: rest).toArray tyS)) (hB : B.Le (hp w)) :
  Ret Tryz.prog 43 [.pointer (some ⟨b, 0, none⟩)] w B (fun v _ => v = .bool false) := by
 refine yf Tryz.func43 rfl Tryz.ntmps43 (Nat.le_of_ble_eq_true rfl) hB ?_
 refine Z293 ?_; refine z7 (zgj rfl rfl rfl rfl z45 rfl) rfl ?_; refine Z140 ?_; refine Z296 ?_; refine Z12 ?_; refine Z8 ?_; refine Z138 ?_
 refine yd L (rs := [.tmp 2]) rfl (fun _ _ h => h) Since.refl fun u H hH hle => ?_
 rfl
theorem zle {b n : Nat} {rest : List Value} (hn : n ≠ 0) {w : World} {B : Heap} (hb : B b = some (.cells (Value.int .u64 n :: rest).toArray tyS)) (hB : B.Le (hp w)) :
  Ret Tryz.prog 15 [.pointer (some ⟨b, 0, none⟩)] w B (fun v _ => v = .int .u64 n) := by
 refine yf Tryz.func15 rfl Tryz.ntmps15 (Nat.le_of_ble_eq_true rfl) hB ?_
 refine Z276 ?_; refine z7 (zp L rfl rfl (zk rfl) rfl rfl rfl (fun u H hH hle _ => zcm hn (hle _ _ hb) hH)) rfl ?_; refine Z158 ?_; refine Z171 ?_; refine Z296 ?_; refine Z138 ?_
 refine yd L (rs := [.tmp 2]) rfl (fun _ _ h => h) Since.refl fun u H hH hle => ?_
 rfl
theorem pins_ret {b n m t : Nat} {s : Value} (hs : ∃ p k c, s = .slice p k c) (hn : n ≠ 0) {w : World} {B : Heap} (hb : B b = some (.cells (stc n m s t).toArray tyS)) (hB : B.Le (hp w)) :
  Ret Tryz.prog 25 [.pointer (some ⟨b, 0, none⟩)] w B (fun v _ => v = pnv s t) := by
 obtain ⟨p, k, c, rfl⟩ := hs
 refine yf Tryz.func25 rfl Tryz.ntmps25 (Nat.le_of_ble_eq_true rfl) hB ?_
 refine Z322 ?_; refine Z188 ?_; refine Z286 ?_; refine z7 (zp L rfl rfl (zk rfl) rfl rfl rfl (fun u H hH hle _ => zcm hn (hle _ _ hb) hH)) rfl ?_; refine Z158 ?_; refine Z171 ?_; refine Z201 ?_; refine z7 (zz L (vs := [_, _]) (yc rfl (by assumption)) rfl rfl rfl rfl ⟨_, rfl⟩) rfl ?_; refine Z252 ?_
 refine yd L (rs := [.cell 2 74]) rfl (fun _ _ h => h) Since.refl fun u H hH hle => ?_
 exact ⟨_, yk rfl, rfl, rfl⟩
set_option maxHeartbeats 1000000 in
theorem zfj {S : Sto} {b m t : Nat} {s : Value} {es : Ent} {r : Int} (hm : MapOK es S.R) (hn : S.R.length ≠ 0) {w : World} {B : Heap} {C : Nat → Prop} (hes : EsV es B) (hB : B.Le (hp w)) (hr : (StO b S.R.length m s t es).P B w C) (hC : ∀ k, C k → k < w.heap.size ∧ B k = none) :
  RetY Tryz.prog 13 [.pointer (some ⟨b, 0, none⟩), .int .u64 r] w B C (StO b S.R.length m s t es) (WithP (atS S r).1 (atS S r).2) := by
 unfold RetY
 refine zas 900 (StO b S.R.length m s t es) Tryz.func13 rfl Tryz.ntmps13 (Nat.le_of_ble_eq_true rfl) hB hr hC ?_
 rw [zey]
 refine zew 900 901 rfl (zar _) ?_
 obtain ⟨k, hk⟩ : ∃ k, k = if r = 0 then (S.R.length : Int) else r := ⟨_, rfl⟩
 have hat : atS S r = match kpt S.R k with | some t => (t, 0) | none => ([], 14) := by rw [hk]; rfl
 have hg := hm.get k
 by_cases hr0 : r = 0
 ·rw [if_pos hr0] at hk
  subst hr0
  subst hk
  cases hgk : zed (S.R.length : Int) es with
  | none =>
   rw [hgk] at hg
   rw [hat, ← hg]
   have q1 : (zed (S.R.length : Int) es).elim nilSet vcE = nilSet := by rw [hgk]; rfl
   have q2 : (zed (S.R.length : Int) es).isSome = false := by rw [hgk]; rfl
   refine Z322 ?_; refine Z189 ?_; refine yq (zav L 900 (Φ := fun H => H b = some (.cells (stc S.R.length m s t).toArray tyS)) (c := .bool false) rfl rfl (zk rfl) rfl rfl rfl rfl rfl zib (fun u H hH hle hb => zcm hn hb hH)) ?_; refine Z168 ?_; refine Z171 ?_; refine Z280 ?_; refine Z161 ?_; refine Z261 ?_; refine Z144 ?_; refine Z180 ?_; refine Z261 ?_; refine Z1 ?_; refine yq (zdq (q := 901) (vc := vcE) (S.R.length : Int) mpS kyS zrS rfl rfl rfl rfl rfl q1 q2) ?_; refine Z173 ?_; refine Z203 ?_; refine Z350 ?_; refine Z53 ?_; refine Z155 ?_; refine Z43 ?_; refine z7 (yv (cs := [_, _, _, _]) rfl rfl ztx rfl rfl) rfl ?_; refine Z235 ?_
   refine zb0 900 901 rfl rfl (zar _) ?_
   exact zb3 L 900 (r := StO b S.R.length m s t es) (rs := [.cell 4 45, .tmp 5]) rfl (fun _ _ h => h) Since.refl rfl rfl (fun H hle => ⟨_, yk rfl, rfl, _, rfl, SetV.nil⟩)
  | some x =>
   obtain ⟨l, sv⟩ := x
   rw [hgk] at hg
   rw [hat, ← hg]
   have hx : SetV l sv B := hes _ (zf3 hgk)
   obtain ⟨f1, p1, f2, p2, rfl, hpl⟩ := hx.shape
   have q1 : (zed (S.R.length : Int) es).elim nilSet vcE = .agg #[f1, .pointer p1, f2, .pointer p2] := by rw [hgk]; rfl
   have q2 : (zed (S.R.length : Int) es).isSome = true := by rw [hgk]; rfl
   refine Z322 ?_; refine Z189 ?_; refine yq (zav L 900 (Φ := fun H => H b = some (.cells (stc S.R.length m s t).toArray tyS)) (c := .bool false) rfl rfl (zk rfl) rfl rfl rfl rfl rfl zib (fun u H hH hle hb => zcm hn hb hH)) ?_; refine Z168 ?_; refine Z171 ?_; refine Z280 ?_; refine Z161 ?_; refine Z261 ?_; refine Z144 ?_; refine Z180 ?_; refine Z261 ?_; refine Z1 ?_; refine yq (zdq (q := 901) (vc := vcE) (S.R.length : Int) mpS kyS zrS rfl rfl rfl rfl rfl q1 q2) ?_; refine Z299 ?_; refine Z350 ?_; refine Z53 ?_; refine Z158 ?_; refine Z57 ?_; refine z7 (zz L (vs := [_, _, _, _]) (yk rfl) rfl rfl rfl rfl ⟨_, rfl⟩) rfl ?_; refine Z62 ?_; refine Z138 ?_
   refine zb0 900 901 rfl rfl (zar _) ?_
   exact zb3 L 900 (r := StO b S.R.length m s t es) (rs := [.cell 4 45, .tmp 5]) rfl (fun _ _ h => h) Since.refl rfl rfl (fun H hle => ⟨_, yk rfl, rfl, _, rfl, hx.le hle⟩)
 ·rw [if_neg hr0] at hk
  subst hk
  cases hgk : zed k es with
  | none =>
   rw [hgk] at hg
   rw [hat, ← hg]
   have q1 : (zed k es).elim nilSet vcE = nilSet := by rw [hgk]; rfl
   have q2 : (zed k es).isSome = false := by rw [hgk]; rfl
   refine Z322 ?_; refine Z189 ?_; refine yq (zav L 900 (Φ := fun H => H b = some (.cells (stc S.R.length m s t).toArray tyS)) (c := .bool false) rfl rfl (zk rfl) rfl rfl rfl rfl rfl zib (fun u H hH hle hb => zcm hn hb hH)) ?_; refine Z168 ?_; refine Z171 ?_; refine Z245 ?_; refine Z180 ?_; refine Z261 ?_; refine Z1 ?_; refine yq (zdq (q := 901) (vc := vcE) k mpS kyS zrS rfl rfl rfl rfl rfl q1 q2) ?_; refine Z173 ?_; refine Z203 ?_; refine Z350 ?_; refine Z53 ?_; refine Z155 ?_; refine Z43 ?_; refine z7 (yv (cs := [_, _, _, _]) rfl rfl ztx rfl rfl) rfl ?_; refine Z235 ?_
   refine zb0 900 901 rfl rfl (zar _) ?_
   exact zb3 L 900 (r := StO b S.R.length m s t es) (rs := [.cell 4 45, .tmp 5]) rfl (fun _ _ h => h) Since.refl rfl rfl (fun H hle => ⟨_, yk rfl, rfl, _, rfl, SetV.nil⟩)
  | some x =>
   obtain ⟨l, sv⟩ := x
   rw [hgk] at hg
   rw [hat, ← hg]
   have hx : SetV l sv B := hes _ (zf3 hgk)
   obtain ⟨f1, p1, f2, p2, rfl, hpl⟩ := hx.shape
   have q1 : (zed k es).elim nilSet vcE = .agg #[f1, .pointer p1, f2, .pointer p2] := by rw [hgk]; rfl
   have q2 : (zed k es).isSome = true := by rw [hgk]; rfl
   refine Z322 ?_; refine Z189 ?_; refine yq (zav L 900 (Φ := fun H => H b = some (.cells (stc S.R.length m s t).toArray tyS)) (c := .bool false) rfl rfl (zk rfl) rfl rfl rfl rfl rfl zib (fun u H hH hle hb => zcm hn hb hH)) ?_; refine Z168 ?_; refine Z171 ?_; refine Z245 ?_; refine Z180 ?_; refine Z261 ?_; refine Z1 ?_; refine yq (zdq (q := 901) (vc := vcE) k mpS kyS zrS rfl rfl rfl rfl rfl q1 q2) ?_; refine Z299 ?_; refine Z350 ?_; refine Z53 ?_; refine Z158 ?_; refine Z57 ?_; refine z7 (zz L (vs := [_, _, _, _]) (yk rfl) rfl rfl rfl rfl ⟨_, rfl⟩) rfl ?_; refine Z62 ?_; refine Z138 ?_
   refine zb0 900 901 rfl rfl (zar _) ?_
   exact zb3 L 900 (r := StO b S.R.length m s t es) (rs := [.cell 4 45, .tmp 5]) rfl (fun _ _ h => h) Since.refl rfl rfl (fun H hle => ⟨_, yk rfl, rfl, _, rfl, hx.le hle⟩)
end Go.V.L10
set_option maxRecDepth 20000
namespace Go.V
open Go.RowKit
def SlX (e : TypeId) (s cap n : Nat) (xs : List Value) : Res where
 P x _ u C := xs.length = n * s ∧ ∃ b rest, x = .slice (some ⟨b, 0, none⟩) n cap ∧ u.heap[b]? = some (.cells (xs ++ rest).toArray e) ∧ n ≤ cap ∧ cap ≤ maxLen ∧ (xs ++ rest).length = cap * s ∧ ∀ k, C k ↔ k = b
 st := fun ⟨hl, b, rest, h1, h2, h3, h4, h5, h6⟩ _ _ _ hk => ⟨hl, b, rest, h1, (hk b ((h6 b).2 rfl)).trans h2, h3, h4, h5, h6⟩
section
variable {P : Program} {F : Fr} {B : Heap} {O : Boxes} {n : Nat} {ops : Array Oper} {κ : Kap} {d : Nat} {ty : TypeId} {pos : String} {aft : Array Edge} {g : Option (Nat × Bool)} {Q : Exit → Act → World → Prop}
theorem zud (L : Tabs P) {t e : TypeId} {x y : Operand} {kl kc : IntKind} {s by_ : Nat} (c : Nat) {p : Int} (hn : Nat.blt d n = true) (hg : gK ops κ ⟨some d, .makeSlice t x y, ty, pos, aft, g⟩ = some true) (ht : L.sl t = some e) (he : elI P e = some (s, by_))
  (hx : evK κ x = some (.int kl 0)) (hy : evK κ y = some (.int kc p)) (hp : p = c) (hb : by_ * c ≤ 281474976710656) (hc : c ≤ maxLen) : StepOK P F B n ops O κ ⟨some d, .makeSlice t x y, ty, pos, aft, g⟩ d (.own (SlX e s c 0 [])) := by
 rintro κ' a u hl ⟨H, fp, hh⟩
 unfold After
 rw [if_pos (zaf hh hl hg)]
 have en := hh.env hl
 obtain ⟨i, z, hi, hz, hs1, hs2, hs3, hs4⟩ := zb8 he
 have h1 := en.is_ x _ (by simp [Op.operands]) hx
 have h2 := en.is_ y _ (by simp [Op.operands]) hy
 subst hp
 have hb' : (i.bytes : Int) * (c : Int) ≤ 281474976710656 := by
  have h : ((by_ * c : Nat) : Int) ≤ 281474976710656 := by omega
  rw [hs2]; rwa [Int.natCast_mul] at h
 have h63 : (c : Int) ≤ 9223372036854775807 := by simp [maxLen] at hc; omega
 have hr := run_make (P := P) u t e i z (Tabs.sl_spec ht) hi hz kl kc 0 c (Int.le_refl _) (by omega) hb' h63
 simp only [Int.toNat_zero, Int.toNat_natCast] at hr
 have hrun : (execOp a.eval ⟨some d, .makeSlice t x y, ty, pos, aft, g⟩).run P u = .ok (.value (.slice (some ⟨u.heap.size, 0, none⟩) 0 c)) (u.alloc (.cells (madeCells z.cells (c * i.size)) e)) := by
  simp only [execOp, h1, h2, Sem.run_bind, hr, Result.andThen_ok]; rfl
 rw [hrun]
 simp only [Upon]
 have hg2 := hh.grow (Grow.hid hh.sub (.cells (madeCells z.cells (c * i.size)) e))
 refine ⟨H, _, hg2.putR (C := fun k => k = u.heap.size) (by simp [Act.put]) rfl (fun t ht => zan ht) ⟨by simp, u.heap.size, (madeCells z.cells (c * i.size)).toList, zap (by rw [hh.size]; exact zk hn), by rw [zaq]; simp, Nat.zero_le _, hc, by simp [size_madeCells, hs1], fun _ => Iff.rfl⟩ (fun k hk => ?_) fun t r' _ ht k hf hk => ?_⟩
 ·subst hk
  exact ⟨zag (zaq u _), zbf hh.sub (Nat.le_refl _), .inl hh.keep.size, fun y hy e => by have := zag (hh.boxes y hy).1; omega⟩
 ·have := ((hh.slot t _ ht).2 k hf).1
  omega
theorem zx6 (t q : Nat) {e : TypeId} {s cap m : Nat} {xs : List Value} {c : Code} (hk : κ t = some (.own (SlX e s cap m xs)))
  (h : ∀ b rest, xs.length = m * s → m ≤ cap → cap ≤ maxLen → (xs ++ rest).length = cap * s → V P F B n O (upd (upd (upd κ t zd3) q (.own (zal b (xs ++ rest) e))) t (.is (.slice (some ⟨b, 0, none⟩) m cap))) c Q) : V P F B n O κ c Q := fun a u hh => by
 obtain ⟨H, fp, hh⟩ := hh
 obtain ⟨⟨hl, b, rest, hv, hb, h3, h4, h5, hC⟩, hM⟩ := hh.slot t _ hk
 have h2 := hh.usePut (d := q) (a' := a) (r' := zal b (xs ++ rest) e) (C := fp t) hk ⟨Keep.refl _ _, hh.sub, Heap.Le.refl _, fun _ _ _ => rfl⟩ rfl rfl (fun _ _ => rfl) ⟨hb, hC⟩ fun k hk => ⟨.inl hk, (hM k hk).1, (hM k hk).2.1⟩
 have h3' := h2.name t
 rw [hv] at h3'
 exact h b rest hl h3 h4 h5 a u ⟨H, _, h3'⟩
theorem zo7 (L : Tabs P) {q b nn cap m : Nat} {x y : Operand} {t e : TypeId} {s by_ : Nat} {cur news cur' : List Value} (hn : Nat.blt d n = true) (hg : gK ops κ ⟨some d, .call ⟨.builtin .append, #[x, y], #[t, t]⟩, ty, pos, aft, g⟩ = some true)
  (hx : evK κ x = some (.slice (some ⟨b, 0, none⟩) nn cap)) (hq : κ q = some (.own (zal b cur e))) (hy : Apd F B O κ y m news) (ht : L.sl t = some e) (he : elI P e = some (s, by_)) (hm : 0 < m) (hnl : news.length = m * s) (hroom : nn + m ≤ cap) (hcl : nn * s + m * s ≤ cur.length) (h1 : news.all zbi = true)
  (hr : cur.take (nn * s) ++ (news ++ cur.drop (nn * s + m * s)) = cur') :
  StepOK2 P F B n ops O κ ⟨some d, .call ⟨.builtin .append, #[x, y], #[t, t]⟩, ty, pos, aft, g⟩ q (.own (zal b cur' e)) d (.is (.slice (some ⟨b, 0, none⟩) (nn + m) cap)) := by
 rintro κ' a u hlk hks ⟨H, fp, hh⟩
 unfold After
 rw [if_pos (zaf hh hlk hg)]
 have en := hh.env hlk
 have hk' : κ' q = some (.own (zal b cur e)) := hks.trans hq
 have hxe := en.is_ x _ (by simp [Op.operands, Call.operands]) hx
 obtain ⟨⟨hb, hC⟩, hM⟩ := hh.slot q _ hk'
 obtain ⟨i, z, hi, hz, hs1, hs2, hs3, hs4⟩ := zb8 he
 subst hs1
 rcases hy _ a u H fp (by simp [Op.operands, Call.operands]) en with ⟨h0, _⟩ | ⟨ad, c', hye, hcy⟩
 ·omega
 have hrun0 := run_append_room (P := P) u t ty e i (Tabs.sl_spec ht) hi b nn cap cur.toArray hb ad m c' news hnl hcy (fun v hv => zc2 (List.all_eq_true.1 h1 v hv)) hroom (by rw [hnl]; simpa using hcl)
 rw [hnl] at hrun0
 simp only [List.append_assoc] at hrun0
 rw [hr] at hrun0
 have hrun : (execOp a.eval ⟨some d, .call ⟨.builtin .append, #[x, y], #[t, t]⟩, ty, pos, aft, g⟩).run P u = .ok (.value (.slice (some ⟨b, 0, none⟩) (nn + m) cap)) (u.setRow b cur'.toArray) := by
  simp only [execOp, resolve, invoke, builtin, Sem.run_bind, Sem.run_pure, Result.andThen_ok, List.map_toArray, List.map_cons, List.map_nil, hxe, hye, hrun0]
 rw [hrun]
 simp only [Upon]
 have hbm := hM b ((hC b).2 rfl)
 have h2 := hh.usePut (d := q) (a' := a) (r' := zal b cur' e) (C := fun k => k = b) hk' (zbl hh.sub hb ((hC b).2 rfl) hbm.2.1 _) rfl rfl (fun _ _ => rfl) ⟨setRow_heap u b cur.toArray cur'.toArray e (0, 0) hb, fun _ => Iff.rfl⟩ (fun k hk => by
  subst hk; exact ⟨.inl ((hC k).2 rfl), by rw [setRow_size]; exact hbm.1, hbm.2.1⟩)
 rw [za6] at h2
 exact ⟨H, _, h2.put (k := .is _) (zk hn) trivial rfl⟩
end
end Go.V
set_option maxRecDepth 20000
namespace Go.V.L10
open Go.Proofs Go.RowKit Go.V Go.V.L2 Go.V.L8 Go.V.L6
theorem zwf {R : List (Option (List U))} {es : Ent} (hm : MapOK es R) {out : List Int} (hp : out.Perm (es.map Prod.fst)) : (Go.Sort.sort So.lt out.toArray).toList = zbj R := by
 have h1 : (Go.Sort.sort So.lt out.toArray).toList = out.mergeSort (fun x y => decide (x ≤ y)) := Go.Sort.sortInt out
 rw [h1]
 have hperm := List.mergeSort_perm out (fun x y => decide (x ≤ y))
 have hnd : (out.mergeSort (fun x y => decide (x ≤ y))).Nodup := (hperm.trans hp).nodup_iff.2 hm.nd
 have hs : (out.mergeSort (fun x y => decide (x ≤ y))).Pairwise fun a b => decide (a ≤ b) = true := List.pairwise_mergeSort (le := fun x y : Int => decide (x ≤ y)) (fun a b c h1 h2 => by simp at h1 h2 ⊢; omega) (fun a b => by simp; omega) out
 refine ze1 zci ?_ (zja R) fun z => ?_
 ·refine (List.Pairwise.and hs hnd).imp ?_
  rintro a b ⟨h2, h3⟩
  have h4 : a ≤ b := by simpa using h2
  have h5 : a ≠ b := h3
  exact zxv.2 (by omega)
 ·rw [(hperm.trans hp).mem_iff, hm.mem]
theorem zln {α : Type} : ∀ {l : List α} {j : Nat} {x : α}, l[j]? = some x → (x :: l.eraseIdx j).Perm l
 | [], _, _, h => by cases h
 | y :: l, 0, x, h => by cases h; exact List.Perm.refl _
 | y :: l, j + 1, x, h => by
  have := zln (l := l) (j := j) (x := x) (by simpa using h)
  exact (List.Perm.swap y x _).trans (this.cons y)
theorem zu0 {left : Ent} {j : Nat} {p : Int × (List U × Value)} (h : left[j]? = some p) (out : List Int) : (out ++ [p.1] ++ (left.eraseIdx j).map Prod.fst).Perm (out ++ left.map Prod.fst) := by
 have h1 : (p :: left.eraseIdx j).Perm left := zln h
 rw [List.append_assoc]
 refine List.Perm.append_left out ?_
 simpa using h1.map Prod.fst
attribute [local irreducible] V N X VO Par StepOK Has Ret RetL RetO RetT zcb zdt RetY Src
abbrev z3a (R : List (Option (List U))) : Res := SlE zi6 1 (zbj R).length ((zbj R).map (Value.int .u64))
set_option maxHeartbeats 2000000 in
set_option maxRecDepth 10000 in
theorem zmm {R : List (Option (List U))} {b m t : Nat} {s : Value} {es : Ent} (hm : MapOK es R) (hn : R.length ≠ 0) (hz : es.length ≤ 100000) {w : World} {B : Heap} {C : Nat → Prop} (hB : B.Le (hp w)) (hr : (StO b R.length m s t es).P B w C) (hC : ∀ k, C k → k < w.heap.size ∧ B k = none) :
  RetT Tryz.prog 12 [.pointer (some ⟨b, 0, none⟩)] w B C (zgv (z3a R) (StO b R.length m s t es).res) := by
 have hlen := hm.len
 rw [show z3a R = SlE zi6 1 es.length ((zbj R).map (Value.int .u64)) by rw [hlen]]
 unfold RetT
 refine zas 900 (StO b R.length m s t es) Tryz.func12 rfl Tryz.ntmps12 (Nat.le_of_ble_eq_true rfl) hB hr hC ?_
 rw [zey]
 refine zew 900 901 rfl (zar _) ?_
 refine Z276 ?_; refine yq (zav L 900 (Φ := fun H => H b = some (.cells (stc R.length m s t).toArray tyS)) (c := .bool false) rfl rfl (zk rfl) rfl rfl rfl rfl rfl zib (fun u H hH hle hb => zcm hn hb hH)) ?_; refine Z158 ?_; refine Z171 ?_; refine Z261 ?_; refine yq (zo6 (q := 901) (vc := vcE) mpS rfl rfl rfl rfl rfl) ?_; refine z7 (zud L es.length rfl rfl rfl zxj rfl rfl rfl (by omega) (by unfold maxLen; omega)) rfl ?_; refine qo (yn (.inr rfl) rfl rfl rfl rfl) ?_; refine Z188 ?_
 refine zx6 3 902 rfl fun b3 rest0 _ _ hcm hcl0 => ?_
 refine Z161 ?_; refine Z261 ?_; refine qo (zt8 (q := 901) (vc := vcE) mpS rfl rfl rfl rfl) ?_; refine Z268 ?_
 refine zaj (fun T : (List Int × List Value) × Ent => [(3, .is (.slice (some ⟨b3, 0, none⟩) T.1.1.length es.length)), (17, .own (zya m .u64 vcE es T.2)), (900, .own (zal b (stc R.length m s t) tyS)), (902, .own (zal b3 (T.1.1.map (Value.int .u64) ++ T.1.2) zi6))])
  (fun T => (T.1.1 ++ T.2.map Prod.fst).Perm (es.map Prod.fst) ∧ (T.1.1.map (Value.int .u64) ++ T.1.2).length = es.length * 1) (fun T => T.2.length) (([], rest0), es) ⟨List.Perm.refl _, hcl0⟩ ⟨rfl, rfl, rfl, rfl, trivial⟩ ?_
 rintro ⟨⟨out, rest⟩, left⟩ ⟨hp, hcl⟩
 dsimp only at hp hcl ⊢
 have hpl := hp.length_eq
 rw [List.length_append, List.length_map, List.length_map] at hpl
 by_cases hl : left = []
 ·subst hl
  rw [List.map_nil, List.append_nil] at hp
  have hol : out.length = es.length := by simpa using hpl
  have hr0 : rest = [] := List.eq_nil_of_length_eq_zero (by rw [List.length_append, List.length_map] at hcl; omega)
  subst hr0
  rw [hol]
  have hsk := zwf hm hp
  refine zh ?_; refine Z38 ?_; refine z7 (zua rfl rfl rfl rfl rfl) rfl ?_; refine Z14 ?_; refine Z282 ?_; refine zj ?_; refine zh ?_
  refine z23 17 901 rfl ?_
  refine Z226 ?_; refine qo (za0 L 902 (zab b3 ((zbj R).map (Value.int .u64) ++ []) So.tyU) (r := zab b3 (out.map (Value.int .u64) ++ []) So.tyU) rfl rfl rfl rfl rfl (fun u H C hH _ hr hC => by have h := So.sortU_ret (d := out.toArray) (rest := []) (b := b3) (m := es.length) (cap := es.length) (by simpa using hol) hz hH hr hC; unfold uC at h; rw [hsk] at h; exact h)) ?_; refine Z160 ?_
  rw [za1, show (zbj R).map (Value.int .u64) ++ [] = (zbj R).map (Value.int .u64) from List.append_nil _]
  refine zy6 (s := 1) 3 902 rfl rfl (by rw [List.length_map, hlen, Nat.mul_one]) (by unfold maxLen; omega) ?_
  refine Z59 ?_; refine qo (yn (.inl rfl) rfl rfl rfl rfl) ?_; refine qo (yn (.inr rfl) rfl rfl rfl rfl) ?_; refine Z137 ?_
  refine zb0 900 901 rfl rfl (zar _) ?_
  refine zb0 2 900 rfl rfl (zar (StO b R.length m s t es)) ?_
  exact zkp rfl (fun _ _ h => h) Since.refl rfl
 ·have hll : 0 < left.length := List.length_pos_iff.2 hl
  have hroom : out.length + 1 ≤ es.length := by omega
  have hrl : 0 < rest.length := by rw [List.length_append, List.length_map] at hcl; omega
  have hcl2 : out.length * 1 + 1 * 1 ≤ (out.map (Value.int .u64) ++ rest).length := by rw [hcl]; omega
  have hrr : ∀ k : Int, (out.map (Value.int .u64) ++ rest).take (out.length * 1) ++ ([Value.int .u64 k] ++ (out.map (Value.int .u64) ++ rest).drop (out.length * 1 + 1 * 1)) = (out ++ [k]).map (Value.int .u64) ++ rest.drop 1 := fun k => by
   have e1 : (out.map (Value.int .u64)).length = out.length * 1 := by simp
   rw [← e1, List.take_append, List.take_of_length_le (Nat.le_refl _), Nat.sub_self, List.take_zero, List.append_nil, List.drop_append, List.drop_eq_nil_of_le (by omega), List.nil_append, show (out.map (Value.int .u64)).length + 1 * 1 - (out.map (Value.int .u64)).length = 1 by omega]
   simp
  refine zh ?_; refine Z38 ?_; refine zv5 rfl rfl hl rfl rfl rfl (fun j p hjp => ?_); refine Z14 ?_; refine Z220 ?_; refine Z227 ?_; refine Z45 ?_; refine z7 (zug rfl rfl rfl) rfl ?_; refine Z14 ?_; refine Z138 ?_; refine Z325 ?_; refine Z36 ?_; refine qo (zo7 L (q := 902) rfl rfl rfl rfl (zh2 rfl) rfl zxj (by omega) rfl hroom hcl2 rfl (hrr _)) ?_; refine Z243 ?_
  refine zpr 17 (zya m .u64 vcE es (left.eraseIdx j)) rfl z1g ?_
  exact yh (x := ((out, rest), left)) ((out ++ [p.1], rest.drop 1), left.eraseIdx j) ⟨(zu0 hjp out).trans hp, by
   dsimp only
   rw [List.length_append, List.length_map, List.length_append, List.length_drop]
   rw [List.length_append, List.length_map] at hcl
   simp only [List.length_cons, List.length_nil]
   omega⟩ (by dsimp only; rw [List.length_eraseIdx_of_lt (get_lt hjp)]; omega) ⟨by rw [List.length_append]; rfl, rfl, rfl, rfl, trivial⟩
end Go.V.L10
set_option maxRecDepth 20000
namespace Go.V
open Go.RowKit
section
variable {P : Program} {F : Fr} {B : Heap} {O : Boxes} {n : Nat} {ops : Array Oper} {κ : Kap} {d : Nat} {ty : TypeId} {pos : String} {aft : Array Edge} {g : Option (Nat × Bool)} {Q : Exit → Act → World → Prop}
theorem zpu {κ : Kap} {q : Nat} {k : Kn} (h : κ q = some k) : upd κ q k = κ := by
 funext t
 by_cases e : t = q
 ·subst e; rw [zad]; exact h.symm
 ·rw [zac _ _ e]
theorem zbb (L : Tabs P) (q : Nat) (φ : Value → Heap → Prop) {r : GR} {f : Nat} {args : Array Operand} {at_ : Array TypeId} {cap : List Value} {fo : Operand}
  (hn : Nat.blt d n = true) (hg : gK ops κ ⟨some d, .call { callee := .value fo, args := args, argTypes := at_ }, ty, pos, aft, g⟩ = some true)
  (hf : evK κ fo = some (.func (.func f) #[] cap.toArray)) (hfn : L.fn f = some ()) (hq : κ q = some (.own r.res)) (hm : Kn.mono (.sat φ))
  (h : ∀ u H C, H.Le (hp u) → B.Le H → r.P H u C → (∀ k, C k → k < u.heap.size ∧ H k = none) → Args κ H args.toList [] (fun vs => RetY P f (vs ++ cap) u H C r φ)) :
  zdi P F B n ops O κ ⟨some d, .call { callee := .value fo, args := args, argTypes := at_ }, ty, pos, aft, g⟩ q d (.sat φ) := by
 rintro κ' a u hlk hks ⟨H, fp, hh⟩
 unfold After
 rw [if_pos (zaf hh hlk hg)]
 have hk' : κ' q = some (.own r.res) := hks.trans hq
 obtain ⟨hown, hM⟩ := hh.slot q _ hk'
 have e2 := hh.env hlk
 have hfe : a.eval fo = .func (.func f) #[] cap.toArray := e2.is_ fo _ (by simp [Op.operands, Call.operands]) hf
 have hc := Args.use e2 args.toList [] (fun x hx => by simp [Op.operands, Call.operands] at hx ⊢; exact .inr hx) (h u H (fp q) hh.sub hh.base hown fun k hk => ⟨(hM k hk).1, (hM k hk).2.1⟩)
 simp only [List.reverse_nil, List.nil_append] at hc
 rw [zc1 L rfl hfe hfn]
 simp only [Upon]
 refine Calls.mono hc fun e' u' hp => ?_
 obtain ⟨x, rfl, H', g', hx, C', hv, hC'⟩ := hp
 have h2 := hh.usePut (d := q) (a' := a) (r' := r.res) hk' g' rfl rfl (fun _ _ => rfl) hv hC'
 rw [za6, zpu hk'] at h2
 exact ⟨x, rfl, H', _, h2.put (k := .sat φ) (zk hn) hm hx⟩
theorem zfn (L : Tabs P) (q : Nat) (v : Value) {r : GR} {f : Nat} {args : Array Operand} {at_ : Array TypeId} {cap : List Value} {fo : Operand}
  (hn : Nat.blt d n = true) (hg : gK ops κ ⟨some d, .call { callee := .value fo, args := args, argTypes := at_ }, ty, pos, aft, g⟩ = some true)
  (hf : evK κ fo = some (.func (.func f) #[] cap.toArray)) (hfn : L.fn f = some ()) (hq : κ q = some (.own r.res))
  (h : ∀ u H C, H.Le (hp u) → B.Le H → r.P H u C → (∀ k, C k → k < u.heap.size ∧ H k = none) → Args κ H args.toList [] (fun vs => RetY P f (vs ++ cap) u H C r (fun x _ => x = v))) :
  zdi P F B n ops O κ ⟨some d, .call { callee := .value fo, args := args, argTypes := at_ }, ty, pos, aft, g⟩ q d (.is v) := by
 rintro κ' a u hlk hks ⟨H, fp, hh⟩
 unfold After
 rw [if_pos (zaf hh hlk hg)]
 have hk' : κ' q = some (.own r.res) := hks.trans hq
 obtain ⟨hown, hM⟩ := hh.slot q _ hk'
 have e2 := hh.env hlk
 have hfe : a.eval fo = .func (.func f) #[] cap.toArray := e2.is_ fo _ (by simp [Op.operands, Call.operands]) hf
 have hc := Args.use e2 args.toList [] (fun x hx => by simp [Op.operands, Call.operands] at hx ⊢; exact .inr hx) (h u H (fp q) hh.sub hh.base hown fun k hk => ⟨(hM k hk).1, (hM k hk).2.1⟩)
 simp only [List.reverse_nil, List.nil_append] at hc
 rw [zc1 L rfl hfe hfn]
 simp only [Upon]
 refine Calls.mono hc fun e' u' hp => ?_
 obtain ⟨x, rfl, H', g', hx, C', hv, hC'⟩ := hp
 have h2 := hh.usePut (d := q) (a' := a) (r' := r.res) hk' g' rfl rfl (fun _ _ => rfl) hv hC'
 rw [za6, zpu hk'] at h2
 exact ⟨x, rfl, H', _, h2.put (k := .is v) (zk hn) trivial hx⟩
theorem zue (L : Tabs P) {x : Operand} {q b : Nat} {t t' : TypeId} {s off : Nat} {cs vs : List Value} {r : Res} (hx : evK κ x = some (.pointer (some ⟨b, off, none⟩))) (hq : κ q = some (.own r)) (hcell : ∀ v H u C, r.P v H u C → u.heap[b]? = some (.cells cs.toArray t')) (hn : Nat.blt d n = true) (hg : gK ops κ ⟨some d, .load t x, ty, pos, aft, g⟩ = some true)
  (hl : L.ld t = some (true, s)) (hlen : vs.length = s) (hc : ∃ r, cs.drop off = vs ++ r) : zdi P F B n ops O κ ⟨some d, .load t x, ty, pos, aft, g⟩ q d (.is (.agg vs.toArray)) := by
 rintro κ' a u hlk hqk ⟨H, fp, hh⟩
 unfold After
 rw [if_pos (zaf hh hlk hg)]
 have e := hh.env hlk
 have h1 := e.is_ x _ (by simp [Op.operands]) hx
 obtain ⟨hown, hM⟩ := hh.slot q _ (hqk.trans hq)
 have h2 := hcell _ _ _ _ hown
 obtain ⟨r, hc⟩ := hc
 have hrun : (execOp a.eval ⟨some d, .load t x, ty, pos, aft, g⟩).run P u = .ok (.value (.agg vs.toArray)) u := by
  simp only [execOp, h1, Instr.loadAt, Instr.sureAddr, Sem.run_bind, Sem.run_pure, Result.andThen_ok]
  rw [zbz (Tabs.ld_spec hl) u _ vs hlen (fun j v hj => by
   have h3 : cs[off + j]? = some v := by
    have := congrArg (·[j]?) hc
    simp only [List.getElem?_drop] at this
    rw [this, List.getElem?_append_left (by
     rcases Nat.lt_or_ge j vs.length with h | h
     ·exact h
     ·rw [List.getElem?_eq_none h] at hj; cases hj)]
    exact hj
   show u.cell? (Addr.add ⟨b, off, none⟩ j) = some v
   have : Addr.add ⟨b, off, none⟩ j = ⟨b, off + j, none⟩ := by simp [Addr.add]
   rw [this, za2 h2]; simpa using h3)]
  rfl
 rw [hrun]
 simp only [Upon]
 exact ⟨H, fp, hh.put (k := .is (.agg vs.toArray)) (zk hn) trivial rfl⟩
theorem zvt {b : Nat} {cs : List Value} {ty : TypeId} {r2 : Res} : ∀ v H u C, (zgv (zal b cs ty) r2).P v H u C → u.heap[b]? = some (.cells cs.toArray ty) := fun _ _ _ _ ⟨_, _, h, _⟩ => h.1
theorem zuy {b : Nat} {cs : List Value} {ty : TypeId} {r2 : Res} : ∀ v H u C, (zgv (zal b cs ty) r2).P v H u C → joinH H u C b = some (.cells cs.toArray ty) := fun _ _ _ _ ⟨_, _, ⟨hb, hC⟩, _, h3, _⟩ => (zg4 ((h3 b).2 (.inl ((hC b).2 rfl)))).trans hb
end
theorem RetT.pubY {P : Program} {f : FuncId} {args : List Value} {w : World} {B : Heap} {C : Nat → Prop} {r : GR} {r1 : Res} {φ : Value → Heap → Prop} (h : RetT P f args w B C (zgv r1 r.res)) (hl : z4j r1 φ) : RetY P f args w B C r φ :=
 Calls.mono h fun _ u ⟨v, he, H, g, C', ⟨C1, C2, h1, h2, h3, h4⟩, h5⟩ => by
  have hs := zg3 (u := u) (C := C1) g.sub
  have hle := zmn (u := u) fun k hk => (h5 k ((h3 k).2 (.inl hk))).2.2
  refine ⟨v, he, joinH H u C1, ⟨g.keep, hs, fun k x hx => hle _ _ (g.le _ _ hx), fun k hk hn => (zdy fun hc => ?_).trans (g.fresh k hk hn)⟩, hl _ _ _ _ h1, C2, r.st h2 hle hs (On.refl u) (fun _ _ => rfl), fun k hk => ⟨(h5 k ((h3 k).2 (.inr hk))).1, (h5 k ((h3 k).2 (.inr hk))).2.1, (zdy fun hc => h4 k hc hk).trans (h5 k ((h3 k).2 (.inr hk))).2.2⟩⟩
  rcases (h5 k ((h3 k).2 (.inl hc))).1 with h6 | h6
  ·exact hn h6
  ·omega
theorem RetY.ex {P : Program} {f : FuncId} {args : List Value} {w : World} {B : Heap} {C : Nat → Prop} {X : Type} {r : X → GR} {φ : X → Heap → Prop} {hφ : zhe φ} {ψ : Value → Heap → Prop} (hr : (GEx r φ hφ).P B w C) (h : ∀ x, φ x B → (r x).P B w C → RetY P f args w B C (r x) ψ) : RetY P f args w B C (GEx r φ hφ) ψ := by
 obtain ⟨x, h1, h2⟩ := hr
 exact RetL.mono (h x h1 h2) fun v H u hg ⟨h3, C', h4, h5⟩ => ⟨h3, C', ⟨x, hφ _ _ _ h1 hg.le, h4⟩, h5⟩
end Go.V
set_option maxRecDepth 20000
namespace Go.V
open Go.Proofs Go.RowKit
section
variable {α β : Type} [DecidableEq α] [DecidableEq β] {k : α → β} {c : β → β → Int}
def Eqv (k : α → β) (S S' : List α) : Prop := ∀ t, S'.filter (fun x => decide (k x = t)) = S.filter (fun x => decide (k x = t))
def Srt (k : α → β) (c : β → β → Int) (l : List α) : Prop := l.Pairwise fun x y => ¬ c (k y) (k x) < 0
def Stb (k : α → β) (c : β → β → Int) (S S' : List α) : Prop := Srt k c S' ∧ Eqv k S S'
omit [DecidableEq α] in
theorem Eqv.refl (S : List α) : Eqv k S S := fun _ => rfl
omit [DecidableEq α] in
theorem Eqv.trans {A B C : List α} (h1 : Eqv k A B) (h2 : Eqv k B C) : Eqv k A C := fun t => (h2 t).trans (h1 t)
omit [DecidableEq α] in
theorem Eqv.app {A A' B B' : List α} (h1 : Eqv k A A') (h2 : Eqv k B B') : Eqv k (A ++ B) (A' ++ B') := fun t => by rw [List.filter_append, List.filter_append, h1 t, h2 t]
omit [DecidableEq α] in
theorem Eqv.swap {A B : List α} (h : ∀ a ∈ A, ∀ b ∈ B, k a ≠ k b) : Eqv k (A ++ B) (B ++ A) := fun t => by
 rw [List.filter_append, List.filter_append]
 by_cases ha : ∃ a ∈ A, k a = t
 ·obtain ⟨a, ha, rfl⟩ := ha
  have : B.filter (fun x => decide (k x = k a)) = [] := List.filter_eq_nil_iff.2 fun b hb e => h a ha b hb (by simpa using e : k b = k a).symm
  rw [this, List.append_nil, List.nil_append]
 ·have : A.filter (fun x => decide (k x = t)) = [] := List.filter_eq_nil_iff.2 fun a h1 e => ha ⟨a, h1, by simpa using e⟩
  rw [this, List.append_nil, List.nil_append]
theorem Eqv.count {S S' : List α} (h : Eqv k S S') (x : α) : S'.count x = S.count x := by
 have e : ∀ l : List α, (l.filter fun y => decide (k y = k x)).count x = l.count x := fun l => List.count_filter (by simp)
 rw [← e S', ← e S, h (k x)]
theorem Eqv.perm {S S' : List α} (h : Eqv k S S') : S'.Perm S := List.perm_iff_count.2 fun x => h.count x
theorem Eqv.length {S S' : List α} (h : Eqv k S S') : S'.length = S.length := h.perm.length_eq
theorem Eqv.mem {S S' : List α} (h : Eqv k S S') {x : α} : x ∈ S' ↔ x ∈ S := h.perm.mem_iff
omit [DecidableEq α] [DecidableEq β] in
theorem zdu {A B : List α} : Srt k c (A ++ B) ↔ Srt k c A ∧ Srt k c B ∧ ∀ a ∈ A, ∀ b ∈ B, ¬ c (k b) (k a) < 0 := List.pairwise_append
omit [DecidableEq α] [DecidableEq β] in
theorem zux (ho : Ord3 c) {a b : β} (h : c a b < 0) : b ≠ a := fun e => by subst e; exact ho.irr _ h
omit [DecidableEq α] in
theorem zov (ho : Ord3 c) {A B : List α} {x : α} (hs : Srt k c (A ++ B)) (ha : ∀ a ∈ A, ¬ c (k x) (k a) < 0) (hb : ∀ b ∈ B, c (k x) (k b) < 0) : Stb k c (A ++ B ++ [x]) (A ++ x :: B) := by
 obtain ⟨s1, s2, s3⟩ := zdu.1 hs
 refine ⟨zdu.2 ⟨s1, List.pairwise_cons.2 ⟨fun b h => ho.asym (hb b h), s2⟩, fun a h b hm => ?_⟩, ?_⟩
 ·rcases List.mem_cons.1 hm with rfl | hm
  ·exact ha a h
  ·exact s3 a h b hm
 ·rw [List.append_assoc]
  exact (Eqv.refl A).app (Eqv.swap (A := B) (B := [x]) fun b h y hy => by
   simp at hy; subst hy
   exact zux ho (hb b h))
omit [DecidableEq α] in
theorem zzj (ho : Ord3 c) {A B : List α} {x : α} (hs : Srt k c (A ++ B)) (ha : ∀ a ∈ A, c (k a) (k x) < 0) (hb : ∀ b ∈ B, ¬ c (k b) (k x) < 0) : Stb k c (x :: (A ++ B)) (A ++ x :: B) := by
 obtain ⟨s1, s2, s3⟩ := zdu.1 hs
 refine ⟨zdu.2 ⟨s1, List.pairwise_cons.2 ⟨hb, s2⟩, fun a h b hm => ?_⟩, ?_⟩
 ·rcases List.mem_cons.1 hm with rfl | hm
  ·exact ho.asym (ha a h)
  ·exact s3 a h b hm
 ·have e : A ++ x :: B = A ++ [x] ++ B := by simp
  have e2 : x :: (A ++ B) = [x] ++ A ++ B := by simp
  rw [e, e2]
  exact (Eqv.swap (A := [x]) (B := A) fun y hy a h => by
   simp at hy; subst hy
   exact zux ho (ha a h)).app (Eqv.refl B)
theorem zwa (ho : Ord3 c) {A1 A2 B1 B2 S1 S2 : List α} (hA : Srt k c (A1 ++ A2)) (hB : Srt k c (B1 ++ B2)) (h12 : ∀ a ∈ A2, ∀ b ∈ B1, c (k b) (k a) < 0) (h21 : ∀ a ∈ A1, ∀ b ∈ B2, ¬ c (k b) (k a) < 0)
  (h1 : Stb k c (A1 ++ B1) S1) (h2 : Stb k c (A2 ++ B2) S2) : Stb k c (A1 ++ A2 ++ (B1 ++ B2)) (S1 ++ S2) := by
 obtain ⟨a1, a2, a3⟩ := zdu.1 hA
 obtain ⟨b1, b2, b3⟩ := zdu.1 hB
 refine ⟨zdu.2 ⟨h1.1, h2.1, fun x hx y hy => ?_⟩, ?_⟩
 ·rcases List.mem_append.1 (h1.2.mem.1 hx) with hx | hx <;> rcases List.mem_append.1 (h2.2.mem.1 hy) with hy | hy
  ·exact a3 x hx y hy
  ·exact h21 x hx y hy
  ·exact ho.asym (h12 y hy x hx)
  ·exact b3 x hx y hy
 ·refine Eqv.trans ?_ (h1.2.app h2.2)
  have e1 : A1 ++ A2 ++ (B1 ++ B2) = A1 ++ (A2 ++ B1) ++ B2 := by simp
  have e2 : A1 ++ B1 ++ (A2 ++ B2) = A1 ++ (B1 ++ A2) ++ B2 := by simp
  rw [e1, e2]
  exact ((Eqv.refl A1).app (Eqv.swap fun a ha b hb => zux ho (h12 a ha b hb))).app (Eqv.refl B2)
omit [DecidableEq α] [DecidableEq β] in
theorem zfb (ho : Ord3 c) {l : List α} (h : Srt k c l) {i j : Nat} {x y : α} (hi : l[i]? = some x) (hj : l[j]? = some y) (hij : i ≤ j) : ¬ c (k y) (k x) < 0 := by
 rcases Nat.lt_or_ge i j with h1 | h1
 ·obtain ⟨hi', rfl⟩ := List.getElem?_eq_some_iff.1 hi
  obtain ⟨hj', rfl⟩ := List.getElem?_eq_some_iff.1 hj
  exact List.pairwise_iff_getElem.1 h i j hi' hj' h1
 ·have : i = j := by omega
  subst this
  rw [hi] at hj; cases hj
  exact ho.irr _
end
end Go.V
set_option maxRecDepth 20000
namespace Go.V
open Go.Proofs Go.RowKit
section
variable {α β : Type} [DecidableEq α] [DecidableEq β] {k : α → β} {c : β → β → Int}
theorem zp1 (ho : Ord3 c) : ∀ {S S' : List α}, Srt k c S → Srt k c S' → Eqv k S S' → S' = S
 | [], S', _, _, h => List.eq_nil_of_length_eq_zero (by rw [h.length]; rfl)
 | x :: r, [], _, _, h => by have := h.length; simp at this
 | x :: r, y :: r', h1, h2, h => by
  have hxy : k x = k y := by
   have hx : x ∈ y :: r' := h.mem.2 (List.mem_cons_self ..)
   have hy : y ∈ x :: r := h.mem.1 (List.mem_cons_self ..)
   have e1 : ¬ c (k x) (k y) < 0 := by
    rcases List.mem_cons.1 hx with e | hx
    ·rw [e]; exact ho.irr _
    ·exact (List.pairwise_cons.1 h2).1 x hx
   have e2 : ¬ c (k y) (k x) < 0 := by
    rcases List.mem_cons.1 hy with e | hy
    ·rw [e]; exact ho.irr _
    ·exact (List.pairwise_cons.1 h1).1 y hy
   have := ho.anti (k x) (k y)
   exact ho.eq _ _ (by omega)
  have hf := h (k x)
  rw [List.filter_cons_of_pos (by simp [hxy]), List.filter_cons_of_pos (by simp)] at hf
  have hxe : y = x := (List.cons.inj hf).1
  subst hxe
  have ht : Eqv k r r' := fun t => by
   have := h t
   by_cases e : k y = t
   ·rw [List.filter_cons_of_pos (by simpa using e), List.filter_cons_of_pos (by simpa using e)] at this
    exact (List.cons.inj this).2
   ·rwa [List.filter_cons_of_neg (by simpa using e), List.filter_cons_of_neg (by simpa using e)] at this
  rw [zp1 ho (List.pairwise_cons.1 h1).2 (List.pairwise_cons.1 h2).2 ht]
omit [DecidableEq α] in
theorem Eqv.symm {A B : List α} (h : Eqv k A B) : Eqv k B A := fun t => (h t).symm
theorem zv8 (ho : Ord3 c) {l S S' : List α} (h : Stb k c l S) (h' : Stb k c l S') : S' = S := zp1 ho h.1 h'.1 (h.2.symm.trans h'.2)
def z0a (k : α → β) (c : β → β → Int) (x : α) : List α → List α
 | [] => [x]
 | y :: l => if c (k x) (k y) < 0 then x :: y :: l else y :: z0a k c x l
omit [DecidableEq α] [DecidableEq β] in
theorem zlj (ho : Ord3 c) {x : α} : ∀ {S : List α}, Srt k c S → ∃ A B, S = A ++ B ∧ z0a k c x S = A ++ x :: B ∧ (∀ a ∈ A, ¬ c (k x) (k a) < 0) ∧ ∀ b ∈ B, c (k x) (k b) < 0
 | [], _ => ⟨[], [], rfl, rfl, fun a h => (by cases h), fun a h => (by cases h)⟩
 | y :: l, h => by
  obtain ⟨h1, h2⟩ := List.pairwise_cons.1 h
  by_cases hxy : c (k x) (k y) < 0
  ·refine ⟨[], y :: l, rfl, if_pos hxy, fun a h => (by cases h), fun b hb => ?_⟩
   rcases List.mem_cons.1 hb with rfl | hb
   ·exact hxy
   ·have h3 := h1 b hb
    have := ho.anti (k b) (k y)
    by_cases h4 : c (k y) (k b) < 0
    ·exact ho.tr hxy h4
    ·rw [← ho.eq (k y) (k b) (by omega)]; exact hxy
  ·obtain ⟨A, B, e1, e2, e3, e4⟩ := zlj ho (x := x) h2
   refine ⟨y :: A, B, by rw [e1]; rfl, ?_, fun a ha => ?_, e4⟩
   ·rw [z0a, if_neg hxy, e2]; rfl
   ·rcases List.mem_cons.1 ha with rfl | ha
    ·exact hxy
    ·exact e3 a ha
def zks (k : α → β) (c : β → β → Int) (l : List α) : List α := l.foldl (fun S x => z0a k c x S) []
omit [DecidableEq α] [DecidableEq β] in
theorem zzk : Srt k c [] := List.Pairwise.nil
omit [DecidableEq α] in
theorem zv9 (ho : Ord3 c) {l S : List α} {x : α} (h : Stb k c l S) : Stb k c (l ++ [x]) (z0a k c x S) := by
 obtain ⟨A, B, e1, e2, e3, e4⟩ := zlj ho (x := x) h.1
 have h1 := h.1
 rw [e1] at h1
 have h2 := zov ho h1 e3 e4
 rw [e2]
 rw [← e1] at h2
 exact ⟨h2.1, (h.2.app (Eqv.refl [x])).trans h2.2⟩
omit [DecidableEq α] in
theorem zcs (ho : Ord3 c) (l : List α) : Stb k c l (zks k c l) := by
 suffices ∀ (r l S : List α), Stb k c l S → Stb k c (l ++ r) (r.foldl (fun S x => z0a k c x S) S) by
  have := this l [] [] ⟨zzk, Eqv.refl _⟩
  exact this
 intro r
 induction r with
 | nil => intro l S h; rw [List.append_nil]; exact h
 | cons x r ih =>
  intro l S h
  have := ih (l ++ [x]) (z0a k c x S) (zv9 ho h)
  rw [List.append_assoc] at this
  exact this
theorem zk2 (ho : Ord3 c) {l S : List α} (h : Stb k c l S) : S = zks k c l := zv8 ho (zcs ho l) h
theorem zp0 (ho : Ord3 c) (l : List α) : (zks k c l).length = l.length := (zcs (k := k) ho l).2.length
omit [DecidableEq α] [DecidableEq β] in
theorem zwc : zks k c [] = [] := rfl
theorem zwb (ho : Ord3 c) {l : List α} (h : Srt k c l) : zks k c l = l := (zk2 ho ⟨h, Eqv.refl l⟩).symm
theorem zwd (ho : Ord3 c) (X Y : List α) : zks k c (zks k c X ++ zks k c Y) = zks k c (X ++ Y) :=
 zk2 ho ⟨(zcs ho _).1, (((zcs ho X).2.app (zcs ho Y).2)).trans (zcs ho _).2⟩
theorem zz9 (ho : Ord3 c) {X A B : List α} {x : α} (h : A ++ B = zks k c X) (hb : ∀ b ∈ B, c (k x) (k b) < 0) (ha : ∀ y, A.getLast? = some y → ¬ c (k x) (k y) < 0) : A ++ x :: B = zks k c (X ++ [x]) := by
 have hs := (zcs (k := k) ho X).1
 rw [← h] at hs
 have hA : ∀ a ∈ A, ¬ c (k x) (k a) < 0 := fun a ham => by
  rcases List.eq_nil_or_concat A with e | ⟨A', y, rfl⟩
  ·subst e; cases ham
  ·have h1 := ha y (by simp)
   simp only [List.concat_eq_append, List.mem_append, List.mem_singleton] at ham
   rcases ham with ham | rfl
   ·have h2 := (zdu.1 hs).1
    simp only [List.concat_eq_append] at h2
    have h3 := (zdu.1 h2).2.2 a ham y (by simp)
    have e1 := ho.anti (k y) (k a)
    intro h4
    refine h1 ?_
    by_cases h5 : c (k a) (k y) < 0
    ·exact ho.tr h4 h5
    ·rw [← ho.eq (k a) (k y) (by omega)]; exact h4
   ·exact h1
 have h1 := zov ho hs hA hb
 rw [h] at h1
 exact zk2 ho ⟨h1.1, ((zcs (k := k) ho X).2.app (Eqv.refl [x])).trans h1.2⟩
def chS (k : α → β) (c : β → β → Int) (n : Nat) : Nat → List α → List α
 | 0, _ => []
 | f + 1, l => if l = [] then [] else zks k c (l.take n) ++ chS k c n f (l.drop n)
omit [DecidableEq α] [DecidableEq β] in
theorem zfu (n f : Nat) : chS k c n f [] = [] := by cases f <;> simp [chS]
omit [DecidableEq α] [DecidableEq β] in
theorem zq4 {n : Nat} (hn : 0 < n) : ∀ {f g : Nat} {l : List α}, l.length ≤ f → l.length ≤ g → chS k c n f l = chS k c n g l
 | 0, g, l, hf, _ => by obtain rfl : l = [] := List.eq_nil_of_length_eq_zero (by omega); rw [zfu, zfu]
 | f + 1, 0, l, _, hg => by obtain rfl : l = [] := List.eq_nil_of_length_eq_zero (by omega); rw [zfu, zfu]
 | f + 1, g + 1, l, hf, hg => by
  by_cases h : l = []
  ·subst h; rw [zfu, zfu]
  ·rw [chS, chS, if_neg h, if_neg h]
   have : 0 < l.length := List.length_pos_iff.2 h
   rw [zq4 hn (f := f) (g := g) (by rw [List.length_drop]; omega) (by rw [List.length_drop]; omega)]
def chL (k : α → β) (c : β → β → Int) (n : Nat) (l : List α) : List α := chS k c n l.length l
omit [DecidableEq α] [DecidableEq β] in
theorem zmw {n : Nat} (hn : 0 < n) (l : List α) : chL k c n l = zks k c (l.take n) ++ chL k c n (l.drop n) := by
 unfold chL
 by_cases h : l = []
 ·subst h; simp [zfu, zwc]
 ·have : 0 < l.length := List.length_pos_iff.2 h
  obtain ⟨m, hm⟩ : ∃ m, l.length = m + 1 := ⟨l.length - 1, by omega⟩
  rw [hm, chS, if_neg h, zq4 hn (f := m) (g := (l.drop n).length) (by rw [List.length_drop]; omega) (Nat.le_refl _)]
omit [DecidableEq α] [DecidableEq β] in
theorem zpl (n : Nat) : chL k c n [] = [] := zfu _ _
omit [DecidableEq α] [DecidableEq β] in
theorem z0j {n : Nat} (hn : 0 < n) {l : List α} (h : l.length ≤ n) : chL k c n l = zks k c l := by
 rw [zmw hn, List.take_of_length_le h, List.drop_eq_nil_of_le h, zpl, List.append_nil]
theorem zvo (ho : Ord3 c) {n : Nat} (hn : 0 < n) : ∀ (m : Nat) {l : List α}, l.length ≤ m → (chL k c n l).length = l.length
 | 0, l, h => by obtain rfl : l = [] := List.eq_nil_of_length_eq_zero (by omega); rw [zpl]
 | m + 1, l, h => by
  by_cases h0 : l = []
  ·subst h0; rw [zpl]
  ·have : 0 < l.length := List.length_pos_iff.2 h0
   rw [zmw hn, List.length_append, zp0 ho, zvo ho hn m (by rw [List.length_drop]; omega), ← List.length_append, List.take_append_drop]
end
end Go.V
set_option maxRecDepth 20000
namespace Go.V.L8
open Go.Proofs Go.RowKit Go.V Go.V.L2 Go.V.L3 Go.V.L6
theorem zlo (l : List CH) : (l.flatMap ccs).length = l.length * 7 := zch zvp l
theorem zxn (l : List CH) : (l.flatMap ccs).all zbi = true := by
 induction l with
 | nil => rfl
 | cons x l ih => rw [List.flatMap_cons, List.all_append, ih]; rfl
abbrev ch7 (c : CH) : List Value := [.string c.1.1.1.1, .string c.1.1.1.2, .string c.1.1.2, .string c.1.2.1.1, .string c.1.2.1.2, .string c.1.2.2, .bool c.2]
theorem zbx {l : List CH} {rest : List Value} {i : Nat} {t : CH} (h : l[i]? = some t) (off : Nat) (ho : off = i * 7) : ∃ r, (l.flatMap ccs ++ rest).drop off = ch7 t ++ r := by
 subst ho
 have h1 : ((l.flatMap ccs).drop (i * 7)).take 7 = ch7 t := zii h
 have h2 := get_lt h
 refine ⟨((l.flatMap ccs).drop (i * 7)).drop 7 ++ rest, ?_⟩
 rw [List.drop_append_of_le_length (by rw [zlo]; exact Nat.mul_le_mul_right _ (by omega)), ← List.append_assoc]
 congr 1
 rw [← h1, List.take_append_drop]
theorem zdf {ls : List CH} {rest : List Value} {k : Nat} {z : CH} (h : k < ls.length) (off : Nat) (ho : off = k * 7) : (ls.flatMap ccs ++ rest).take off ++ (ch7 z ++ (ls.flatMap ccs ++ rest).drop (off + 7)) = (ls.set k z).flatMap ccs ++ rest := by
 subst ho
 have e1 : ls = ls.take k ++ (ls[k] :: ls.drop (k + 1)) := by rw [List.getElem_cons_drop, List.take_append_drop]
 have hk : (ls.take k).length = k := by rw [List.length_take]; omega
 have e2 : ls.set k z = ls.take k ++ (z :: ls.drop (k + 1)) := by
  conv => lhs; rw [e1]
  rw [List.set_append_right _ _ (by omega), hk, Nat.sub_self]; rfl
 rw [e2]
 generalize ls.take k = A at e1 hk
 generalize ls.drop (k + 1) = D at e1
 generalize ls[k] = y at e1
 subst e1
 have hA : (A.flatMap ccs).length = k * 7 := by rw [zlo, hk]
 simp only [List.flatMap_append, List.flatMap_cons, List.append_assoc]
 rw [List.take_left' hA, show k * 7 + 7 = (A.flatMap ccs).length + 7 by omega, ← List.drop_drop, List.drop_left, show (ccs y ++ (D.flatMap ccs ++ rest)).drop 7 = D.flatMap ccs ++ rest from List.drop_left' rfl]
 rfl
theorem zdg {ls : List CH} {rest : List Value} {k : Nat} (h : k < ls.length) (off : Nat) (ho : off = k * 7) : Nat.ble (off + 7) (ls.flatMap ccs ++ rest).length = true := Nat.ble_eq_true_of_le (by rw [List.length_append, zlo]; omega)
section
variable {α : Type} {A M D : List α} {x y : α}
theorem zim {i : Nat} (h : A.length = i) : (A ++ x :: (M ++ y :: D))[i]? = some x := by subst h; simp
theorem zil {j : Nat} (h : A.length + 1 + M.length = j) : (A ++ x :: (M ++ y :: D))[j]? = some y := by
 subst h
 have e : A ++ x :: (M ++ y :: D) = (A ++ x :: M) ++ y :: D := by simp
 rw [e, List.getElem?_append_right (by simp; omega)]
 simp; rw [show A.length + 1 + M.length - (A.length + (M.length + 1)) = 0 by omega]; rfl
theorem zor {i j : Nat} (hi : A.length = i) (hj : A.length + 1 + M.length = j) : ((A ++ x :: (M ++ y :: D)).set i y).set j x = A ++ y :: (M ++ x :: D) := by
 subst hi hj
 have e : (A ++ x :: (M ++ y :: D)).set A.length y = (A ++ y :: M) ++ y :: D := by simp
 rw [e, List.set_append_right _ _ (by simp; omega)]
 simp; rw [show A.length + 1 + M.length - (A.length + (M.length + 1)) = 0 by omega]; rfl
theorem zpx {i j : Nat} (hi : A.length = i) (hj : A.length + 1 + M.length = j) : ((A ++ x :: (M ++ y :: D)).set j x).set i y = A ++ y :: (M ++ x :: D) := by
 rw [List.set_comm _ _ (by omega)]; exact zor hi hj
end
attribute [local irreducible] V N X VO Par StepOK Has Ret RetL RetO RetT Src
theorem zou {P X Q Y R : List CH} {rest : List Value} {b m cap a e n : Nat} (ha : P.length = a) (he : a + X.length + Q.length = e) (hx : X.length = n) (hy : Y.length = n) (hm : (P ++ (X ++ (Q ++ (Y ++ R)))).length = m) (hm1 : m ≤ 100000) (fv : Value) {w : World} {B : Heap} {C : Nat → Prop} (hB : B.Le (hp w))
  (hr : (zab b ((P ++ (X ++ (Q ++ (Y ++ R)))).flatMap ccs ++ rest) tyC).P B w C) (hC : ∀ k, C k → k < w.heap.size ∧ B k = none) :
  zcb Tryz.prog 186 [.slice (some ⟨b, 0, none⟩) m cap, .int .i64 a, .int .i64 e, .int .i64 n, fv] w B C (zab b ((P ++ (Y ++ (Q ++ (X ++ R)))).flatMap ccs ++ rest) tyC) := by
 unfold zcb
 refine zas 900 (zab b ((P ++ (X ++ (Q ++ (Y ++ R)))).flatMap ccs ++ rest) tyC) Tryz.func186 rfl Tryz.ntmps186 (Nat.le_of_ble_eq_true rfl) hB hr hC ?_
 rw [za1]
 simp only [List.length_append] at hm
 refine Z146 ?_; refine Z196 ?_
 refine zaj (fun i : Nat => [(0, .is (.slice (some ⟨b, 0, none⟩) m cap)), (1, .is (.int .i64 a)), (2, .is (.int .i64 e)), (3, .is (.int .i64 n)), (10, .is (.int .i64 i)), (900, .own (zal b ((P ++ (Y.take i ++ (X.drop i ++ (Q ++ (X.take i ++ (Y.drop i ++ R)))))).flatMap ccs ++ rest) tyC))]) (fun i => i ≤ n) (fun i => n - i) 0 (Nat.zero_le _) ⟨rfl, rfl, rfl, rfl, rfl, by simp only [List.take_zero, List.drop_zero, List.nil_append]; rfl, trivial⟩ ?_
 rintro i hi
 by_cases hlt : i < n
 ·obtain ⟨x, hxi⟩ := zae (l := X) (show i < X.length by omega)
  obtain ⟨y, hyi⟩ := zae (l := Y) (show i < Y.length by omega)
  have e0 : P ++ (Y.take i ++ (X.drop i ++ (Q ++ (X.take i ++ (Y.drop i ++ R))))) = (P ++ Y.take i) ++ x :: ((X.drop (i + 1) ++ (Q ++ X.take i)) ++ y :: (Y.drop (i + 1) ++ R)) := by
   rw [zfc hxi, zfc hyi]; simp
  have e1 : P ++ (Y.take (i + 1) ++ (X.drop (i + 1) ++ (Q ++ (X.take (i + 1) ++ (Y.drop (i + 1) ++ R))))) = (P ++ Y.take i) ++ y :: ((X.drop (i + 1) ++ (Q ++ X.take i)) ++ x :: (Y.drop (i + 1) ++ R)) := by
   rw [List.take_add_one, List.take_add_one, hxi, hyi]; simp
  have l1 : (P ++ Y.take i).length = a + i := by rw [List.length_append, List.length_take]; omega
  have l2 : (P ++ Y.take i).length + 1 + (X.drop (i + 1) ++ (Q ++ X.take i)).length = e + i := by rw [l1, List.length_append, List.length_append, List.length_drop, List.length_take]; omega
  have g1 := zim (x := x) (y := y) (M := X.drop (i + 1) ++ (Q ++ X.take i)) (D := Y.drop (i + 1) ++ R) l1
  have g2 := zil (x := x) (y := y) (D := Y.drop (i + 1) ++ R) l2
  have g3 := zor (x := x) (y := y) (D := Y.drop (i + 1) ++ R) l1 l2
  rw [e0]
  have hlen : ((P ++ Y.take i) ++ x :: ((X.drop (i + 1) ++ (Q ++ X.take i)) ++ y :: (Y.drop (i + 1) ++ R))).length = m := by rw [← e0]; simp only [List.length_append, List.length_take, List.length_drop]; omega
  generalize (P ++ Y.take i) ++ x :: ((X.drop (i + 1) ++ (Q ++ X.take i)) ++ y :: (Y.drop (i + 1) ++ R)) = K at *
  have h1 := get_lt g1
  have h2 := get_lt g2
  have q1 := zbx (rest := rest) g1 (0 + (a + i) * 7) (by omega)
  have q2 := zbx (rest := rest) g2 (0 + (e + i) * 7) (by omega)
  have s1 := zdf (rest := rest) (z := y) h1 (0 + (a + i) * 7) (by omega)
  have b1 := zdg (rest := rest) h1 (0 + (a + i) * 7) (by omega)
  have h3 : e + i < (K.set (a + i) y).length := by rw [List.length_set]; exact h2
  have s2 := zdf (rest := rest) (z := x) h3 (0 + (e + i) * 7) (by omega)
  have b2 := zdg (rest := rest) h3 (0 + (e + i) * 7) (by omega)
  rw [g3, ← e1] at s2
  have a1 : IntKind.i64.wrap ((a : Int) + (i : Int)) = ((a + i : Nat) : Int) := zaa (by omega) (by omega)
  have a2 : IntKind.i64.wrap ((e : Int) + (i : Int)) = ((e + i : Nat) : Int) := zaa (by omega) (by omega)
  refine Z139 ?_; refine Z20 ?_; refine Z140 ?_; refine Z176 ?_; refine Z230 ?_; refine qd (id := 3) [(200029, [900]), (200035, [900]), (100036, [900]), (100037, [900])] mixed (by kernel_rfl) ?_; refine Z205 ?_; refine Z205 ?_; refine Z205 ?_; refine z8 (qg L _ rfl rfl rfl rfl rfl rfl rfl (by omega)) rfl ?_; refine qn (zam L (q := 900) (vs := [_, _, _, _, _, _, _]) rfl rfl rfl rfl rfl rfl q2) rfl rfl ?_; refine Z205 ?_; refine z8 (qg L _ rfl rfl rfl rfl rfl rfl rfl (by omega)) rfl ?_; refine qn (zam L (q := 900) (vs := [_, _, _, _, _, _, _]) rfl rfl rfl rfl rfl rfl q1) rfl rfl ?_; refine z8 (qg L _ rfl rfl rfl rfl rfl rfl rfl (by omega)) rfl ?_; refine yy (yw L (q := 900) rfl rfl rfl rfl rfl rfl b1 rfl s1) rfl ?_; refine z8 (qg L _ rfl rfl rfl rfl rfl rfl rfl (by omega)) rfl ?_; refine yy (yw L (q := 900) rfl rfl rfl rfl rfl rfl b2 rfl s2) rfl ?_; refine Z275 ?_; refine Z175 ?_; refine Z197 ?_
  exact yh (x := i) (i + 1) (by omega) (by omega) ⟨rfl, rfl, rfl, rfl, rfl, rfl, trivial⟩
 ·obtain rfl : i = n := by omega
  have t1 : X.take i = X := List.take_of_length_le (by omega)
  have t2 : Y.take i = Y := List.take_of_length_le (by omega)
  have t3 : X.drop i = [] := List.drop_eq_nil_of_le (by omega)
  have t4 : Y.drop i = [] := List.drop_eq_nil_of_le (by omega)
  rw [t1, t2, t3, t4]
  simp only [List.nil_append]
  refine Z139 ?_; refine Z20 ?_; refine Z266 ?_; refine Z172 ?_
  exact zba L 900 (r := zab b _ tyC) rfl (fun _ _ h => h) Since.refl rfl rfl
end Go.V.L8
