/- Texts on the way to FlightsPlay, part 5: one behind another. -/
import Derived.Test.YtfihdmobfmkclaaFlightsPlayM4
import Derived.Sort.LotD5
import Derived.Sort.Walk7
import Derived.Sort.WalkA14
import Derived.Sort.Walk13
set_option linter.unusedVariables false
set_option linter.unusedSimpArgs false
namespace Go.V.So
open Go.Proofs Go.RowKit Go.V Go.Sort
abbrev lt : Int → Int → Bool := ltInt
abbrev tyU : TypeId := 31
attribute [local irreducible] V N X VO Par StepOK Has Ret RetL RetO RetG RetX Src
theorem isnanU (a : Int) {w : World} {B : Heap} (hB : B.Le (hp w)) : Ret Try.prog 110 [.int .u64 a] w B (fun v _ => v = .bool false) := by
  refine y6 Try.func110 rfl Try.ntmps110 (Nat.le_of_ble_eq_true rfl) hB ?_
  refine zd ?_; refine zb (id := 0) ?_; refine Zs3 ?_; refine ze ?_; refine zg ?_; refine zd ?_; refine zb (id := 1) ?_; refine Zs1 ?_; refine Zs1 ?_; refine Zs11 ?_; refine Zs3 ?_; refine ze ?_; refine zg ?_
  refine qe L (rs := [.tmp 2]) rfl (fun _ _ h => h) Since.refl fun u H hH hle => ?_
  rfl
theorem lessU (a b : Int) {w : World} {B : Heap} (hB : B.Le (hp w)) : Ret Try.prog 95 [.int .u64 a, .int .u64 b] w B (fun v _ => v = .bool (lt a b)) := by
  unfold lt ltInt
  refine y6 Try.func95 rfl Try.ntmps95 (Nat.le_of_ble_eq_true rfl) hB ?_
  by_cases h : a < b
  · rw [decide_eq_true h]
    refine zd ?_; refine zb (id := 0) ?_; refine Zs3 ?_; refine ze ?_; refine zg ?_; refine zd ?_; refine zb (id := 1) ?_; refine Zs1 ?_; refine z7 (zp L rfl rfl (zf rfl) rfl rfl rfl (fun u H hH _ _ => isnanU _ hH)) rfl ?_; refine Zs1 ?_; refine Zs2 ?_; refine Zs2 ?_; refine Zs2 ?_; refine Zs6 ?_; refine Zs1 ?_; refine Zs1 ?_; refine Zs1 ?_; refine Zs10 ?_; refine Zs6 ?_; refine Zs3 ?_; refine ze ?_; refine zg ?_
    refine qe L (rs := [.tmp 4]) rfl (fun _ _ h => h) Since.refl fun u H hH hle => ?_
    rfl
  · rw [decide_eq_false h]
    refine zd ?_; refine zb (id := 0) ?_; refine Zs3 ?_; refine ze ?_; refine zg ?_; refine zd ?_; refine zb (id := 1) ?_; refine Zs1 ?_; refine z7 (zp L rfl rfl (zf rfl) rfl rfl rfl (fun u H hH _ _ => isnanU _ hH)) rfl ?_; refine Zs1 ?_; refine Zs2 ?_; refine Zs2 ?_; refine Zs2 ?_; refine Zs6 ?_; refine Zs1 ?_; refine Zs1 ?_; refine Zs1 ?_; refine Zs8 ?_; refine Zs6 ?_; refine Zs3 ?_; refine ze ?_; refine zg ?_
    refine qe L (rs := [.tmp 4]) rfl (fun _ _ h => h) Since.refl fun u H hH hle => ?_
    rfl
theorem lessU' {a b : Int} {f : Bool} (h : lt a b = f) {w : World} {B : Heap} (hB : B.Le (hp w)) : Ret Try.prog 95 [.int .u64 a, .int .u64 b] w B (fun v _ => v = .bool f) := h ▸ lessU a b hB
set_option maxHeartbeats 1000000 in
set_option maxRecDepth 20000 in
theorem ins_ret {d : Array Int} {rest : List Value} {b m cap a e : Nat} (hab : a ≤ e) (he : e ≤ d.size) (hm : d.size = m) (hm1 : m ≤ 100000) {w : World} {B : Heap} {C : Nat → Prop} (hB : B.Le (hp w))
    (hr : (GHeld b (uC d ++ rest) tyU).P B w C) (hC : ∀ k, C k → k < w.heap.size ∧ B k = none) :
    RetG Try.prog 89 [.slice (some ⟨b, 0, none⟩) m cap, .int .i64 a, .int .i64 e] w B C (GHeld b (uC (insertionSort lt d a e) ++ rest) tyU) := by
  unfold RetG
  refine V_enterG 900 (GHeld b (uC d ++ rest) tyU) Try.func89 rfl Try.ntmps89 (Nat.le_of_ble_eq_true rfl) hB hr hC ?_
  rw [gheld_res]
  have hw0 : IntKind.i64.wrap ((a : Int) + 1) = ((a + 1 : Nat) : Int) := wrap_i64 (by omega) (by omega)
  refine zd ?_; refine zb (id := 0) ?_; refine Zs1 ?_; refine Zs17 ?_; refine Zs3 ?_; refine ze ?_; refine zg ?_; refine q0 ?_
  refine V_loop (fun s : Nat × Array Int => [(0, .is (.slice (some ⟨b, 0, none⟩) m cap)), (1, .is (.int .i64 a)), (2, .is (.int .i64 e)), (6, .is (.int .i64 s.1)), (900, .own (HeldR b (uC s.2 ++ rest) tyU))]) (fun s => s.1 ≤ e + 1 ∧ a < s.1 ∧ s.2.size = m ∧ insOuter lt a e s.1 s.2 = insertionSort lt d a e) (fun s => e + 1 - s.1) (a + 1, d) ⟨by omega, by omega, hm, rfl⟩ ⟨rfl, rfl, rfl, rfl, rfl, trivial⟩ ?_
  rintro ⟨i, D⟩ ⟨hi, hai, hD, hO⟩
  dsimp only at hi hai hD hO ⊢
  by_cases hlt : i < e
  · rw [insOuter, if_pos hlt] at hO
    refine zd ?_; refine zd ?_; refine zb (id := 1) ?_; refine Zs1 ?_; refine Zs1 ?_; refine Zs10 ?_; refine ze ?_; refine zg ?_; refine zu rfl ?_; refine zt ?_; refine zg ?_; refine zd ?_; refine q0 ?_; refine zd ?_; refine zb (id := 3) ?_; refine Zs1 ?_; refine Zs3 ?_; refine ze ?_; refine zg ?_; refine q0 ?_
    refine V_loop (fun t : Nat × Array Int => [(0, .is (.slice (some ⟨b, 0, none⟩) m cap)), (1, .is (.int .i64 a)), (2, .is (.int .i64 e)), (6, .is (.int .i64 i)), (7, .is (.int .i64 t.1)), (900, .own (HeldR b (uC t.2 ++ rest) tyU))]) (fun t => t.1 ≤ i ∧ t.2.size = m ∧ insInner lt a t.1 t.2 = insInner lt a i D) (fun t => t.1) (i, D) ⟨Nat.le_refl _, hD, rfl⟩ ⟨rfl, rfl, rfl, rfl, rfl, rfl, trivial⟩ ?_
    rintro ⟨j, E⟩ ⟨hj, hE, hI⟩
    dsimp only at hj hE hI ⊢
    rcases j with _ | j
    · rw [insInner] at hI
      rw [hI]
      refine zd ?_; refine zd ?_; refine zy (id := 4) [] mixed (by kernel_rfl) ?_; refine Zs7 ?_; refine Zs7 ?_; refine Zs60 ?_; refine Zs7 ?_; refine Zs9 ?_; refine Zs9 ?_; refine Zs9 ?_; refine Zs9 ?_; refine Zs9 ?_; refine Zs9 ?_; refine Zs9 ?_; refine Zs9 ?_; refine Zs9 ?_; refine Zs9 ?_; refine Zs33 ?_; refine qb ?_; refine zg ?_; refine zm rfl ?_; refine y5 ?_; refine qf ?_; refine qf ?_; refine y4 ?_; refine qo ?_; refine zg ?_; refine zb (id := 2) ?_; refine Zs1 ?_; refine Zs16 ?_; refine Zs3 ?_; refine ze ?_
      exact qy (x := (i, D)) (i + 1, insInner lt a i D) ⟨by dsimp only; omega, by dsimp only; omega, by dsimp only; rw [← hI]; exact hE, hO⟩ (by dsimp only; omega) ⟨rfl, rfl, rfl, rfl, rfl, trivial⟩
    · by_cases hja : a < j + 1
      · have hw1 : IntKind.i64.wrap (((j + 1 : Nat) : Int) - 1) = (j : Int) := wrap_i64 (by omega) (by omega) |>.trans (by omega)
        obtain ⟨r1, q1⟩ := u_at (rest := rest) (show j + 1 < E.size by omega) (0 + (j + 1) * 1) rfl
        obtain ⟨r2, q2⟩ := u_at (rest := rest) (show j < E.size by omega) (0 + j * 1) rfl
        cases hc : lt E[j + 1]! E[j]! with
        | true =>
          rw [insInner, if_pos (by rw [hc]; simp; omega)] at hI
          have s1 := u_set (rest := rest) E[j]! (show j + 1 < E.size by omega) (0 + (j + 1) * 1) rfl
          have b1 := u_ble (rest := rest) (show j + 1 < E.size by omega) (0 + (j + 1) * 1) rfl
          have hz : j < (E.setIfInBounds (j + 1) E[j]!).size := by rw [Array.size_setIfInBounds]; omega
          have s2 := u_set (rest := rest) E[j + 1]! hz (0 + j * 1) rfl
          have b2 := u_ble (rest := rest) hz (0 + j * 1) rfl
          rw [swp_eq] at s2
          refine zd ?_; refine zd ?_; refine zy (id := 4) [(200023, [900]), (200028, [900])] mixed (by kernel_rfl) ?_; refine Zs7 ?_; refine Zs7 ?_; refine Zs47 ?_; refine Zs7 ?_; refine Zs7 ?_; refine Zs7 ?_; refine z8 (zn L _ rfl rfl rfl rfl rfl rfl rfl (by omega)) rfl ?_; refine zx (zq L (q := 900) rfl rfl rfl rfl rfl q1) rfl rfl ?_; refine Zs7 ?_; refine Zs7 ?_; refine Zs42 ?_; refine z8 (zn L _ rfl rfl rfl rfl rfl rfl rfl (by omega)) rfl ?_; refine zx (zq L (q := 900) rfl rfl rfl rfl rfl q2) rfl rfl ?_; refine z8 (zp L rfl rfl (zf rfl) rfl rfl rfl (fun u H hH _ _ => lessU' hc hH)) rfl ?_; refine Zs33 ?_; refine qb ?_; refine zg ?_; refine zu rfl ?_; refine zt ?_; refine zg ?_; refine zd ?_; refine q0 ?_; refine zy (id := 6) [(200042, [900]), (200046, [900]), (100047, [900]), (100048, [900])] mixed (by kernel_rfl) ?_; refine Zs7 ?_; refine Zs7 ?_; refine Zs7 ?_; refine Zs7 ?_; refine Zs42 ?_; refine Zs7 ?_; refine Zs7 ?_; refine Zs42 ?_; refine z8 (zn L _ rfl rfl rfl rfl rfl rfl rfl (by omega)) rfl ?_; refine zx (zq L (q := 900) rfl rfl rfl rfl rfl q2) rfl rfl ?_; refine Zs7 ?_; refine Zs7 ?_; refine z8 (zn L _ rfl rfl rfl rfl rfl rfl rfl (by omega)) rfl ?_; refine zx (zq L (q := 900) rfl rfl rfl rfl rfl q1) rfl rfl ?_; refine z8 (zn L _ rfl rfl rfl rfl rfl rfl rfl (by omega)) rfl ?_; refine y1 (qv L (q := 900) rfl rfl rfl rfl rfl rfl b1 rfl s1) rfl ?_; refine z8 (zn L _ rfl rfl rfl rfl rfl rfl rfl (by omega)) rfl ?_; refine y1 (qv L (q := 900) rfl rfl rfl rfl rfl rfl b2 rfl s2) rfl ?_; refine qb ?_; refine qo ?_; refine zg ?_; refine zb (id := 5) ?_; refine Zs1 ?_; refine Zs19 ?_; refine Zs3 ?_; refine ze ?_
          exact qy (x := (j + 1, E)) (j, swp E (j + 1) j) ⟨by dsimp only; omega, by dsimp only; rw [swp_size]; exact hE, hI⟩ (by dsimp only; omega) ⟨rfl, rfl, rfl, rfl, rfl, rfl, trivial⟩
        | false =>
          rw [insInner, if_neg (by rw [hc]; simp)] at hI
          refine zd ?_; refine zd ?_; refine zy (id := 4) [(200023, [900]), (200028, [900])] mixed (by kernel_rfl) ?_; refine Zs7 ?_; refine Zs7 ?_; refine Zs47 ?_; refine Zs7 ?_; refine Zs7 ?_; refine Zs7 ?_; refine z8 (zn L _ rfl rfl rfl rfl rfl rfl rfl (by omega)) rfl ?_; refine zx (zq L (q := 900) rfl rfl rfl rfl rfl q1) rfl rfl ?_; refine Zs7 ?_; refine Zs7 ?_; refine Zs42 ?_; refine z8 (zn L _ rfl rfl rfl rfl rfl rfl rfl (by omega)) rfl ?_; refine zx (zq L (q := 900) rfl rfl rfl rfl rfl q2) rfl rfl ?_; refine z8 (zp L rfl rfl (zf rfl) rfl rfl rfl (fun u H hH _ _ => lessU' hc hH)) rfl ?_; refine Zs33 ?_; refine qb ?_; refine zg ?_; refine zm rfl ?_; refine y5 ?_; refine qf ?_; refine qf ?_; refine y4 ?_; refine qo ?_; refine zg ?_
          rw [hI]
          refine zb (id := 2) ?_; refine Zs1 ?_; refine Zs16 ?_; refine Zs3 ?_; refine ze ?_
          exact qy (x := (i, D)) (i + 1, insInner lt a i D) ⟨by dsimp only; omega, by dsimp only; omega, by dsimp only; rw [← hI]; exact hE, hO⟩ (by dsimp only; omega) ⟨rfl, rfl, rfl, rfl, rfl, trivial⟩
      · rw [insInner, if_neg (by simp; omega)] at hI
        rw [hI]
        refine zd ?_; refine zd ?_; refine zy (id := 4) [] mixed (by kernel_rfl) ?_; refine Zs7 ?_; refine Zs7 ?_; refine Zs60 ?_; refine Zs7 ?_; refine Zs9 ?_; refine Zs9 ?_; refine Zs9 ?_; refine Zs9 ?_; refine Zs9 ?_; refine Zs9 ?_; refine Zs9 ?_; refine Zs9 ?_; refine Zs9 ?_; refine Zs9 ?_; refine Zs33 ?_; refine qb ?_; refine zg ?_; refine zm rfl ?_; refine y5 ?_; refine qf ?_; refine qf ?_; refine y4 ?_; refine qo ?_; refine zg ?_; refine zb (id := 2) ?_; refine Zs1 ?_; refine Zs16 ?_; refine Zs3 ?_; refine ze ?_
        exact qy (x := (i, D)) (i + 1, insInner lt a i D) ⟨by dsimp only; omega, by dsimp only; omega, by dsimp only; rw [← hI]; exact hE, hO⟩ (by dsimp only; omega) ⟨rfl, rfl, rfl, rfl, rfl, trivial⟩
  · rw [insOuter, if_neg hlt] at hO
    subst hO
    refine zd ?_; refine zd ?_; refine zb (id := 1) ?_; refine Zs1 ?_; refine Zs1 ?_; refine Zs8 ?_; refine ze ?_; refine zg ?_; refine zm rfl ?_; refine y5 ?_; refine qf ?_; refine qf ?_; refine y4 ?_
    exact N_retGhost L 900 (r := GHeld b _ tyU) rfl (fun _ _ h => h) Since.refl rfl rfl
end Go.V.So
namespace Go.V.So
open Go.Proofs Go.RowKit Go.V Go.Sort
section
variable {P : Program} {F : Fr} {B : Heap} {n : Nat} {O : Boxes} {ops : Array Oper} {ex : Exs} {κ : Kap} {Q : Exit → Act → World → Prop} {o : Oper} {os : List Oper} {d : Nat} {k : Kn}
theorem _root_.Go.V.Zs30 (h : VO P F B n O ops (upd κ d k) os Q) (s : StepOK P F B n ops O κ o d k := by exact ok_mul rfl rfl rfl rfl (wrap_i64 (by omega) (by omega))) (v : vd o = some d := by rfl) : VO P F B n O ops κ (o :: os) Q := z7 s v h
end
attribute [local irreducible] V N X VO Par StepOK Has Ret RetL RetO RetG RetX Src
set_option maxHeartbeats 1000000 in
set_option maxRecDepth 20000 in
theorem rev_ret {d : Array Int} {rest : List Value} {b m cap a e : Nat} (hab : a < e) (he : e ≤ d.size) (hm : d.size = m) (hm1 : m ≤ 100000) {w : World} {B : Heap} {C : Nat → Prop} (hB : B.Le (hp w))
    (hr : (GHeld b (uC d ++ rest) tyU).P B w C) (hC : ∀ k, C k → k < w.heap.size ∧ B k = none) :
    RetG Try.prog 93 [.slice (some ⟨b, 0, none⟩) m cap, .int .i64 a, .int .i64 e] w B C (GHeld b (uC (reverseRange d a e) ++ rest) tyU) := by
  unfold RetG
  refine V_enterG 900 (GHeld b (uC d ++ rest) tyU) Try.func93 rfl Try.ntmps93 (Nat.le_of_ble_eq_true rfl) hB hr hC ?_
  rw [gheld_res]
  have hw0 : IntKind.i64.wrap ((e : Int) - 1) = ((e - 1 : Nat) : Int) := wrap_i64 (by omega) (by omega) |>.trans (by omega)
  refine zd ?_; refine zb (id := 0) ?_; refine Zs1 ?_; refine Zs3 ?_; refine ze ?_; refine zg ?_; refine zd ?_; refine zb (id := 1) ?_; refine Zs1 ?_; refine Zs19 ?_; refine Zs3 ?_; refine ze ?_; refine zg ?_; refine q0 ?_
  refine V_loop (fun s : (Nat × Nat) × Array Int => [(0, .is (.slice (some ⟨b, 0, none⟩) m cap)), (6, .is (.int .i64 s.1.1)), (7, .is (.int .i64 s.1.2)), (900, .own (HeldR b (uC s.2 ++ rest) tyU))]) (fun s => s.1.1 ≤ m ∧ s.1.2 < m ∧ s.2.size = m ∧ reverseLoop s.1.1 s.1.2 s.2 = reverseRange d a e) (fun s => s.1.2 - s.1.1) ((a, e - 1), d) ⟨by dsimp only; omega, by dsimp only; omega, hm, rfl⟩ ⟨rfl, rfl, rfl, rfl, trivial⟩ ?_
  rintro ⟨⟨i, j⟩, E⟩ ⟨hi, hj, hE, hO⟩
  dsimp only at hi hj hE hO ⊢
  by_cases hlt : i < j
  · rw [reverseLoop, if_pos hlt] at hO
    have hw1 : IntKind.i64.wrap ((i : Int) + 1) = ((i + 1 : Nat) : Int) := wrap_i64 (by omega) (by omega)
    have hw2 : IntKind.i64.wrap ((j : Int) - 1) = ((j - 1 : Nat) : Int) := wrap_i64 (by omega) (by omega) |>.trans (by omega)
    obtain ⟨_, qj⟩ := u_at (rest := rest) (show j < E.size by omega) (0 + (j) * 1) rfl
    obtain ⟨_, qi⟩ := u_at (rest := rest) (show i < E.size by omega) (0 + (i) * 1) rfl
    have s1 := u_set (rest := rest) E[j]! (show i < E.size by omega) (0 + (i) * 1) rfl
    have b1 := u_ble (rest := rest) (show i < E.size by omega) (0 + (i) * 1) rfl
    have hz : j < (E.setIfInBounds (i) E[j]!).size := by rw [Array.size_setIfInBounds]; omega
    have s2 := u_set (rest := rest) E[i]! hz (0 + (j) * 1) rfl
    have b2 := u_ble (rest := rest) hz (0 + (j) * 1) rfl
    rw [swp_eq] at s2
    refine zd ?_; refine zd ?_; refine zb (id := 2) ?_; refine Zs1 ?_; refine Zs1 ?_; refine Zs10 ?_; refine ze ?_; refine zg ?_; refine zu rfl ?_; refine zt ?_; refine zg ?_; refine q0 ?_; refine zd ?_; refine zy (id := 3) [(200021, [900]), (200025, [900]), (100026, [900]), (100027, [900])] mixed (by kernel_rfl) ?_; refine Zs7 ?_; refine Zs7 ?_; refine Zs7 ?_; refine Zs7 ?_; refine Zs7 ?_; refine Zs7 ?_; refine z8 (zn L _ rfl rfl rfl rfl rfl rfl rfl (by omega)) rfl ?_; refine zx (zq L (q := 900) rfl rfl rfl rfl rfl qj) rfl rfl ?_; refine Zs7 ?_; refine Zs7 ?_; refine z8 (zn L _ rfl rfl rfl rfl rfl rfl rfl (by omega)) rfl ?_; refine zx (zq L (q := 900) rfl rfl rfl rfl rfl qi) rfl rfl ?_; refine z8 (zn L _ rfl rfl rfl rfl rfl rfl rfl (by omega)) rfl ?_; refine y1 (qv L (q := 900) rfl rfl rfl rfl rfl rfl b1 rfl s1) rfl ?_; refine z8 (zn L _ rfl rfl rfl rfl rfl rfl rfl (by omega)) rfl ?_; refine y1 (qv L (q := 900) rfl rfl rfl rfl rfl rfl b2 rfl s2) rfl ?_; refine qb ?_; refine zg ?_; refine zd ?_; refine zb (id := 4) ?_; refine Zs1 ?_; refine Zs17 ?_; refine Zs3 ?_; refine ze ?_; refine zg ?_; refine zb (id := 5) ?_; refine Zs1 ?_; refine Zs19 ?_; refine Zs3 ?_; refine ze ?_; refine qo ?_
    exact qy (x := ((i, j), E)) ((i + 1, j - 1), swp E i j) ⟨by dsimp only; omega, by dsimp only; omega, by dsimp only; rw [swp_size]; exact hE, hO⟩ (by dsimp only; omega) ⟨rfl, rfl, rfl, rfl, trivial⟩
  · rw [reverseLoop, if_neg hlt] at hO
    subst hO
    refine zd ?_; refine zd ?_; refine zb (id := 2) ?_; refine Zs1 ?_; refine Zs1 ?_; refine Zs8 ?_; refine ze ?_; refine zg ?_; refine zm rfl ?_; refine y5 ?_; refine qf ?_; refine qf ?_; refine y4 ?_
    exact N_retGhost L 900 (r := GHeld b _ tyU) rfl (fun _ _ h => h) Since.refl rfl rfl
set_option maxHeartbeats 1000000 in
set_option maxRecDepth 20000 in
theorem sift_ret {d : Array Int} {rest : List Value} {b m cap lo hi first : Nat} (hlo : lo ≤ hi) (hf : first + hi ≤ d.size) (hm : d.size = m) (hm1 : m ≤ 100000) {w : World} {B : Heap} {C : Nat → Prop} (hB : B.Le (hp w))
    (hr : (GHeld b (uC d ++ rest) tyU).P B w C) (hC : ∀ k, C k → k < w.heap.size ∧ B k = none) :
    RetG Try.prog 105 [.slice (some ⟨b, 0, none⟩) m cap, .int .i64 lo, .int .i64 hi, .int .i64 first] w B C (GHeld b (uC (siftDown lt hi first lo d) ++ rest) tyU) := by
  unfold RetG
  refine V_enterG 900 (GHeld b (uC d ++ rest) tyU) Try.func105 rfl Try.ntmps105 (Nat.le_of_ble_eq_true rfl) hB hr hC ?_
  rw [gheld_res]
  refine zd ?_; refine zb (id := 0) ?_; refine Zs1 ?_; refine Zs3 ?_; refine ze ?_; refine zg ?_; refine q0 ?_
  refine V_loop (fun s : Nat × Array Int => [(0, .is (.slice (some ⟨b, 0, none⟩) m cap)), (2, .is (.int .i64 hi)), (3, .is (.int .i64 first)), (8, .is (.int .i64 s.1)), (900, .own (HeldR b (uC s.2 ++ rest) tyU))]) (fun s => s.1 ≤ hi ∧ s.2.size = m ∧ siftDown lt hi first s.1 s.2 = siftDown lt hi first lo d) (fun s => hi - s.1) (lo, d) ⟨hlo, hm, rfl⟩ ⟨rfl, rfl, rfl, rfl, rfl, trivial⟩ ?_
  rintro ⟨r, E⟩ ⟨hr0, hE, hO⟩
  dsimp only at hr0 hE hO ⊢
  have hw1 : IntKind.i64.wrap (2 * (r : Int)) = ((2 * r : Nat) : Int) := wrap_i64 (by omega) (by omega) |>.trans (by omega)
  have hw2 : IntKind.i64.wrap (((2 * r : Nat) : Int) + 1) = ((2 * r + 1 : Nat) : Int) := wrap_i64 (by omega) (by omega)
  by_cases hend : hi ≤ 2 * r + 1
  · rw [siftDown, dif_pos (by omega)] at hO
    subst hO
    refine q0 ?_; refine zd ?_; refine zb (id := 1) ?_; refine Zs1 ?_; refine Zs30 ?_; refine Zs17 ?_; refine Zs3 ?_; refine ze ?_; refine zg ?_; refine zd ?_; refine zd ?_; refine zb (id := 2) ?_; refine Zs1 ?_; refine Zs1 ?_; refine Zs29 ?_; refine ze ?_; refine zg ?_; refine zu rfl ?_; refine y5 ?_; refine qf ?_; refine X_there rfl ?_; refine qf ?_; refine y4 ?_
    exact N_retGhost L 900 (r := GHeld b _ tyU) rfl (fun _ _ h => h) Since.refl rfl rfl
  · rw [siftDown, dif_neg (by omega)] at hO
    have hw3 : IntKind.i64.wrap (((2 * r + 1 : Nat) : Int) + 1) = ((2 * r + 2 : Nat) : Int) := wrap_i64 (by omega) (by omega)
    have hw4 : IntKind.i64.wrap ((first : Int) + ((2 * r + 1 : Nat) : Int)) = ((first + (2 * r + 1) : Nat) : Int) := wrap_i64 (by omega) (by omega)
    have hw5 : IntKind.i64.wrap (((first + (2 * r + 1) : Nat) : Int) + 1) = ((first + (2 * r + 2) : Nat) : Int) := wrap_i64 (by omega) (by omega)
    have hw6 : IntKind.i64.wrap ((first : Int) + (r : Int)) = ((first + r : Nat) : Int) := wrap_i64 (by omega) (by omega)
    have hw7 : IntKind.i64.wrap ((first : Int) + ((2 * r + 2 : Nat) : Int)) = ((first + (2 * r + 2) : Nat) : Int) := wrap_i64 (by omega) (by omega)
    obtain ⟨_, qr⟩ := u_at (rest := rest) (show first + r < E.size by omega) (0 + (first + r) * 1) rfl
    by_cases h2 : 2 * r + 2 < hi
    · obtain ⟨_, q1⟩ := u_at (rest := rest) (show first + (2 * r + 1) < E.size by omega) (0 + (first + (2 * r + 1)) * 1) rfl
      obtain ⟨_, q2⟩ := u_at (rest := rest) (show first + (2 * r + 2) < E.size by omega) (0 + (first + (2 * r + 2)) * 1) rfl
      have e2 : first + (2 * r + 1) + 1 = first + (2 * r + 2) := by omega
      rw [e2] at hO
      cases hc : lt E[first + (2 * r + 1)]! E[first + (2 * r + 2)]! with
      | true =>
        rw [if_pos (by rw [hc]; simp; omega)] at hO
        have qc := q2
        cases hc2 : lt E[first + r]! E[first + (2 * r + 2)]! with
        | false =>
          rw [hc2] at hO
          simp only [Bool.not_false, if_true] at hO
          subst hO
          refine q0 ?_; refine zd ?_; refine zb (id := 1) ?_; refine Zs1 ?_; refine Zs30 ?_; refine Zs17 ?_; refine Zs3 ?_; refine ze ?_; refine zg ?_; refine zd ?_; refine zd ?_; refine zb (id := 2) ?_; refine Zs1 ?_; refine Zs1 ?_; refine Zs22 ?_; refine ze ?_; refine zg ?_; refine zm rfl ?_; refine zt ?_; refine zg ?_; refine zd ?_; refine zd ?_; refine zy (id := 3) [(200027, [900]), (200034, [900])] mixed (by kernel_rfl) ?_; refine Zs7 ?_; refine Zs28 ?_; refine Zs7 ?_; refine Zs65 ?_; refine Zs7 ?_; refine Zs7 ?_; refine Zs7 ?_; refine Zs7 ?_; refine Zs28 ?_; refine z8 (zn L _ rfl rfl rfl rfl rfl rfl rfl (by omega)) rfl ?_; refine zx (zq L (q := 900) rfl rfl rfl rfl rfl q1) rfl rfl ?_; refine Zs7 ?_; refine Zs7 ?_; refine Zs7 ?_; refine Zs28 ?_; refine Zs28 ?_; refine z8 (zn L _ rfl rfl rfl rfl rfl rfl rfl (by omega)) rfl ?_; refine zx (zq L (q := 900) rfl rfl rfl rfl rfl q2) rfl rfl ?_; refine z8 (zp L rfl rfl (zf rfl) rfl rfl rfl (fun u H hH _ _ => lessU' hc hH)) rfl ?_; refine Zs33 ?_; refine qb ?_; refine zg ?_; refine zu rfl ?_; refine zb (id := 4) ?_; refine Zs1 ?_; refine Zs17 ?_; refine Zs3 ?_; refine ze ?_; refine zg ?_; refine zd ?_; refine zd ?_; refine zy (id := 5) [(200044, [900]), (200050, [900])] mixed (by kernel_rfl) ?_; refine Zs7 ?_; refine Zs7 ?_; refine Zs7 ?_; refine Zs28 ?_; refine z8 (zn L _ rfl rfl rfl rfl rfl rfl rfl (by omega)) rfl ?_; refine zx (zq L (q := 900) rfl rfl rfl rfl rfl qr) rfl rfl ?_; refine Zs7 ?_; refine Zs7 ?_; refine Zs7 ?_; refine Zs28 ?_; refine z8 (zn L _ rfl rfl rfl rfl rfl rfl rfl (by omega)) rfl ?_; refine zx (zq L (q := 900) rfl rfl rfl rfl rfl qc) rfl rfl ?_; refine z8 (zp L rfl rfl (zf rfl) rfl rfl rfl (fun u H hH _ _ => lessU' hc2 hH)) rfl ?_; refine Zs52 ?_; refine qb ?_; refine zg ?_; refine zu rfl ?_
          exact V_retGhost L 900 (r := GHeld b _ tyU) rfl (fun _ _ h => h) Since.refl rfl rfl
        | true =>
          rw [hc2] at hO
          simp only [Bool.not_true, Bool.false_eq_true, if_false] at hO
          rw [dif_pos (by omega)] at hO
          obtain ⟨_, qj⟩ := u_at (rest := rest) (show first + (2 * r + 2) < E.size by omega) (0 + (first + (2 * r + 2)) * 1) rfl
          obtain ⟨_, qi⟩ := u_at (rest := rest) (show first + r < E.size by omega) (0 + (first + r) * 1) rfl
          have s1 := u_set (rest := rest) E[first + (2 * r + 2)]! (show first + r < E.size by omega) (0 + (first + r) * 1) rfl
          have b1 := u_ble (rest := rest) (show first + r < E.size by omega) (0 + (first + r) * 1) rfl
          have hz : first + (2 * r + 2) < (E.setIfInBounds (first + r) E[first + (2 * r + 2)]!).size := by rw [Array.size_setIfInBounds]; omega
          have s2 := u_set (rest := rest) E[first + r]! hz (0 + (first + (2 * r + 2)) * 1) rfl
          have b2 := u_ble (rest := rest) hz (0 + (first + (2 * r + 2)) * 1) rfl
          rw [swp_eq] at s2
          refine q0 ?_; refine zd ?_; refine zb (id := 1) ?_; refine Zs1 ?_; refine Zs30 ?_; refine Zs17 ?_; refine Zs3 ?_; refine ze ?_; refine zg ?_; refine zd ?_; refine zd ?_; refine zb (id := 2) ?_; refine Zs1 ?_; refine Zs1 ?_; refine Zs22 ?_; refine ze ?_; refine zg ?_; refine zm rfl ?_; refine zt ?_; refine zg ?_; refine zd ?_; refine zd ?_; refine zy (id := 3) [(200027, [900]), (200034, [900])] mixed (by kernel_rfl) ?_; refine Zs7 ?_; refine Zs28 ?_; refine Zs7 ?_; refine Zs65 ?_; refine Zs7 ?_; refine Zs7 ?_; refine Zs7 ?_; refine Zs7 ?_; refine Zs28 ?_; refine z8 (zn L _ rfl rfl rfl rfl rfl rfl rfl (by omega)) rfl ?_; refine zx (zq L (q := 900) rfl rfl rfl rfl rfl q1) rfl rfl ?_; refine Zs7 ?_; refine Zs7 ?_; refine Zs7 ?_; refine Zs28 ?_; refine Zs28 ?_; refine z8 (zn L _ rfl rfl rfl rfl rfl rfl rfl (by omega)) rfl ?_; refine zx (zq L (q := 900) rfl rfl rfl rfl rfl q2) rfl rfl ?_; refine z8 (zp L rfl rfl (zf rfl) rfl rfl rfl (fun u H hH _ _ => lessU' hc hH)) rfl ?_; refine Zs33 ?_; refine qb ?_; refine zg ?_; refine zu rfl ?_; refine zb (id := 4) ?_; refine Zs1 ?_; refine Zs17 ?_; refine Zs3 ?_; refine ze ?_; refine zg ?_; refine zd ?_; refine zd ?_; refine zy (id := 5) [(200044, [900]), (200050, [900])] mixed (by kernel_rfl) ?_; refine Zs7 ?_; refine Zs7 ?_; refine Zs7 ?_; refine Zs28 ?_; refine z8 (zn L _ rfl rfl rfl rfl rfl rfl rfl (by omega)) rfl ?_; refine zx (zq L (q := 900) rfl rfl rfl rfl rfl qr) rfl rfl ?_; refine Zs7 ?_; refine Zs7 ?_; refine Zs7 ?_; refine Zs28 ?_; refine z8 (zn L _ rfl rfl rfl rfl rfl rfl rfl (by omega)) rfl ?_; refine zx (zq L (q := 900) rfl rfl rfl rfl rfl qc) rfl rfl ?_; refine z8 (zp L rfl rfl (zf rfl) rfl rfl rfl (fun u H hH _ _ => lessU' hc2 hH)) rfl ?_; refine Zs52 ?_; refine qb ?_; refine zg ?_; refine zm rfl ?_; refine zt ?_; refine zg ?_; refine zd ?_; refine zy (id := 6) [(200066, [900]), (200072, [900]), (100073, [900]), (100074, [900])] mixed (by kernel_rfl) ?_; refine Zs7 ?_; refine Zs7 ?_; refine Zs7 ?_; refine Zs28 ?_; refine Zs7 ?_; refine Zs7 ?_; refine Zs7 ?_; refine Zs28 ?_; refine Zs7 ?_; refine Zs7 ?_; refine Zs7 ?_; refine Zs28 ?_; refine z8 (zn L _ rfl rfl rfl rfl rfl rfl rfl (by omega)) rfl ?_; refine zx (zq L (q := 900) rfl rfl rfl rfl rfl qj) rfl rfl ?_; refine Zs7 ?_; refine Zs7 ?_; refine Zs7 ?_; refine Zs28 ?_; refine z8 (zn L _ rfl rfl rfl rfl rfl rfl rfl (by omega)) rfl ?_; refine zx (zq L (q := 900) rfl rfl rfl rfl rfl qi) rfl rfl ?_; refine z8 (zn L _ rfl rfl rfl rfl rfl rfl rfl (by omega)) rfl ?_; refine y1 (qv L (q := 900) rfl rfl rfl rfl rfl rfl b1 rfl s1) rfl ?_; refine z8 (zn L _ rfl rfl rfl rfl rfl rfl rfl (by omega)) rfl ?_; refine y1 (qv L (q := 900) rfl rfl rfl rfl rfl rfl b2 rfl s2) rfl ?_; refine qb ?_; refine zg ?_; refine zb (id := 7) ?_; refine Zs1 ?_; refine Zs3 ?_; refine ze ?_; refine qo ?_
          exact qy (x := (r, E)) (2 * r + 2, swp E (first + r) (first + (2 * r + 2))) ⟨by dsimp only; omega, by dsimp only; rw [swp_size]; exact hE, hO⟩ (by dsimp only; omega) ⟨rfl, rfl, rfl, rfl, rfl, trivial⟩
      | false =>
        rw [if_neg (by rw [hc]; simp)] at hO
        have qc := q1
        cases hc2 : lt E[first + r]! E[first + (2 * r + 1)]! with
        | false =>
          rw [hc2] at hO
          simp only [Bool.not_false, if_true] at hO
          subst hO
          refine q0 ?_; refine zd ?_; refine zb (id := 1) ?_; refine Zs1 ?_; refine Zs30 ?_; refine Zs17 ?_; refine Zs3 ?_; refine ze ?_; refine zg ?_; refine zd ?_; refine zd ?_; refine zb (id := 2) ?_; refine Zs1 ?_; refine Zs1 ?_; refine Zs22 ?_; refine ze ?_; refine zg ?_; refine zm rfl ?_; refine zt ?_; refine zg ?_; refine zd ?_; refine zd ?_; refine zy (id := 3) [(200027, [900]), (200034, [900])] mixed (by kernel_rfl) ?_; refine Zs7 ?_; refine Zs28 ?_; refine Zs7 ?_; refine Zs65 ?_; refine Zs7 ?_; refine Zs7 ?_; refine Zs7 ?_; refine Zs7 ?_; refine Zs28 ?_; refine z8 (zn L _ rfl rfl rfl rfl rfl rfl rfl (by omega)) rfl ?_; refine zx (zq L (q := 900) rfl rfl rfl rfl rfl q1) rfl rfl ?_; refine Zs7 ?_; refine Zs7 ?_; refine Zs7 ?_; refine Zs28 ?_; refine Zs28 ?_; refine z8 (zn L _ rfl rfl rfl rfl rfl rfl rfl (by omega)) rfl ?_; refine zx (zq L (q := 900) rfl rfl rfl rfl rfl q2) rfl rfl ?_; refine z8 (zp L rfl rfl (zf rfl) rfl rfl rfl (fun u H hH _ _ => lessU' hc hH)) rfl ?_; refine Zs33 ?_; refine qb ?_; refine zg ?_; refine zm rfl ?_; refine zt ?_; refine zg ?_; refine zd ?_; refine zd ?_; refine zy (id := 5) [(200044, [900]), (200050, [900])] mixed (by kernel_rfl) ?_; refine Zs7 ?_; refine Zs7 ?_; refine Zs7 ?_; refine Zs28 ?_; refine z8 (zn L _ rfl rfl rfl rfl rfl rfl rfl (by omega)) rfl ?_; refine zx (zq L (q := 900) rfl rfl rfl rfl rfl qr) rfl rfl ?_; refine Zs7 ?_; refine Zs7 ?_; refine Zs7 ?_; refine Zs28 ?_; refine z8 (zn L _ rfl rfl rfl rfl rfl rfl rfl (by omega)) rfl ?_; refine zx (zq L (q := 900) rfl rfl rfl rfl rfl qc) rfl rfl ?_; refine z8 (zp L rfl rfl (zf rfl) rfl rfl rfl (fun u H hH _ _ => lessU' hc2 hH)) rfl ?_; refine Zs52 ?_; refine qb ?_; refine zg ?_; refine zu rfl ?_
          exact V_retGhost L 900 (r := GHeld b _ tyU) rfl (fun _ _ h => h) Since.refl rfl rfl
        | true =>
          rw [hc2] at hO
          simp only [Bool.not_true, Bool.false_eq_true, if_false] at hO
          obtain ⟨_, qj⟩ := u_at (rest := rest) (show first + (2 * r + 1) < E.size by omega) (0 + (first + (2 * r + 1)) * 1) rfl
          obtain ⟨_, qi⟩ := u_at (rest := rest) (show first + r < E.size by omega) (0 + (first + r) * 1) rfl
          have s1 := u_set (rest := rest) E[first + (2 * r + 1)]! (show first + r < E.size by omega) (0 + (first + r) * 1) rfl
          have b1 := u_ble (rest := rest) (show first + r < E.size by omega) (0 + (first + r) * 1) rfl
          have hz : first + (2 * r + 1) < (E.setIfInBounds (first + r) E[first + (2 * r + 1)]!).size := by rw [Array.size_setIfInBounds]; omega
          have s2 := u_set (rest := rest) E[first + r]! hz (0 + (first + (2 * r + 1)) * 1) rfl
          have b2 := u_ble (rest := rest) hz (0 + (first + (2 * r + 1)) * 1) rfl
          rw [swp_eq] at s2
          refine q0 ?_; refine zd ?_; refine zb (id := 1) ?_; refine Zs1 ?_; refine Zs30 ?_; refine Zs17 ?_; refine Zs3 ?_; refine ze ?_; refine zg ?_; refine zd ?_; refine zd ?_; refine zb (id := 2) ?_; refine Zs1 ?_; refine Zs1 ?_; refine Zs22 ?_; refine ze ?_; refine zg ?_; refine zm rfl ?_; refine zt ?_; refine zg ?_; refine zd ?_; refine zd ?_; refine zy (id := 3) [(200027, [900]), (200034, [900])] mixed (by kernel_rfl) ?_; refine Zs7 ?_; refine Zs28 ?_; refine Zs7 ?_; refine Zs65 ?_; refine Zs7 ?_; refine Zs7 ?_; refine Zs7 ?_; refine Zs7 ?_; refine Zs28 ?_; refine z8 (zn L _ rfl rfl rfl rfl rfl rfl rfl (by omega)) rfl ?_; refine zx (zq L (q := 900) rfl rfl rfl rfl rfl q1) rfl rfl ?_; refine Zs7 ?_; refine Zs7 ?_; refine Zs7 ?_; refine Zs28 ?_; refine Zs28 ?_; refine z8 (zn L _ rfl rfl rfl rfl rfl rfl rfl (by omega)) rfl ?_; refine zx (zq L (q := 900) rfl rfl rfl rfl rfl q2) rfl rfl ?_; refine z8 (zp L rfl rfl (zf rfl) rfl rfl rfl (fun u H hH _ _ => lessU' hc hH)) rfl ?_; refine Zs33 ?_; refine qb ?_; refine zg ?_; refine zm rfl ?_; refine zt ?_; refine zg ?_; refine zd ?_; refine zd ?_; refine zy (id := 5) [(200044, [900]), (200050, [900])] mixed (by kernel_rfl) ?_; refine Zs7 ?_; refine Zs7 ?_; refine Zs7 ?_; refine Zs28 ?_; refine z8 (zn L _ rfl rfl rfl rfl rfl rfl rfl (by omega)) rfl ?_; refine zx (zq L (q := 900) rfl rfl rfl rfl rfl qr) rfl rfl ?_; refine Zs7 ?_; refine Zs7 ?_; refine Zs7 ?_; refine Zs28 ?_; refine z8 (zn L _ rfl rfl rfl rfl rfl rfl rfl (by omega)) rfl ?_; refine zx (zq L (q := 900) rfl rfl rfl rfl rfl qc) rfl rfl ?_; refine z8 (zp L rfl rfl (zf rfl) rfl rfl rfl (fun u H hH _ _ => lessU' hc2 hH)) rfl ?_; refine Zs52 ?_; refine qb ?_; refine zg ?_; refine zm rfl ?_; refine zt ?_; refine zg ?_; refine zd ?_; refine zy (id := 6) [(200066, [900]), (200072, [900]), (100073, [900]), (100074, [900])] mixed (by kernel_rfl) ?_; refine Zs7 ?_; refine Zs7 ?_; refine Zs7 ?_; refine Zs28 ?_; refine Zs7 ?_; refine Zs7 ?_; refine Zs7 ?_; refine Zs28 ?_; refine Zs7 ?_; refine Zs7 ?_; refine Zs7 ?_; refine Zs28 ?_; refine z8 (zn L _ rfl rfl rfl rfl rfl rfl rfl (by omega)) rfl ?_; refine zx (zq L (q := 900) rfl rfl rfl rfl rfl qj) rfl rfl ?_; refine Zs7 ?_; refine Zs7 ?_; refine Zs7 ?_; refine Zs28 ?_; refine z8 (zn L _ rfl rfl rfl rfl rfl rfl rfl (by omega)) rfl ?_; refine zx (zq L (q := 900) rfl rfl rfl rfl rfl qi) rfl rfl ?_; refine z8 (zn L _ rfl rfl rfl rfl rfl rfl rfl (by omega)) rfl ?_; refine y1 (qv L (q := 900) rfl rfl rfl rfl rfl rfl b1 rfl s1) rfl ?_; refine z8 (zn L _ rfl rfl rfl rfl rfl rfl rfl (by omega)) rfl ?_; refine y1 (qv L (q := 900) rfl rfl rfl rfl rfl rfl b2 rfl s2) rfl ?_; refine qb ?_; refine zg ?_; refine zb (id := 7) ?_; refine Zs1 ?_; refine Zs3 ?_; refine ze ?_; refine qo ?_
          exact qy (x := (r, E)) (2 * r + 1, swp E (first + r) (first + (2 * r + 1))) ⟨by dsimp only; omega, by dsimp only; rw [swp_size]; exact hE, hO⟩ (by dsimp only; omega) ⟨rfl, rfl, rfl, rfl, rfl, trivial⟩
    · rw [if_neg (by simp; omega)] at hO
      obtain ⟨_, qc⟩ := u_at (rest := rest) (show first + (2 * r + 1) < E.size by omega) (0 + (first + (2 * r + 1)) * 1) rfl
      cases hc2 : lt E[first + r]! E[first + (2 * r + 1)]! with
      | false =>
        rw [hc2] at hO
        simp only [Bool.not_false, if_true] at hO
        subst hO
        refine q0 ?_; refine zd ?_; refine zb (id := 1) ?_; refine Zs1 ?_; refine Zs30 ?_; refine Zs17 ?_; refine Zs3 ?_; refine ze ?_; refine zg ?_; refine zd ?_; refine zd ?_; refine zb (id := 2) ?_; refine Zs1 ?_; refine Zs1 ?_; refine Zs22 ?_; refine ze ?_; refine zg ?_; refine zm rfl ?_; refine zt ?_; refine zg ?_; refine zd ?_; refine zd ?_; refine zy (id := 3) [] mixed (by kernel_rfl) ?_; refine Zs7 ?_; refine Zs28 ?_; refine Zs7 ?_; refine Zs74 ?_; refine Zs7 ?_; refine Zs9 ?_; refine Zs9 ?_; refine Zs9 ?_; refine Zs9 ?_; refine Zs9 ?_; refine Zs9 ?_; refine Zs9 ?_; refine Zs9 ?_; refine Zs9 ?_; refine Zs9 ?_; refine Zs9 ?_; refine Zs9 ?_; refine Zs9 ?_; refine Zs9 ?_; refine Zs33 ?_; refine qb ?_; refine zg ?_; refine zm rfl ?_; refine zt ?_; refine zg ?_; refine zd ?_; refine zd ?_; refine zy (id := 5) [(200044, [900]), (200050, [900])] mixed (by kernel_rfl) ?_; refine Zs7 ?_; refine Zs7 ?_; refine Zs7 ?_; refine Zs28 ?_; refine z8 (zn L _ rfl rfl rfl rfl rfl rfl rfl (by omega)) rfl ?_; refine zx (zq L (q := 900) rfl rfl rfl rfl rfl qr) rfl rfl ?_; refine Zs7 ?_; refine Zs7 ?_; refine Zs7 ?_; refine Zs28 ?_; refine z8 (zn L _ rfl rfl rfl rfl rfl rfl rfl (by omega)) rfl ?_; refine zx (zq L (q := 900) rfl rfl rfl rfl rfl qc) rfl rfl ?_; refine z8 (zp L rfl rfl (zf rfl) rfl rfl rfl (fun u H hH _ _ => lessU' hc2 hH)) rfl ?_; refine Zs52 ?_; refine qb ?_; refine zg ?_; refine zu rfl ?_
        exact V_retGhost L 900 (r := GHeld b _ tyU) rfl (fun _ _ h => h) Since.refl rfl rfl
      | true =>
        rw [hc2] at hO
        simp only [Bool.not_true, Bool.false_eq_true, if_false] at hO
        obtain ⟨_, qj⟩ := u_at (rest := rest) (show first + (2 * r + 1) < E.size by omega) (0 + (first + (2 * r + 1)) * 1) rfl
        obtain ⟨_, qi⟩ := u_at (rest := rest) (show first + r < E.size by omega) (0 + (first + r) * 1) rfl
        have s1 := u_set (rest := rest) E[first + (2 * r + 1)]! (show first + r < E.size by omega) (0 + (first + r) * 1) rfl
        have b1 := u_ble (rest := rest) (show first + r < E.size by omega) (0 + (first + r) * 1) rfl
        have hz : first + (2 * r + 1) < (E.setIfInBounds (first + r) E[first + (2 * r + 1)]!).size := by rw [Array.size_setIfInBounds]; omega
        have s2 := u_set (rest := rest) E[first + r]! hz (0 + (first + (2 * r + 1)) * 1) rfl
        have b2 := u_ble (rest := rest) hz (0 + (first + (2 * r + 1)) * 1) rfl
        rw [swp_eq] at s2
        refine q0 ?_; refine zd ?_; refine zb (id := 1) ?_; refine Zs1 ?_; refine Zs30 ?_; refine Zs17 ?_; refine Zs3 ?_; refine ze ?_; refine zg ?_; refine zd ?_; refine zd ?_; refine zb (id := 2) ?_; refine Zs1 ?_; refine Zs1 ?_; refine Zs22 ?_; refine ze ?_; refine zg ?_; refine zm rfl ?_; refine zt ?_; refine zg ?_; refine zd ?_; refine zd ?_; refine zy (id := 3) [] mixed (by kernel_rfl) ?_; refine Zs7 ?_; refine Zs28 ?_; refine Zs7 ?_; refine Zs74 ?_; refine Zs7 ?_; refine Zs9 ?_; refine Zs9 ?_; refine Zs9 ?_; refine Zs9 ?_; refine Zs9 ?_; refine Zs9 ?_; refine Zs9 ?_; refine Zs9 ?_; refine Zs9 ?_; refine Zs9 ?_; refine Zs9 ?_; refine Zs9 ?_; refine Zs9 ?_; refine Zs9 ?_; refine Zs33 ?_; refine qb ?_; refine zg ?_; refine zm rfl ?_; refine zt ?_; refine zg ?_; refine zd ?_; refine zd ?_; refine zy (id := 5) [(200044, [900]), (200050, [900])] mixed (by kernel_rfl) ?_; refine Zs7 ?_; refine Zs7 ?_; refine Zs7 ?_; refine Zs28 ?_; refine z8 (zn L _ rfl rfl rfl rfl rfl rfl rfl (by omega)) rfl ?_; refine zx (zq L (q := 900) rfl rfl rfl rfl rfl qr) rfl rfl ?_; refine Zs7 ?_; refine Zs7 ?_; refine Zs7 ?_; refine Zs28 ?_; refine z8 (zn L _ rfl rfl rfl rfl rfl rfl rfl (by omega)) rfl ?_; refine zx (zq L (q := 900) rfl rfl rfl rfl rfl qc) rfl rfl ?_; refine z8 (zp L rfl rfl (zf rfl) rfl rfl rfl (fun u H hH _ _ => lessU' hc2 hH)) rfl ?_; refine Zs52 ?_; refine qb ?_; refine zg ?_; refine zm rfl ?_; refine zt ?_; refine zg ?_; refine zd ?_; refine zy (id := 6) [(200066, [900]), (200072, [900]), (100073, [900]), (100074, [900])] mixed (by kernel_rfl) ?_; refine Zs7 ?_; refine Zs7 ?_; refine Zs7 ?_; refine Zs28 ?_; refine Zs7 ?_; refine Zs7 ?_; refine Zs7 ?_; refine Zs28 ?_; refine Zs7 ?_; refine Zs7 ?_; refine Zs7 ?_; refine Zs28 ?_; refine z8 (zn L _ rfl rfl rfl rfl rfl rfl rfl (by omega)) rfl ?_; refine zx (zq L (q := 900) rfl rfl rfl rfl rfl qj) rfl rfl ?_; refine Zs7 ?_; refine Zs7 ?_; refine Zs7 ?_; refine Zs28 ?_; refine z8 (zn L _ rfl rfl rfl rfl rfl rfl rfl (by omega)) rfl ?_; refine zx (zq L (q := 900) rfl rfl rfl rfl rfl qi) rfl rfl ?_; refine z8 (zn L _ rfl rfl rfl rfl rfl rfl rfl (by omega)) rfl ?_; refine y1 (qv L (q := 900) rfl rfl rfl rfl rfl rfl b1 rfl s1) rfl ?_; refine z8 (zn L _ rfl rfl rfl rfl rfl rfl rfl (by omega)) rfl ?_; refine y1 (qv L (q := 900) rfl rfl rfl rfl rfl rfl b2 rfl s2) rfl ?_; refine qb ?_; refine zg ?_; refine zb (id := 7) ?_; refine Zs1 ?_; refine Zs3 ?_; refine ze ?_; refine qo ?_
        exact qy (x := (r, E)) (2 * r + 1, swp E (first + r) (first + (2 * r + 1))) ⟨by dsimp only; omega, by dsimp only; rw [swp_size]; exact hE, hO⟩ (by dsimp only; omega) ⟨rfl, rfl, rfl, rfl, rfl, trivial⟩
theorem sift_size (hi first : Nat) : ∀ (n root : Nat) (d : Array Int), hi - root ≤ n → (siftDown lt hi first root d).size = d.size := by
  intro n
  induction n with
  | zero =>
    intro root d h
    rw [siftDown, dif_pos (by omega)]
  | succ n ih =>
    intro root d h
    rw [siftDown]
    split
    · rfl
    · split
      · split
        · rfl
        · split
          · rw [ih _ _ (by omega), swp_size]
          · rfl
      · split
        · rfl
        · rw [ih _ _ (by omega), swp_size]
set_option maxHeartbeats 1000000 in
set_option maxRecDepth 20000 in
theorem heap_ret {d : Array Int} {rest : List Value} {b m cap a e : Nat} (hab : a < e) (he : e ≤ d.size) (hm : d.size = m) (hm1 : m ≤ 100000) {w : World} {B : Heap} {C : Nat → Prop} (hB : B.Le (hp w))
    (hr : (GHeld b (uC d ++ rest) tyU).P B w C) (hC : ∀ k, C k → k < w.heap.size ∧ B k = none) :
    RetG Try.prog 90 [.slice (some ⟨b, 0, none⟩) m cap, .int .i64 a, .int .i64 e] w B C (GHeld b (uC (heapSort lt d a e) ++ rest) tyU) := by
  unfold RetG
  refine V_enterG 900 (GHeld b (uC d ++ rest) tyU) Try.func90 rfl Try.ntmps90 (Nat.le_of_ble_eq_true rfl) hB hr hC ?_
  rw [gheld_res]
  have hw0 : IntKind.i64.wrap ((e : Int) - (a : Int)) = ((e - a : Nat) : Int) := wrap_i64 (by omega) (by omega) |>.trans (by omega)
  have hw1 : IntKind.i64.wrap (((e - a : Nat) : Int) - 1) = ((e - a - 1 : Nat) : Int) := wrap_i64 (by omega) (by omega) |>.trans (by omega)
  have et : ((e - a - 1 : Nat) : Int).tdiv 2 = (((e - a - 1) / 2 + 1 : Nat) : Int) - 1 := by
    rw [Int.tdiv_eq_ediv_of_nonneg (by omega)]
    omega
  have hw2 : IntKind.i64.wrap (((e - a - 1 : Nat) : Int).tdiv 2) = (((e - a - 1) / 2 + 1 : Nat) : Int) - 1 := by rw [et]; exact wrap_i64 (by omega) (by omega)
  refine zd ?_; refine zb (id := 0) ?_; refine Zs1 ?_; refine Zs3 ?_; refine ze ?_; refine zg ?_; refine zd ?_; refine zb (id := 1) ?_; refine Zs3 ?_; refine ze ?_; refine zg ?_; refine zd ?_; refine zb (id := 2) ?_; refine Zs1 ?_; refine Zs1 ?_; refine Zs19 ?_; refine Zs3 ?_; refine ze ?_; refine zg ?_; refine zd ?_; refine zd ?_; refine zb (id := 3) ?_; refine Zs1 ?_; refine Zs19 ?_; refine Zs27 ?_; refine Zs3 ?_; refine ze ?_; refine zg ?_; refine q0 ?_
  refine V_loop (fun s : Nat × Array Int => [(0, .is (.slice (some ⟨b, 0, none⟩) m cap)), (6, .is (.int .i64 a)), (7, .is (.int .i64 0)), (8, .is (.int .i64 (e - a : Nat))), (9, .is (.int .i64 ((s.1 : Int) - 1))), (900, .own (HeldR b (uC s.2 ++ rest) tyU))]) (fun s => s.1 ≤ (e - a - 1) / 2 + 1 ∧ s.2.size = m ∧ heapBuild lt (e - a) a s.1 s.2 = heapBuild lt (e - a) a ((e - a - 1) / 2 + 1) d) (fun s => s.1) ((e - a - 1) / 2 + 1, d) ⟨Nat.le_refl _, hm, rfl⟩ ⟨rfl, rfl, rfl, rfl, rfl, rfl, trivial⟩ ?_
  rintro ⟨k, E⟩ ⟨hk, hE, hO⟩
  dsimp only at hk hE hO ⊢
  rcases k with _ | k
  · have e9 : (((0 : Nat) : Int) - 1) = -1 := rfl
    rw [e9]
    refine zd ?_; refine zd ?_; refine zb (id := 4) ?_; refine Zs1 ?_; refine Zs22 ?_; refine ze ?_; refine zg ?_; refine zm rfl ?_; refine y5 ?_; refine qf ?_; refine qf ?_; refine y4 ?_; refine zg ?_; refine zd ?_
    rw [heapBuild] at hO
    have e10 : ((e - a - 1 : Nat) : Int) = ((e - a : Nat) : Int) - 1 := by omega
    rw [e10] at hw1
    refine zb (id := 7) ?_; refine Zs1 ?_; refine Zs19 ?_; refine Zs3 ?_; refine ze ?_; refine zg ?_; refine q0 ?_
    refine V_loop (fun s : Nat × Array Int => [(0, .is (.slice (some ⟨b, 0, none⟩) m cap)), (6, .is (.int .i64 a)), (7, .is (.int .i64 0)), (10, .is (.int .i64 ((s.1 : Int) - 1))), (900, .own (HeldR b (uC s.2 ++ rest) tyU))]) (fun s => s.1 ≤ e - a ∧ s.2.size = m ∧ heapPop lt a s.1 s.2 = heapPop lt a (e - a) E) (fun s => s.1) (e - a, E) ⟨Nat.le_refl _, hE, rfl⟩ ⟨rfl, rfl, rfl, rfl, rfl, trivial⟩ ?_
    rintro ⟨j, G⟩ ⟨hj, hG, hP⟩
    dsimp only at hj hG hP ⊢
    rcases j with _ | j
    · rw [e9]
      rw [heapPop] at hP
      have : G = heapSort lt d a e := by unfold heapSort; rw [← hO, hP]
      subst this
      refine zd ?_; refine zd ?_; refine zb (id := 8) ?_; refine Zs1 ?_; refine Zs22 ?_; refine ze ?_; refine zg ?_; refine zm rfl ?_; refine y5 ?_; refine qf ?_; refine qf ?_; refine y4 ?_
      exact N_retGhost L 900 (r := GHeld b _ tyU) rfl (fun _ _ h => h) Since.refl rfl rfl
    · have e8 : (((j + 1 : Nat) : Int) - 1) = (j : Int) := by omega
      rw [heapPop] at hP
      rw [e8]
      have hw3 : IntKind.i64.wrap ((a : Int) + (j : Int)) = ((a + j : Nat) : Int) := wrap_i64 (by omega) (by omega)
      have hw4 : IntKind.i64.wrap ((j : Int) - 1) = (j : Int) - 1 := wrap_i64 (by omega) (by omega)
      have hsz := swp_size G a (a + j)
      have hss := sift_size j a j 0 (swp G a (a + j)) (by omega)
      obtain ⟨_, qj⟩ := u_at (rest := rest) (show a + j < G.size by omega) (0 + (a + j) * 1) rfl
      obtain ⟨_, qi⟩ := u_at (rest := rest) (show a < G.size by omega) (0 + (a) * 1) rfl
      have s1 := u_set (rest := rest) G[a + j]! (show a < G.size by omega) (0 + (a) * 1) rfl
      have b1 := u_ble (rest := rest) (show a < G.size by omega) (0 + (a) * 1) rfl
      have hz : a + j < (G.setIfInBounds (a) G[a + j]!).size := by rw [Array.size_setIfInBounds]; omega
      have s2 := u_set (rest := rest) G[a]! hz (0 + (a + j) * 1) rfl
      have b2 := u_ble (rest := rest) hz (0 + (a + j) * 1) rfl
      rw [swp_eq] at s2
      refine zd ?_; refine zd ?_; refine zb (id := 8) ?_; refine Zs1 ?_; refine Zs29 ?_; refine ze ?_; refine zg ?_; refine zu rfl ?_; refine zt ?_; refine zg ?_; refine zd ?_; refine q0 ?_; refine zd ?_; refine zy (id := 10) [(200044, [900]), (200048, [900]), (100049, [900]), (100050, [900])] mixed (by kernel_rfl) ?_; refine Zs7 ?_; refine Zs7 ?_; refine Zs7 ?_; refine Zs7 ?_; refine Zs7 ?_; refine Zs28 ?_; refine Zs7 ?_; refine Zs7 ?_; refine Zs7 ?_; refine Zs28 ?_; refine z8 (zn L _ rfl rfl rfl rfl rfl rfl rfl (by omega)) rfl ?_; refine zx (zq L (q := 900) rfl rfl rfl rfl rfl qj) rfl rfl ?_; refine Zs7 ?_; refine Zs7 ?_; refine z8 (zn L _ rfl rfl rfl rfl rfl rfl rfl (by omega)) rfl ?_; refine zx (zq L (q := 900) rfl rfl rfl rfl rfl qi) rfl rfl ?_; refine z8 (zn L _ rfl rfl rfl rfl rfl rfl rfl (by omega)) rfl ?_; refine y1 (qv L (q := 900) rfl rfl rfl rfl rfl rfl b1 rfl s1) rfl ?_; refine z8 (zn L _ rfl rfl rfl rfl rfl rfl rfl (by omega)) rfl ?_; refine y1 (qv L (q := 900) rfl rfl rfl rfl rfl rfl b2 rfl s2) rfl ?_; refine qb ?_; refine zg ?_; refine zb (id := 11) ?_; refine Zs1 ?_; refine Zs1 ?_; refine Zs1 ?_; refine Zs1 ?_; refine qd (ok_callG L 900 (GHeld b (uC (siftDown lt j a 0 (swp G a (a + j))) ++ rest) tyU) (r := GHeld b (uC (swp G a (a + j)) ++ rest) tyU) rfl rfl rfl rfl rfl (fun u H C hH _ hr hC => sift_ret (Nat.zero_le _) (by omega) (by omega) hm1 hH hr hC)) ?_; refine ze ?_; refine qo ?_; refine zg ?_; refine zb (id := 9) ?_; refine Zs1 ?_; refine Zs19 ?_; refine Zs3 ?_; refine ze ?_
      exact qy (x := (j + 1, G)) (j, siftDown lt j a 0 (swp G a (a + j))) ⟨by dsimp only; omega, by dsimp only; omega, hP⟩ (by dsimp only; omega) ⟨rfl, rfl, rfl, rfl, rfl, trivial⟩
  · have e8 : (((k + 1 : Nat) : Int) - 1) = (k : Int) := by omega
    rw [heapBuild] at hO
    rw [e8]
    have hw4 : IntKind.i64.wrap ((k : Int) - 1) = (k : Int) - 1 := wrap_i64 (by omega) (by omega)
    have hss := sift_size (e - a) a (e - a) k E (by omega)
    refine zd ?_; refine zd ?_; refine zb (id := 4) ?_; refine Zs1 ?_; refine Zs29 ?_; refine ze ?_; refine zg ?_; refine zu rfl ?_; refine zt ?_; refine zg ?_; refine zd ?_; refine q0 ?_; refine zb (id := 6) ?_; refine Zs1 ?_; refine Zs1 ?_; refine Zs1 ?_; refine Zs1 ?_; refine qd (ok_callG L 900 (GHeld b (uC (siftDown lt (e - a) a k E) ++ rest) tyU) (r := GHeld b (uC E ++ rest) tyU) rfl rfl rfl rfl rfl (fun u H C hH _ hr hC => sift_ret (by omega) (by omega) (by omega) hm1 hH hr hC)) ?_; refine ze ?_; refine qo ?_; refine zg ?_; refine zb (id := 5) ?_; refine Zs1 ?_; refine Zs19 ?_; refine Zs3 ?_; refine ze ?_
    exact qy (x := (k + 1, E)) (k, siftDown lt (e - a) a k E) ⟨by dsimp only; omega, by dsimp only; omega, hO⟩ (by dsimp only; omega) ⟨rfl, rfl, rfl, rfl, rfl, rfl, trivial⟩
end Go.V.So
namespace Go.V.So
open Go.Proofs Go.RowKit Go.V Go.Sort
attribute [local irreducible] V N X VO Par StepOK Has Ret RetL RetO RetG RetX Src
theorem scanUp_stop {p : Int → Bool} {d : Array Int} {j i : Nat} (h : ¬ (i ≤ j ∧ p d[i]! = true)) : scanUp p d j i = i := by
  rw [scanUp, if_neg]
  simpa using h
theorem scanUp_go {p : Int → Bool} {d : Array Int} {j i : Nat} (h1 : i ≤ j) (h2 : p d[i]! = true) : scanUp p d j i = scanUp p d j (i + 1) := by
  rw [scanUp, if_pos (by simp [h1, h2])]
theorem scanDown_stop {p : Int → Bool} {d : Array Int} {i j : Nat} (h : ¬ (i ≤ j ∧ p d[j]! = true)) : scanDown p d i j = j := by
  cases j with
  | zero => rfl
  | succ j => rw [scanDown, if_neg]; simpa using h
theorem scanDown_go {p : Int → Bool} {d : Array Int} {i j : Nat} (h1 : i ≤ j + 1) (h2 : p d[j + 1]! = true) : scanDown p d i (j + 1) = scanDown p d i j := by
  rw [scanDown, if_pos (by simp [h1, h2])]
set_option maxHeartbeats 2000000 in
set_option maxRecDepth 20000 in
theorem part_ret {d : Array Int} {rest : List Value} {b m cap a e p : Nat} (hap : a ≤ p) (hpe : p < e) (he : e ≤ d.size) (hm : d.size = m) (hm1 : m ≤ 100000) {w : World} {B : Heap} {C : Nat → Prop} (hB : B.Le (hp w))
    (hr : (GHeld b (uC d ++ rest) tyU).P B w C) (hC : ∀ k, C k → k < w.heap.size ∧ B k = none) :
    RetX Try.prog 97 [.slice (some ⟨b, 0, none⟩) m cap, .int .i64 a, .int .i64 e, .int .i64 p] w B C (GHeld b (uC (Go.Sort.partition lt d a e p).2.2 ++ rest) tyU) (.tuple #[.int .i64 (Go.Sort.partition lt d a e p).1, .bool (Go.Sort.partition lt d a e p).2.1]) := by
  unfold RetX
  refine V_enterG 900 (GHeld b (uC d ++ rest) tyU) Try.func97 rfl Try.ntmps97 (Nat.le_of_ble_eq_true rfl) hB hr hC ?_
  rw [gheld_res]
  obtain ⟨_, qj⟩ := u_at (rest := rest) (show p < d.size by omega) (0 + (p) * 1) rfl
  obtain ⟨_, qi⟩ := u_at (rest := rest) (show a < d.size by omega) (0 + (a) * 1) rfl
  have s1 := u_set (rest := rest) d[p]! (show a < d.size by omega) (0 + (a) * 1) rfl
  have b1 := u_ble (rest := rest) (show a < d.size by omega) (0 + (a) * 1) rfl
  have hz : p < (d.setIfInBounds (a) d[p]!).size := by rw [Array.size_setIfInBounds]; omega
  have s2 := u_set (rest := rest) d[a]! hz (0 + (p) * 1) rfl
  have b2 := u_ble (rest := rest) hz (0 + (p) * 1) rfl
  rw [swp_eq] at s2
  have hw1 : IntKind.i64.wrap ((a : Int) + 1) = ((a + 1 : Nat) : Int) := wrap_i64 (by omega) (by omega)
  obtain ⟨e1, rfl⟩ : ∃ e1, e = e1 + 1 := ⟨e - 1, by omega⟩
  have hw2 : IntKind.i64.wrap (((e1 + 1 : Nat) : Int) - 1) = (e1 : Int) := wrap_i64 (by omega) (by omega) |>.trans (by omega)
  obtain ⟨R, hR⟩ : ∃ R, R = Go.Sort.partition lt d a (e1 + 1) p := ⟨_, rfl⟩
  rw [← hR]
  have hR' := hR
  unfold Go.Sort.partition at hR'
  have hDs := swp_size d a p
  refine zd ?_; refine zb (id := 0) ?_; refine Zs3 ?_; refine Zs3 ?_; refine ze ?_; refine zg ?_; refine zd ?_; refine zy (id := 1) [(200019, [900]), (200023, [900]), (100024, [900]), (100025, [900])] mixed (by kernel_rfl) ?_; refine Zs7 ?_; refine Zs7 ?_; refine Zs7 ?_; refine Zs7 ?_; refine Zs7 ?_; refine Zs7 ?_; refine z8 (zn L _ rfl rfl rfl rfl rfl rfl rfl (by omega)) rfl ?_; refine zx (zq L (q := 900) rfl rfl rfl rfl rfl qj) rfl rfl ?_; refine Zs7 ?_; refine Zs7 ?_; refine z8 (zn L _ rfl rfl rfl rfl rfl rfl rfl (by omega)) rfl ?_; refine zx (zq L (q := 900) rfl rfl rfl rfl rfl qi) rfl rfl ?_; refine z8 (zn L _ rfl rfl rfl rfl rfl rfl rfl (by omega)) rfl ?_; refine y1 (qv L (q := 900) rfl rfl rfl rfl rfl rfl b1 rfl s1) rfl ?_; refine z8 (zn L _ rfl rfl rfl rfl rfl rfl rfl (by omega)) rfl ?_; refine y1 (qv L (q := 900) rfl rfl rfl rfl rfl rfl b2 rfl s2) rfl ?_; refine qb ?_; refine zg ?_; refine zd ?_; refine zb (id := 2) ?_; refine Zs1 ?_; refine Zs17 ?_; refine Zs1 ?_; refine Zs19 ?_; refine Zs3 ?_; refine Zs3 ?_; refine ze ?_; refine zg ?_; refine zd ?_; refine q0 ?_
  generalize swp d a p = D at *
  rw [Nat.add_sub_cancel] at hR'
  dsimp only at hR'
  refine V_midB (mid_last (fun i : Nat => [(0, .is (.slice (some ⟨b, 0, none⟩) m cap)), (1, .is (.int .i64 a)), (10, .is (.int .i64 i)), (11, .is (.int .i64 e1)), (900, .own (HeldR b (uC D ++ rest) tyU))]) (fun i => (a + 1) ≤ i ∧ i ≤ max (a + 1) (e1 + 1) ∧ i = scanUp (fun x => lt x D[a]!) D e1 (a + 1)) (fun _ => []) ?_) ?_
  rotate_left
  · refine V_loop (fun i : Nat => [(0, .is (.slice (some ⟨b, 0, none⟩) m cap)), (1, .is (.int .i64 a)), (10, .is (.int .i64 i)), (11, .is (.int .i64 e1)), (900, .own (HeldR b (uC D ++ rest) tyU))]) (fun i => (a + 1) ≤ i ∧ i ≤ max (a + 1) (e1 + 1) ∧ scanUp (fun x => lt x D[a]!) D e1 i = scanUp (fun x => lt x D[a]!) D e1 (a + 1)) (fun i => e1 + 1 - i) (a + 1) ⟨Nat.le_refl _, by omega, rfl⟩ ⟨rfl, rfl, rfl, rfl, rfl, trivial⟩ ?_
    rintro i ⟨hi1, hi2, hi3⟩
    by_cases hle : i ≤ e1
    · obtain ⟨_, qx⟩ := u_at (rest := rest) (show i < D.size by omega) (0 + (i) * 1) rfl
      obtain ⟨_, qa⟩ := u_at (rest := rest) (show a < D.size by omega) (0 + (a) * 1) rfl
      cases hc : lt D[i]! D[a]! with
      | true =>
        have hw : IntKind.i64.wrap ((i : Int) + 1) = ((i + 1 : Nat) : Int) := wrap_i64 (by omega) (by omega)
        refine zd ?_; refine zd ?_; refine zy (id := 3) [(200037, [900]), (200041, [900])] mixed (by kernel_rfl) ?_; refine Zs7 ?_; refine Zs7 ?_; refine Zs46 ?_; refine Zs7 ?_; refine Zs7 ?_; refine Zs7 ?_; refine z8 (zn L _ rfl rfl rfl rfl rfl rfl rfl (by omega)) rfl ?_; refine zx (zq L (q := 900) rfl rfl rfl rfl rfl qx) rfl rfl ?_; refine Zs7 ?_; refine Zs7 ?_; refine z8 (zn L _ rfl rfl rfl rfl rfl rfl rfl (by omega)) rfl ?_; refine zx (zq L (q := 900) rfl rfl rfl rfl rfl qa) rfl rfl ?_; refine z8 (zp L rfl rfl (zf rfl) rfl rfl rfl (fun u H hH _ _ => lessU' hc hH)) rfl ?_; refine Zs33 ?_; refine qb ?_; refine zg ?_; refine zu rfl ?_; refine zt ?_; refine zg ?_; refine q0 ?_; refine zb (id := 4) ?_; refine Zs1 ?_; refine Zs17 ?_; refine Zs3 ?_; refine ze ?_; refine qo ?_
        exact qy (x := i) (i + 1) ⟨by omega, by omega, by rw [← hi3]; exact (scanUp_go hle (by simp [hc])).symm⟩ (by omega) ⟨rfl, rfl, rfl, rfl, rfl, trivial⟩
      | false =>
        refine zd ?_; refine zd ?_; refine zy (id := 3) [(200037, [900]), (200041, [900])] mixed (by kernel_rfl) ?_; refine Zs7 ?_; refine Zs7 ?_; refine Zs46 ?_; refine Zs7 ?_; refine Zs7 ?_; refine Zs7 ?_; refine z8 (zn L _ rfl rfl rfl rfl rfl rfl rfl (by omega)) rfl ?_; refine zx (zq L (q := 900) rfl rfl rfl rfl rfl qx) rfl rfl ?_; refine Zs7 ?_; refine Zs7 ?_; refine z8 (zn L _ rfl rfl rfl rfl rfl rfl rfl (by omega)) rfl ?_; refine zx (zq L (q := 900) rfl rfl rfl rfl rfl qa) rfl rfl ?_; refine z8 (zp L rfl rfl (zf rfl) rfl rfl rfl (fun u H hH _ _ => lessU' hc hH)) rfl ?_; refine Zs33 ?_; refine qb ?_; refine zg ?_; refine zm rfl ?_; refine y5 ?_; refine qf ?_; refine qf ?_; refine y4 ?_
        exact N_mids i Since.refl ⟨hi1, hi2, by rw [← hi3]; exact (scanUp_stop (by rintro ⟨_, h⟩; simp [hc] at h)).symm⟩ rfl ⟨rfl, rfl, rfl, rfl, rfl, trivial⟩
    · refine zd ?_; refine zd ?_; refine zy (id := 3) [] mixed (by kernel_rfl) ?_; refine Zs7 ?_; refine Zs7 ?_; refine Zs62 ?_; refine Zs7 ?_; refine Zs9 ?_; refine Zs9 ?_; refine Zs9 ?_; refine Zs9 ?_; refine Zs9 ?_; refine Zs9 ?_; refine Zs9 ?_; refine Zs9 ?_; refine Zs9 ?_; refine Zs33 ?_; refine qb ?_; refine zg ?_; refine zm rfl ?_; refine y5 ?_; refine qf ?_; refine qf ?_; refine y4 ?_
      exact N_mids i Since.refl ⟨hi1, hi2, by rw [← hi3]; exact (scanUp_stop (by rintro ⟨h, _⟩; exact hle h)).symm⟩ rfl ⟨rfl, rfl, rfl, rfl, rfl, trivial⟩
  rintro I ⟨hI1, hI2, hI3⟩
  refine zd (q0 ?_)
  refine V_midB (mid_last (fun i : Nat => [(0, .is (.slice (some ⟨b, 0, none⟩) m cap)), (1, .is (.int .i64 a)), (10, .is (.int .i64 I)), (11, .is (.int .i64 i)), (900, .own (HeldR b (uC D ++ rest) tyU))]) (fun i => i ≤ e1 ∧ min (I - 1) e1 ≤ i ∧ i = scanDown (fun x => !lt x D[a]!) D I e1) (fun _ => []) ?_) ?_
  rotate_left
  · refine V_loop (fun i : Nat => [(0, .is (.slice (some ⟨b, 0, none⟩) m cap)), (1, .is (.int .i64 a)), (10, .is (.int .i64 I)), (11, .is (.int .i64 i)), (900, .own (HeldR b (uC D ++ rest) tyU))]) (fun i => i ≤ e1 ∧ min (I - 1) e1 ≤ i ∧ scanDown (fun x => !lt x D[a]!) D I i = scanDown (fun x => !lt x D[a]!) D I e1) (fun i => i) e1 ⟨Nat.le_refl _, by omega, rfl⟩ ⟨rfl, rfl, rfl, rfl, rfl, trivial⟩ ?_
    rintro i ⟨hi1, hi2, hi3⟩
    by_cases hle : I ≤ i
    · obtain ⟨_, qx⟩ := u_at (rest := rest) (show i < D.size by omega) (0 + (i) * 1) rfl
      obtain ⟨_, qa⟩ := u_at (rest := rest) (show a < D.size by omega) (0 + (a) * 1) rfl
      cases hc : lt D[i]! D[a]! with
      | false =>
        obtain ⟨i, rfl⟩ : ∃ k, i = k + 1 := ⟨i - 1, by omega⟩
        have hw : IntKind.i64.wrap (((i + 1 : Nat) : Int) - 1) = (i : Int) := wrap_i64 (by omega) (by omega) |>.trans (by omega)
        refine zd ?_; refine zd ?_; refine zy (id := 5) [(200053, [900]), (200057, [900])] mixed (by kernel_rfl) ?_; refine Zs7 ?_; refine Zs7 ?_; refine Zs46 ?_; refine Zs7 ?_; refine Zs7 ?_; refine Zs7 ?_; refine z8 (zn L _ rfl rfl rfl rfl rfl rfl rfl (by omega)) rfl ?_; refine zx (zq L (q := 900) rfl rfl rfl rfl rfl qx) rfl rfl ?_; refine Zs7 ?_; refine Zs7 ?_; refine z8 (zn L _ rfl rfl rfl rfl rfl rfl rfl (by omega)) rfl ?_; refine zx (zq L (q := 900) rfl rfl rfl rfl rfl qa) rfl rfl ?_; refine z8 (zp L rfl rfl (zf rfl) rfl rfl rfl (fun u H hH _ _ => lessU' hc hH)) rfl ?_; refine Zs52 ?_; refine Zs33 ?_; refine qb ?_; refine zg ?_; refine zu rfl ?_; refine zt ?_; refine zg ?_; refine q0 ?_; refine zb (id := 6) ?_; refine Zs1 ?_; refine Zs19 ?_; refine Zs3 ?_; refine ze ?_; refine qo ?_
        exact qy (x := i + 1) i ⟨by omega, by omega, by rw [← hi3]; exact (scanDown_go hle (by simp [hc])).symm⟩ (by omega) ⟨rfl, rfl, rfl, rfl, rfl, trivial⟩
      | true =>
        refine zd ?_; refine zd ?_; refine zy (id := 5) [(200053, [900]), (200057, [900])] mixed (by kernel_rfl) ?_; refine Zs7 ?_; refine Zs7 ?_; refine Zs46 ?_; refine Zs7 ?_; refine Zs7 ?_; refine Zs7 ?_; refine z8 (zn L _ rfl rfl rfl rfl rfl rfl rfl (by omega)) rfl ?_; refine zx (zq L (q := 900) rfl rfl rfl rfl rfl qx) rfl rfl ?_; refine Zs7 ?_; refine Zs7 ?_; refine z8 (zn L _ rfl rfl rfl rfl rfl rfl rfl (by omega)) rfl ?_; refine zx (zq L (q := 900) rfl rfl rfl rfl rfl qa) rfl rfl ?_; refine z8 (zp L rfl rfl (zf rfl) rfl rfl rfl (fun u H hH _ _ => lessU' hc hH)) rfl ?_; refine Zs52 ?_; refine Zs33 ?_; refine qb ?_; refine zg ?_; refine zm rfl ?_; refine y5 ?_; refine qf ?_; refine qf ?_; refine y4 ?_
        exact N_mids i Since.refl ⟨hi1, hi2, by rw [← hi3]; exact (scanDown_stop (by rintro ⟨_, h⟩; simp [hc] at h)).symm⟩ rfl ⟨rfl, rfl, rfl, rfl, rfl, trivial⟩
    · refine zd ?_; refine zd ?_; refine zy (id := 5) [] mixed (by kernel_rfl) ?_; refine Zs7 ?_; refine Zs7 ?_; refine Zs62 ?_; refine Zs7 ?_; refine Zs9 ?_; refine Zs9 ?_; refine Zs9 ?_; refine Zs9 ?_; refine Zs9 ?_; refine Zs9 ?_; refine Zs9 ?_; refine Zs9 ?_; refine Zs9 ?_; refine Zs9 ?_; refine Zs33 ?_; refine qb ?_; refine zg ?_; refine zm rfl ?_; refine y5 ?_; refine qf ?_; refine qf ?_; refine y4 ?_
      exact N_mids i Since.refl ⟨hi1, hi2, by rw [← hi3]; exact (scanDown_stop (by rintro ⟨h, _⟩; exact hle h)).symm⟩ rfl ⟨rfl, rfl, rfl, rfl, rfl, trivial⟩
  rintro J ⟨hJ1, hJ2, hJ3⟩
  rw [← hI3, ← hJ3] at hR'
  by_cases hIJ : J < I
  · rw [if_pos hIJ] at hR'
    subst hR'
    obtain ⟨_, qj⟩ := u_at (rest := rest) (show a < D.size by omega) (0 + (a) * 1) rfl
    obtain ⟨_, qi⟩ := u_at (rest := rest) (show J < D.size by omega) (0 + (J) * 1) rfl
    have s1 := u_set (rest := rest) D[a]! (show J < D.size by omega) (0 + (J) * 1) rfl
    have b1 := u_ble (rest := rest) (show J < D.size by omega) (0 + (J) * 1) rfl
    have hz : a < (D.setIfInBounds (J) D[a]!).size := by rw [Array.size_setIfInBounds]; omega
    have s2 := u_set (rest := rest) D[J]! hz (0 + (a) * 1) rfl
    have b2 := u_ble (rest := rest) hz (0 + (a) * 1) rfl
    rw [swp_eq] at s2
    refine zd ?_; refine zd ?_; refine zb (id := 7) ?_; refine Zs1 ?_; refine Zs1 ?_; refine Zs21 ?_; refine ze ?_; refine zg ?_; refine zu rfl ?_; refine zd ?_; refine zy (id := 8) [(200073, [900]), (200077, [900]), (100078, [900]), (100079, [900])] mixed (by kernel_rfl) ?_; refine Zs7 ?_; refine Zs7 ?_; refine Zs7 ?_; refine Zs7 ?_; refine Zs7 ?_; refine Zs7 ?_; refine z8 (zn L _ rfl rfl rfl rfl rfl rfl rfl (by omega)) rfl ?_; refine zx (zq L (q := 900) rfl rfl rfl rfl rfl qj) rfl rfl ?_; refine Zs7 ?_; refine Zs7 ?_; refine z8 (zn L _ rfl rfl rfl rfl rfl rfl rfl (by omega)) rfl ?_; refine zx (zq L (q := 900) rfl rfl rfl rfl rfl qi) rfl rfl ?_; refine z8 (zn L _ rfl rfl rfl rfl rfl rfl rfl (by omega)) rfl ?_; refine y1 (qv L (q := 900) rfl rfl rfl rfl rfl rfl b1 rfl s1) rfl ?_; refine z8 (zn L _ rfl rfl rfl rfl rfl rfl rfl (by omega)) rfl ?_; refine y1 (qv L (q := 900) rfl rfl rfl rfl rfl rfl b2 rfl s2) rfl ?_; refine qb ?_; refine zg ?_; refine zd ?_; refine zb (id := 9) ?_; refine Zs1 ?_; refine Zs3 ?_; refine Zs3 ?_; refine ze ?_; refine zg ?_
    exact V_retX L 900 (r := GHeld b _ tyU) (rs := [.tmp 8, .tmp 9]) rfl (fun _ _ h => h) Since.refl rfl rfl (fun _ => rfl)
  · rw [if_neg hIJ] at hR'
    have hw3 : IntKind.i64.wrap ((I : Int) + 1) = ((I + 1 : Nat) : Int) := wrap_i64 (by omega) (by omega)
    have hw4 : IntKind.i64.wrap ((J : Int) - 1) = ((J - 1 : Nat) : Int) := wrap_i64 (by omega) (by omega) |>.trans (by omega)
    obtain ⟨_, qj⟩ := u_at (rest := rest) (show J < D.size by omega) (0 + (J) * 1) rfl
    obtain ⟨_, qi⟩ := u_at (rest := rest) (show I < D.size by omega) (0 + (I) * 1) rfl
    have s1 := u_set (rest := rest) D[J]! (show I < D.size by omega) (0 + (I) * 1) rfl
    have b1 := u_ble (rest := rest) (show I < D.size by omega) (0 + (I) * 1) rfl
    have hz : J < (D.setIfInBounds (I) D[J]!).size := by rw [Array.size_setIfInBounds]; omega
    have s2 := u_set (rest := rest) D[I]! hz (0 + (J) * 1) rfl
    have b2 := u_ble (rest := rest) hz (0 + (J) * 1) rfl
    rw [swp_eq] at s2
    have hEs := swp_size D I J
    refine zd ?_; refine zd ?_; refine zb (id := 7) ?_; refine Zs1 ?_; refine Zs1 ?_; refine Zs12 ?_; refine ze ?_; refine zg ?_; refine zm rfl ?_; refine zt ?_; refine zg ?_; refine zd ?_; refine zy (id := 10) [(200088, [900]), (200092, [900]), (100093, [900]), (100094, [900])] mixed (by kernel_rfl) ?_; refine Zs7 ?_; refine Zs7 ?_; refine Zs7 ?_; refine Zs7 ?_; refine Zs7 ?_; refine Zs7 ?_; refine z8 (zn L _ rfl rfl rfl rfl rfl rfl rfl (by omega)) rfl ?_; refine zx (zq L (q := 900) rfl rfl rfl rfl rfl qj) rfl rfl ?_; refine Zs7 ?_; refine Zs7 ?_; refine z8 (zn L _ rfl rfl rfl rfl rfl rfl rfl (by omega)) rfl ?_; refine zx (zq L (q := 900) rfl rfl rfl rfl rfl qi) rfl rfl ?_; refine z8 (zn L _ rfl rfl rfl rfl rfl rfl rfl (by omega)) rfl ?_; refine y1 (qv L (q := 900) rfl rfl rfl rfl rfl rfl b1 rfl s1) rfl ?_; refine z8 (zn L _ rfl rfl rfl rfl rfl rfl rfl (by omega)) rfl ?_; refine y1 (qv L (q := 900) rfl rfl rfl rfl rfl rfl b2 rfl s2) rfl ?_; refine qb ?_; refine zg ?_; refine zd ?_; refine zb (id := 11) ?_; refine Zs1 ?_; refine Zs17 ?_; refine Zs3 ?_; refine ze ?_; refine zg ?_; refine zd ?_; refine zb (id := 12) ?_; refine Zs1 ?_; refine Zs19 ?_; refine Zs3 ?_; refine ze ?_; refine zg ?_; refine zd ?_; refine q0 ?_
    generalize swp D I J = E at *
    obtain ⟨X, hX⟩ : ∃ X, X = partLoop lt a (I + 1) (J - 1) E := ⟨_, rfl⟩
    rw [← hX] at hR'
    refine V_midB (mid_last (fun s : Nat × Array Int => [(0, .is (.slice (some ⟨b, 0, none⟩) m cap)), (1, .is (.int .i64 a)), (11, .is (.int .i64 s.1)), (900, .own (HeldR b (uC s.2 ++ rest) tyU))]) (fun s => s.2.size = m ∧ a ≤ s.1 ∧ s.1 ≤ e1 ∧ s = X) (fun _ => []) ?_) ?_
    rotate_left
    · refine V_loop (fun s : (Nat × Nat) × Array Int => [(0, .is (.slice (some ⟨b, 0, none⟩) m cap)), (1, .is (.int .i64 a)), (10, .is (.int .i64 s.1.1)), (11, .is (.int .i64 s.1.2)), (900, .own (HeldR b (uC s.2 ++ rest) tyU))]) (fun s => s.2.size = m ∧ a + 1 ≤ s.1.1 ∧ s.1.1 ≤ e1 + 1 ∧ a ≤ s.1.2 ∧ s.1.2 ≤ e1 ∧ partLoop lt a s.1.1 s.1.2 s.2 = X) (fun s => s.1.2 + 1 - s.1.1) ((I + 1, J - 1), E) ⟨by dsimp only; omega, by dsimp only; omega, by dsimp only; omega, by dsimp only; omega, by dsimp only; omega, hX.symm⟩ ⟨rfl, rfl, rfl, rfl, rfl, trivial⟩ ?_
      rintro ⟨⟨i0, j0⟩, G⟩ ⟨hG, hi1, hi2, hj1, hj2, hL⟩
      dsimp only at hG hi1 hi2 hj1 hj2 hL ⊢
      rw [partLoop] at hL
      clear hX hR' hEs hIJ hI3 hJ3
      refine q0 (zd (q0 ?_))
      refine V_midB (mid_last (fun i : Nat => [(0, .is (.slice (some ⟨b, 0, none⟩) m cap)), (1, .is (.int .i64 a)), (10, .is (.int .i64 i)), (11, .is (.int .i64 j0)), (900, .own (HeldR b (uC G ++ rest) tyU))]) (fun i => i0 ≤ i ∧ i ≤ max i0 (j0 + 1) ∧ i = scanUp (fun x => lt x G[a]!) G j0 i0) (fun _ => []) ?_) ?_
      rotate_left
      · refine V_loop (fun i : Nat => [(0, .is (.slice (some ⟨b, 0, none⟩) m cap)), (1, .is (.int .i64 a)), (10, .is (.int .i64 i)), (11, .is (.int .i64 j0)), (900, .own (HeldR b (uC G ++ rest) tyU))]) (fun i => i0 ≤ i ∧ i ≤ max i0 (j0 + 1) ∧ scanUp (fun x => lt x G[a]!) G j0 i = scanUp (fun x => lt x G[a]!) G j0 i0) (fun i => j0 + 1 - i) i0 ⟨Nat.le_refl _, by omega, rfl⟩ ⟨rfl, rfl, rfl, rfl, rfl, trivial⟩ ?_
        rintro i ⟨hi1, hi2, hi3⟩
        by_cases hle : i ≤ j0
        · obtain ⟨_, qx⟩ := u_at (rest := rest) (show i < G.size by omega) (0 + (i) * 1) rfl
          obtain ⟨_, qa⟩ := u_at (rest := rest) (show a < G.size by omega) (0 + (a) * 1) rfl
          cases hc : lt G[i]! G[a]! with
          | true =>
            have hw : IntKind.i64.wrap ((i : Int) + 1) = ((i + 1 : Nat) : Int) := wrap_i64 (by omega) (by omega)
            refine zd ?_; refine zd ?_; refine zy (id := 13) [(200106, [900]), (200110, [900])] mixed (by kernel_rfl) ?_; refine Zs7 ?_; refine Zs7 ?_; refine Zs46 ?_; refine Zs7 ?_; refine Zs7 ?_; refine Zs7 ?_; refine z8 (zn L _ rfl rfl rfl rfl rfl rfl rfl (by omega)) rfl ?_; refine zx (zq L (q := 900) rfl rfl rfl rfl rfl qx) rfl rfl ?_; refine Zs7 ?_; refine Zs7 ?_; refine z8 (zn L _ rfl rfl rfl rfl rfl rfl rfl (by omega)) rfl ?_; refine zx (zq L (q := 900) rfl rfl rfl rfl rfl qa) rfl rfl ?_; refine z8 (zp L rfl rfl (zf rfl) rfl rfl rfl (fun u H hH _ _ => lessU' hc hH)) rfl ?_; refine Zs33 ?_; refine qb ?_; refine zg ?_; refine zu rfl ?_; refine zt ?_; refine zg ?_; refine q0 ?_; refine zb (id := 14) ?_; refine Zs1 ?_; refine Zs17 ?_; refine Zs3 ?_; refine ze ?_; refine qo ?_
            exact qy (x := i) (i + 1) ⟨by omega, by omega, by rw [← hi3]; exact (scanUp_go hle (by simp [hc])).symm⟩ (by omega) ⟨rfl, rfl, rfl, rfl, rfl, trivial⟩
          | false =>
            refine zd ?_; refine zd ?_; refine zy (id := 13) [(200106, [900]), (200110, [900])] mixed (by kernel_rfl) ?_; refine Zs7 ?_; refine Zs7 ?_; refine Zs46 ?_; refine Zs7 ?_; refine Zs7 ?_; refine Zs7 ?_; refine z8 (zn L _ rfl rfl rfl rfl rfl rfl rfl (by omega)) rfl ?_; refine zx (zq L (q := 900) rfl rfl rfl rfl rfl qx) rfl rfl ?_; refine Zs7 ?_; refine Zs7 ?_; refine z8 (zn L _ rfl rfl rfl rfl rfl rfl rfl (by omega)) rfl ?_; refine zx (zq L (q := 900) rfl rfl rfl rfl rfl qa) rfl rfl ?_; refine z8 (zp L rfl rfl (zf rfl) rfl rfl rfl (fun u H hH _ _ => lessU' hc hH)) rfl ?_; refine Zs33 ?_; refine qb ?_; refine zg ?_; refine zm rfl ?_; refine y5 ?_; refine qf ?_; refine qf ?_; refine y4 ?_
            exact N_mids i Since.refl ⟨hi1, hi2, by rw [← hi3]; exact (scanUp_stop (by rintro ⟨_, h⟩; simp [hc] at h)).symm⟩ rfl ⟨rfl, rfl, rfl, rfl, rfl, trivial⟩
        · refine zd ?_; refine zd ?_; refine zy (id := 13) [] mixed (by kernel_rfl) ?_; refine Zs7 ?_; refine Zs7 ?_; refine Zs62 ?_; refine Zs7 ?_; refine Zs9 ?_; refine Zs9 ?_; refine Zs9 ?_; refine Zs9 ?_; refine Zs9 ?_; refine Zs9 ?_; refine Zs9 ?_; refine Zs9 ?_; refine Zs9 ?_; refine Zs33 ?_; refine qb ?_; refine zg ?_; refine zm rfl ?_; refine y5 ?_; refine qf ?_; refine qf ?_; refine y4 ?_
          exact N_mids i Since.refl ⟨hi1, hi2, by rw [← hi3]; exact (scanUp_stop (by rintro ⟨h, _⟩; exact hle h)).symm⟩ rfl ⟨rfl, rfl, rfl, rfl, rfl, trivial⟩
      rintro K ⟨hK1, hK2, hK3⟩
      refine zd (q0 ?_)
      refine V_midB (mid_last (fun i : Nat => [(0, .is (.slice (some ⟨b, 0, none⟩) m cap)), (1, .is (.int .i64 a)), (10, .is (.int .i64 K)), (11, .is (.int .i64 i)), (900, .own (HeldR b (uC G ++ rest) tyU))]) (fun i => i ≤ j0 ∧ min (K - 1) j0 ≤ i ∧ i = scanDown (fun x => !lt x G[a]!) G K j0) (fun _ => []) ?_) ?_
      rotate_left
      · refine V_loop (fun i : Nat => [(0, .is (.slice (some ⟨b, 0, none⟩) m cap)), (1, .is (.int .i64 a)), (10, .is (.int .i64 K)), (11, .is (.int .i64 i)), (900, .own (HeldR b (uC G ++ rest) tyU))]) (fun i => i ≤ j0 ∧ min (K - 1) j0 ≤ i ∧ scanDown (fun x => !lt x G[a]!) G K i = scanDown (fun x => !lt x G[a]!) G K j0) (fun i => i) j0 ⟨Nat.le_refl _, by omega, rfl⟩ ⟨rfl, rfl, rfl, rfl, rfl, trivial⟩ ?_
        rintro i ⟨hi1, hi2, hi3⟩
        by_cases hle : K ≤ i
        · obtain ⟨_, qx⟩ := u_at (rest := rest) (show i < G.size by omega) (0 + (i) * 1) rfl
          obtain ⟨_, qa⟩ := u_at (rest := rest) (show a < G.size by omega) (0 + (a) * 1) rfl
          cases hc : lt G[i]! G[a]! with
          | false =>
            obtain ⟨i, rfl⟩ : ∃ k, i = k + 1 := ⟨i - 1, by omega⟩
            have hw : IntKind.i64.wrap (((i + 1 : Nat) : Int) - 1) = (i : Int) := wrap_i64 (by omega) (by omega) |>.trans (by omega)
            refine zd ?_; refine zd ?_; refine zy (id := 15) [(200122, [900]), (200126, [900])] mixed (by kernel_rfl) ?_; refine Zs7 ?_; refine Zs7 ?_; refine Zs46 ?_; refine Zs7 ?_; refine Zs7 ?_; refine Zs7 ?_; refine z8 (zn L _ rfl rfl rfl rfl rfl rfl rfl (by omega)) rfl ?_; refine zx (zq L (q := 900) rfl rfl rfl rfl rfl qx) rfl rfl ?_; refine Zs7 ?_; refine Zs7 ?_; refine z8 (zn L _ rfl rfl rfl rfl rfl rfl rfl (by omega)) rfl ?_; refine zx (zq L (q := 900) rfl rfl rfl rfl rfl qa) rfl rfl ?_; refine z8 (zp L rfl rfl (zf rfl) rfl rfl rfl (fun u H hH _ _ => lessU' hc hH)) rfl ?_; refine Zs52 ?_; refine Zs33 ?_; refine qb ?_; refine zg ?_; refine zu rfl ?_; refine zt ?_; refine zg ?_; refine q0 ?_; refine zb (id := 16) ?_; refine Zs1 ?_; refine Zs19 ?_; refine Zs3 ?_; refine ze ?_; refine qo ?_
            exact qy (x := i + 1) i ⟨by omega, by omega, by rw [← hi3]; exact (scanDown_go hle (by simp [hc])).symm⟩ (by omega) ⟨rfl, rfl, rfl, rfl, rfl, trivial⟩
          | true =>
            refine zd ?_; refine zd ?_; refine zy (id := 15) [(200122, [900]), (200126, [900])] mixed (by kernel_rfl) ?_; refine Zs7 ?_; refine Zs7 ?_; refine Zs46 ?_; refine Zs7 ?_; refine Zs7 ?_; refine Zs7 ?_; refine z8 (zn L _ rfl rfl rfl rfl rfl rfl rfl (by omega)) rfl ?_; refine zx (zq L (q := 900) rfl rfl rfl rfl rfl qx) rfl rfl ?_; refine Zs7 ?_; refine Zs7 ?_; refine z8 (zn L _ rfl rfl rfl rfl rfl rfl rfl (by omega)) rfl ?_; refine zx (zq L (q := 900) rfl rfl rfl rfl rfl qa) rfl rfl ?_; refine z8 (zp L rfl rfl (zf rfl) rfl rfl rfl (fun u H hH _ _ => lessU' hc hH)) rfl ?_; refine Zs52 ?_; refine Zs33 ?_; refine qb ?_; refine zg ?_; refine zm rfl ?_; refine y5 ?_; refine qf ?_; refine qf ?_; refine y4 ?_
            exact N_mids i Since.refl ⟨hi1, hi2, by rw [← hi3]; exact (scanDown_stop (by rintro ⟨_, h⟩; simp [hc] at h)).symm⟩ rfl ⟨rfl, rfl, rfl, rfl, rfl, trivial⟩
        · refine zd ?_; refine zd ?_; refine zy (id := 15) [] mixed (by kernel_rfl) ?_; refine Zs7 ?_; refine Zs7 ?_; refine Zs62 ?_; refine Zs7 ?_; refine Zs9 ?_; refine Zs9 ?_; refine Zs9 ?_; refine Zs9 ?_; refine Zs9 ?_; refine Zs9 ?_; refine Zs9 ?_; refine Zs9 ?_; refine Zs9 ?_; refine Zs9 ?_; refine Zs33 ?_; refine qb ?_; refine zg ?_; refine zm rfl ?_; refine y5 ?_; refine qf ?_; refine qf ?_; refine y4 ?_
          exact N_mids i Since.refl ⟨hi1, hi2, by rw [← hi3]; exact (scanDown_stop (by rintro ⟨h, _⟩; exact hle h)).symm⟩ rfl ⟨rfl, rfl, rfl, rfl, rfl, trivial⟩
      rintro M ⟨hM1, hM2, hM3⟩
      rw [← hK3, ← hM3] at hL
      by_cases hKM : M < K
      · rw [if_pos hKM] at hL
        refine zd ?_; refine zd ?_; refine zb (id := 17) ?_; refine Zs1 ?_; refine Zs1 ?_; refine Zs21 ?_; refine ze ?_; refine zg ?_; refine zu rfl ?_; refine y5 ?_; refine qf ?_; refine X_there rfl ?_; refine qf ?_; refine y4 ?_
        exact N_mids (M, G) Since.refl ⟨hG, by dsimp only; omega, by dsimp only; omega, hL⟩ rfl ⟨rfl, rfl, rfl, rfl, trivial⟩
      · rw [if_neg hKM, dif_pos (by omega)] at hL
        have hw5 : IntKind.i64.wrap ((K : Int) + 1) = ((K + 1 : Nat) : Int) := wrap_i64 (by omega) (by omega)
        have hw6 : IntKind.i64.wrap ((M : Int) - 1) = ((M - 1 : Nat) : Int) := wrap_i64 (by omega) (by omega) |>.trans (by omega)
        have hGs := swp_size G K M
        obtain ⟨_, qj⟩ := u_at (rest := rest) (show M < G.size by omega) (0 + (M) * 1) rfl
        obtain ⟨_, qi⟩ := u_at (rest := rest) (show K < G.size by omega) (0 + (K) * 1) rfl
        have s1 := u_set (rest := rest) G[M]! (show K < G.size by omega) (0 + (K) * 1) rfl
        have b1 := u_ble (rest := rest) (show K < G.size by omega) (0 + (K) * 1) rfl
        have hz : M < (G.setIfInBounds (K) G[M]!).size := by rw [Array.size_setIfInBounds]; omega
        have s2 := u_set (rest := rest) G[K]! hz (0 + (M) * 1) rfl
        have b2 := u_ble (rest := rest) hz (0 + (M) * 1) rfl
        rw [swp_eq] at s2
        refine zd ?_; refine zd ?_; refine zb (id := 17) ?_; refine Zs1 ?_; refine Zs1 ?_; refine Zs12 ?_; refine ze ?_; refine zg ?_; refine zm rfl ?_; refine zt ?_; refine zg ?_; refine zd ?_; refine zy (id := 18) [(200142, [900]), (200146, [900]), (100147, [900]), (100148, [900])] mixed (by kernel_rfl) ?_; refine Zs7 ?_; refine Zs7 ?_; refine Zs7 ?_; refine Zs7 ?_; refine Zs7 ?_; refine Zs7 ?_; refine z8 (zn L _ rfl rfl rfl rfl rfl rfl rfl (by omega)) rfl ?_; refine zx (zq L (q := 900) rfl rfl rfl rfl rfl qj) rfl rfl ?_; refine Zs7 ?_; refine Zs7 ?_; refine z8 (zn L _ rfl rfl rfl rfl rfl rfl rfl (by omega)) rfl ?_; refine zx (zq L (q := 900) rfl rfl rfl rfl rfl qi) rfl rfl ?_; refine z8 (zn L _ rfl rfl rfl rfl rfl rfl rfl (by omega)) rfl ?_; refine y1 (qv L (q := 900) rfl rfl rfl rfl rfl rfl b1 rfl s1) rfl ?_; refine z8 (zn L _ rfl rfl rfl rfl rfl rfl rfl (by omega)) rfl ?_; refine y1 (qv L (q := 900) rfl rfl rfl rfl rfl rfl b2 rfl s2) rfl ?_; refine qb ?_; refine zg ?_; refine zd ?_; refine zb (id := 19) ?_; refine Zs1 ?_; refine Zs17 ?_; refine Zs3 ?_; refine ze ?_; refine zg ?_; refine zb (id := 20) ?_; refine Zs1 ?_; refine Zs19 ?_; refine Zs3 ?_; refine ze ?_; refine qo ?_
        exact qy (x := ((i0, j0), G)) ((K + 1, M - 1), swp G K M) ⟨by dsimp only; omega, by dsimp only; omega, by dsimp only; omega, by dsimp only; omega, by dsimp only; omega, hL⟩ (by dsimp only; omega) ⟨rfl, rfl, rfl, rfl, rfl, trivial⟩
    · rintro ⟨J2, G⟩ ⟨hG, hj1, hj2, hL⟩
      dsimp only at hG hj1 hj2 ⊢
      rw [← hL] at hR'
      dsimp only at hR'
      subst hR'
      obtain ⟨_, qj⟩ := u_at (rest := rest) (show a < G.size by omega) (0 + (a) * 1) rfl
      obtain ⟨_, qi⟩ := u_at (rest := rest) (show J2 < G.size by omega) (0 + (J2) * 1) rfl
      have s1 := u_set (rest := rest) G[a]! (show J2 < G.size by omega) (0 + (J2) * 1) rfl
      have b1 := u_ble (rest := rest) (show J2 < G.size by omega) (0 + (J2) * 1) rfl
      have hz : a < (G.setIfInBounds (J2) G[a]!).size := by rw [Array.size_setIfInBounds]; omega
      have s2 := u_set (rest := rest) G[J2]! hz (0 + (a) * 1) rfl
      have b2 := u_ble (rest := rest) hz (0 + (a) * 1) rfl
      rw [swp_eq] at s2
      refine zd ?_; refine zy (id := 21) [(200160, [900]), (200164, [900]), (100165, [900]), (100166, [900])] mixed (by kernel_rfl) ?_; refine Zs7 ?_; refine Zs7 ?_; refine Zs7 ?_; refine Zs7 ?_; refine Zs7 ?_; refine Zs7 ?_; refine z8 (zn L _ rfl rfl rfl rfl rfl rfl rfl (by omega)) rfl ?_; refine zx (zq L (q := 900) rfl rfl rfl rfl rfl qj) rfl rfl ?_; refine Zs7 ?_; refine Zs7 ?_; refine z8 (zn L _ rfl rfl rfl rfl rfl rfl rfl (by omega)) rfl ?_; refine zx (zq L (q := 900) rfl rfl rfl rfl rfl qi) rfl rfl ?_; refine z8 (zn L _ rfl rfl rfl rfl rfl rfl rfl (by omega)) rfl ?_; refine y1 (qv L (q := 900) rfl rfl rfl rfl rfl rfl b1 rfl s1) rfl ?_; refine z8 (zn L _ rfl rfl rfl rfl rfl rfl rfl (by omega)) rfl ?_; refine y1 (qv L (q := 900) rfl rfl rfl rfl rfl rfl b2 rfl s2) rfl ?_; refine qb ?_; refine zg ?_; refine zd ?_; refine zb (id := 22) ?_; refine Zs1 ?_; refine Zs3 ?_; refine Zs3 ?_; refine ze ?_; refine zg ?_
      exact V_retX L 900 (r := GHeld b _ tyU) (rs := [.tmp 8, .tmp 9]) rfl (fun _ _ h => h) Since.refl rfl rfl (fun _ => rfl)
end Go.V.So
namespace Go.V.So
open Go.Proofs Go.RowKit Go.V Go.Sort
attribute [local irreducible] V N X VO Par StepOK Has Ret RetL RetO RetG RetX Src
set_option maxHeartbeats 2000000 in
set_option maxRecDepth 20000 in
theorem peq_ret {d : Array Int} {rest : List Value} {b m cap a e p : Nat} (hap : a ≤ p) (hpe : p < e) (he : e ≤ d.size) (hm : d.size = m) (hm1 : m ≤ 100000) {w : World} {B : Heap} {C : Nat → Prop} (hB : B.Le (hp w))
    (hr : (GHeld b (uC d ++ rest) tyU).P B w C) (hC : ∀ k, C k → k < w.heap.size ∧ B k = none) :
    RetX Try.prog 96 [.slice (some ⟨b, 0, none⟩) m cap, .int .i64 a, .int .i64 e, .int .i64 p] w B C (GHeld b (uC (partitionEqual lt d a e p).2 ++ rest) tyU) (.int .i64 (partitionEqual lt d a e p).1) := by
  unfold RetX
  refine V_enterG 900 (GHeld b (uC d ++ rest) tyU) Try.func96 rfl Try.ntmps96 (Nat.le_of_ble_eq_true rfl) hB hr hC ?_
  rw [gheld_res]
  obtain ⟨_, qj⟩ := u_at (rest := rest) (show p < d.size by omega) (0 + (p) * 1) rfl
  obtain ⟨_, qi⟩ := u_at (rest := rest) (show a < d.size by omega) (0 + (a) * 1) rfl
  have s1 := u_set (rest := rest) d[p]! (show a < d.size by omega) (0 + (a) * 1) rfl
  have b1 := u_ble (rest := rest) (show a < d.size by omega) (0 + (a) * 1) rfl
  have hz : p < (d.setIfInBounds (a) d[p]!).size := by rw [Array.size_setIfInBounds]; omega
  have s2 := u_set (rest := rest) d[a]! hz (0 + (p) * 1) rfl
  have b2 := u_ble (rest := rest) hz (0 + (p) * 1) rfl
  rw [swp_eq] at s2
  have hw1 : IntKind.i64.wrap ((a : Int) + 1) = ((a + 1 : Nat) : Int) := wrap_i64 (by omega) (by omega)
  obtain ⟨e1, rfl⟩ : ∃ e1, e = e1 + 1 := ⟨e - 1, by omega⟩
  have hw2 : IntKind.i64.wrap (((e1 + 1 : Nat) : Int) - 1) = (e1 : Int) := wrap_i64 (by omega) (by omega) |>.trans (by omega)
  obtain ⟨X, hX⟩ : ∃ X, X = partitionEqual lt d a (e1 + 1) p := ⟨_, rfl⟩
  rw [← hX]
  have hR' := hX
  unfold partitionEqual at hR'
  rw [Nat.add_sub_cancel] at hR'
  have hDs := swp_size d a p
  refine zd ?_; refine zb (id := 0) ?_; refine Zs3 ?_; refine ze ?_; refine zg ?_; refine zd ?_; refine zy (id := 1) [(200018, [900]), (200022, [900]), (100023, [900]), (100024, [900])] mixed (by kernel_rfl) ?_; refine Zs7 ?_; refine Zs7 ?_; refine Zs7 ?_; refine Zs7 ?_; refine Zs7 ?_; refine Zs7 ?_; refine z8 (zn L _ rfl rfl rfl rfl rfl rfl rfl (by omega)) rfl ?_; refine zx (zq L (q := 900) rfl rfl rfl rfl rfl qj) rfl rfl ?_; refine Zs7 ?_; refine Zs7 ?_; refine z8 (zn L _ rfl rfl rfl rfl rfl rfl rfl (by omega)) rfl ?_; refine zx (zq L (q := 900) rfl rfl rfl rfl rfl qi) rfl rfl ?_; refine z8 (zn L _ rfl rfl rfl rfl rfl rfl rfl (by omega)) rfl ?_; refine y1 (qv L (q := 900) rfl rfl rfl rfl rfl rfl b1 rfl s1) rfl ?_; refine z8 (zn L _ rfl rfl rfl rfl rfl rfl rfl (by omega)) rfl ?_; refine y1 (qv L (q := 900) rfl rfl rfl rfl rfl rfl b2 rfl s2) rfl ?_; refine qb ?_; refine zg ?_; refine zd ?_; refine zb (id := 2) ?_; refine Zs1 ?_; refine Zs17 ?_; refine Zs1 ?_; refine Zs19 ?_; refine Zs3 ?_; refine Zs3 ?_; refine ze ?_; refine zg ?_; refine zd ?_; refine q0 ?_
  generalize swp d a p = D at *
  refine V_midB (mid_last (fun s : Nat × Array Int => [(9, .is (.int .i64 s.1)), (900, .own (HeldR b (uC s.2 ++ rest) tyU))]) (fun s => s.2.size = m ∧ s = X) (fun _ => []) ?_) ?_
  rotate_left
  · refine V_loop (fun s : (Nat × Nat) × Array Int => [(0, .is (.slice (some ⟨b, 0, none⟩) m cap)), (1, .is (.int .i64 a)), (9, .is (.int .i64 s.1.1)), (10, .is (.int .i64 s.1.2)), (900, .own (HeldR b (uC s.2 ++ rest) tyU))]) (fun s => s.2.size = m ∧ a + 1 ≤ s.1.1 ∧ s.1.1 ≤ e1 + 1 ∧ a ≤ s.1.2 ∧ s.1.2 ≤ e1 ∧ partEqLoop lt a s.1.1 s.1.2 s.2 = X) (fun s => s.1.2 + 1 - s.1.1) ((a + 1, e1), D) ⟨by dsimp only; omega, by dsimp only; omega, by dsimp only; omega, by dsimp only; omega, by dsimp only; omega, hR'.symm⟩ ⟨rfl, rfl, rfl, rfl, rfl, trivial⟩ ?_
    rintro ⟨⟨i0, j0⟩, G⟩ ⟨hG, hi1, hi2, hj1, hj2, hL⟩
    dsimp only at hG hi1 hi2 hj1 hj2 hL ⊢
    rw [partEqLoop] at hL
    clear hX hR' hDs
    refine q0 (zd (q0 ?_))
    refine V_midB (mid_last (fun i : Nat => [(0, .is (.slice (some ⟨b, 0, none⟩) m cap)), (1, .is (.int .i64 a)), (9, .is (.int .i64 i)), (10, .is (.int .i64 j0)), (900, .own (HeldR b (uC G ++ rest) tyU))]) (fun i => i0 ≤ i ∧ i ≤ max i0 (j0 + 1) ∧ i = scanUp (fun x => !lt G[a]! x) G j0 i0) (fun _ => []) ?_) ?_
    rotate_left
    · refine V_loop (fun i : Nat => [(0, .is (.slice (some ⟨b, 0, none⟩) m cap)), (1, .is (.int .i64 a)), (9, .is (.int .i64 i)), (10, .is (.int .i64 j0)), (900, .own (HeldR b (uC G ++ rest) tyU))]) (fun i => i0 ≤ i ∧ i ≤ max i0 (j0 + 1) ∧ scanUp (fun x => !lt G[a]! x) G j0 i = scanUp (fun x => !lt G[a]! x) G j0 i0) (fun i => j0 + 1 - i) i0 ⟨Nat.le_refl _, by omega, rfl⟩ ⟨rfl, rfl, rfl, rfl, rfl, trivial⟩ ?_
      rintro i ⟨hi1, hi2, hi3⟩
      by_cases hle : i ≤ j0
      · obtain ⟨_, qx⟩ := u_at (rest := rest) (show i < G.size by omega) (0 + (i) * 1) rfl
        obtain ⟨_, qa⟩ := u_at (rest := rest) (show a < G.size by omega) (0 + (a) * 1) rfl
        cases hc : lt G[a]! G[i]! with
        | false =>
          have hw : IntKind.i64.wrap ((i : Int) + 1) = ((i + 1 : Nat) : Int) := wrap_i64 (by omega) (by omega)
          refine zd ?_; refine zd ?_; refine zy (id := 3) [(200036, [900]), (200040, [900])] mixed (by kernel_rfl) ?_; refine Zs7 ?_; refine Zs7 ?_; refine Zs46 ?_; refine Zs7 ?_; refine Zs7 ?_; refine Zs7 ?_; refine z8 (zn L _ rfl rfl rfl rfl rfl rfl rfl (by omega)) rfl ?_; refine zx (zq L (q := 900) rfl rfl rfl rfl rfl qa) rfl rfl ?_; refine Zs7 ?_; refine Zs7 ?_; refine z8 (zn L _ rfl rfl rfl rfl rfl rfl rfl (by omega)) rfl ?_; refine zx (zq L (q := 900) rfl rfl rfl rfl rfl qx) rfl rfl ?_; refine z8 (zp L rfl rfl (zf rfl) rfl rfl rfl (fun u H hH _ _ => lessU' hc hH)) rfl ?_; refine Zs52 ?_; refine Zs33 ?_; refine qb ?_; refine zg ?_; refine zu rfl ?_; refine zt ?_; refine zg ?_; refine q0 ?_; refine zb (id := 4) ?_; refine Zs1 ?_; refine Zs17 ?_; refine Zs3 ?_; refine ze ?_; refine qo ?_
          exact qy (x := i) (i + 1) ⟨by omega, by omega, by rw [← hi3]; exact (scanUp_go hle (by simp [hc])).symm⟩ (by omega) ⟨rfl, rfl, rfl, rfl, rfl, trivial⟩
        | true =>
          refine zd ?_; refine zd ?_; refine zy (id := 3) [(200036, [900]), (200040, [900])] mixed (by kernel_rfl) ?_; refine Zs7 ?_; refine Zs7 ?_; refine Zs46 ?_; refine Zs7 ?_; refine Zs7 ?_; refine Zs7 ?_; refine z8 (zn L _ rfl rfl rfl rfl rfl rfl rfl (by omega)) rfl ?_; refine zx (zq L (q := 900) rfl rfl rfl rfl rfl qa) rfl rfl ?_; refine Zs7 ?_; refine Zs7 ?_; refine z8 (zn L _ rfl rfl rfl rfl rfl rfl rfl (by omega)) rfl ?_; refine zx (zq L (q := 900) rfl rfl rfl rfl rfl qx) rfl rfl ?_; refine z8 (zp L rfl rfl (zf rfl) rfl rfl rfl (fun u H hH _ _ => lessU' hc hH)) rfl ?_; refine Zs52 ?_; refine Zs33 ?_; refine qb ?_; refine zg ?_; refine zm rfl ?_; refine y5 ?_; refine qf ?_; refine qf ?_; refine y4 ?_
          exact N_mids i Since.refl ⟨hi1, hi2, by rw [← hi3]; exact (scanUp_stop (by rintro ⟨_, h⟩; simp [hc] at h)).symm⟩ rfl ⟨rfl, rfl, rfl, rfl, rfl, trivial⟩
      · refine zd ?_; refine zd ?_; refine zy (id := 3) [] mixed (by kernel_rfl) ?_; refine Zs7 ?_; refine Zs7 ?_; refine Zs62 ?_; refine Zs7 ?_; refine Zs9 ?_; refine Zs9 ?_; refine Zs9 ?_; refine Zs9 ?_; refine Zs9 ?_; refine Zs9 ?_; refine Zs9 ?_; refine Zs9 ?_; refine Zs9 ?_; refine Zs9 ?_; refine Zs33 ?_; refine qb ?_; refine zg ?_; refine zm rfl ?_; refine y5 ?_; refine qf ?_; refine qf ?_; refine y4 ?_
        exact N_mids i Since.refl ⟨hi1, hi2, by rw [← hi3]; exact (scanUp_stop (by rintro ⟨h, _⟩; exact hle h)).symm⟩ rfl ⟨rfl, rfl, rfl, rfl, rfl, trivial⟩
    rintro K ⟨hK1, hK2, hK3⟩
    refine zd (q0 ?_)
    refine V_midB (mid_last (fun i : Nat => [(0, .is (.slice (some ⟨b, 0, none⟩) m cap)), (1, .is (.int .i64 a)), (9, .is (.int .i64 K)), (10, .is (.int .i64 i)), (900, .own (HeldR b (uC G ++ rest) tyU))]) (fun i => i ≤ j0 ∧ min (K - 1) j0 ≤ i ∧ i = scanDown (fun x => lt G[a]! x) G K j0) (fun _ => []) ?_) ?_
    rotate_left
    · refine V_loop (fun i : Nat => [(0, .is (.slice (some ⟨b, 0, none⟩) m cap)), (1, .is (.int .i64 a)), (9, .is (.int .i64 K)), (10, .is (.int .i64 i)), (900, .own (HeldR b (uC G ++ rest) tyU))]) (fun i => i ≤ j0 ∧ min (K - 1) j0 ≤ i ∧ scanDown (fun x => lt G[a]! x) G K i = scanDown (fun x => lt G[a]! x) G K j0) (fun i => i) j0 ⟨Nat.le_refl _, by omega, rfl⟩ ⟨rfl, rfl, rfl, rfl, rfl, trivial⟩ ?_
      rintro i ⟨hi1, hi2, hi3⟩
      by_cases hle : K ≤ i
      · obtain ⟨_, qx⟩ := u_at (rest := rest) (show i < G.size by omega) (0 + (i) * 1) rfl
        obtain ⟨_, qa⟩ := u_at (rest := rest) (show a < G.size by omega) (0 + (a) * 1) rfl
        cases hc : lt G[a]! G[i]! with
        | true =>
          obtain ⟨i, rfl⟩ : ∃ k, i = k + 1 := ⟨i - 1, by omega⟩
          have hw : IntKind.i64.wrap (((i + 1 : Nat) : Int) - 1) = (i : Int) := wrap_i64 (by omega) (by omega) |>.trans (by omega)
          refine zd ?_; refine zd ?_; refine zy (id := 5) [(200053, [900]), (200057, [900])] mixed (by kernel_rfl) ?_; refine Zs7 ?_; refine Zs7 ?_; refine Zs46 ?_; refine Zs7 ?_; refine Zs7 ?_; refine Zs7 ?_; refine z8 (zn L _ rfl rfl rfl rfl rfl rfl rfl (by omega)) rfl ?_; refine zx (zq L (q := 900) rfl rfl rfl rfl rfl qa) rfl rfl ?_; refine Zs7 ?_; refine Zs7 ?_; refine z8 (zn L _ rfl rfl rfl rfl rfl rfl rfl (by omega)) rfl ?_; refine zx (zq L (q := 900) rfl rfl rfl rfl rfl qx) rfl rfl ?_; refine z8 (zp L rfl rfl (zf rfl) rfl rfl rfl (fun u H hH _ _ => lessU' hc hH)) rfl ?_; refine Zs33 ?_; refine qb ?_; refine zg ?_; refine zu rfl ?_; refine zt ?_; refine zg ?_; refine q0 ?_; refine zb (id := 6) ?_; refine Zs1 ?_; refine Zs19 ?_; refine Zs3 ?_; refine ze ?_; refine qo ?_
          exact qy (x := i + 1) i ⟨by omega, by omega, by rw [← hi3]; exact (scanDown_go hle (by simp [hc])).symm⟩ (by omega) ⟨rfl, rfl, rfl, rfl, rfl, trivial⟩
        | false =>
          refine zd ?_; refine zd ?_; refine zy (id := 5) [(200053, [900]), (200057, [900])] mixed (by kernel_rfl) ?_; refine Zs7 ?_; refine Zs7 ?_; refine Zs46 ?_; refine Zs7 ?_; refine Zs7 ?_; refine Zs7 ?_; refine z8 (zn L _ rfl rfl rfl rfl rfl rfl rfl (by omega)) rfl ?_; refine zx (zq L (q := 900) rfl rfl rfl rfl rfl qa) rfl rfl ?_; refine Zs7 ?_; refine Zs7 ?_; refine z8 (zn L _ rfl rfl rfl rfl rfl rfl rfl (by omega)) rfl ?_; refine zx (zq L (q := 900) rfl rfl rfl rfl rfl qx) rfl rfl ?_; refine z8 (zp L rfl rfl (zf rfl) rfl rfl rfl (fun u H hH _ _ => lessU' hc hH)) rfl ?_; refine Zs33 ?_; refine qb ?_; refine zg ?_; refine zm rfl ?_; refine y5 ?_; refine qf ?_; refine qf ?_; refine y4 ?_
          exact N_mids i Since.refl ⟨hi1, hi2, by rw [← hi3]; exact (scanDown_stop (by rintro ⟨_, h⟩; simp [hc] at h)).symm⟩ rfl ⟨rfl, rfl, rfl, rfl, rfl, trivial⟩
      · refine zd ?_; refine zd ?_; refine zy (id := 5) [] mixed (by kernel_rfl) ?_; refine Zs7 ?_; refine Zs7 ?_; refine Zs62 ?_; refine Zs7 ?_; refine Zs9 ?_; refine Zs9 ?_; refine Zs9 ?_; refine Zs9 ?_; refine Zs9 ?_; refine Zs9 ?_; refine Zs9 ?_; refine Zs9 ?_; refine Zs9 ?_; refine Zs33 ?_; refine qb ?_; refine zg ?_; refine zm rfl ?_; refine y5 ?_; refine qf ?_; refine qf ?_; refine y4 ?_
        exact N_mids i Since.refl ⟨hi1, hi2, by rw [← hi3]; exact (scanDown_stop (by rintro ⟨h, _⟩; exact hle h)).symm⟩ rfl ⟨rfl, rfl, rfl, rfl, rfl, trivial⟩
    rintro M ⟨hM1, hM2, hM3⟩
    rw [← hK3, ← hM3] at hL
    by_cases hKM : M < K
    · rw [if_pos hKM] at hL
      refine zd ?_; refine zd ?_; refine zb (id := 7) ?_; refine Zs1 ?_; refine Zs1 ?_; refine Zs21 ?_; refine ze ?_; refine zg ?_; refine zu rfl ?_; refine y5 ?_; refine qf ?_; refine X_there rfl ?_; refine qf ?_; refine y4 ?_
      exact N_mids (K, G) Since.refl ⟨hG, hL⟩ rfl ⟨rfl, rfl, trivial⟩
    · rw [if_neg hKM, dif_pos (by omega)] at hL
      have hw5 : IntKind.i64.wrap ((K : Int) + 1) = ((K + 1 : Nat) : Int) := wrap_i64 (by omega) (by omega)
      have hw6 : IntKind.i64.wrap ((M : Int) - 1) = ((M - 1 : Nat) : Int) := wrap_i64 (by omega) (by omega) |>.trans (by omega)
      have hGs := swp_size G K M
      obtain ⟨_, qj⟩ := u_at (rest := rest) (show M < G.size by omega) (0 + (M) * 1) rfl
      obtain ⟨_, qi⟩ := u_at (rest := rest) (show K < G.size by omega) (0 + (K) * 1) rfl
      have s1 := u_set (rest := rest) G[M]! (show K < G.size by omega) (0 + (K) * 1) rfl
      have b1 := u_ble (rest := rest) (show K < G.size by omega) (0 + (K) * 1) rfl
      have hz : M < (G.setIfInBounds (K) G[M]!).size := by rw [Array.size_setIfInBounds]; omega
      have s2 := u_set (rest := rest) G[K]! hz (0 + (M) * 1) rfl
      have b2 := u_ble (rest := rest) hz (0 + (M) * 1) rfl
      rw [swp_eq] at s2
      refine zd ?_; refine zd ?_; refine zb (id := 7) ?_; refine Zs1 ?_; refine Zs1 ?_; refine Zs12 ?_; refine ze ?_; refine zg ?_; refine zm rfl ?_; refine zt ?_; refine zg ?_; refine zd ?_; refine zy (id := 8) [(200072, [900]), (200076, [900]), (100077, [900]), (100078, [900])] mixed (by kernel_rfl) ?_; refine Zs7 ?_; refine Zs7 ?_; refine Zs7 ?_; refine Zs7 ?_; refine Zs7 ?_; refine Zs7 ?_; refine z8 (zn L _ rfl rfl rfl rfl rfl rfl rfl (by omega)) rfl ?_; refine zx (zq L (q := 900) rfl rfl rfl rfl rfl qj) rfl rfl ?_; refine Zs7 ?_; refine Zs7 ?_; refine z8 (zn L _ rfl rfl rfl rfl rfl rfl rfl (by omega)) rfl ?_; refine zx (zq L (q := 900) rfl rfl rfl rfl rfl qi) rfl rfl ?_; refine z8 (zn L _ rfl rfl rfl rfl rfl rfl rfl (by omega)) rfl ?_; refine y1 (qv L (q := 900) rfl rfl rfl rfl rfl rfl b1 rfl s1) rfl ?_; refine z8 (zn L _ rfl rfl rfl rfl rfl rfl rfl (by omega)) rfl ?_; refine y1 (qv L (q := 900) rfl rfl rfl rfl rfl rfl b2 rfl s2) rfl ?_; refine qb ?_; refine zg ?_; refine zd ?_; refine zb (id := 9) ?_; refine Zs1 ?_; refine Zs17 ?_; refine Zs3 ?_; refine ze ?_; refine zg ?_; refine zb (id := 10) ?_; refine Zs1 ?_; refine Zs19 ?_; refine Zs3 ?_; refine ze ?_; refine qo ?_
      exact qy (x := ((i0, j0), G)) ((K + 1, M - 1), swp G K M) ⟨by dsimp only; omega, by dsimp only; omega, by dsimp only; omega, by dsimp only; omega, by dsimp only; omega, hL⟩ (by dsimp only; omega) ⟨rfl, rfl, rfl, rfl, rfl, trivial⟩
  · rintro ⟨K, G⟩ ⟨hG, hL⟩
    dsimp only at hG ⊢
    rw [← hL]
    refine zd ?_; refine zb (id := 11) ?_; refine Zs1 ?_; refine Zs3 ?_; refine ze ?_; refine zg ?_
    exact V_retX L 900 (r := GHeld b _ tyU) (rs := [.tmp 8]) rfl (fun _ _ h => h) Since.refl rfl rfl (fun _ => rfl)
end Go.V.So
namespace Go.V.So
open Go.Proofs Go.RowKit Go.V Go.Sort
attribute [local irreducible] V N X VO Par StepOK Has Ret RetL RetO RetG RetX Src
theorem scanSorted_stop {d : Array Int} {e i : Nat} (h : ¬ (i < e ∧ lt d[i]! d[i - 1]! = false)) : scanSorted lt d e i = i := by
  rw [scanSorted, if_neg]
  simpa using h
theorem scanSorted_go {d : Array Int} {e i : Nat} (h1 : i < e) (h2 : lt d[i]! d[i - 1]! = false) : scanSorted lt d e i = scanSorted lt d e (i + 1) := by
  rw [scanSorted, if_pos (by simp [h1, h2])]
set_option maxHeartbeats 2000000 in
set_option maxRecDepth 20000 in
theorem pins_ret {d : Array Int} {rest : List Value} {b m cap a e : Nat} (hab : a < e) (he : e ≤ d.size) (hm : d.size = m) (hm1 : m ≤ 100000) {w : World} {B : Heap} {C : Nat → Prop} (hB : B.Le (hp w))
    (hr : (GHeld b (uC d ++ rest) tyU).P B w C) (hC : ∀ k, C k → k < w.heap.size ∧ B k = none) :
    RetX Try.prog 94 [.slice (some ⟨b, 0, none⟩) m cap, .int .i64 a, .int .i64 e] w B C (GHeld b (uC (partialInsertionSort lt d a e).1 ++ rest) tyU) (.bool (partialInsertionSort lt d a e).2) := by
  unfold RetX
  refine V_enterG 900 (GHeld b (uC d ++ rest) tyU) Try.func94 rfl Try.ntmps94 (Nat.le_of_ble_eq_true rfl) hB hr hC ?_
  rw [gheld_res]
  have hw1 : IntKind.i64.wrap ((a : Int) + 1) = ((a + 1 : Nat) : Int) := wrap_i64 (by omega) (by omega)
  have hw2 : IntKind.i64.wrap ((e : Int) - (a : Int)) = ((e - a : Nat) : Int) := wrap_i64 (by omega) (by omega) |>.trans (by omega)
  obtain ⟨X, hX⟩ : ∃ X, X = partialInsertionSort lt d a e := ⟨_, rfl⟩
  rw [← hX]
  unfold partialInsertionSort at hX
  refine zd ?_; refine zb (id := 0) ?_; refine Zs3 ?_; refine ze ?_; refine zg ?_; refine zd ?_; refine zb (id := 1) ?_; refine Zs1 ?_; refine Zs17 ?_; refine Zs3 ?_; refine ze ?_; refine zg ?_; refine zd ?_; refine zd ?_; refine zb (id := 2) ?_; refine Zs3 ?_; refine ze ?_; refine zg ?_; refine q0 ?_
  refine V_loop (fun s : (Nat × Nat) × Array Int => [(0, .is (.slice (some ⟨b, 0, none⟩) m cap)), (1, .is (.int .i64 a)), (2, .is (.int .i64 e)), (7, .is (.int .i64 s.1.2)), (8, .is (.int .i64 s.1.1)), (900, .own (HeldR b (uC s.2 ++ rest) tyU))]) (fun s => s.1.1 ≤ 5 ∧ a + 1 ≤ s.1.2 ∧ s.1.2 ≤ e ∧ s.2.size = m ∧ partialIns lt a e (5 - s.1.1) s.1.2 s.2 = X) (fun s => 5 - s.1.1) ((0, a + 1), d) ⟨by dsimp only; omega, by dsimp only; omega, by dsimp only; omega, hm, hX.symm⟩ ⟨rfl, rfl, rfl, rfl, rfl, rfl, trivial⟩ ?_
  rintro ⟨⟨k, i0⟩, D⟩ ⟨hk, hi1, hi2, hD, hL⟩
  dsimp only at hk hi1 hi2 hD hL ⊢
  clear hX
  by_cases hk5 : k < 5
  · obtain ⟨s, hs⟩ : ∃ s, 5 - k = s + 1 := ⟨5 - k - 1, by omega⟩
    have hs' : 5 - (k + 1) = s := by omega
    rw [hs, partialIns] at hL
    dsimp only at hL
    refine zd ?_; refine zd ?_; refine zb (id := 3) ?_; refine Zs1 ?_; refine Zs10 ?_; refine ze ?_; refine zg ?_; refine zu rfl ?_; refine zt ?_; refine zg ?_; refine zd ?_; refine q0 ?_; refine zd ?_; refine q0 ?_
    refine V_midB (mid_last (fun i : Nat => [(0, .is (.slice (some ⟨b, 0, none⟩) m cap)), (1, .is (.int .i64 a)), (2, .is (.int .i64 e)), (7, .is (.int .i64 i)), (8, .is (.int .i64 k)), (900, .own (HeldR b (uC D ++ rest) tyU))]) (fun i => a + 1 ≤ i ∧ i ≤ e ∧ i = scanSorted lt D e i0) (fun _ => []) ?_) ?_
    rotate_left
    · refine V_loop (fun i : Nat => [(0, .is (.slice (some ⟨b, 0, none⟩) m cap)), (1, .is (.int .i64 a)), (2, .is (.int .i64 e)), (7, .is (.int .i64 i)), (8, .is (.int .i64 k)), (900, .own (HeldR b (uC D ++ rest) tyU))]) (fun i => a + 1 ≤ i ∧ i ≤ e ∧ scanSorted lt D e i = scanSorted lt D e i0) (fun i => e - i) i0 ⟨hi1, hi2, rfl⟩ ⟨rfl, rfl, rfl, rfl, rfl, rfl, trivial⟩ ?_
      rintro i ⟨h1, h2, h3⟩
      by_cases hle : i < e
      · obtain ⟨_, q1⟩ := u_at (rest := rest) (show i < D.size by omega) (0 + (i) * 1) rfl
        obtain ⟨_, q2⟩ := u_at (rest := rest) (show i - 1 < D.size by omega) (0 + (i - 1) * 1) rfl
        have hw3 : IntKind.i64.wrap ((i : Int) - 1) = ((i - 1 : Nat) : Int) := wrap_i64 (by omega) (by omega) |>.trans (by omega)
        cases hc : lt D[i]! D[i - 1]! with
        | false =>
          have hw4 : IntKind.i64.wrap ((i : Int) + 1) = ((i + 1 : Nat) : Int) := wrap_i64 (by omega) (by omega)
          refine zd ?_; refine zd ?_; refine zy (id := 5) [(200024, [900]), (200029, [900])] mixed (by kernel_rfl) ?_; refine Zs7 ?_; refine Zs7 ?_; refine Zs65 ?_; refine Zs7 ?_; refine Zs7 ?_; refine Zs7 ?_; refine z8 (zn L _ rfl rfl rfl rfl rfl rfl rfl (by omega)) rfl ?_; refine zx (zq L (q := 900) rfl rfl rfl rfl rfl q1) rfl rfl ?_; refine Zs7 ?_; refine Zs7 ?_; refine Zs42 ?_; refine z8 (zn L _ rfl rfl rfl rfl rfl rfl rfl (by omega)) rfl ?_; refine zx (zq L (q := 900) rfl rfl rfl rfl rfl q2) rfl rfl ?_; refine z8 (zp L rfl rfl (zf rfl) rfl rfl rfl (fun u H hH _ _ => lessU' hc hH)) rfl ?_; refine Zs52 ?_; refine Zs33 ?_; refine qb ?_; refine zg ?_; refine zu rfl ?_; refine zt ?_; refine zg ?_; refine q0 ?_; refine zb (id := 6) ?_; refine Zs1 ?_; refine Zs17 ?_; refine Zs3 ?_; refine ze ?_; refine qo ?_
          exact qy (x := i) (i + 1) ⟨by omega, by omega, by rw [← h3]; exact (scanSorted_go hle hc).symm⟩ (by omega) ⟨rfl, rfl, rfl, rfl, rfl, rfl, trivial⟩
        | true =>
          refine zd ?_; refine zd ?_; refine zy (id := 5) [(200024, [900]), (200029, [900])] mixed (by kernel_rfl) ?_; refine Zs7 ?_; refine Zs7 ?_; refine Zs65 ?_; refine Zs7 ?_; refine Zs7 ?_; refine Zs7 ?_; refine z8 (zn L _ rfl rfl rfl rfl rfl rfl rfl (by omega)) rfl ?_; refine zx (zq L (q := 900) rfl rfl rfl rfl rfl q1) rfl rfl ?_; refine Zs7 ?_; refine Zs7 ?_; refine Zs42 ?_; refine z8 (zn L _ rfl rfl rfl rfl rfl rfl rfl (by omega)) rfl ?_; refine zx (zq L (q := 900) rfl rfl rfl rfl rfl q2) rfl rfl ?_; refine z8 (zp L rfl rfl (zf rfl) rfl rfl rfl (fun u H hH _ _ => lessU' hc hH)) rfl ?_; refine Zs52 ?_; refine Zs33 ?_; refine qb ?_; refine zg ?_; refine zm rfl ?_; refine y5 ?_; refine qf ?_; refine qf ?_; refine y4 ?_
          exact N_mids i Since.refl ⟨h1, h2, by rw [← h3]; exact (scanSorted_stop (by rintro ⟨_, h⟩; simp [hc] at h)).symm⟩ rfl ⟨rfl, rfl, rfl, rfl, rfl, rfl, trivial⟩
      · refine zd ?_; refine zd ?_; refine zy (id := 5) [] mixed (by kernel_rfl) ?_; refine Zs7 ?_; refine Zs7 ?_; refine Zs74 ?_; refine Zs7 ?_; refine Zs9 ?_; refine Zs9 ?_; refine Zs9 ?_; refine Zs9 ?_; refine Zs9 ?_; refine Zs9 ?_; refine Zs9 ?_; refine Zs9 ?_; refine Zs9 ?_; refine Zs9 ?_; refine Zs9 ?_; refine Zs33 ?_; refine qb ?_; refine zg ?_; refine zm rfl ?_; refine y5 ?_; refine qf ?_; refine qf ?_; refine y4 ?_
        exact N_mids i Since.refl ⟨h1, h2, by rw [← h3]; exact (scanSorted_stop (by rintro ⟨h, _⟩; exact hle h)).symm⟩ rfl ⟨rfl, rfl, rfl, rfl, rfl, rfl, trivial⟩
    · rintro i ⟨h1, h2, h3⟩
      rw [← h3] at hL
      by_cases hie : i = e
      · rw [if_pos hie] at hL
        subst hie
        rw [← hL]
        refine zd ?_; refine zd ?_; refine zb (id := 7) ?_; refine Zs1 ?_; refine Zs1 ?_; refine Zs18 ?_; refine ze ?_; refine zg ?_; refine zu rfl ?_; refine zd ?_; refine zb (id := 8) ?_; refine Zs3 ?_; refine ze ?_; refine zg ?_
        exact V_retX L 900 (r := GHeld b _ tyU) (rs := [.tmp 6]) rfl (fun _ _ h => h) Since.refl rfl rfl (fun _ => rfl)
      · rw [if_neg hie] at hL
        by_cases h50 : e - a < 50
        · rw [if_pos h50] at hL
          rw [← hL]
          refine zd ?_; refine zd ?_; refine zb (id := 7) ?_; refine Zs1 ?_; refine Zs1 ?_; refine Zs14 ?_; refine ze ?_; refine zg ?_; refine zm rfl ?_; refine zt ?_; refine zg ?_; refine zd ?_; refine zd ?_; refine zb (id := 9) ?_; refine Zs1 ?_; refine Zs1 ?_; refine Zs19 ?_; refine Zs10 ?_; refine ze ?_; refine zg ?_; refine zu rfl ?_; refine zd ?_; refine zb (id := 10) ?_; refine Zs3 ?_; refine ze ?_; refine zg ?_
          exact V_retX L 900 (r := GHeld b _ tyU) (rs := [.tmp 6]) rfl (fun _ _ h => h) Since.refl rfl rfl (fun _ => rfl)
        · rw [if_neg h50] at hL
          have hw3 : IntKind.i64.wrap ((i : Int) - 1) = ((i - 1 : Nat) : Int) := wrap_i64 (by omega) (by omega) |>.trans (by omega)
          have hw4 : IntKind.i64.wrap ((i : Int) - (a : Int)) = ((i - a : Nat) : Int) := wrap_i64 (by omega) (by omega) |>.trans (by omega)
          have hw5 : IntKind.i64.wrap ((e : Int) - (i : Int)) = ((e - i : Nat) : Int) := wrap_i64 (by omega) (by omega) |>.trans (by omega)
          have hw6 : IntKind.i64.wrap ((i : Int) + 1) = ((i + 1 : Nat) : Int) := wrap_i64 (by omega) (by omega)
          have hw7 : IntKind.i64.wrap ((k : Int) + 1) = ((k + 1 : Nat) : Int) := wrap_i64 (by omega) (by omega)
          have hDs := swp_size D i (i - 1)
          obtain ⟨_, qj⟩ := u_at (rest := rest) (show i - 1 < D.size by omega) (0 + (i - 1) * 1) rfl
          obtain ⟨_, qi⟩ := u_at (rest := rest) (show i < D.size by omega) (0 + (i) * 1) rfl
          have s1 := u_set (rest := rest) D[i - 1]! (show i < D.size by omega) (0 + (i) * 1) rfl
          have b1 := u_ble (rest := rest) (show i < D.size by omega) (0 + (i) * 1) rfl
          have hz : i - 1 < (D.setIfInBounds (i) D[i - 1]!).size := by rw [Array.size_setIfInBounds]; omega
          have s2 := u_set (rest := rest) D[i]! hz (0 + (i - 1) * 1) rfl
          have b2 := u_ble (rest := rest) hz (0 + (i - 1) * 1) rfl
          rw [swp_eq] at s2
          refine zd ?_; refine zd ?_; refine zb (id := 7) ?_; refine Zs1 ?_; refine Zs1 ?_; refine Zs14 ?_; refine ze ?_; refine zg ?_; refine zm rfl ?_; refine zt ?_; refine zg ?_; refine zd ?_; refine zd ?_; refine zb (id := 9) ?_; refine Zs1 ?_; refine Zs1 ?_; refine Zs19 ?_; refine Zs8 ?_; refine ze ?_; refine zg ?_; refine zm rfl ?_; refine zt ?_; refine zg ?_; refine zd ?_; refine zy (id := 11) [(200051, [900]), (200055, [900]), (100056, [900]), (100057, [900])] mixed (by kernel_rfl) ?_; refine Zs7 ?_; refine Zs7 ?_; refine Zs7 ?_; refine Zs7 ?_; refine Zs42 ?_; refine Zs7 ?_; refine Zs7 ?_; refine Zs42 ?_; refine z8 (zn L _ rfl rfl rfl rfl rfl rfl rfl (by omega)) rfl ?_; refine zx (zq L (q := 900) rfl rfl rfl rfl rfl qj) rfl rfl ?_; refine Zs7 ?_; refine Zs7 ?_; refine z8 (zn L _ rfl rfl rfl rfl rfl rfl rfl (by omega)) rfl ?_; refine zx (zq L (q := 900) rfl rfl rfl rfl rfl qi) rfl rfl ?_; refine z8 (zn L _ rfl rfl rfl rfl rfl rfl rfl (by omega)) rfl ?_; refine y1 (qv L (q := 900) rfl rfl rfl rfl rfl rfl b1 rfl s1) rfl ?_; refine z8 (zn L _ rfl rfl rfl rfl rfl rfl rfl (by omega)) rfl ?_; refine y1 (qv L (q := 900) rfl rfl rfl rfl rfl rfl b2 rfl s2) rfl ?_; refine qb ?_; refine zg ?_; refine zd ?_; refine zd ?_
          generalize swp D i (i - 1) = D1 at *
          obtain ⟨D2, hD2⟩ : ∃ D2, D2 = (if i - a ≥ 2 then shiftDown lt (i - 1) D1 else D1) := ⟨_, rfl⟩
          rw [← hD2] at hL
          refine V_meetC (fun E : Array Int => [(0, .is (.slice (some ⟨b, 0, none⟩) m cap)), (1, .is (.int .i64 a)), (2, .is (.int .i64 e)), (7, .is (.int .i64 i)), (8, .is (.int .i64 k)), (900, .own (HeldR b (uC E ++ rest) tyU))]) (fun E => E.size = m ∧ E = D2) (fun _ => []) ?_ ?_
          rotate_left
          · by_cases h2a : i - a ≥ 2
            · rw [if_pos h2a] at hD2
              refine zb (id := 12) ?_; refine Zs1 ?_; refine Zs1 ?_; refine Zs19 ?_; refine Zs29 ?_; refine ze ?_; refine zg ?_; refine zu rfl ?_; refine zd ?_; refine zb (id := 13) ?_; refine Zs1 ?_; refine Zs19 ?_; refine Zs3 ?_; refine ze ?_; refine zg ?_; refine q0 ?_
              refine V_loop (fun t : Nat × Array Int => [(0, .is (.slice (some ⟨b, 0, none⟩) m cap)), (1, .is (.int .i64 a)), (2, .is (.int .i64 e)), (7, .is (.int .i64 i)), (8, .is (.int .i64 k)), (9, .is (.int .i64 t.1)), (900, .own (HeldR b (uC t.2 ++ rest) tyU))]) (fun t => t.1 ≤ i - 1 ∧ t.2.size = m ∧ shiftDown lt t.1 t.2 = D2) (fun t => t.1) (i - 1, D1) ⟨Nat.le_refl _, by dsimp only; omega, hD2.symm⟩ ⟨rfl, rfl, rfl, rfl, rfl, rfl, rfl, trivial⟩ ?_
              rintro ⟨j, E⟩ ⟨hj, hE, hS⟩
              dsimp only at hj hE hS ⊢
              clear hD2
              rcases j with _ | j
              · rw [shiftDown] at hS
                refine zd ?_; refine zd ?_; refine zb (id := 14) ?_; refine Zs1 ?_; refine Zs22 ?_; refine ze ?_; refine zg ?_; refine zm rfl ?_; refine y5 ?_; refine qf ?_; refine qf ?_; refine y4 ?_
                exact N_mids E Since.refl ⟨hE, hS⟩ rfl ⟨rfl, rfl, rfl, rfl, rfl, rfl, trivial⟩
              · rw [shiftDown] at hS
                have hw8 : IntKind.i64.wrap (((j + 1 : Nat) : Int) - 1) = (j : Int) := wrap_i64 (by omega) (by omega) |>.trans (by omega)
                obtain ⟨_, q1⟩ := u_at (rest := rest) (show j + 1 < E.size by omega) (0 + (j + 1) * 1) rfl
                obtain ⟨_, q2⟩ := u_at (rest := rest) (show j < E.size by omega) (0 + (j) * 1) rfl
                cases hc : lt E[j + 1]! E[j]! with
                | false =>
                  rw [if_pos (by rw [hc]; rfl)] at hS
                  refine zd ?_; refine zd ?_; refine zb (id := 14) ?_; refine Zs1 ?_; refine Zs29 ?_; refine ze ?_; refine zg ?_; refine zu rfl ?_; refine zt ?_; refine zg ?_; refine zd ?_; refine q0 ?_; refine zd ?_; refine zd ?_; refine zy (id := 16) [(200071, [900]), (200076, [900])] mixed (by kernel_rfl) ?_; refine Zs7 ?_; refine Zs7 ?_; refine z8 (zn L _ rfl rfl rfl rfl rfl rfl rfl (by omega)) rfl ?_; refine zx (zq L (q := 900) rfl rfl rfl rfl rfl q1) rfl rfl ?_; refine Zs7 ?_; refine Zs7 ?_; refine Zs42 ?_; refine z8 (zn L _ rfl rfl rfl rfl rfl rfl rfl (by omega)) rfl ?_; refine zx (zq L (q := 900) rfl rfl rfl rfl rfl q2) rfl rfl ?_; refine z8 (zp L rfl rfl (zf rfl) rfl rfl rfl (fun u H hH _ _ => lessU' hc hH)) rfl ?_; refine Zs52 ?_; refine qb ?_; refine zg ?_; refine zu rfl ?_; refine y5 ?_; refine qf ?_; refine X_there rfl ?_; refine qf ?_; refine qf ?_; refine y4 ?_
                  exact N_mids E Since.refl ⟨hE, hS⟩ rfl ⟨rfl, rfl, rfl, rfl, rfl, rfl, trivial⟩
                | true =>
                  rw [if_neg (by rw [hc]; simp)] at hS
                  obtain ⟨_, qj⟩ := u_at (rest := rest) (show j < E.size by omega) (0 + (j) * 1) rfl
                  obtain ⟨_, qi⟩ := u_at (rest := rest) (show j + 1 < E.size by omega) (0 + (j + 1) * 1) rfl
                  have s1 := u_set (rest := rest) E[j]! (show j + 1 < E.size by omega) (0 + (j + 1) * 1) rfl
                  have b1 := u_ble (rest := rest) (show j + 1 < E.size by omega) (0 + (j + 1) * 1) rfl
                  have hz : j < (E.setIfInBounds (j + 1) E[j]!).size := by rw [Array.size_setIfInBounds]; omega
                  have s2 := u_set (rest := rest) E[j + 1]! hz (0 + (j) * 1) rfl
                  have b2 := u_ble (rest := rest) hz (0 + (j) * 1) rfl
                  rw [swp_eq] at s2
                  refine zd ?_; refine zd ?_; refine zb (id := 14) ?_; refine Zs1 ?_; refine Zs29 ?_; refine ze ?_; refine zg ?_; refine zu rfl ?_; refine zt ?_; refine zg ?_; refine zd ?_; refine q0 ?_; refine zd ?_; refine zd ?_; refine zy (id := 16) [(200071, [900]), (200076, [900])] mixed (by kernel_rfl) ?_; refine Zs7 ?_; refine Zs7 ?_; refine z8 (zn L _ rfl rfl rfl rfl rfl rfl rfl (by omega)) rfl ?_; refine zx (zq L (q := 900) rfl rfl rfl rfl rfl q1) rfl rfl ?_; refine Zs7 ?_; refine Zs7 ?_; refine Zs42 ?_; refine z8 (zn L _ rfl rfl rfl rfl rfl rfl rfl (by omega)) rfl ?_; refine zx (zq L (q := 900) rfl rfl rfl rfl rfl q2) rfl rfl ?_; refine z8 (zp L rfl rfl (zf rfl) rfl rfl rfl (fun u H hH _ _ => lessU' hc hH)) rfl ?_; refine Zs52 ?_; refine qb ?_; refine zg ?_; refine zm rfl ?_; refine zt ?_; refine zg ?_; refine zy (id := 17) [(200088, [900]), (200092, [900]), (100093, [900]), (100094, [900])] mixed (by kernel_rfl) ?_; refine Zs7 ?_; refine Zs7 ?_; refine Zs7 ?_; refine Zs7 ?_; refine Zs42 ?_; refine Zs7 ?_; refine Zs7 ?_; refine Zs42 ?_; refine z8 (zn L _ rfl rfl rfl rfl rfl rfl rfl (by omega)) rfl ?_; refine zx (zq L (q := 900) rfl rfl rfl rfl rfl qj) rfl rfl ?_; refine Zs7 ?_; refine Zs7 ?_; refine z8 (zn L _ rfl rfl rfl rfl rfl rfl rfl (by omega)) rfl ?_; refine zx (zq L (q := 900) rfl rfl rfl rfl rfl qi) rfl rfl ?_; refine z8 (zn L _ rfl rfl rfl rfl rfl rfl rfl (by omega)) rfl ?_; refine y1 (qv L (q := 900) rfl rfl rfl rfl rfl rfl b1 rfl s1) rfl ?_; refine z8 (zn L _ rfl rfl rfl rfl rfl rfl rfl (by omega)) rfl ?_; refine y1 (qv L (q := 900) rfl rfl rfl rfl rfl rfl b2 rfl s2) rfl ?_; refine qb ?_; refine qo ?_; refine zg ?_; refine zb (id := 15) ?_; refine Zs1 ?_; refine Zs19 ?_; refine Zs3 ?_; refine ze ?_
                  exact qy (x := (j + 1, E)) (j, swp E (j + 1) j) ⟨by dsimp only; omega, by dsimp only; rw [swp_size]; exact hE, hS⟩ (by dsimp only; omega) ⟨rfl, rfl, rfl, rfl, rfl, rfl, rfl, trivial⟩
            · rw [if_neg h2a] at hD2
              refine zb (id := 12) ?_; refine Zs1 ?_; refine Zs1 ?_; refine Zs19 ?_; refine Zs22 ?_; refine ze ?_; refine zg ?_; refine zm rfl ?_; refine zt ?_
              exact N_mids D1 Since.refl ⟨by omega, hD2.symm⟩ rfl ⟨rfl, rfl, rfl, rfl, rfl, rfl, trivial⟩
          · rintro G ⟨hG, hGe⟩
            rw [← hGe] at hL
            clear hD2 hGe
            by_cases h2b : e - i ≥ 2
            · rw [if_pos h2b] at hL
              obtain ⟨D3, hD3⟩ : ∃ D3, D3 = shiftUp lt e (i + 1) G := ⟨_, rfl⟩
              rw [← hD3] at hL
              refine zd ?_; refine zb (id := 18) ?_; refine Zs1 ?_; refine Zs1 ?_; refine Zs19 ?_; refine Zs29 ?_; refine ze ?_; refine zg ?_; refine zu rfl ?_; refine zd ?_; refine zb (id := 19) ?_; refine Zs1 ?_; refine Zs17 ?_; refine Zs3 ?_; refine ze ?_; refine zg ?_; refine q0 ?_
              · refine V_loop (fun t : Nat × Array Int => [(0, .is (.slice (some ⟨b, 0, none⟩) m cap)), (1, .is (.int .i64 a)), (2, .is (.int .i64 e)), (7, .is (.int .i64 i)), (8, .is (.int .i64 k)), (10, .is (.int .i64 t.1)), (900, .own (HeldR b (uC t.2 ++ rest) tyU))]) (fun t => i + 1 ≤ t.1 ∧ t.1 ≤ e ∧ t.2.size = m ∧ shiftUp lt e t.1 t.2 = D3) (fun t => e - t.1) (i + 1, G) ⟨Nat.le_refl _, by dsimp only; omega, hG, hD3.symm⟩ ⟨rfl, rfl, rfl, rfl, rfl, rfl, rfl, trivial⟩ ?_
                rintro ⟨j, E⟩ ⟨hj1, hj2, hE, hS⟩
                dsimp only at hj1 hj2 hE hS ⊢
                clear hD3
                rw [shiftUp] at hS
                by_cases hje : j < e
                · rw [if_pos hje] at hS
                  have hw8 : IntKind.i64.wrap ((j : Int) - 1) = ((j - 1 : Nat) : Int) := wrap_i64 (by omega) (by omega) |>.trans (by omega)
                  have hw9 : IntKind.i64.wrap ((j : Int) + 1) = ((j + 1 : Nat) : Int) := wrap_i64 (by omega) (by omega)
                  obtain ⟨_, q1⟩ := u_at (rest := rest) (show j < E.size by omega) (0 + (j) * 1) rfl
                  obtain ⟨_, q2⟩ := u_at (rest := rest) (show j - 1 < E.size by omega) (0 + (j - 1) * 1) rfl
                  cases hc : lt E[j]! E[j - 1]! with
                  | false =>
                    rw [if_pos (by rw [hc]; rfl)] at hS
                    refine zd ?_; refine zd ?_; refine zb (id := 20) ?_; refine Zs1 ?_; refine Zs1 ?_; refine Zs10 ?_; refine ze ?_; refine zg ?_; refine zu rfl ?_; refine zt ?_; refine zg ?_; refine zd ?_; refine q0 ?_; refine zd ?_; refine zd ?_; refine zy (id := 22) [(200109, [900]), (200114, [900])] mixed (by kernel_rfl) ?_; refine Zs7 ?_; refine Zs7 ?_; refine z8 (zn L _ rfl rfl rfl rfl rfl rfl rfl (by omega)) rfl ?_; refine zx (zq L (q := 900) rfl rfl rfl rfl rfl q1) rfl rfl ?_; refine Zs7 ?_; refine Zs7 ?_; refine Zs42 ?_; refine z8 (zn L _ rfl rfl rfl rfl rfl rfl rfl (by omega)) rfl ?_; refine zx (zq L (q := 900) rfl rfl rfl rfl rfl q2) rfl rfl ?_; refine z8 (zp L rfl rfl (zf rfl) rfl rfl rfl (fun u H hH _ _ => lessU' hc hH)) rfl ?_; refine Zs52 ?_; refine qb ?_; refine zg ?_; refine zu rfl ?_; refine y5 ?_; refine qf ?_; refine X_there rfl ?_; refine qf ?_; refine qf ?_; refine y4 ?_; refine qo ?_; refine zg ?_; refine zb (id := 4) ?_; refine Zs1 ?_; refine Zs17 ?_; refine Zs3 ?_; refine ze ?_
                    exact qy (x := ((k, i0), D)) ((k + 1, i), E) ⟨by dsimp only; omega, by dsimp only; omega, by dsimp only; omega, hE, by dsimp only; rw [hs', hS]; exact hL⟩ (by dsimp only; omega) ⟨rfl, rfl, rfl, rfl, rfl, rfl, trivial⟩
                  | true =>
                    rw [if_neg (by rw [hc]; simp)] at hS
                    obtain ⟨_, qj⟩ := u_at (rest := rest) (show j - 1 < E.size by omega) (0 + (j - 1) * 1) rfl
                    obtain ⟨_, qi⟩ := u_at (rest := rest) (show j < E.size by omega) (0 + (j) * 1) rfl
                    have s1 := u_set (rest := rest) E[j - 1]! (show j < E.size by omega) (0 + (j) * 1) rfl
                    have b1 := u_ble (rest := rest) (show j < E.size by omega) (0 + (j) * 1) rfl
                    have hz : j - 1 < (E.setIfInBounds (j) E[j - 1]!).size := by rw [Array.size_setIfInBounds]; omega
                    have s2 := u_set (rest := rest) E[j]! hz (0 + (j - 1) * 1) rfl
                    have b2 := u_ble (rest := rest) hz (0 + (j - 1) * 1) rfl
                    rw [swp_eq] at s2
                    refine zd ?_; refine zd ?_; refine zb (id := 20) ?_; refine Zs1 ?_; refine Zs1 ?_; refine Zs10 ?_; refine ze ?_; refine zg ?_; refine zu rfl ?_; refine zt ?_; refine zg ?_; refine zd ?_; refine q0 ?_; refine zd ?_; refine zd ?_; refine zy (id := 22) [(200109, [900]), (200114, [900])] mixed (by kernel_rfl) ?_; refine Zs7 ?_; refine Zs7 ?_; refine z8 (zn L _ rfl rfl rfl rfl rfl rfl rfl (by omega)) rfl ?_; refine zx (zq L (q := 900) rfl rfl rfl rfl rfl q1) rfl rfl ?_; refine Zs7 ?_; refine Zs7 ?_; refine Zs42 ?_; refine z8 (zn L _ rfl rfl rfl rfl rfl rfl rfl (by omega)) rfl ?_; refine zx (zq L (q := 900) rfl rfl rfl rfl rfl q2) rfl rfl ?_; refine z8 (zp L rfl rfl (zf rfl) rfl rfl rfl (fun u H hH _ _ => lessU' hc hH)) rfl ?_; refine Zs52 ?_; refine qb ?_; refine zg ?_; refine zm rfl ?_; refine zt ?_; refine zg ?_; refine zy (id := 23) [(200126, [900]), (200130, [900]), (100131, [900]), (100132, [900])] mixed (by kernel_rfl) ?_; refine Zs7 ?_; refine Zs7 ?_; refine Zs7 ?_; refine Zs7 ?_; refine Zs42 ?_; refine Zs7 ?_; refine Zs7 ?_; refine Zs42 ?_; refine z8 (zn L _ rfl rfl rfl rfl rfl rfl rfl (by omega)) rfl ?_; refine zx (zq L (q := 900) rfl rfl rfl rfl rfl qj) rfl rfl ?_; refine Zs7 ?_; refine Zs7 ?_; refine z8 (zn L _ rfl rfl rfl rfl rfl rfl rfl (by omega)) rfl ?_; refine zx (zq L (q := 900) rfl rfl rfl rfl rfl qi) rfl rfl ?_; refine z8 (zn L _ rfl rfl rfl rfl rfl rfl rfl (by omega)) rfl ?_; refine y1 (qv L (q := 900) rfl rfl rfl rfl rfl rfl b1 rfl s1) rfl ?_; refine z8 (zn L _ rfl rfl rfl rfl rfl rfl rfl (by omega)) rfl ?_; refine y1 (qv L (q := 900) rfl rfl rfl rfl rfl rfl b2 rfl s2) rfl ?_; refine qb ?_; refine qo ?_; refine zg ?_; refine zb (id := 21) ?_; refine Zs1 ?_; refine Zs17 ?_; refine Zs3 ?_; refine ze ?_
                    exact qy (x := (j, E)) (j + 1, swp E j (j - 1)) ⟨by dsimp only; omega, by dsimp only; omega, by dsimp only; rw [swp_size]; exact hE, hS⟩ (by dsimp only; omega) ⟨rfl, rfl, rfl, rfl, rfl, rfl, rfl, trivial⟩
                · rw [if_neg hje] at hS
                  refine zd ?_; refine zd ?_; refine zb (id := 20) ?_; refine Zs1 ?_; refine Zs1 ?_; refine Zs8 ?_; refine ze ?_; refine zg ?_; refine zm rfl ?_; refine y5 ?_; refine qf ?_; refine qf ?_; refine y4 ?_; refine qo ?_; refine zg ?_; refine zb (id := 4) ?_; refine Zs1 ?_; refine Zs17 ?_; refine Zs3 ?_; refine ze ?_
                  exact qy (x := ((k, i0), D)) ((k + 1, i), E) ⟨by dsimp only; omega, by dsimp only; omega, by dsimp only; omega, hE, by dsimp only; rw [hs', hS]; exact hL⟩ (by dsimp only; omega) ⟨rfl, rfl, rfl, rfl, rfl, rfl, trivial⟩
            · rw [if_neg h2b] at hL
              refine zd ?_; refine zb (id := 18) ?_; refine Zs1 ?_; refine Zs1 ?_; refine Zs19 ?_; refine Zs22 ?_; refine ze ?_; refine zg ?_; refine zm rfl ?_; refine zt ?_; refine qo ?_; refine zg ?_; refine zb (id := 4) ?_; refine Zs1 ?_; refine Zs17 ?_; refine Zs3 ?_; refine ze ?_
              exact qy (x := ((k, i0), D)) ((k + 1, i), G) ⟨by dsimp only; omega, by dsimp only; omega, by dsimp only; omega, hG, by dsimp only; rw [hs']; exact hL⟩ (by dsimp only; omega) ⟨rfl, rfl, rfl, rfl, rfl, rfl, trivial⟩
  · obtain rfl : k = 5 := by omega
    have hL' : (D, false) = X := hL
    rw [← hL']
    refine zd ?_; refine zd ?_; refine zb (id := 3) ?_; refine Zs1 ?_; refine Zs8 ?_; refine ze ?_; refine zg ?_; refine zm rfl ?_; refine y5 ?_; refine qf ?_; refine qf ?_; refine y4 ?_; refine zg ?_; refine zd ?_; refine zb (id := 24) ?_; refine Zs3 ?_; refine ze ?_; refine zg ?_
    exact V_retX L 900 (r := GHeld b _ tyU) (rs := [.tmp 6]) rfl (fun _ _ h => h) Since.refl rfl rfl (fun _ => rfl)
end Go.V.So
namespace Go.V.So
open Go.Proofs Go.RowKit Go.V Go.Sort
abbrev tyX : TypeId := 178
attribute [local irreducible] V N X VO Par StepOK Has Ret RetL RetO RetG RetX Src
set_option maxRecDepth 20000 in
theorem next_ret {x b : Nat} (hx : x < 18446744073709551616) {w : World} {B : Heap} {C : Nat → Prop} (hB : B.Le (hp w))
    (hr : (GHeld b [.int .u64 x] tyX).P B w C) (hC : ∀ k, C k → k < w.heap.size ∧ B k = none) :
    RetX Try.prog 107 [.pointer (some ⟨b, 0, none⟩)] w B C (GHeld b [.int .u64 (xorNextN x : Nat)] tyX) (.int .u64 (xorNextN x : Nat)) := by
  obtain ⟨X1, h1⟩ : ∃ X1 : Nat, X1 = x ^^^ (x * 8192 % 18446744073709551616) := ⟨_, rfl⟩
  obtain ⟨X2, h2⟩ : ∃ X2 : Nat, X2 = X1 ^^^ (X1 / 128) := ⟨_, rfl⟩
  obtain ⟨X3, h3⟩ : ∃ X3 : Nat, X3 = X2 ^^^ (X2 * 131072 % 18446744073709551616) := ⟨_, rfl⟩
  have l1 : X1 < 18446744073709551616 := by rw [h1]; exact Nat.xor_lt_two_pow (n := 64) (by omega) (by omega)
  have l2 : X2 < 18446744073709551616 := by rw [h2]; exact Nat.xor_lt_two_pow (n := 64) (by omega) (by omega)
  have l3 : X3 < 18446744073709551616 := by rw [h3]; exact Nat.xor_lt_two_pow (n := 64) (by omega) (by omega)
  have hv : xorNextN x = X3 := by unfold xorNextN; simp only []; rw [← h1, ← h2, ← h3]
  have s1 : IntKind.u64.wrap ((x : Int) * 2 ^ min (13 : Int).toNat IntKind.u64.bits) = ((x * 8192 % 18446744073709551616 : Nat) : Int) := by
    rw [IntKind.wrap_u64, show ((2 : Int) ^ min (13 : Int).toNat IntKind.u64.bits) = 8192 from by decide]; omega
  have s2 : (X1 : Int).fdiv (2 ^ min (7 : Int).toNat IntKind.u64.bits) = ((X1 / 128 : Nat) : Int) := by
    rw [show ((2 : Int) ^ min (7 : Int).toNat IntKind.u64.bits) = 128 from by decide, Int.fdiv_eq_ediv_of_nonneg _ (by omega)]; omega
  have s3 : IntKind.u64.wrap ((X2 : Int) * 2 ^ min (17 : Int).toNat IntKind.u64.bits) = ((X2 * 131072 % 18446744073709551616 : Nat) : Int) := by
    rw [IntKind.wrap_u64, show ((2 : Int) ^ min (17 : Int).toNat IntKind.u64.bits) = 131072 from by decide]; omega
  have x1 : bits .xor .u64 (x : Int) ((x * 8192 % 18446744073709551616 : Nat) : Int) = (X1 : Int) := by rw [bits_xor_u64_nat _ _ hx (by omega), h1]
  have x2 : bits .xor .u64 (X1 : Int) ((X1 / 128 : Nat) : Int) = (X2 : Int) := by rw [bits_xor_u64_nat _ _ l1 (by omega), h2]
  have x3 : bits .xor .u64 (X2 : Int) ((X2 * 131072 % 18446744073709551616 : Nat) : Int) = (X3 : Int) := by rw [bits_xor_u64_nat _ _ l2 (by omega), h3]
  rw [hv]
  clear hv h1 h2 h3
  unfold RetX
  refine V_enterG 900 (GHeld b [.int .u64 x] tyX) Try.func107 rfl Try.ntmps107 (Nat.le_of_ble_eq_true rfl) hB hr hC ?_
  rw [gheld_res]
  refine zd ?_; refine zb (id := 0) ?_; refine Zs3 ?_; refine ze ?_; refine zg ?_; refine zd ?_; refine zy (id := 1) [(200005, [900]), (200008, [900]), (100011, [900])] mixed (by kernel_rfl) ?_; refine Zs7 ?_; refine Zs70 ?_; refine zx (zq L (q := 900) rfl rfl rfl rfl rfl rfl) rfl rfl ?_; refine Zs7 ?_; refine Zs70 ?_; refine zx (zq L (q := 900) rfl rfl rfl rfl rfl rfl) rfl rfl ?_; refine z8 (ok_shl rfl rfl rfl rfl (by decide) s1) rfl ?_; refine z8 (ok_xor rfl rfl rfl rfl x1) rfl ?_; refine Zs70 ?_; refine y1 (qv L (q := 900) rfl rfl rfl rfl rfl rfl rfl rfl rfl) rfl ?_; refine qb ?_; refine zg ?_; refine zd ?_; refine zy (id := 2) [(200014, [900]), (200017, [900]), (100020, [900])] mixed (by kernel_rfl) ?_; refine Zs7 ?_; refine Zs70 ?_; refine zx (zq L (q := 900) rfl rfl rfl rfl rfl rfl) rfl rfl ?_; refine Zs7 ?_; refine Zs70 ?_; refine zx (zq L (q := 900) rfl rfl rfl rfl rfl rfl) rfl rfl ?_; refine z8 (ok_shr rfl rfl rfl rfl (by decide) s2) rfl ?_; refine z8 (ok_xor rfl rfl rfl rfl x2) rfl ?_; refine Zs70 ?_; refine y1 (qv L (q := 900) rfl rfl rfl rfl rfl rfl rfl rfl rfl) rfl ?_; refine qb ?_; refine zg ?_; refine zd ?_; refine zy (id := 3) [(200023, [900]), (200026, [900]), (100029, [900])] mixed (by kernel_rfl) ?_; refine Zs7 ?_; refine Zs70 ?_; refine zx (zq L (q := 900) rfl rfl rfl rfl rfl rfl) rfl rfl ?_; refine Zs7 ?_; refine Zs70 ?_; refine zx (zq L (q := 900) rfl rfl rfl rfl rfl rfl) rfl rfl ?_; refine z8 (ok_shl rfl rfl rfl rfl (by decide) s3) rfl ?_; refine z8 (ok_xor rfl rfl rfl rfl x3) rfl ?_; refine Zs70 ?_; refine y1 (qv L (q := 900) rfl rfl rfl rfl rfl rfl rfl rfl rfl) rfl ?_; refine qb ?_; refine zg ?_; refine zd ?_; refine zb (id := 4) ?_; refine Zs1 ?_; refine z7 (ok_nil rfl rfl rfl) rfl ?_; refine vo_stepR (zq L (q := 900) rfl rfl rfl rfl rfl rfl) ?_; refine Zs3 ?_; refine ze ?_; refine zg ?_
  exact V_retX L 900 (r := GHeld b _ tyX) (rs := [.tmp 2]) rfl (fun _ _ h => h) Since.refl rfl rfl (fun _ => rfl)
end Go.V.So
namespace Go.V.So
open Go.Proofs Go.RowKit Go.V Go.Sort
attribute [local irreducible] V N X VO Par StepOK Has Ret RetL RetO RetG RetX Src
set_option maxRecDepth 20000 in
theorem bitslen_ret {n : Nat} (hn : n < 18446744073709551616) {w : World} {B : Heap} (hB : B.Le (hp w)) : Ret Try.prog 79 [.int .u64 n] w B (fun v _ => v = .int .i64 (bitsLen n)) := by
  refine y6 Try.func79 rfl Try.ntmps79 (Nat.le_of_ble_eq_true rfl) hB ?_
  refine zd ?_; refine zb (id := 0) ?_; refine Zs3 ?_; refine ze ?_; refine zg ?_; refine zd ?_; refine zm rfl ?_; refine zt ?_; refine zg ?_; refine zd ?_; refine zb (id := 2) ?_; refine Zs1 ?_; refine z7 (zp L rfl rfl (zf rfl) rfl rfl rfl (fun u H hH _ _ => Ret.of_same hH (Try.bits_Len64 (n : Int) u (by omega) (by omega)))) rfl ?_; refine Zs3 ?_; refine ze ?_; refine zg ?_
  refine qe L (rs := [.tmp 2]) rfl (fun _ _ h => h) Since.refl fun u H hH hle => ?_
  rw [Int.toNat_natCast, bitLen_eq n hn]
  rfl
theorem npot_ret {n : Nat} (hn : n ≤ 100000) {w : World} {B : Heap} (hB : B.Le (hp w)) : Ret Try.prog 106 [.int .i64 n] w B (fun v _ => v = .int .u64 (1 <<< bitsLen n : Nat)) := by
  have hb : bitsLen n ≤ 17 := (bitsLen_le_iff n 17).2 (by omega)
  have hp2 : (2 : Nat) ^ bitsLen n ≤ 2 ^ 17 := Nat.pow_le_pow_right (by omega) hb
  have hmin : min ((bitsLen n : Nat) : Int).toNat IntKind.u64.bits = bitsLen n := by
    rw [Int.toNat_natCast]
    have : IntKind.u64.bits = 64 := by decide
    omega
  have s1 : IntKind.u64.wrap ((1 : Int) * 2 ^ min ((bitsLen n : Nat) : Int).toNat IntKind.u64.bits) = ((1 <<< bitsLen n : Nat) : Int) := by
    rw [hmin, Nat.shiftLeft_eq, Nat.one_mul, Int.one_mul, Int.natCast_pow]
    have e2 : ((2 : Nat) : Int) ^ bitsLen n = ((2 ^ bitsLen n : Nat) : Int) := (Int.natCast_pow 2 _).symm
    rw [show ((2 : Int) ^ bitsLen n) = ((2 : Nat) : Int) ^ bitsLen n from rfl, e2]
    have hp3 : 2 ^ bitsLen n ≤ 131072 := hp2
    clear hp2 hmin e2
    generalize 2 ^ bitsLen n = M at *
    exact wrap_u64 (by omega) (by omega)
  have hc : IntKind.u64.wrap (n : Int) = (n : Int) := wrap_u64 (by omega) (by omega)
  refine y6 Try.func106 rfl Try.ntmps106 (Nat.le_of_ble_eq_true rfl) hB ?_
  refine zd ?_; refine zb (id := 0) ?_; refine Zs3 ?_; refine ze ?_; refine zg ?_; refine zd ?_; refine zb (id := 1) ?_; refine Zs1 ?_; refine z7 (ok_conv rfl rfl rfl cv3_148.1 cv3_148.2 (wrap_u64 (by omega) (by omega))) rfl ?_; refine z7 (zp L rfl rfl (zf rfl) rfl rfl rfl (fun u H hH _ _ => bitslen_ret (by omega) hH)) rfl ?_; refine z7 (ok_shl rfl rfl rfl rfl (by omega) s1) rfl ?_; refine Zs3 ?_; refine ze ?_; refine zg ?_
  refine qe L (rs := [.tmp 2]) rfl (fun _ _ h => h) Since.refl fun u H hH hle => ?_
  rfl
set_option maxHeartbeats 2000000 in
set_option maxRecDepth 20000 in
theorem brk_ret {d : Array Int} {rest : List Value} {b m cap a e : Nat} (hab : a ≤ e) (he : e ≤ d.size) (hm : d.size = m) (hm1 : m ≤ 100000) {w : World} {B : Heap} {C : Nat → Prop} (hB : B.Le (hp w))
    (hr : (GHeld b (uC d ++ rest) tyU).P B w C) (hC : ∀ k, C k → k < w.heap.size ∧ B k = none) :
    RetG Try.prog 91 [.slice (some ⟨b, 0, none⟩) m cap, .int .i64 a, .int .i64 e] w B C (GHeld b (uC (breakPatterns d a e) ++ rest) tyU) := by
  unfold RetG
  refine V_enterG 900 (GHeld b (uC d ++ rest) tyU) Try.func91 rfl Try.ntmps91 (Nat.le_of_ble_eq_true rfl) hB hr hC ?_
  rw [gheld_res]
  obtain ⟨Ln, rfl⟩ : ∃ Ln, e = a + Ln := ⟨e - a, by omega⟩
  have hw0 : IntKind.i64.wrap (((a + Ln : Nat) : Int) - (a : Int)) = (Ln : Int) := wrap_i64 (by omega) (by omega) |>.trans (by omega)
  by_cases h8 : 8 ≤ Ln
  · have hX := breakPatterns_eq d a Ln h8
    obtain ⟨M, hM⟩ : ∃ M, M = 1 <<< bitsLen Ln := ⟨_, rfl⟩
    have hb17 : bitsLen Ln ≤ 17 := (bitsLen_le_iff Ln 17).2 (by omega)
    have hMp : 1 ≤ M ∧ M ≤ 131072 := by
      rw [hM, Nat.shiftLeft_eq, Nat.one_mul]
      exact ⟨Nat.one_le_two_pow, Nat.pow_le_pow_right (by omega) hb17⟩
    have hM2 : M ≤ 2 * Ln := by
      rw [hM, Nat.shiftLeft_eq, Nat.one_mul]
      exact two_pow_bitsLen_le (by omega)
    obtain ⟨I0, hI0⟩ : ∃ I0, I0 = a + Ln / 4 * 2 - 1 := ⟨_, rfl⟩
    rw [← hM, ← hI0] at hX
    have hc1 : IntKind.u64.wrap (Ln : Int) = (Ln : Int) := wrap_u64 (by omega) (by omega)
    have et : ((Ln : Nat) : Int).tdiv 4 = ((Ln / 4 : Nat) : Int) := by
      rw [Int.tdiv_eq_ediv_of_nonneg (by omega)]
      omega
    have hq : IntKind.i64.wrap (((Ln : Nat) : Int).tdiv 4) = ((Ln / 4 : Nat) : Int) := by rw [et]; exact wrap_i64 (by omega) (by omega)
    have hw1 : IntKind.i64.wrap (((Ln / 4 : Nat) : Int) * 2) = ((Ln / 4 * 2 : Nat) : Int) := wrap_i64 (by omega) (by omega) |>.trans (by omega)
    have hw2 : IntKind.i64.wrap ((a : Int) + ((Ln / 4 * 2 : Nat) : Int)) = ((a + Ln / 4 * 2 : Nat) : Int) := wrap_i64 (by omega) (by omega) |>.trans (by omega)
    have hw3 : IntKind.i64.wrap (((a + Ln / 4 * 2 : Nat) : Int) - 1) = (I0 : Int) := wrap_i64 (by omega) (by omega) |>.trans (by omega)
    have hw4 : IntKind.i64.wrap (((a + Ln / 4 * 2 : Nat) : Int) + 1) = ((I0 + 2 : Nat) : Int) := wrap_i64 (by omega) (by omega) |>.trans (by omega)
    have hM1 : IntKind.u64.wrap ((M : Int) - 1) = ((M - 1 : Nat) : Int) := wrap_u64 (by omega) (by omega) |>.trans (by omega)
    have hln : (UInt64.ofNat Ln).toNat = Ln := by
      rw [UInt64.toNat_ofNat']
      exact Nat.mod_eq_of_lt (by omega)
    refine zd ?_; refine zb (id := 0) ?_; refine Zs1 ?_; refine Zs1 ?_; refine Zs19 ?_; refine Zs3 ?_; refine ze ?_; refine zg ?_; refine zd ?_; refine zb (id := 1) ?_; refine Zs1 ?_; refine Zs29 ?_; refine ze ?_; refine zg ?_; refine zu rfl ?_; refine zd ?_; refine zb (id := 2) ?_; refine Zs1 ?_; refine z7 (ok_conv rfl rfl rfl cv3_178.1 cv3_178.2 (wrap_u64 (by omega) (by omega))) rfl ?_; refine Zs36 ?_; refine Zs13 ?_; refine ze ?_; refine zg ?_; refine zd ?_
    refine V_hold 7 901 rfl fun br => ?_
    refine zb (id := 3) ?_; refine Zs1 ?_; refine z7 (zp L rfl rfl (zf rfl) rfl rfl rfl (fun u H hH _ _ => hM ▸ npot_ret (n := Ln) (by omega) hH)) rfl ?_; refine Zs3 ?_; refine ze ?_; refine zg ?_; refine zd ?_; refine zb (id := 4) ?_; refine Zs1 ?_; refine Zs1 ?_; refine Zs27 ?_; refine Zs30 ?_; refine Zs17 ?_; refine Zs19 ?_; refine Zs3 ?_; refine ze ?_; refine zg ?_; refine q0 ?_
    refine V_loop (fun s : Nat × (UInt64 × Array Int) => [(0, .is (.slice (some ⟨b, 0, none⟩) m cap)), (1, .is (.int .i64 a)), (6, .is (.int .i64 Ln)), (7, .is (.pointer (some ⟨br, 0, none⟩))), (8, .is (.int .u64 M)), (9, .is (.int .i64 (I0 + s.1 : Nat))), (900, .own (HeldR b (uC s.2.2 ++ rest) tyU)), (901, .own (HeldR br [.int .u64 s.2.1.toNat] tyX))]) (fun s => s.1 ≤ 3 ∧ s.2.2.size = m ∧ bpRest a Ln M I0 (3 - s.1) s.1 s.2 = breakPatterns d a (a + Ln)) (fun s => 3 - s.1) (0, (UInt64.ofNat Ln, d)) ⟨by dsimp only; omega, hm, hX.symm⟩ ⟨rfl, rfl, rfl, rfl, rfl, rfl, rfl, by dsimp only; rw [hln]; rfl, trivial⟩ ?_
    rintro ⟨t, ⟨r, D⟩⟩ ⟨ht3, hD, hst⟩
    dsimp only at ht3 hD hst ⊢
    have hrl : r.toNat < 18446744073709551616 := UInt64.toNat_lt r
    by_cases ht : t < 3
    · obtain ⟨o1, ho1⟩ : ∃ o1, o1 = xorNextN r.toNat &&& (M - 1) := ⟨_, rfl⟩
      have ho1l : o1 ≤ M - 1 := by rw [ho1]; exact Nat.and_le_right
      have hand : bits .and .u64 ((xorNextN r.toNat : Nat) : Int) ((M - 1 : Nat) : Int) = (o1 : Int) := by rw [bits_and_u64_nat _ _ (xorNextN_lt _ hrl) (by omega), ho1]
      have hcv : IntKind.i64.wrap (o1 : Int) = (o1 : Int) := wrap_i64 (by omega) (by omega)
      have hwt : IntKind.i64.wrap (((I0 + t : Nat) : Int) + 1) = ((I0 + (t + 1) : Nat) : Int) := wrap_i64 (by omega) (by omega) |>.trans (by omega)
      by_cases hoL : Ln ≤ o1
      · have hw5 : IntKind.i64.wrap ((o1 : Int) - (Ln : Int)) = ((o1 - Ln : Nat) : Int) := wrap_i64 (by omega) (by omega) |>.trans (by omega)
        have hw6 : IntKind.i64.wrap ((a : Int) + ((o1 - Ln : Nat) : Int)) = ((a + (o1 - Ln) : Nat) : Int) := wrap_i64 (by omega) (by omega)
        have ho : (if (xorNext r).toNat &&& (M - 1) ≥ Ln then ((xorNext r).toNat &&& (M - 1)) - Ln else (xorNext r).toNat &&& (M - 1)) = o1 - Ln := by rw [xorNext_toNat, ← ho1, if_pos hoL]
        obtain ⟨_, qj⟩ := u_at (rest := rest) (show a + (o1 - Ln) < D.size by omega) (0 + (a + (o1 - Ln)) * 1) rfl
        obtain ⟨_, qi⟩ := u_at (rest := rest) (show I0 + t < D.size by omega) (0 + (I0 + t) * 1) rfl
        have s1 := u_set (rest := rest) D[a + (o1 - Ln)]! (show I0 + t < D.size by omega) (0 + (I0 + t) * 1) rfl
        have b1 := u_ble (rest := rest) (show I0 + t < D.size by omega) (0 + (I0 + t) * 1) rfl
        have hz : a + (o1 - Ln) < (D.setIfInBounds (I0 + t) D[a + (o1 - Ln)]!).size := by rw [Array.size_setIfInBounds]; omega
        have s2 := u_set (rest := rest) D[I0 + t]! hz (0 + (a + (o1 - Ln)) * 1) rfl
        have b2 := u_ble (rest := rest) hz (0 + (a + (o1 - Ln)) * 1) rfl
        rw [swp_eq] at s2
        refine zd ?_; refine zd ?_; refine zb (id := 5) ?_; refine Zs1 ?_; refine Zs1 ?_; refine Zs1 ?_; refine Zs27 ?_; refine Zs30 ?_; refine Zs17 ?_; refine Zs17 ?_; refine Zs58 ?_; refine ze ?_; refine zg ?_; refine zu rfl ?_; refine zt ?_; refine zg ?_; refine zd ?_; refine q0 ?_; refine zd ?_; refine zb (id := 7) ?_; refine qd (ok_callXG L 901 (GHeld br [.int .u64 (xorNextN r.toNat : Nat)] tyX) (.int .u64 (xorNextN r.toNat : Nat)) (r := GHeld br [.int .u64 r.toNat] tyX) rfl rfl rfl rfl rfl (fun u H C hH _ hr hC => next_ret hrl hH hr hC)) ?_; refine Zs1 ?_; refine Zs19 ?_; refine z7 (ok_and rfl rfl rfl rfl hand) rfl ?_; refine z7 (ok_conv rfl rfl rfl cv148_3.1 cv148_3.2 (wrap_i64 (by omega) (by omega))) rfl ?_; refine Zs3 ?_; refine ze ?_; refine zg ?_; refine zd ?_; refine zd ?_; refine zb (id := 8) ?_; refine Zs1 ?_; refine Zs1 ?_; refine Zs29 ?_; refine ze ?_; refine zg ?_; refine zu rfl ?_; refine zb (id := 9) ?_; refine Zs1 ?_; refine Zs1 ?_; refine Zs19 ?_; refine Zs3 ?_; refine ze ?_; refine zg ?_; refine zy (id := 10) [(200058, [900]), (200062, [900]), (100063, [900]), (100064, [900])] mixed (by kernel_rfl) ?_; refine Zs7 ?_; refine Zs7 ?_; refine Zs7 ?_; refine Zs7 ?_; refine Zs7 ?_; refine Zs28 ?_; refine Zs7 ?_; refine Zs7 ?_; refine Zs7 ?_; refine Zs28 ?_; refine z8 (zn L _ rfl rfl rfl rfl rfl rfl rfl (by omega)) rfl ?_; refine zx (zq L (q := 900) rfl rfl rfl rfl rfl qj) rfl rfl ?_; refine Zs7 ?_; refine Zs7 ?_; refine z8 (zn L _ rfl rfl rfl rfl rfl rfl rfl (by omega)) rfl ?_; refine zx (zq L (q := 900) rfl rfl rfl rfl rfl qi) rfl rfl ?_; refine z8 (zn L _ rfl rfl rfl rfl rfl rfl rfl (by omega)) rfl ?_; refine y1 (qv L (q := 900) rfl rfl rfl rfl rfl rfl b1 rfl s1) rfl ?_; refine z8 (zn L _ rfl rfl rfl rfl rfl rfl rfl (by omega)) rfl ?_; refine y1 (qv L (q := 900) rfl rfl rfl rfl rfl rfl b2 rfl s2) rfl ?_; refine qb ?_; refine qo ?_; refine zg ?_; refine zb (id := 6) ?_; refine Zs1 ?_; refine Zs17 ?_; refine Zs3 ?_; refine ze ?_
        exact qy (x := (t, (r, D))) (t + 1, (xorNext r, swp D (I0 + t) (a + (o1 - Ln)))) ⟨by dsimp only; omega, by dsimp only; rw [swp_size]; exact hD, by dsimp only; rw [← hst, bp_step a Ln M I0 t r D ((o1 - Ln)) ht ho]⟩ (by dsimp only; omega) ⟨rfl, rfl, rfl, rfl, rfl, rfl, rfl, by dsimp only; rw [xorNext_toNat]; rfl, trivial⟩
      · have hw6 : IntKind.i64.wrap ((a : Int) + (o1 : Int)) = ((a + o1 : Nat) : Int) := wrap_i64 (by omega) (by omega)
        have ho : (if (xorNext r).toNat &&& (M - 1) ≥ Ln then ((xorNext r).toNat &&& (M - 1)) - Ln else (xorNext r).toNat &&& (M - 1)) = o1 := by rw [xorNext_toNat, ← ho1, if_neg (by omega)]
        obtain ⟨_, qj⟩ := u_at (rest := rest) (show a + o1 < D.size by omega) (0 + (a + o1) * 1) rfl
        obtain ⟨_, qi⟩ := u_at (rest := rest) (show I0 + t < D.size by omega) (0 + (I0 + t) * 1) rfl
        have s1 := u_set (rest := rest) D[a + o1]! (show I0 + t < D.size by omega) (0 + (I0 + t) * 1) rfl
        have b1 := u_ble (rest := rest) (show I0 + t < D.size by omega) (0 + (I0 + t) * 1) rfl
        have hz : a + o1 < (D.setIfInBounds (I0 + t) D[a + o1]!).size := by rw [Array.size_setIfInBounds]; omega
        have s2 := u_set (rest := rest) D[I0 + t]! hz (0 + (a + o1) * 1) rfl
        have b2 := u_ble (rest := rest) hz (0 + (a + o1) * 1) rfl
        rw [swp_eq] at s2
        refine zd ?_; refine zd ?_; refine zb (id := 5) ?_; refine Zs1 ?_; refine Zs1 ?_; refine Zs1 ?_; refine Zs27 ?_; refine Zs30 ?_; refine Zs17 ?_; refine Zs17 ?_; refine Zs58 ?_; refine ze ?_; refine zg ?_; refine zu rfl ?_; refine zt ?_; refine zg ?_; refine zd ?_; refine q0 ?_; refine zd ?_; refine zb (id := 7) ?_; refine qd (ok_callXG L 901 (GHeld br [.int .u64 (xorNextN r.toNat : Nat)] tyX) (.int .u64 (xorNextN r.toNat : Nat)) (r := GHeld br [.int .u64 r.toNat] tyX) rfl rfl rfl rfl rfl (fun u H C hH _ hr hC => next_ret hrl hH hr hC)) ?_; refine Zs1 ?_; refine Zs19 ?_; refine z7 (ok_and rfl rfl rfl rfl hand) rfl ?_; refine z7 (ok_conv rfl rfl rfl cv148_3.1 cv148_3.2 (wrap_i64 (by omega) (by omega))) rfl ?_; refine Zs3 ?_; refine ze ?_; refine zg ?_; refine zd ?_; refine zd ?_; refine zb (id := 8) ?_; refine Zs1 ?_; refine Zs1 ?_; refine Zs22 ?_; refine ze ?_; refine zg ?_; refine zm rfl ?_; refine zt ?_; refine zg ?_; refine zy (id := 10) [(200058, [900]), (200062, [900]), (100063, [900]), (100064, [900])] mixed (by kernel_rfl) ?_; refine Zs7 ?_; refine Zs7 ?_; refine Zs7 ?_; refine Zs7 ?_; refine Zs7 ?_; refine Zs28 ?_; refine Zs7 ?_; refine Zs7 ?_; refine Zs7 ?_; refine Zs28 ?_; refine z8 (zn L _ rfl rfl rfl rfl rfl rfl rfl (by omega)) rfl ?_; refine zx (zq L (q := 900) rfl rfl rfl rfl rfl qj) rfl rfl ?_; refine Zs7 ?_; refine Zs7 ?_; refine z8 (zn L _ rfl rfl rfl rfl rfl rfl rfl (by omega)) rfl ?_; refine zx (zq L (q := 900) rfl rfl rfl rfl rfl qi) rfl rfl ?_; refine z8 (zn L _ rfl rfl rfl rfl rfl rfl rfl (by omega)) rfl ?_; refine y1 (qv L (q := 900) rfl rfl rfl rfl rfl rfl b1 rfl s1) rfl ?_; refine z8 (zn L _ rfl rfl rfl rfl rfl rfl rfl (by omega)) rfl ?_; refine y1 (qv L (q := 900) rfl rfl rfl rfl rfl rfl b2 rfl s2) rfl ?_; refine qb ?_; refine qo ?_; refine zg ?_; refine zb (id := 6) ?_; refine Zs1 ?_; refine Zs17 ?_; refine Zs3 ?_; refine ze ?_
        exact qy (x := (t, (r, D))) (t + 1, (xorNext r, swp D (I0 + t) (a + o1))) ⟨by dsimp only; omega, by dsimp only; rw [swp_size]; exact hD, by dsimp only; rw [← hst, bp_step a Ln M I0 t r D (o1) ht ho]⟩ (by dsimp only; omega) ⟨rfl, rfl, rfl, rfl, rfl, rfl, rfl, by dsimp only; rw [xorNext_toNat]; rfl, trivial⟩
    · obtain rfl : t = 3 := by omega
      have hst' : D = breakPatterns d a (a + Ln) := hst
      rw [hst']
      refine zd ?_; refine zd ?_; refine zb (id := 5) ?_; refine Zs1 ?_; refine Zs1 ?_; refine Zs1 ?_; refine Zs27 ?_; refine Zs30 ?_; refine Zs17 ?_; refine Zs17 ?_; refine Zs57 ?_; refine ze ?_; refine zg ?_; refine zm rfl ?_; refine y5 ?_; refine qf ?_; refine qf ?_; refine y4 ?_
      exact N_retGhost L 900 (r := GHeld b _ tyU) rfl (fun _ _ h => h) Since.refl rfl rfl
  · have : breakPatterns d a (a + Ln) = d := by unfold breakPatterns; simp only [Nat.add_sub_cancel_left]; rw [if_neg (by omega)]
    rw [this]
    refine zd ?_; refine zb (id := 0) ?_; refine Zs1 ?_; refine Zs1 ?_; refine Zs19 ?_; refine Zs3 ?_; refine ze ?_; refine zg ?_; refine zd ?_; refine zb (id := 1) ?_; refine Zs1 ?_; refine Zs22 ?_; refine ze ?_; refine zg ?_; refine zm rfl ?_; refine zt ?_
    exact N_retGhost L 900 (r := GHeld b _ tyU) rfl (fun _ _ h => h) Since.refl rfl rfl
end Go.V.So
namespace Go.V.So
open Go.Proofs Go.RowKit Go.V Go.Sort
section
variable {P : Program} {F : Fr} {B : Heap} {n : Nat} {O : Boxes} {ops : Array Oper} {ex : Exs} {κ : Kap} {Q : Exit → Act → World → Prop} {o : Oper} {os : List Oper} {d : Nat} {k : Kn}
theorem _root_.Go.V.Zs69 (h : Par P F B n O ops ex (upd κ d k) os Q) (s : StepOK P F B n ops O κ o d k := by exact ok_load1c L (qn rfl (by assumption)) rfl rfl rfl (by assumption)) (v : vd o = some d := by rfl) : Par P F B n O ops ex κ (o :: os) Q := z8 s v h
end
abbrev tyI : TypeId := 3
theorem u_get {d : Array Int} {rest : List Value} {j : Nat} (h : j < d.size) : (uC d ++ rest)[0 + j * 1]? = some (.int .u64 d[j]!) := by
  rw [Nat.zero_add, Nat.mul_one, List.getElem?_append_left (by rw [uC_len]; exact h)]
  exact uC_get h
attribute [local irreducible] V N X VO Par StepOK Has Ret RetL RetO RetG RetX Src
set_option maxRecDepth 20000 in
theorem ord2_ret {d : Array Int} {rest : List Value} {b m cap a e bs k : Nat} (ha : a < m) (he : e < m) (hm : d.size = m) (hm1 : m ≤ 100000) (hk : k ≤ 1000) {w : World} {B : Heap} {C : Nat → Prop} (hB : B.Le (hp w)) (hb : B b = some (.cells (uC d ++ rest).toArray tyU))
    (hr : (GHeld bs [.int .i64 k] tyI).P B w C) (hC : ∀ k, C k → k < w.heap.size ∧ B k = none) :
    RetX Try.prog 111 [.slice (some ⟨b, 0, none⟩) m cap, .int .i64 a, .int .i64 e, .pointer (some ⟨bs, 0, none⟩)] w B C (GHeld bs [.int .i64 (order2 lt d a e k).2.2] tyI) (.tuple #[.int .i64 (order2 lt d a e k).1, .int .i64 (order2 lt d a e k).2.1]) := by
  unfold RetX
  refine V_enterG 900 (GHeld bs [.int .i64 k] tyI) Try.func111 rfl Try.ntmps111 (Nat.le_of_ble_eq_true rfl) hB hr hC ?_
  rw [gheld_res]
  have g1 := u_get (rest := rest) (show a < d.size by omega)
  have g2 := u_get (rest := rest) (show e < d.size by omega)
  have hw : IntKind.i64.wrap ((k : Int) + 1) = ((k + 1 : Nat) : Int) := wrap_i64 (by omega) (by omega)
  unfold order2
  cases hc : lt d[e]! d[a]! with
  | true =>
    refine zd ?_; refine zb (id := 0) ?_; refine Zs3 ?_; refine Zs3 ?_; refine ze ?_; refine zg ?_; refine zd ?_; refine zd ?_; refine zy (id := 1) [] mixed (by kernel_rfl) ?_; refine Zs7 ?_; refine Zs7 ?_; refine z8 (zn L _ rfl rfl rfl rfl rfl rfl rfl (by omega)) rfl ?_; refine Zs69 ?_; refine Zs7 ?_; refine Zs7 ?_; refine z8 (zn L _ rfl rfl rfl rfl rfl rfl rfl (by omega)) rfl ?_; refine Zs69 ?_; refine z8 (zp L rfl rfl (zf rfl) rfl rfl rfl (fun u H hH _ _ => lessU' hc hH)) rfl ?_; refine qb ?_; refine zg ?_; refine zu rfl ?_; refine zd ?_; refine zb (id := 2) ?_; refine Zs1 ?_; refine z7 (ok_nil rfl rfl rfl) rfl ?_; refine vo_stepR (zq L (q := 900) rfl rfl rfl rfl rfl rfl) ?_; refine Zs17 ?_; refine z7 (ok_nil rfl rfl rfl) rfl ?_; refine vo_stepS (qv L (q := 900) rfl rfl rfl rfl rfl rfl rfl rfl rfl) ?_; refine ze ?_; refine zg ?_; refine zd ?_; refine zb (id := 3) ?_; refine Zs1 ?_; refine Zs1 ?_; refine Zs3 ?_; refine Zs3 ?_; refine ze ?_; refine zg ?_
    exact V_retX L 900 (r := GHeld bs _ tyI) (rs := [.tmp 8, .tmp 9]) rfl (fun _ _ h => h) Since.refl rfl rfl (fun _ => rfl)
  | false =>
    refine zd ?_; refine zb (id := 0) ?_; refine Zs3 ?_; refine Zs3 ?_; refine ze ?_; refine zg ?_; refine zd ?_; refine zd ?_; refine zy (id := 1) [] mixed (by kernel_rfl) ?_; refine Zs7 ?_; refine Zs7 ?_; refine z8 (zn L _ rfl rfl rfl rfl rfl rfl rfl (by omega)) rfl ?_; refine Zs69 ?_; refine Zs7 ?_; refine Zs7 ?_; refine z8 (zn L _ rfl rfl rfl rfl rfl rfl rfl (by omega)) rfl ?_; refine Zs69 ?_; refine z8 (zp L rfl rfl (zf rfl) rfl rfl rfl (fun u H hH _ _ => lessU' hc hH)) rfl ?_; refine qb ?_; refine zg ?_; refine zm rfl ?_; refine zt ?_; refine zg ?_; refine zd ?_; refine zb (id := 4) ?_; refine Zs1 ?_; refine Zs1 ?_; refine Zs3 ?_; refine Zs3 ?_; refine ze ?_; refine zg ?_
    exact V_retX L 900 (r := GHeld bs _ tyI) (rs := [.tmp 8, .tmp 9]) rfl (fun _ _ h => h) Since.refl rfl rfl (fun _ => rfl)
theorem ord2_lt (d : Array Int) {a e m k : Nat} (ha : a < m) (he : e < m) : (order2 lt d a e k).1 < m ∧ (order2 lt d a e k).2.1 < m ∧ (order2 lt d a e k).2.2 ≤ k + 1 := by
  unfold order2
  split
  · exact ⟨he, ha, Nat.le_refl _⟩
  · exact ⟨ha, he, Nat.le_succ _⟩
set_option maxRecDepth 20000 in
theorem med_ret {d : Array Int} {rest : List Value} {b m cap x y z bs k : Nat} (hx : x < m) (hy : y < m) (hz : z < m) (hm : d.size = m) (hm1 : m ≤ 100000) (hk : k ≤ 900) {w : World} {B : Heap} {C : Nat → Prop} (hB : B.Le (hp w)) (hb : B b = some (.cells (uC d ++ rest).toArray tyU))
    (hr : (GHeld bs [.int .i64 k] tyI).P B w C) (hC : ∀ k, C k → k < w.heap.size ∧ B k = none) :
    RetX Try.prog 109 [.slice (some ⟨b, 0, none⟩) m cap, .int .i64 x, .int .i64 y, .int .i64 z, .pointer (some ⟨bs, 0, none⟩)] w B C (GHeld bs [.int .i64 (median lt d x y z k).2] tyI) (.int .i64 (median lt d x y z k).1) := by
  unfold RetX
  refine V_enterG 900 (GHeld bs [.int .i64 k] tyI) Try.func109 rfl Try.ntmps109 (Nat.le_of_ble_eq_true rfl) hB hr hC ?_
  rw [gheld_res]
  unfold median
  dsimp only
  obtain ⟨r1, hr1⟩ : ∃ r, r = order2 lt d x y k := ⟨_, rfl⟩
  rw [← hr1]
  obtain ⟨r2, hr2⟩ : ∃ r, r = order2 lt d r1.2.1 z r1.2.2 := ⟨_, rfl⟩
  rw [← hr2]
  obtain ⟨r3, hr3⟩ : ∃ r, r = order2 lt d r1.1 r2.1 r2.2.2 := ⟨_, rfl⟩
  rw [← hr3]
  obtain ⟨a1, a2, a3⟩ := hr1 ▸ ord2_lt d (k := k) hx hy
  obtain ⟨b1, b2, b3⟩ := hr2 ▸ ord2_lt d (k := r1.2.2) a2 hz
  refine zd ?_; refine zb (id := 0) ?_; refine Zs3 ?_; refine ze ?_; refine zg ?_; refine zd ?_; refine zb (id := 1) ?_; refine Zs1 ?_; refine Zs1 ?_; refine Zs1 ?_; refine Zs1 ?_; refine qd (ok_callXG L 900 (GHeld bs [.int .i64 r1.2.2] tyI) (.tuple #[.int .i64 r1.1, .int .i64 r1.2.1]) (r := GHeld bs [.int .i64 k] tyI) rfl rfl rfl rfl rfl (fun u H C hH hle hr hC => by have h := ord2_ret (rest := rest) (cap := cap) hx hy hm hm1 (k := k) (by omega) hH (hle _ _ hb) hr hC; rw [← hr1] at h; exact h)) ?_; refine Zs1 ?_; refine Zs43 ?_; refine Zs43 ?_; refine Zs3 ?_; refine Zs3 ?_; refine ze ?_; refine zg ?_; refine zd ?_; refine zb (id := 2) ?_; refine Zs1 ?_; refine Zs1 ?_; refine Zs1 ?_; refine Zs1 ?_; refine qd (ok_callXG L 900 (GHeld bs [.int .i64 r2.2.2] tyI) (.tuple #[.int .i64 r2.1, .int .i64 r2.2.1]) (r := GHeld bs [.int .i64 r1.2.2] tyI) rfl rfl rfl rfl rfl (fun u H C hH hle hr hC => by have h := ord2_ret (rest := rest) (cap := cap) a2 hz hm hm1 (k := r1.2.2) (by omega) hH (hle _ _ hb) hr hC; rw [← hr2] at h; exact h)) ?_; refine Zs1 ?_; refine Zs43 ?_; refine Zs43 ?_; refine Zs3 ?_; refine Zs3 ?_; refine ze ?_; refine zg ?_; refine zd ?_; refine zb (id := 3) ?_; refine Zs1 ?_; refine Zs1 ?_; refine Zs1 ?_; refine Zs1 ?_; refine qd (ok_callXG L 900 (GHeld bs [.int .i64 r3.2.2] tyI) (.tuple #[.int .i64 r3.1, .int .i64 r3.2.1]) (r := GHeld bs [.int .i64 r2.2.2] tyI) rfl rfl rfl rfl rfl (fun u H C hH hle hr hC => by have h := ord2_ret (rest := rest) (cap := cap) a1 b1 hm hm1 (k := r2.2.2) (by omega) hH (hle _ _ hb) hr hC; rw [← hr3] at h; exact h)) ?_; refine Zs1 ?_; refine Zs43 ?_; refine Zs43 ?_; refine Zs3 ?_; refine Zs3 ?_; refine ze ?_; refine zg ?_; refine zd ?_; refine zb (id := 4) ?_; refine Zs1 ?_; refine Zs3 ?_; refine ze ?_; refine zg ?_
  exact V_retX L 900 (r := GHeld bs _ tyI) (rs := [.tmp 10]) rfl (fun _ _ h => h) Since.refl rfl rfl (fun _ => rfl)
theorem med_lt (d : Array Int) {x y z m k : Nat} (hx : x < m) (hy : y < m) (hz : z < m) : (median lt d x y z k).1 < m ∧ (median lt d x y z k).2 ≤ k + 3 := by
  unfold median
  dsimp only
  obtain ⟨a1, a2, a3⟩ := ord2_lt d (k := k) hx hy
  obtain ⟨b1, b2, b3⟩ := ord2_lt d (k := (order2 lt d x y k).2.2) a2 hz
  obtain ⟨c1, c2, c3⟩ := ord2_lt d (k := (order2 lt d (order2 lt d x y k).2.1 z (order2 lt d x y k).2.2).2.2) a1 b1
  exact ⟨c2, by omega⟩
set_option maxRecDepth 20000 in
theorem madj_ret {d : Array Int} {rest : List Value} {b m cap x bs k : Nat} (h1 : 1 ≤ x) (hx : x + 1 < m) (hm : d.size = m) (hm1 : m ≤ 100000) (hk : k ≤ 900) {w : World} {B : Heap} {C : Nat → Prop} (hB : B.Le (hp w)) (hb : B b = some (.cells (uC d ++ rest).toArray tyU))
    (hr : (GHeld bs [.int .i64 k] tyI).P B w C) (hC : ∀ k, C k → k < w.heap.size ∧ B k = none) :
    RetX Try.prog 108 [.slice (some ⟨b, 0, none⟩) m cap, .int .i64 x, .pointer (some ⟨bs, 0, none⟩)] w B C (GHeld bs [.int .i64 (medianAdjacent lt d x k).2] tyI) (.int .i64 (medianAdjacent lt d x k).1) := by
  unfold RetX
  refine V_enterG 900 (GHeld bs [.int .i64 k] tyI) Try.func108 rfl Try.ntmps108 (Nat.le_of_ble_eq_true rfl) hB hr hC ?_
  rw [gheld_res]
  unfold medianAdjacent
  have hw1 : IntKind.i64.wrap ((x : Int) - 1) = ((x - 1 : Nat) : Int) := wrap_i64 (by omega) (by omega) |>.trans (by omega)
  have hw2 : IntKind.i64.wrap ((x : Int) + 1) = ((x + 1 : Nat) : Int) := wrap_i64 (by omega) (by omega)
  refine zd ?_; refine zb (id := 0) ?_; refine Zs3 ?_; refine ze ?_; refine zg ?_; refine zd ?_; refine zb (id := 1) ?_; refine Zs1 ?_; refine Zs1 ?_; refine Zs19 ?_; refine Zs1 ?_; refine Zs1 ?_; refine Zs17 ?_; refine Zs1 ?_; refine qd (ok_callXG L 900 (GHeld bs [.int .i64 (median lt d (x - 1) x (x + 1) k).2] tyI) (.int .i64 (median lt d (x - 1) x (x + 1) k).1) (r := GHeld bs [.int .i64 k] tyI) rfl rfl rfl rfl rfl (fun u H C hH hle hr hC => med_ret (rest := rest) (cap := cap) (by omega) (by omega) (by omega) hm hm1 hk hH (hle _ _ hb) hr hC)) ?_; refine Zs3 ?_; refine ze ?_; refine zg ?_
  exact V_retX L 900 (r := GHeld bs _ tyI) (rs := [.tmp 6]) rfl (fun _ _ h => h) Since.refl rfl rfl (fun _ => rfl)
end Go.V.So
namespace Go.V.So
open Go.Proofs Go.RowKit Go.V Go.Sort
def hintZ : Hint → Int
  | .unknown => 0
  | .increasing => 1
  | .decreasing => 2
attribute [local irreducible] V N X VO Par StepOK Has Ret RetL RetO RetG RetX Src
set_option maxHeartbeats 1000000 in
set_option maxRecDepth 20000 in
theorem piv_ret {d : Array Int} {rest : List Value} {b m cap a e : Nat} (h12 : 12 < e - a) (he : e ≤ m) (hm : d.size = m) (hm1 : m ≤ 100000) {w : World} {B : Heap} (hB : B.Le (hp w)) (hb : B b = some (.cells (uC d ++ rest).toArray tyU)) :
    Ret Try.prog 92 [.slice (some ⟨b, 0, none⟩) m cap, .int .i64 a, .int .i64 e] w B (fun v _ => v = .tuple #[.int .i64 (choosePivot lt d a e).1, .int .i64 (hintZ (choosePivot lt d a e).2)]) := by
  obtain ⟨Ln, rfl⟩ : ∃ Ln, e = a + Ln := ⟨e - a, by omega⟩
  rw [Nat.add_sub_cancel_left] at h12
  unfold choosePivot
  rw [Nat.add_sub_cancel_left]
  dsimp only
  obtain ⟨q, hq⟩ : ∃ q, q = Ln / 4 := ⟨_, rfl⟩
  rw [← hq, if_pos (by omega)]
  have hw0 : IntKind.i64.wrap (((a + Ln : Nat) : Int) - (a : Int)) = (Ln : Int) := wrap_i64 (by omega) (by omega) |>.trans (by omega)
  have et : ((Ln : Nat) : Int).tdiv 4 = (q : Int) := by
    rw [Int.tdiv_eq_ediv_of_nonneg (by omega)]
    omega
  have hq1 : IntKind.i64.wrap (((Ln : Nat) : Int).tdiv 4) = (q : Int) := by rw [et]; exact wrap_i64 (by omega) (by omega)
  have m1 : IntKind.i64.wrap ((q : Int) * 1) = ((q * 1 : Nat) : Int) := wrap_i64 (by omega) (by omega) |>.trans (by omega)
  have m2 : IntKind.i64.wrap ((q : Int) * 2) = ((q * 2 : Nat) : Int) := wrap_i64 (by omega) (by omega) |>.trans (by omega)
  have m3 : IntKind.i64.wrap ((q : Int) * 3) = ((q * 3 : Nat) : Int) := wrap_i64 (by omega) (by omega) |>.trans (by omega)
  have p1 : IntKind.i64.wrap ((a : Int) + ((q * 1 : Nat) : Int)) = ((a + q * 1 : Nat) : Int) := wrap_i64 (by omega) (by omega) |>.trans (by omega)
  have p2 : IntKind.i64.wrap ((a : Int) + ((q * 2 : Nat) : Int)) = ((a + q * 2 : Nat) : Int) := wrap_i64 (by omega) (by omega) |>.trans (by omega)
  have p3 : IntKind.i64.wrap ((a : Int) + ((q * 3 : Nat) : Int)) = ((a + q * 3 : Nat) : Int) := wrap_i64 (by omega) (by omega) |>.trans (by omega)
  refine y6 Try.func92 rfl Try.ntmps92 (Nat.le_of_ble_eq_true rfl) hB ?_
  refine zd ?_; refine zb (id := 0) ?_; refine Zs3 ?_; refine Zs3 ?_; refine ze ?_; refine zg ?_; refine zd ?_; refine zb (id := 1) ?_; refine Zs1 ?_; refine Zs1 ?_; refine Zs19 ?_; refine Zs3 ?_; refine ze ?_; refine zg ?_; refine zd ?_; refine zb (id := 2) ?_; refine Zs36 ?_; refine ze ?_; refine zg ?_; refine zd ?_
  refine V_hold 9 901 rfl fun bs => ?_
  by_cases h50 : Ln ≥ 50
  · rw [if_pos h50]
    obtain ⟨r1, hr1⟩ : ∃ r, r = medianAdjacent lt d (a + q * 1) 0 := ⟨_, rfl⟩
    rw [← hr1]
    obtain ⟨r2, hr2⟩ : ∃ r, r = medianAdjacent lt d (a + q * 2) r1.2 := ⟨_, rfl⟩
    rw [← hr2]
    obtain ⟨r3, hr3⟩ : ∃ r, r = medianAdjacent lt d (a + q * 3) r2.2 := ⟨_, rfl⟩
    rw [← hr3]
    obtain ⟨r4, hr4⟩ : ∃ r, r = median lt d r1.1 r2.1 r3.1 r3.2 := ⟨_, rfl⟩
    rw [← hr4]
    obtain ⟨l1, s1⟩ : r1.1 < m ∧ r1.2 ≤ 0 + 3 := hr1 ▸ med_lt d (by omega) (by omega) (by omega)
    obtain ⟨l2, s2⟩ : r2.1 < m ∧ r2.2 ≤ r1.2 + 3 := hr2 ▸ med_lt d (by omega) (by omega) (by omega)
    obtain ⟨l3, s3⟩ : r3.1 < m ∧ r3.2 ≤ r2.2 + 3 := hr3 ▸ med_lt d (by omega) (by omega) (by omega)
    by_cases z0 : r4.2 = 0
    · rw [if_pos z0]
      refine zb (id := 3) ?_; refine Zs1 ?_; refine Zs1 ?_; refine Zs27 ?_; refine Zs30 ?_; refine Zs17 ?_; refine Zs3 ?_; refine ze ?_; refine zg ?_; refine zd ?_; refine zb (id := 4) ?_; refine Zs1 ?_; refine Zs1 ?_; refine Zs27 ?_; refine Zs30 ?_; refine Zs17 ?_; refine Zs3 ?_; refine ze ?_; refine zg ?_; refine zd ?_; refine zb (id := 5) ?_; refine Zs1 ?_; refine Zs1 ?_; refine Zs27 ?_; refine Zs30 ?_; refine Zs17 ?_; refine Zs3 ?_; refine ze ?_; refine zg ?_; refine zd ?_; refine zd ?_; refine zb (id := 6) ?_; refine Zs1 ?_; refine Zs29 ?_; refine ze ?_; refine zg ?_; refine zu rfl ?_; refine zd ?_; refine zd ?_; refine zb (id := 7) ?_; refine Zs1 ?_; refine Zs29 ?_; refine ze ?_; refine zg ?_; refine zu rfl ?_; refine zd ?_; refine zb (id := 8) ?_; refine Zs1 ?_; refine Zs1 ?_; refine qd (ok_callXG L 901 (GHeld bs [.int .i64 r1.2] tyI) (.int .i64 r1.1) (r := GHeld bs [.int .i64 0] tyI) rfl rfl rfl rfl rfl (fun u H C hH hle hr hC => by have h := madj_ret (rest := rest) (cap := cap) (d := d) (x := a + q * 1) (k := 0) (by omega) (by omega) hm hm1 (by omega) hH (hle _ _ hb) hr hC; rw [← hr1] at h; exact h)) ?_; refine Zs3 ?_; refine ze ?_; refine zg ?_; refine zd ?_; refine zb (id := 9) ?_; refine Zs1 ?_; refine Zs1 ?_; refine qd (ok_callXG L 901 (GHeld bs [.int .i64 r2.2] tyI) (.int .i64 r2.1) (r := GHeld bs [.int .i64 r1.2] tyI) rfl rfl rfl rfl rfl (fun u H C hH hle hr hC => by have h := madj_ret (rest := rest) (cap := cap) (d := d) (x := a + q * 2) (k := r1.2) (by omega) (by omega) hm hm1 (by omega) hH (hle _ _ hb) hr hC; rw [← hr2] at h; exact h)) ?_; refine Zs3 ?_; refine ze ?_; refine zg ?_; refine zb (id := 10) ?_; refine Zs1 ?_; refine Zs1 ?_; refine qd (ok_callXG L 901 (GHeld bs [.int .i64 r3.2] tyI) (.int .i64 r3.1) (r := GHeld bs [.int .i64 r2.2] tyI) rfl rfl rfl rfl rfl (fun u H C hH hle hr hC => by have h := madj_ret (rest := rest) (cap := cap) (d := d) (x := a + q * 3) (k := r2.2) (by omega) (by omega) hm hm1 (by omega) hH (hle _ _ hb) hr hC; rw [← hr3] at h; exact h)) ?_; refine Zs3 ?_; refine ze ?_; refine zg ?_; refine zb (id := 11) ?_; refine Zs1 ?_; refine Zs1 ?_; refine Zs1 ?_; refine Zs1 ?_; refine qd (ok_callXG L 901 (GHeld bs [.int .i64 r4.2] tyI) (.int .i64 r4.1) (r := GHeld bs [.int .i64 r3.2] tyI) rfl rfl rfl rfl rfl (fun u H C hH hle hr hC => by have h := med_ret (rest := rest) (cap := cap) (d := d) (x := r1.1) (y := r2.1) (z := r3.1) (k := r3.2) (by omega) (by omega) (by omega) hm hm1 (by omega) hH (hle _ _ hb) hr hC; rw [← hr4] at h; exact h)) ?_; refine Zs3 ?_; refine ze ?_; refine zg ?_; refine zd ?_; refine zb (id := 12) ?_; refine vo_stepR (zq L (q := 901) rfl rfl rfl rfl rfl rfl) ?_; refine ze ?_; refine zg ?_; refine q0 ?_; refine zd ?_; refine zb (id := 14) ?_; refine Zs18 ?_; refine Zs3 ?_; refine ze ?_; refine zg ?_; refine zu rfl ?_; refine zd ?_; refine zb (id := 15) ?_; refine Zs1 ?_; refine Zs3 ?_; refine Zs3 ?_; refine ze ?_; refine zg ?_
      refine qe L (rs := [.tmp 6, .tmp 7]) rfl (fun _ _ h => h) Since.refl fun u H hH hle => ?_
      rfl
    · rw [if_neg z0]
      by_cases z12 : r4.2 = 12
      · rw [if_pos z12]
        refine zb (id := 3) ?_; refine Zs1 ?_; refine Zs1 ?_; refine Zs27 ?_; refine Zs30 ?_; refine Zs17 ?_; refine Zs3 ?_; refine ze ?_; refine zg ?_; refine zd ?_; refine zb (id := 4) ?_; refine Zs1 ?_; refine Zs1 ?_; refine Zs27 ?_; refine Zs30 ?_; refine Zs17 ?_; refine Zs3 ?_; refine ze ?_; refine zg ?_; refine zd ?_; refine zb (id := 5) ?_; refine Zs1 ?_; refine Zs1 ?_; refine Zs27 ?_; refine Zs30 ?_; refine Zs17 ?_; refine Zs3 ?_; refine ze ?_; refine zg ?_; refine zd ?_; refine zd ?_; refine zb (id := 6) ?_; refine Zs1 ?_; refine Zs29 ?_; refine ze ?_; refine zg ?_; refine zu rfl ?_; refine zd ?_; refine zd ?_; refine zb (id := 7) ?_; refine Zs1 ?_; refine Zs29 ?_; refine ze ?_; refine zg ?_; refine zu rfl ?_; refine zd ?_; refine zb (id := 8) ?_; refine Zs1 ?_; refine Zs1 ?_; refine qd (ok_callXG L 901 (GHeld bs [.int .i64 r1.2] tyI) (.int .i64 r1.1) (r := GHeld bs [.int .i64 0] tyI) rfl rfl rfl rfl rfl (fun u H C hH hle hr hC => by have h := madj_ret (rest := rest) (cap := cap) (d := d) (x := a + q * 1) (k := 0) (by omega) (by omega) hm hm1 (by omega) hH (hle _ _ hb) hr hC; rw [← hr1] at h; exact h)) ?_; refine Zs3 ?_; refine ze ?_; refine zg ?_; refine zd ?_; refine zb (id := 9) ?_; refine Zs1 ?_; refine Zs1 ?_; refine qd (ok_callXG L 901 (GHeld bs [.int .i64 r2.2] tyI) (.int .i64 r2.1) (r := GHeld bs [.int .i64 r1.2] tyI) rfl rfl rfl rfl rfl (fun u H C hH hle hr hC => by have h := madj_ret (rest := rest) (cap := cap) (d := d) (x := a + q * 2) (k := r1.2) (by omega) (by omega) hm hm1 (by omega) hH (hle _ _ hb) hr hC; rw [← hr2] at h; exact h)) ?_; refine Zs3 ?_; refine ze ?_; refine zg ?_; refine zb (id := 10) ?_; refine Zs1 ?_; refine Zs1 ?_; refine qd (ok_callXG L 901 (GHeld bs [.int .i64 r3.2] tyI) (.int .i64 r3.1) (r := GHeld bs [.int .i64 r2.2] tyI) rfl rfl rfl rfl rfl (fun u H C hH hle hr hC => by have h := madj_ret (rest := rest) (cap := cap) (d := d) (x := a + q * 3) (k := r2.2) (by omega) (by omega) hm hm1 (by omega) hH (hle _ _ hb) hr hC; rw [← hr3] at h; exact h)) ?_; refine Zs3 ?_; refine ze ?_; refine zg ?_; refine zb (id := 11) ?_; refine Zs1 ?_; refine Zs1 ?_; refine Zs1 ?_; refine Zs1 ?_; refine qd (ok_callXG L 901 (GHeld bs [.int .i64 r4.2] tyI) (.int .i64 r4.1) (r := GHeld bs [.int .i64 r3.2] tyI) rfl rfl rfl rfl rfl (fun u H C hH hle hr hC => by have h := med_ret (rest := rest) (cap := cap) (d := d) (x := r1.1) (y := r2.1) (z := r3.1) (k := r3.2) (by omega) (by omega) (by omega) hm hm1 (by omega) hH (hle _ _ hb) hr hC; rw [← hr4] at h; exact h)) ?_; refine Zs3 ?_; refine ze ?_; refine zg ?_; refine zd ?_; refine zb (id := 12) ?_; refine vo_stepR (zq L (q := 901) rfl rfl rfl rfl rfl rfl) ?_; refine ze ?_; refine zg ?_; refine q0 ?_; refine zd ?_; refine zb (id := 14) ?_; refine Zs14 ?_; refine Zs3 ?_; refine ze ?_; refine zg ?_; refine zm rfl ?_; refine zd ?_; refine zb (id := 16) ?_; refine Zs18 ?_; refine Zs3 ?_; refine ze ?_; refine zg ?_; refine zu rfl ?_; refine zd ?_; refine zb (id := 17) ?_; refine Zs1 ?_; refine Zs3 ?_; refine Zs3 ?_; refine ze ?_; refine zg ?_
        refine qe L (rs := [.tmp 6, .tmp 7]) rfl (fun _ _ h => h) Since.refl fun u H hH hle => ?_
        rfl
      · rw [if_neg z12]
        refine zb (id := 3) ?_; refine Zs1 ?_; refine Zs1 ?_; refine Zs27 ?_; refine Zs30 ?_; refine Zs17 ?_; refine Zs3 ?_; refine ze ?_; refine zg ?_; refine zd ?_; refine zb (id := 4) ?_; refine Zs1 ?_; refine Zs1 ?_; refine Zs27 ?_; refine Zs30 ?_; refine Zs17 ?_; refine Zs3 ?_; refine ze ?_; refine zg ?_; refine zd ?_; refine zb (id := 5) ?_; refine Zs1 ?_; refine Zs1 ?_; refine Zs27 ?_; refine Zs30 ?_; refine Zs17 ?_; refine Zs3 ?_; refine ze ?_; refine zg ?_; refine zd ?_; refine zd ?_; refine zb (id := 6) ?_; refine Zs1 ?_; refine Zs29 ?_; refine ze ?_; refine zg ?_; refine zu rfl ?_; refine zd ?_; refine zd ?_; refine zb (id := 7) ?_; refine Zs1 ?_; refine Zs29 ?_; refine ze ?_; refine zg ?_; refine zu rfl ?_; refine zd ?_; refine zb (id := 8) ?_; refine Zs1 ?_; refine Zs1 ?_; refine qd (ok_callXG L 901 (GHeld bs [.int .i64 r1.2] tyI) (.int .i64 r1.1) (r := GHeld bs [.int .i64 0] tyI) rfl rfl rfl rfl rfl (fun u H C hH hle hr hC => by have h := madj_ret (rest := rest) (cap := cap) (d := d) (x := a + q * 1) (k := 0) (by omega) (by omega) hm hm1 (by omega) hH (hle _ _ hb) hr hC; rw [← hr1] at h; exact h)) ?_; refine Zs3 ?_; refine ze ?_; refine zg ?_; refine zd ?_; refine zb (id := 9) ?_; refine Zs1 ?_; refine Zs1 ?_; refine qd (ok_callXG L 901 (GHeld bs [.int .i64 r2.2] tyI) (.int .i64 r2.1) (r := GHeld bs [.int .i64 r1.2] tyI) rfl rfl rfl rfl rfl (fun u H C hH hle hr hC => by have h := madj_ret (rest := rest) (cap := cap) (d := d) (x := a + q * 2) (k := r1.2) (by omega) (by omega) hm hm1 (by omega) hH (hle _ _ hb) hr hC; rw [← hr2] at h; exact h)) ?_; refine Zs3 ?_; refine ze ?_; refine zg ?_; refine zb (id := 10) ?_; refine Zs1 ?_; refine Zs1 ?_; refine qd (ok_callXG L 901 (GHeld bs [.int .i64 r3.2] tyI) (.int .i64 r3.1) (r := GHeld bs [.int .i64 r2.2] tyI) rfl rfl rfl rfl rfl (fun u H C hH hle hr hC => by have h := madj_ret (rest := rest) (cap := cap) (d := d) (x := a + q * 3) (k := r2.2) (by omega) (by omega) hm hm1 (by omega) hH (hle _ _ hb) hr hC; rw [← hr3] at h; exact h)) ?_; refine Zs3 ?_; refine ze ?_; refine zg ?_; refine zb (id := 11) ?_; refine Zs1 ?_; refine Zs1 ?_; refine Zs1 ?_; refine Zs1 ?_; refine qd (ok_callXG L 901 (GHeld bs [.int .i64 r4.2] tyI) (.int .i64 r4.1) (r := GHeld bs [.int .i64 r3.2] tyI) rfl rfl rfl rfl rfl (fun u H C hH hle hr hC => by have h := med_ret (rest := rest) (cap := cap) (d := d) (x := r1.1) (y := r2.1) (z := r3.1) (k := r3.2) (by omega) (by omega) (by omega) hm hm1 (by omega) hH (hle _ _ hb) hr hC; rw [← hr4] at h; exact h)) ?_; refine Zs3 ?_; refine ze ?_; refine zg ?_; refine zd ?_; refine zb (id := 12) ?_; refine vo_stepR (zq L (q := 901) rfl rfl rfl rfl rfl rfl) ?_; refine ze ?_; refine zg ?_; refine q0 ?_; refine zd ?_; refine zb (id := 14) ?_; refine Zs14 ?_; refine Zs3 ?_; refine ze ?_; refine zg ?_; refine zm rfl ?_; refine zd ?_; refine zb (id := 16) ?_; refine Zs14 ?_; refine Zs3 ?_; refine ze ?_; refine zg ?_; refine zm rfl ?_; refine zd ?_; refine zb (id := 13) ?_; refine Zs1 ?_; refine Zs3 ?_; refine Zs3 ?_; refine ze ?_; refine zg ?_
        refine qe L (rs := [.tmp 6, .tmp 7]) rfl (fun _ _ h => h) Since.refl fun u H hH hle => ?_
        rfl
  · rw [if_neg h50]
    obtain ⟨r4, hr4⟩ : ∃ r, r = median lt d (a + q * 1) (a + q * 2) (a + q * 3) 0 := ⟨_, rfl⟩
    rw [← hr4]
    by_cases z0 : r4.2 = 0
    · rw [if_pos z0]
      refine zb (id := 3) ?_; refine Zs1 ?_; refine Zs1 ?_; refine Zs27 ?_; refine Zs30 ?_; refine Zs17 ?_; refine Zs3 ?_; refine ze ?_; refine zg ?_; refine zd ?_; refine zb (id := 4) ?_; refine Zs1 ?_; refine Zs1 ?_; refine Zs27 ?_; refine Zs30 ?_; refine Zs17 ?_; refine Zs3 ?_; refine ze ?_; refine zg ?_; refine zd ?_; refine zb (id := 5) ?_; refine Zs1 ?_; refine Zs1 ?_; refine Zs27 ?_; refine Zs30 ?_; refine Zs17 ?_; refine Zs3 ?_; refine ze ?_; refine zg ?_; refine zd ?_; refine zd ?_; refine zb (id := 6) ?_; refine Zs1 ?_; refine Zs29 ?_; refine ze ?_; refine zg ?_; refine zu rfl ?_; refine zd ?_; refine zd ?_; refine zb (id := 7) ?_; refine Zs1 ?_; refine Zs22 ?_; refine ze ?_; refine zg ?_; refine zm rfl ?_; refine zt ?_; refine zg ?_; refine zb (id := 11) ?_; refine Zs1 ?_; refine Zs1 ?_; refine Zs1 ?_; refine Zs1 ?_; refine qd (ok_callXG L 901 (GHeld bs [.int .i64 r4.2] tyI) (.int .i64 r4.1) (r := GHeld bs [.int .i64 0] tyI) rfl rfl rfl rfl rfl (fun u H C hH hle hr hC => by have h := med_ret (rest := rest) (cap := cap) (d := d) (x := a + q * 1) (y := a + q * 2) (z := a + q * 3) (k := 0) (by omega) (by omega) (by omega) hm hm1 (by omega) hH (hle _ _ hb) hr hC; rw [← hr4] at h; exact h)) ?_; refine Zs3 ?_; refine ze ?_; refine zg ?_; refine zd ?_; refine zb (id := 12) ?_; refine vo_stepR (zq L (q := 901) rfl rfl rfl rfl rfl rfl) ?_; refine ze ?_; refine zg ?_; refine q0 ?_; refine zd ?_; refine zb (id := 14) ?_; refine Zs18 ?_; refine Zs3 ?_; refine ze ?_; refine zg ?_; refine zu rfl ?_; refine zd ?_; refine zb (id := 15) ?_; refine Zs1 ?_; refine Zs3 ?_; refine Zs3 ?_; refine ze ?_; refine zg ?_
      refine qe L (rs := [.tmp 6, .tmp 7]) rfl (fun _ _ h => h) Since.refl fun u H hH hle => ?_
      rfl
    · rw [if_neg z0]
      by_cases z12 : r4.2 = 12
      · rw [if_pos z12]
        refine zb (id := 3) ?_; refine Zs1 ?_; refine Zs1 ?_; refine Zs27 ?_; refine Zs30 ?_; refine Zs17 ?_; refine Zs3 ?_; refine ze ?_; refine zg ?_; refine zd ?_; refine zb (id := 4) ?_; refine Zs1 ?_; refine Zs1 ?_; refine Zs27 ?_; refine Zs30 ?_; refine Zs17 ?_; refine Zs3 ?_; refine ze ?_; refine zg ?_; refine zd ?_; refine zb (id := 5) ?_; refine Zs1 ?_; refine Zs1 ?_; refine Zs27 ?_; refine Zs30 ?_; refine Zs17 ?_; refine Zs3 ?_; refine ze ?_; refine zg ?_; refine zd ?_; refine zd ?_; refine zb (id := 6) ?_; refine Zs1 ?_; refine Zs29 ?_; refine ze ?_; refine zg ?_; refine zu rfl ?_; refine zd ?_; refine zd ?_; refine zb (id := 7) ?_; refine Zs1 ?_; refine Zs22 ?_; refine ze ?_; refine zg ?_; refine zm rfl ?_; refine zt ?_; refine zg ?_; refine zb (id := 11) ?_; refine Zs1 ?_; refine Zs1 ?_; refine Zs1 ?_; refine Zs1 ?_; refine qd (ok_callXG L 901 (GHeld bs [.int .i64 r4.2] tyI) (.int .i64 r4.1) (r := GHeld bs [.int .i64 0] tyI) rfl rfl rfl rfl rfl (fun u H C hH hle hr hC => by have h := med_ret (rest := rest) (cap := cap) (d := d) (x := a + q * 1) (y := a + q * 2) (z := a + q * 3) (k := 0) (by omega) (by omega) (by omega) hm hm1 (by omega) hH (hle _ _ hb) hr hC; rw [← hr4] at h; exact h)) ?_; refine Zs3 ?_; refine ze ?_; refine zg ?_; refine zd ?_; refine zb (id := 12) ?_; refine vo_stepR (zq L (q := 901) rfl rfl rfl rfl rfl rfl) ?_; refine ze ?_; refine zg ?_; refine q0 ?_; refine zd ?_; refine zb (id := 14) ?_; refine Zs14 ?_; refine Zs3 ?_; refine ze ?_; refine zg ?_; refine zm rfl ?_; refine zd ?_; refine zb (id := 16) ?_; refine Zs18 ?_; refine Zs3 ?_; refine ze ?_; refine zg ?_; refine zu rfl ?_; refine zd ?_; refine zb (id := 17) ?_; refine Zs1 ?_; refine Zs3 ?_; refine Zs3 ?_; refine ze ?_; refine zg ?_
        refine qe L (rs := [.tmp 6, .tmp 7]) rfl (fun _ _ h => h) Since.refl fun u H hH hle => ?_
        rfl
      · rw [if_neg z12]
        refine zb (id := 3) ?_; refine Zs1 ?_; refine Zs1 ?_; refine Zs27 ?_; refine Zs30 ?_; refine Zs17 ?_; refine Zs3 ?_; refine ze ?_; refine zg ?_; refine zd ?_; refine zb (id := 4) ?_; refine Zs1 ?_; refine Zs1 ?_; refine Zs27 ?_; refine Zs30 ?_; refine Zs17 ?_; refine Zs3 ?_; refine ze ?_; refine zg ?_; refine zd ?_; refine zb (id := 5) ?_; refine Zs1 ?_; refine Zs1 ?_; refine Zs27 ?_; refine Zs30 ?_; refine Zs17 ?_; refine Zs3 ?_; refine ze ?_; refine zg ?_; refine zd ?_; refine zd ?_; refine zb (id := 6) ?_; refine Zs1 ?_; refine Zs29 ?_; refine ze ?_; refine zg ?_; refine zu rfl ?_; refine zd ?_; refine zd ?_; refine zb (id := 7) ?_; refine Zs1 ?_; refine Zs22 ?_; refine ze ?_; refine zg ?_; refine zm rfl ?_; refine zt ?_; refine zg ?_; refine zb (id := 11) ?_; refine Zs1 ?_; refine Zs1 ?_; refine Zs1 ?_; refine Zs1 ?_; refine qd (ok_callXG L 901 (GHeld bs [.int .i64 r4.2] tyI) (.int .i64 r4.1) (r := GHeld bs [.int .i64 0] tyI) rfl rfl rfl rfl rfl (fun u H C hH hle hr hC => by have h := med_ret (rest := rest) (cap := cap) (d := d) (x := a + q * 1) (y := a + q * 2) (z := a + q * 3) (k := 0) (by omega) (by omega) (by omega) hm hm1 (by omega) hH (hle _ _ hb) hr hC; rw [← hr4] at h; exact h)) ?_; refine Zs3 ?_; refine ze ?_; refine zg ?_; refine zd ?_; refine zb (id := 12) ?_; refine vo_stepR (zq L (q := 901) rfl rfl rfl rfl rfl rfl) ?_; refine ze ?_; refine zg ?_; refine q0 ?_; refine zd ?_; refine zb (id := 14) ?_; refine Zs14 ?_; refine Zs3 ?_; refine ze ?_; refine zg ?_; refine zm rfl ?_; refine zd ?_; refine zb (id := 16) ?_; refine Zs14 ?_; refine Zs3 ?_; refine ze ?_; refine zg ?_; refine zm rfl ?_; refine zd ?_; refine zb (id := 13) ?_; refine Zs1 ?_; refine Zs3 ?_; refine Zs3 ?_; refine ze ?_; refine zg ?_
        refine qe L (rs := [.tmp 6, .tmp 7]) rfl (fun _ _ h => h) Since.refl fun u H hH hle => ?_
        rfl
end Go.V.So
namespace Go.V.So
open Go.Proofs Go.RowKit Go.V Go.Sort
theorem hintZ_two {h : Hint} : hintZ h = 2 ↔ h = .decreasing := by cases h <;> simp [hintZ]
theorem lend_uC {b : Nat} {cs : List Value} {ty : TypeId} : ∀ v H u C, (HeldR b cs ty).P v H u C → joinH H u C b = some (.cells cs.toArray ty) := fun _ _ _ _ ⟨hb, hC⟩ => (joinH_in ((hC b).2 rfl)).trans hb
attribute [local irreducible] V N X VO Par StepOK Has Ret RetL RetO RetG RetX Src
set_option maxHeartbeats 4000000 in
set_option maxRecDepth 20000 in
theorem pdq_ret : ∀ (N : Nat) {d : Array Int} {rest : List Value} {b m cap a e lim : Nat} (_ : e - a < N) (_ : a ≤ e) (_ : e ≤ m) (_ : d.size = m) (_ : m ≤ 100000) (_ : lim ≤ 1000) (_ : Below lt a e d) {w : World} {B : Heap} {C : Nat → Prop} (_ : B.Le (hp w))
    (_ : (GHeld b (uC d ++ rest) tyU).P B w C) (_ : ∀ k, C k → k < w.heap.size ∧ B k = none),
    RetG Try.prog 78 [.slice (some ⟨b, 0, none⟩) m cap, .int .i64 a, .int .i64 e, .int .i64 lim] w B C (GHeld b (uC (pdq lt d a e lim true true) ++ rest) tyU) := by
  intro N
  induction N with
  | zero => intro d rest b m cap a e lim h; omega
  | succ N ih =>
  intro d rest b m cap a e lim hN hab he hm hm1 hlim hBel w B C hB hr hC
  unfold RetG
  refine V_enterG 900 (GHeld b (uC d ++ rest) tyU) Try.func78 rfl Try.ntmps78 (Nat.le_of_ble_eq_true rfl) hB hr hC ?_
  rw [gheld_res]
  obtain ⟨X, hX⟩ : ∃ X, X = pdq lt d a e lim true true := ⟨_, rfl⟩
  rw [← hX]
  refine zd ?_; refine zb (id := 0) ?_; refine Zs3 ?_; refine ze ?_; refine zg ?_; refine zd ?_; refine zb (id := 1) ?_; refine Zs3 ?_; refine ze ?_; refine zg ?_; refine q0 ?_
  refine V_loop (fun s : ((Nat × Nat) × Nat) × ((Bool × Bool) × Array Int) => [(0, .is (.slice (some ⟨b, 0, none⟩) m cap)), (1, .is (.int .i64 s.1.1.1)), (2, .is (.int .i64 s.1.1.2)), (3, .is (.int .i64 s.1.2)), (8, .is (.bool s.2.1.1)), (9, .is (.bool s.2.1.2)), (900, .own (HeldR b (uC s.2.2 ++ rest) tyU))])
    (fun s => s.1.1.1 ≤ s.1.1.2 ∧ s.1.1.2 ≤ m ∧ s.1.1.2 - s.1.1.1 ≤ e - a ∧ s.1.2 ≤ 1000 ∧ s.2.2.size = m ∧ Below lt s.1.1.1 s.1.1.2 s.2.2 ∧ pdq lt s.2.2 s.1.1.1 s.1.1.2 s.1.2 s.2.1.1 s.2.1.2 = X) (fun s => s.1.1.2 - s.1.1.1) (((a, e), lim), ((true, true), d)) ⟨hab, he, Nat.le_refl _, hlim, hm, hBel, hX.symm⟩ ⟨rfl, rfl, rfl, rfl, rfl, rfl, rfl, trivial⟩ ?_
  rintro ⟨⟨⟨x, y⟩, l⟩, ⟨⟨wb, wp⟩, D⟩⟩ ⟨hxy, hy, hL, hl, hD, hBl, hP⟩
  dsimp only at hxy hy hL hl hD hBl hP ⊢
  clear hX hBel hm
  have hw0 : IntKind.i64.wrap ((y : Int) - (x : Int)) = ((y - x : Nat) : Int) := wrap_i64 (by omega) (by omega) |>.trans (by omega)
  by_cases h12 : y - x ≤ 12
  · rw [pdq_small h12] at hP
    rw [← hP]
    refine q0 ?_; refine zd ?_; refine zb (id := 2) ?_; refine Zs1 ?_; refine Zs1 ?_; refine Zs19 ?_; refine Zs3 ?_; refine ze ?_; refine zg ?_; refine zd ?_; refine zd ?_; refine zb (id := 3) ?_; refine Zs1 ?_; refine Zs58 ?_; refine ze ?_; refine zg ?_; refine zu rfl ?_; refine zd ?_; refine zb (id := 4) ?_; refine Zs1 ?_; refine Zs1 ?_; refine Zs1 ?_; refine qd (ok_callG L 900 (GHeld b (uC (insertionSort lt D x y) ++ rest) tyU) (r := GHeld b (uC D ++ rest) tyU) rfl rfl rfl rfl rfl (fun u H C hH _ hr hC => ins_ret hxy (by omega) hD hm1 hH hr hC)) ?_; refine ze ?_; refine zg ?_
    exact V_retGhost L 900 (r := GHeld b _ tyU) rfl (fun _ _ h => h) Since.refl rfl rfl
  · by_cases hl0 : l = 0
    · rw [pdq_heap h12 hl0] at hP
      rw [← hP]
      refine q0 ?_; refine zd ?_; refine zb (id := 2) ?_; refine Zs1 ?_; refine Zs1 ?_; refine Zs19 ?_; refine Zs3 ?_; refine ze ?_; refine zg ?_; refine zd ?_; refine zd ?_; refine zb (id := 3) ?_; refine Zs1 ?_; refine Zs57 ?_; refine ze ?_; refine zg ?_; refine zm rfl ?_; refine zt ?_; refine zg ?_; refine zd ?_; refine zd ?_; refine zb (id := 5) ?_; refine Zs1 ?_; refine Zs18 ?_; refine ze ?_; refine zg ?_; refine zu rfl ?_; refine zd ?_; refine zb (id := 6) ?_; refine Zs1 ?_; refine Zs1 ?_; refine Zs1 ?_; refine qd (ok_callG L 900 (GHeld b (uC (heapSort lt D x y) ++ rest) tyU) (r := GHeld b (uC D ++ rest) tyU) rfl rfl rfl rfl rfl (fun u H C hH _ hr hC => heap_ret (by omega) (by omega) hD hm1 hH hr hC)) ?_; refine ze ?_; refine zg ?_
      exact V_retGhost L 900 (r := GHeld b _ tyU) rfl (fun _ _ h => h) Since.refl rfl rfl
    · obtain ⟨s1, B1, hc1, s2, B2, hpv, s3, B3⟩ := rd_facts (lt := lt) (limit := l) (wb := wb) (wp := wp) swo_ltInt partialInsertionSort_holds reverseRange_holds (show x < y by omega) (show y ≤ D.size by omega) hBl
      have hlle : (rd lt D x y l wb wp).lim ≤ 1000 := Nat.le_trans rd_lim_le hl
      have hdone := fun h => pdq_done (lt := lt) (d := D) (wb := wb) (wp := wp) h12 hl0 h
      have heq := fun h1 h2 h3 => pdq_eq (lt := lt) (d := D) (wb := wb) (wp := wp) h12 hl0 h1 h2 h3
      have hleft := fun h1 h2 h3 h4 => pdq_left (lt := lt) (d := D) (wb := wb) (wp := wp) h12 hl0 h1 h2 h3 h4
      have hright := fun h1 h2 h3 h4 => pdq_right (lt := lt) (d := D) (wb := wb) (wp := wp) h12 hl0 h1 h2 h3 h4
      have hrt : wb = true → (rd lt D x y l wb wp).d1 = D ∧ (rd lt D x y l wb wp).lim = l := fun e => by subst e; exact rd_true
      have hrf : wb = false → (rd lt D x y l wb wp).d1 = breakPatterns D x y ∧ (rd lt D x y l wb wp).lim = l - 1 := fun e => by subst e; exact rd_false
      have hrc := rd_c (lt := lt) (d := D) (a := x) (b := y) (limit := l) (wb := wb) (wp := wp)
      have hde := fun h => rd_dec (lt := lt) (d := D) (a := x) (b := y) (limit := l) (wb := wb) (wp := wp) h
      have hno := fun h => rd_not (lt := lt) (d := D) (a := x) (b := y) (limit := l) (wb := wb) (wp := wp) h
      have hpy := fun h => rd_pi_yes (lt := lt) (d := D) (a := x) (b := y) (limit := l) (wb := wb) (wp := wp) h
      have hpn := fun h => rd_pi_no (lt := lt) (d := D) (a := x) (b := y) (limit := l) (wb := wb) (wp := wp) h
      rw [hP] at hdone heq hleft hright
      generalize (rd lt D x y l wb wp) = R at *
      refine q0 ?_; refine zd ?_; refine zb (id := 2) ?_; refine Zs1 ?_; refine Zs1 ?_; refine Zs19 ?_; refine Zs3 ?_; refine ze ?_; refine zg ?_; refine zd ?_; refine zd ?_; refine zb (id := 3) ?_; refine Zs1 ?_; refine Zs57 ?_; refine ze ?_; refine zg ?_; refine zm rfl ?_; refine zt ?_; refine zg ?_; refine zd ?_; refine zd ?_; refine zb (id := 5) ?_; refine Zs1 ?_; refine Zs14 ?_; refine ze ?_; refine zg ?_; refine zm rfl ?_; refine zt ?_; refine zg ?_; refine zd ?_; refine zd ?_
      refine V_meetC (fun _ : Unit => [(0, .is (.slice (some ⟨b, 0, none⟩) m cap)), (1, .is (.int .i64 x)), (2, .is (.int .i64 y)), (3, .is (.int .i64 R.lim)), (8, .is (.bool wb)), (9, .is (.bool wp)), (10, .is (.int .i64 (y - x : Nat))), (900, .own (HeldR b (uC R.d1 ++ rest) tyU))]) (fun _ => True) (fun _ => []) ?rest1 ?first1
      case first1 =>
        cases wb with
        | true =>
          obtain ⟨e1, e2⟩ := hrt rfl
          rw [e1, e2]
          refine zb (id := 7) ?_; refine Zs1 ?_; refine Zs48 ?_; refine ze ?_; refine zg ?_; refine zm rfl ?_; refine zt ?_
          exact N_mids () Since.refl trivial rfl ⟨rfl, rfl, rfl, rfl, rfl, rfl, rfl, rfl, trivial⟩
        | false =>
          obtain ⟨e1, e2⟩ := hrf rfl
          have hw1 : IntKind.i64.wrap ((l : Int) - 1) = ((l - 1 : Nat) : Int) := wrap_i64 (by omega) (by omega) |>.trans (by omega)
          rw [e1, e2]
          refine zb (id := 7) ?_; refine Zs1 ?_; refine Zs48 ?_; refine ze ?_; refine zg ?_; refine zu rfl ?_; refine zd ?_; refine zb (id := 8) ?_; refine Zs1 ?_; refine Zs1 ?_; refine Zs1 ?_; refine qd (ok_callG L 900 (GHeld b (uC (breakPatterns D x y) ++ rest) tyU) (r := GHeld b (uC D ++ rest) tyU) rfl rfl rfl rfl rfl (fun u H C hH _ hr hC => brk_ret (by omega) (by omega) hD hm1 hH hr hC)) ?_; refine ze ?_; refine zg ?_; refine zb (id := 9) ?_; refine Zs1 ?_; refine Zs19 ?_; refine Zs3 ?_; refine ze ?_
          exact N_mids () Since.refl trivial rfl ⟨rfl, rfl, rfl, rfl, rfl, rfl, rfl, rfl, trivial⟩
      intro _ _
      refine zd ?_; refine zb (id := 10) ?_; refine Zs1 ?_; refine Zs1 ?_; refine Zs1 ?_; refine vo_stepR (ok_callLendG L 900 (Φ := fun H => H b = some (.cells (uC R.d1 ++ rest).toArray tyU)) (c := .tuple #[.int .i64 R.c.1, .int .i64 (hintZ R.c.2)]) rfl rfl (zf rfl) rfl rfl rfl rfl rfl lend_uC (fun u H hH hle h1 => by rw [hrc]; exact piv_ret (by omega) hy (by omega) hm1 hH h1)) ?_; refine Zs1 ?_; refine Zs43 ?_; refine Zs43 ?_; refine Zs3 ?_; refine Zs3 ?_; refine ze ?_; refine zg ?_; refine zd ?_; refine zd ?_
      refine V_meetC (fun _ : Unit => [(0, .is (.slice (some ⟨b, 0, none⟩) m cap)), (1, .is (.int .i64 x)), (2, .is (.int .i64 y)), (3, .is (.int .i64 R.lim)), (8, .is (.bool wb)), (9, .is (.bool wp)), (10, .is (.int .i64 (y - x : Nat))), (11, .is (.int .i64 R.pivot)), (12, .is (.int .i64 (hintZ R.hint))), (900, .own (HeldR b (uC R.d2 ++ rest) tyU))]) (fun _ => True) (fun _ => []) ?rest2 ?first2
      case first2 =>
        by_cases hdec : R.c.2 = .decreasing
        · obtain ⟨e1, e2, e3⟩ := hde hdec
          have hz : hintZ R.c.2 = 2 := by rw [hdec]; rfl
          rw [e1, e2, e3]
          have w1 : IntKind.i64.wrap ((y : Int) - 1) = ((y - 1 : Nat) : Int) := wrap_i64 (by omega) (by omega) |>.trans (by omega)
          have w2 : IntKind.i64.wrap ((R.c.1 : Int) - (x : Int)) = ((R.c.1 - x : Nat) : Int) := wrap_i64 (by omega) (by omega) |>.trans (by omega)
          have w3 : IntKind.i64.wrap (((y - 1 : Nat) : Int) - ((R.c.1 - x : Nat) : Int)) = ((y - 1 - (R.c.1 - x) : Nat) : Int) := wrap_i64 (by omega) (by omega) |>.trans (by omega)
          refine zb (id := 11) ?_; refine Zs1 ?_; refine Zs18 ?_; refine ze ?_; refine zg ?_; refine zu rfl ?_; refine zd ?_; refine zb (id := 12) ?_; refine Zs1 ?_; refine Zs1 ?_; refine Zs1 ?_; refine qd (ok_callG L 900 (GHeld b (uC (reverseRange R.d1 x y) ++ rest) tyU) (r := GHeld b (uC R.d1 ++ rest) tyU) rfl rfl rfl rfl rfl (fun u H C hH _ hr hC => rev_ret (by omega) (by omega) (by omega) hm1 hH hr hC)) ?_; refine ze ?_; refine zg ?_; refine zd ?_; refine zb (id := 13) ?_; refine Zs1 ?_; refine Zs19 ?_; refine Zs1 ?_; refine Zs1 ?_; refine Zs19 ?_; refine Zs19 ?_; refine Zs3 ?_; refine ze ?_; refine zg ?_; refine zb (id := 14) ?_; refine Zs3 ?_; refine ze ?_
          exact N_mids () Since.refl trivial rfl ⟨rfl, rfl, rfl, rfl, rfl, rfl, rfl, rfl, rfl, rfl, trivial⟩
        · obtain ⟨e1, e2, e3⟩ := hno hdec
          have hz : hintZ R.c.2 ≠ 2 := fun h => hdec (hintZ_two.1 h)
          rw [e1, e2, e3]
          refine zb (id := 11) ?_; refine Zs1 ?_; refine Zs14 ?_; refine ze ?_; refine zg ?_; refine zm rfl ?_; refine zt ?_
          exact N_mids () Since.refl trivial rfl ⟨rfl, rfl, rfl, rfl, rfl, rfl, rfl, rfl, rfl, rfl, trivial⟩
      intro _ _
      refine zd (zd (V_meetC (fun _ : Unit => [(0, .is (.slice (some ⟨b, 0, none⟩) m cap)), (1, .is (.int .i64 x)), (2, .is (.int .i64 y)), (3, .is (.int .i64 R.lim)), (8, .is (.bool wb)), (9, .is (.bool wp)), (10, .is (.int .i64 (y - x : Nat))), (11, .is (.int .i64 R.pivot)), (900, .own (HeldR b (uC R.pi.1 ++ rest) tyU))]) (fun _ => R.pi.2 = false) (fun _ => []) ?rest3 ?first3))
      case first3 =>
        cases wb with
        | false =>
          have hpi := hpn rfl
          rw [hpi]
          refine zb (id := 15) ?_; refine Zs1 ?_; refine Zs1 ?_; refine Zs2 ?_; refine Zs6 ?_; refine Zs1 ?_; refine Zs2 ?_; refine Zs2 ?_; refine Zs6 ?_; refine ze ?_; refine zg ?_; refine zm rfl ?_; refine zt ?_
          exact N_mids () Since.refl rfl rfl ⟨rfl, rfl, rfl, rfl, rfl, rfl, rfl, rfl, rfl, trivial⟩
        | true =>
          cases wp with
          | false =>
            have hpi := hpn rfl
            rw [hpi]
            refine zb (id := 15) ?_; refine Zs1 ?_; refine Zs1 ?_; refine Zs1 ?_; refine Zs6 ?_; refine Zs1 ?_; refine Zs2 ?_; refine Zs2 ?_; refine Zs6 ?_; refine ze ?_; refine zg ?_; refine zm rfl ?_; refine zt ?_
            exact N_mids () Since.refl rfl rfl ⟨rfl, rfl, rfl, rfl, rfl, rfl, rfl, rfl, rfl, trivial⟩
          | true =>
            by_cases hi : R.hint = .increasing
            · have hz : hintZ R.hint = 1 := by rw [hi]; rfl
              have hpi := hpy (by rw [hi]; rfl)
              cases hb : (partialInsertionSort lt R.d2 x y).2 with
              | true =>
                rw [hdone (by rw [hpi]; exact hb)]
                refine zb (id := 15) ?_; refine Zs1 ?_; refine Zs1 ?_; refine Zs1 ?_; refine Zs6 ?_; refine Zs1 ?_; refine Zs1 ?_; refine Zs18 ?_; refine Zs6 ?_; refine ze ?_; refine zg ?_; refine zu rfl ?_; refine zd ?_; refine zb (id := 16) ?_; refine Zs1 ?_; refine Zs1 ?_; refine Zs1 ?_; refine qd (ok_callXG L 900 (GHeld b (uC R.pi.1 ++ rest) tyU) (.bool true) (r := GHeld b (uC R.d2 ++ rest) tyU) rfl rfl rfl rfl rfl (fun u H C hH hle hr hC => by have h := pins_ret (rest := rest) (cap := cap) (d := R.d2) (a := x) (e := y) (m := m) (by omega) (by omega) (by omega) hm1 hH hr hC; rw [hb, ← hpi] at h; exact h)) ?_; refine ze ?_; refine zg ?_; refine zu rfl ?_
                exact V_retGhost L 900 (r := GHeld b _ tyU) rfl (fun _ _ h => h) Since.refl rfl rfl
              | false =>
                refine zb (id := 15) ?_; refine Zs1 ?_; refine Zs1 ?_; refine Zs1 ?_; refine Zs6 ?_; refine Zs1 ?_; refine Zs1 ?_; refine Zs18 ?_; refine Zs6 ?_; refine ze ?_; refine zg ?_; refine zu rfl ?_; refine zd ?_; refine zb (id := 16) ?_; refine Zs1 ?_; refine Zs1 ?_; refine Zs1 ?_; refine qd (ok_callXG L 900 (GHeld b (uC R.pi.1 ++ rest) tyU) (.bool false) (r := GHeld b (uC R.d2 ++ rest) tyU) rfl rfl rfl rfl rfl (fun u H C hH hle hr hC => by have h := pins_ret (rest := rest) (cap := cap) (d := R.d2) (a := x) (e := y) (m := m) (by omega) (by omega) (by omega) hm1 hH hr hC; rw [hb, ← hpi] at h; exact h)) ?_; refine ze ?_; refine zg ?_; refine zm rfl ?_; refine zt ?_
                exact N_mids () Since.refl (by rw [hpi]; exact hb) rfl ⟨rfl, rfl, rfl, rfl, rfl, rfl, rfl, rfl, rfl, trivial⟩
            · have hz : hintZ R.hint ≠ 1 := fun h => by
                cases hh : R.hint with
                | unknown => rw [hh] at h; cases h
                | increasing => exact hi hh
                | decreasing => rw [hh] at h; cases h
              have hpi := hpn (by simp [hi])
              rw [hpi]
              refine zb (id := 15) ?_; refine Zs1 ?_; refine Zs1 ?_; refine Zs1 ?_; refine Zs6 ?_; refine Zs1 ?_; refine Zs1 ?_; refine Zs14 ?_; refine Zs6 ?_; refine ze ?_; refine zg ?_; refine zm rfl ?_; refine zt ?_
              exact N_mids () Since.refl rfl rfl ⟨rfl, rfl, rfl, rfl, rfl, rfl, rfl, rfl, rfl, trivial⟩
      intro _ h2
      obtain ⟨_, q2⟩ := u_at (rest := rest) (show R.pivot < R.pi.1.size by omega) (0 + (R.pivot) * 1) rfl
      by_cases hx0 : 0 < x
      · obtain ⟨_, q1⟩ := u_at (rest := rest) (show x - 1 < R.pi.1.size by omega) (0 + (x - 1) * 1) rfl
        have hw3 : IntKind.i64.wrap ((x : Int) - 1) = ((x - 1 : Nat) : Int) := wrap_i64 (by omega) (by omega) |>.trans (by omega)
        cases hc : lt R.pi.1[x - 1]! R.pi.1[R.pivot]! with
        | false =>
          obtain ⟨mid, d4, hx⟩ : ∃ mid d4, partitionEqual lt R.pi.1 x y R.pivot = (mid, d4) := ⟨_, _, rfl⟩
          obtain ⟨g1, g2, g3, g4, _⟩ := round_eq swo_ltInt (partitionEqual_holds lt) hx0 hpv.1 hpv.2 (by omega) B3 hc hx
          have hn := heq h2 (by simp [hx0, hc]) (by rw [hx]; exact ⟨g1, g2⟩)
          rw [hx] at hn
          refine zd ?_; refine zd ?_; refine zy (id := 17) [(200080, [900]), (200084, [900])] mixed (by kernel_rfl) ?_; refine Zs7 ?_; refine Zs47 ?_; refine Zs7 ?_; refine Zs7 ?_; refine Zs7 ?_; refine Zs42 ?_; refine z8 (zn L _ rfl rfl rfl rfl rfl rfl rfl (by omega)) rfl ?_; refine zx (zq L (q := 900) rfl rfl rfl rfl rfl q1) rfl rfl ?_; refine Zs7 ?_; refine Zs7 ?_; refine z8 (zn L _ rfl rfl rfl rfl rfl rfl rfl (by omega)) rfl ?_; refine zx (zq L (q := 900) rfl rfl rfl rfl rfl q2) rfl rfl ?_; refine z8 (zp L rfl rfl (zf rfl) rfl rfl rfl (fun u H hH _ _ => lessU' hc hH)) rfl ?_; refine Zs52 ?_; refine Zs33 ?_; refine qb ?_; refine zg ?_; refine zu rfl ?_; refine zd ?_; refine zb (id := 18) ?_; refine Zs1 ?_; refine Zs1 ?_; refine Zs1 ?_; refine Zs1 ?_; refine qd (ok_callXG L 900 (GHeld b (uC d4 ++ rest) tyU) (.int .i64 mid) (r := GHeld b (uC R.pi.1 ++ rest) tyU) rfl rfl rfl rfl rfl (fun u H C hH hle hr hC => by have h := peq_ret (rest := rest) (cap := cap) (d := R.pi.1) hpv.1 hpv.2 (by omega) (m := m) (by omega) hm1 hH hr hC; rw [hx] at h; exact h)) ?_; refine Zs3 ?_; refine ze ?_; refine zg ?_; refine zd ?_; refine zb (id := 19) ?_; refine Zs1 ?_; refine Zs3 ?_; refine ze ?_; refine zg ?_; refine y5 ?_; refine qf ?_; refine y4 ?_
          exact qy (x := (((x, y), l), ((wb, wp), D))) (((mid, y), R.lim), ((wb, wp), d4)) ⟨by dsimp only; omega, hy, by dsimp only; omega, hlle, by dsimp only; omega, g4, hn.symm⟩ (by dsimp only; omega) ⟨rfl, rfl, rfl, rfl, rfl, rfl, rfl, trivial⟩
        | true =>
          have h2b : (decide (x > 0) && !lt R.pi.1[x - 1]! R.pi.1[R.pivot]!) = false := by simp [hc]
          obtain ⟨mid, ap, d4, hx⟩ : ∃ mid ap d4, Go.Sort.partition lt R.pi.1 x y R.pivot = (mid, ap, d4) := ⟨_, _, _, rfl⟩
          obtain ⟨g1, g2, g3, g4, g5, gL, gR⟩ := round_part swo_ltInt (partition_holds lt) hpv.1 hpv.2 (by omega) B3 hx
          have w1 : IntKind.i64.wrap ((mid : Int) - (x : Int)) = ((mid - x : Nat) : Int) := wrap_i64 (by omega) (by omega) |>.trans (by omega)
          have w2 : IntKind.i64.wrap ((y : Int) - (mid : Int)) = ((y - mid : Nat) : Int) := wrap_i64 (by omega) (by omega) |>.trans (by omega)
          have w4 : IntKind.i64.wrap ((mid : Int) + 1) = ((mid + 1 : Nat) : Int) := wrap_i64 (by omega) (by omega)
          have et : ((y - x : Nat) : Int).tdiv 8 = (((y - x) / 8 : Nat) : Int) := by
            rw [Int.tdiv_eq_ediv_of_nonneg (by omega)]
            omega
          have w3 : IntKind.i64.wrap (((y - x : Nat) : Int).tdiv 8) = (((y - x) / 8 : Nat) : Int) := by rw [et]; exact wrap_i64 (by omega) (by omega)
          by_cases hlr : mid - x < y - mid
          · have hn := hleft h2 h2b (by rw [hx]; exact ⟨g1, g2⟩) (by rw [hx]; exact hlr)
            rw [hx] at hn
            dsimp only at hn
            obtain ⟨pL, sL⟩ := pdq_sorts lt swo_ltInt d4 x mid R.lim true true g1 (by omega) g4
            obtain ⟨LL, hLL⟩ : ∃ LL, LL = pdq lt d4 x mid R.lim true true := ⟨_, rfl⟩
            rw [← hLL] at hn pL sL
            obtain ⟨gB, _⟩ := gL LL pL sL
            have hLs : LL.size = d4.size := pL.1
            by_cases h8 : mid - x ≥ (y - x) / 8
            · rw [decide_eq_true h8] at hn
              refine zd ?_; refine zd ?_; refine zy (id := 17) [(200080, [900]), (200084, [900])] mixed (by kernel_rfl) ?_; refine Zs7 ?_; refine Zs47 ?_; refine Zs7 ?_; refine Zs7 ?_; refine Zs7 ?_; refine Zs42 ?_; refine z8 (zn L _ rfl rfl rfl rfl rfl rfl rfl (by omega)) rfl ?_; refine zx (zq L (q := 900) rfl rfl rfl rfl rfl q1) rfl rfl ?_; refine Zs7 ?_; refine Zs7 ?_; refine z8 (zn L _ rfl rfl rfl rfl rfl rfl rfl (by omega)) rfl ?_; refine zx (zq L (q := 900) rfl rfl rfl rfl rfl q2) rfl rfl ?_; refine z8 (zp L rfl rfl (zf rfl) rfl rfl rfl (fun u H hH _ _ => lessU' hc hH)) rfl ?_; refine Zs52 ?_; refine Zs33 ?_; refine qb ?_; refine zg ?_; refine zm rfl ?_; refine zt ?_; refine zg ?_; refine zd ?_; refine zb (id := 20) ?_; refine Zs1 ?_; refine Zs1 ?_; refine Zs1 ?_; refine Zs1 ?_; refine qd (ok_callXG L 900 (GHeld b (uC d4 ++ rest) tyU) (.tuple #[.int .i64 mid, .bool ap]) (r := GHeld b (uC R.pi.1 ++ rest) tyU) rfl rfl rfl rfl rfl (fun u H C hH hle hr hC => by have h := part_ret (rest := rest) (cap := cap) (d := R.pi.1) hpv.1 hpv.2 (by omega) (m := m) (by omega) hm1 hH hr hC; rw [hx] at h; exact h)) ?_; refine Zs1 ?_; refine Zs43 ?_; refine Zs43 ?_; refine Zs3 ?_; refine Zs3 ?_; refine ze ?_; refine zg ?_; refine zd ?_; refine zb (id := 21) ?_; refine Zs1 ?_; refine Zs3 ?_; refine ze ?_; refine zg ?_; refine zd ?_; refine zb (id := 22) ?_; refine Zs1 ?_; refine Zs1 ?_; refine Zs19 ?_; refine Zs1 ?_; refine Zs1 ?_; refine Zs19 ?_; refine Zs3 ?_; refine Zs3 ?_; refine ze ?_; refine zg ?_; refine zd ?_; refine zb (id := 23) ?_; refine Zs1 ?_; refine Zs27 ?_; refine Zs3 ?_; refine ze ?_; refine zg ?_; refine zd ?_; refine zb (id := 24) ?_; refine Zs1 ?_; refine Zs1 ?_; refine Zs10 ?_; refine ze ?_; refine zg ?_; refine zu rfl ?_; refine zd ?_; refine zb (id := 25) ?_; refine Zs1 ?_; refine Zs1 ?_; refine Zs29 ?_; refine Zs3 ?_; refine ze ?_; refine zg ?_; refine zd ?_; refine zb (id := 26) ?_; refine Zs1 ?_; refine Zs1 ?_; refine Zs1 ?_; refine Zs1 ?_; refine qd (ok_callG L 900 (GHeld b (uC LL ++ rest) tyU) (r := GHeld b (uC d4 ++ rest) tyU) rfl rfl rfl rfl rfl (fun u H C hH _ hr hC => by rw [hLL]; exact ih (by omega) g1 (by omega) (by omega) hm1 hlle g4 hH hr hC)) ?_; refine ze ?_; refine zg ?_; refine zb (id := 27) ?_; refine Zs1 ?_; refine Zs17 ?_; refine Zs3 ?_; refine ze ?_; refine qo ?_
              exact qy (x := (((x, y), l), ((wb, wp), D))) (((mid + 1, y), R.lim), ((true, ap), LL)) ⟨by dsimp only; omega, hy, by dsimp only; omega, hlle, by dsimp only; omega, gB, hn.symm⟩ (by dsimp only; omega) ⟨rfl, rfl, rfl, rfl, rfl, rfl, rfl, trivial⟩
            · rw [decide_eq_false h8] at hn
              refine zd ?_; refine zd ?_; refine zy (id := 17) [(200080, [900]), (200084, [900])] mixed (by kernel_rfl) ?_; refine Zs7 ?_; refine Zs47 ?_; refine Zs7 ?_; refine Zs7 ?_; refine Zs7 ?_; refine Zs42 ?_; refine z8 (zn L _ rfl rfl rfl rfl rfl rfl rfl (by omega)) rfl ?_; refine zx (zq L (q := 900) rfl rfl rfl rfl rfl q1) rfl rfl ?_; refine Zs7 ?_; refine Zs7 ?_; refine z8 (zn L _ rfl rfl rfl rfl rfl rfl rfl (by omega)) rfl ?_; refine zx (zq L (q := 900) rfl rfl rfl rfl rfl q2) rfl rfl ?_; refine z8 (zp L rfl rfl (zf rfl) rfl rfl rfl (fun u H hH _ _ => lessU' hc hH)) rfl ?_; refine Zs52 ?_; refine Zs33 ?_; refine qb ?_; refine zg ?_; refine zm rfl ?_; refine zt ?_; refine zg ?_; refine zd ?_; refine zb (id := 20) ?_; refine Zs1 ?_; refine Zs1 ?_; refine Zs1 ?_; refine Zs1 ?_; refine qd (ok_callXG L 900 (GHeld b (uC d4 ++ rest) tyU) (.tuple #[.int .i64 mid, .bool ap]) (r := GHeld b (uC R.pi.1 ++ rest) tyU) rfl rfl rfl rfl rfl (fun u H C hH hle hr hC => by have h := part_ret (rest := rest) (cap := cap) (d := R.pi.1) hpv.1 hpv.2 (by omega) (m := m) (by omega) hm1 hH hr hC; rw [hx] at h; exact h)) ?_; refine Zs1 ?_; refine Zs43 ?_; refine Zs43 ?_; refine Zs3 ?_; refine Zs3 ?_; refine ze ?_; refine zg ?_; refine zd ?_; refine zb (id := 21) ?_; refine Zs1 ?_; refine Zs3 ?_; refine ze ?_; refine zg ?_; refine zd ?_; refine zb (id := 22) ?_; refine Zs1 ?_; refine Zs1 ?_; refine Zs19 ?_; refine Zs1 ?_; refine Zs1 ?_; refine Zs19 ?_; refine Zs3 ?_; refine Zs3 ?_; refine ze ?_; refine zg ?_; refine zd ?_; refine zb (id := 23) ?_; refine Zs1 ?_; refine Zs27 ?_; refine Zs3 ?_; refine ze ?_; refine zg ?_; refine zd ?_; refine zb (id := 24) ?_; refine Zs1 ?_; refine Zs1 ?_; refine Zs10 ?_; refine ze ?_; refine zg ?_; refine zu rfl ?_; refine zd ?_; refine zb (id := 25) ?_; refine Zs1 ?_; refine Zs1 ?_; refine Zs22 ?_; refine Zs3 ?_; refine ze ?_; refine zg ?_; refine zd ?_; refine zb (id := 26) ?_; refine Zs1 ?_; refine Zs1 ?_; refine Zs1 ?_; refine Zs1 ?_; refine qd (ok_callG L 900 (GHeld b (uC LL ++ rest) tyU) (r := GHeld b (uC d4 ++ rest) tyU) rfl rfl rfl rfl rfl (fun u H C hH _ hr hC => by rw [hLL]; exact ih (by omega) g1 (by omega) (by omega) hm1 hlle g4 hH hr hC)) ?_; refine ze ?_; refine zg ?_; refine zb (id := 27) ?_; refine Zs1 ?_; refine Zs17 ?_; refine Zs3 ?_; refine ze ?_; refine qo ?_
              exact qy (x := (((x, y), l), ((wb, wp), D))) (((mid + 1, y), R.lim), ((false, ap), LL)) ⟨by dsimp only; omega, hy, by dsimp only; omega, hlle, by dsimp only; omega, gB, hn.symm⟩ (by dsimp only; omega) ⟨rfl, rfl, rfl, rfl, rfl, rfl, rfl, trivial⟩
          · have hn := hright h2 h2b (by rw [hx]; exact ⟨g1, g2⟩) (by rw [hx]; exact hlr)
            rw [hx] at hn
            dsimp only at hn
            obtain ⟨pL, sL⟩ := pdq_sorts lt swo_ltInt d4 (mid + 1) y R.lim true true (by omega) (by omega) g5
            obtain ⟨LL, hLL⟩ : ∃ LL, LL = pdq lt d4 (mid + 1) y R.lim true true := ⟨_, rfl⟩
            rw [← hLL] at hn pL sL
            obtain ⟨gB, _⟩ := gR LL pL sL
            have hLs : LL.size = d4.size := pL.1
            by_cases h8 : y - mid ≥ (y - x) / 8
            · rw [decide_eq_true h8] at hn
              refine zd ?_; refine zd ?_; refine zy (id := 17) [(200080, [900]), (200084, [900])] mixed (by kernel_rfl) ?_; refine Zs7 ?_; refine Zs47 ?_; refine Zs7 ?_; refine Zs7 ?_; refine Zs7 ?_; refine Zs42 ?_; refine z8 (zn L _ rfl rfl rfl rfl rfl rfl rfl (by omega)) rfl ?_; refine zx (zq L (q := 900) rfl rfl rfl rfl rfl q1) rfl rfl ?_; refine Zs7 ?_; refine Zs7 ?_; refine z8 (zn L _ rfl rfl rfl rfl rfl rfl rfl (by omega)) rfl ?_; refine zx (zq L (q := 900) rfl rfl rfl rfl rfl q2) rfl rfl ?_; refine z8 (zp L rfl rfl (zf rfl) rfl rfl rfl (fun u H hH _ _ => lessU' hc hH)) rfl ?_; refine Zs52 ?_; refine Zs33 ?_; refine qb ?_; refine zg ?_; refine zm rfl ?_; refine zt ?_; refine zg ?_; refine zd ?_; refine zb (id := 20) ?_; refine Zs1 ?_; refine Zs1 ?_; refine Zs1 ?_; refine Zs1 ?_; refine qd (ok_callXG L 900 (GHeld b (uC d4 ++ rest) tyU) (.tuple #[.int .i64 mid, .bool ap]) (r := GHeld b (uC R.pi.1 ++ rest) tyU) rfl rfl rfl rfl rfl (fun u H C hH hle hr hC => by have h := part_ret (rest := rest) (cap := cap) (d := R.pi.1) hpv.1 hpv.2 (by omega) (m := m) (by omega) hm1 hH hr hC; rw [hx] at h; exact h)) ?_; refine Zs1 ?_; refine Zs43 ?_; refine Zs43 ?_; refine Zs3 ?_; refine Zs3 ?_; refine ze ?_; refine zg ?_; refine zd ?_; refine zb (id := 21) ?_; refine Zs1 ?_; refine Zs3 ?_; refine ze ?_; refine zg ?_; refine zd ?_; refine zb (id := 22) ?_; refine Zs1 ?_; refine Zs1 ?_; refine Zs19 ?_; refine Zs1 ?_; refine Zs1 ?_; refine Zs19 ?_; refine Zs3 ?_; refine Zs3 ?_; refine ze ?_; refine zg ?_; refine zd ?_; refine zb (id := 23) ?_; refine Zs1 ?_; refine Zs27 ?_; refine Zs3 ?_; refine ze ?_; refine zg ?_; refine zd ?_; refine zb (id := 24) ?_; refine Zs1 ?_; refine Zs1 ?_; refine Zs8 ?_; refine ze ?_; refine zg ?_; refine zm rfl ?_; refine zd ?_; refine zb (id := 28) ?_; refine Zs1 ?_; refine Zs1 ?_; refine Zs29 ?_; refine Zs3 ?_; refine ze ?_; refine zg ?_; refine zd ?_; refine zb (id := 29) ?_; refine Zs1 ?_; refine Zs1 ?_; refine Zs17 ?_; refine Zs1 ?_; refine Zs1 ?_; refine qd (ok_callG L 900 (GHeld b (uC LL ++ rest) tyU) (r := GHeld b (uC d4 ++ rest) tyU) rfl rfl rfl rfl rfl (fun u H C hH _ hr hC => by rw [hLL]; exact ih (by omega) (by omega) hy (by omega) hm1 hlle g5 hH hr hC)) ?_; refine ze ?_; refine zg ?_; refine zb (id := 30) ?_; refine Zs1 ?_; refine Zs3 ?_; refine ze ?_; refine qo ?_
              exact qy (x := (((x, y), l), ((wb, wp), D))) (((x, mid), R.lim), ((true, ap), LL)) ⟨by dsimp only; omega, by dsimp only; omega, by dsimp only; omega, hlle, by dsimp only; omega, gB, hn.symm⟩ (by dsimp only; omega) ⟨rfl, rfl, rfl, rfl, rfl, rfl, rfl, trivial⟩
            · rw [decide_eq_false h8] at hn
              refine zd ?_; refine zd ?_; refine zy (id := 17) [(200080, [900]), (200084, [900])] mixed (by kernel_rfl) ?_; refine Zs7 ?_; refine Zs47 ?_; refine Zs7 ?_; refine Zs7 ?_; refine Zs7 ?_; refine Zs42 ?_; refine z8 (zn L _ rfl rfl rfl rfl rfl rfl rfl (by omega)) rfl ?_; refine zx (zq L (q := 900) rfl rfl rfl rfl rfl q1) rfl rfl ?_; refine Zs7 ?_; refine Zs7 ?_; refine z8 (zn L _ rfl rfl rfl rfl rfl rfl rfl (by omega)) rfl ?_; refine zx (zq L (q := 900) rfl rfl rfl rfl rfl q2) rfl rfl ?_; refine z8 (zp L rfl rfl (zf rfl) rfl rfl rfl (fun u H hH _ _ => lessU' hc hH)) rfl ?_; refine Zs52 ?_; refine Zs33 ?_; refine qb ?_; refine zg ?_; refine zm rfl ?_; refine zt ?_; refine zg ?_; refine zd ?_; refine zb (id := 20) ?_; refine Zs1 ?_; refine Zs1 ?_; refine Zs1 ?_; refine Zs1 ?_; refine qd (ok_callXG L 900 (GHeld b (uC d4 ++ rest) tyU) (.tuple #[.int .i64 mid, .bool ap]) (r := GHeld b (uC R.pi.1 ++ rest) tyU) rfl rfl rfl rfl rfl (fun u H C hH hle hr hC => by have h := part_ret (rest := rest) (cap := cap) (d := R.pi.1) hpv.1 hpv.2 (by omega) (m := m) (by omega) hm1 hH hr hC; rw [hx] at h; exact h)) ?_; refine Zs1 ?_; refine Zs43 ?_; refine Zs43 ?_; refine Zs3 ?_; refine Zs3 ?_; refine ze ?_; refine zg ?_; refine zd ?_; refine zb (id := 21) ?_; refine Zs1 ?_; refine Zs3 ?_; refine ze ?_; refine zg ?_; refine zd ?_; refine zb (id := 22) ?_; refine Zs1 ?_; refine Zs1 ?_; refine Zs19 ?_; refine Zs1 ?_; refine Zs1 ?_; refine Zs19 ?_; refine Zs3 ?_; refine Zs3 ?_; refine ze ?_; refine zg ?_; refine zd ?_; refine zb (id := 23) ?_; refine Zs1 ?_; refine Zs27 ?_; refine Zs3 ?_; refine ze ?_; refine zg ?_; refine zd ?_; refine zb (id := 24) ?_; refine Zs1 ?_; refine Zs1 ?_; refine Zs8 ?_; refine ze ?_; refine zg ?_; refine zm rfl ?_; refine zd ?_; refine zb (id := 28) ?_; refine Zs1 ?_; refine Zs1 ?_; refine Zs22 ?_; refine Zs3 ?_; refine ze ?_; refine zg ?_; refine zd ?_; refine zb (id := 29) ?_; refine Zs1 ?_; refine Zs1 ?_; refine Zs17 ?_; refine Zs1 ?_; refine Zs1 ?_; refine qd (ok_callG L 900 (GHeld b (uC LL ++ rest) tyU) (r := GHeld b (uC d4 ++ rest) tyU) rfl rfl rfl rfl rfl (fun u H C hH _ hr hC => by rw [hLL]; exact ih (by omega) (by omega) hy (by omega) hm1 hlle g5 hH hr hC)) ?_; refine ze ?_; refine zg ?_; refine zb (id := 30) ?_; refine Zs1 ?_; refine Zs3 ?_; refine ze ?_; refine qo ?_
              exact qy (x := (((x, y), l), ((wb, wp), D))) (((x, mid), R.lim), ((false, ap), LL)) ⟨by dsimp only; omega, by dsimp only; omega, by dsimp only; omega, hlle, by dsimp only; omega, gB, hn.symm⟩ (by dsimp only; omega) ⟨rfl, rfl, rfl, rfl, rfl, rfl, rfl, trivial⟩
      · have h2b : (decide (x > 0) && !lt R.pi.1[x - 1]! R.pi.1[R.pivot]!) = false := by simp [hx0]
        obtain ⟨mid, ap, d4, hx⟩ : ∃ mid ap d4, Go.Sort.partition lt R.pi.1 x y R.pivot = (mid, ap, d4) := ⟨_, _, _, rfl⟩
        obtain ⟨g1, g2, g3, g4, g5, gL, gR⟩ := round_part swo_ltInt (partition_holds lt) hpv.1 hpv.2 (by omega) B3 hx
        have w1 : IntKind.i64.wrap ((mid : Int) - (x : Int)) = ((mid - x : Nat) : Int) := wrap_i64 (by omega) (by omega) |>.trans (by omega)
        have w2 : IntKind.i64.wrap ((y : Int) - (mid : Int)) = ((y - mid : Nat) : Int) := wrap_i64 (by omega) (by omega) |>.trans (by omega)
        have w4 : IntKind.i64.wrap ((mid : Int) + 1) = ((mid + 1 : Nat) : Int) := wrap_i64 (by omega) (by omega)
        have et : ((y - x : Nat) : Int).tdiv 8 = (((y - x) / 8 : Nat) : Int) := by
          rw [Int.tdiv_eq_ediv_of_nonneg (by omega)]
          omega
        have w3 : IntKind.i64.wrap (((y - x : Nat) : Int).tdiv 8) = (((y - x) / 8 : Nat) : Int) := by rw [et]; exact wrap_i64 (by omega) (by omega)
        by_cases hlr : mid - x < y - mid
        · have hn := hleft h2 h2b (by rw [hx]; exact ⟨g1, g2⟩) (by rw [hx]; exact hlr)
          rw [hx] at hn
          dsimp only at hn
          obtain ⟨pL, sL⟩ := pdq_sorts lt swo_ltInt d4 x mid R.lim true true g1 (by omega) g4
          obtain ⟨LL, hLL⟩ : ∃ LL, LL = pdq lt d4 x mid R.lim true true := ⟨_, rfl⟩
          rw [← hLL] at hn pL sL
          obtain ⟨gB, _⟩ := gL LL pL sL
          have hLs : LL.size = d4.size := pL.1
          by_cases h8 : mid - x ≥ (y - x) / 8
          · rw [decide_eq_true h8] at hn
            refine zd ?_; refine zd ?_; refine zy (id := 17) [(200080, [900]), (200084, [900])] mixed (by kernel_rfl) ?_; refine Zs7 ?_; refine Zs60 ?_; refine Zs7 ?_; refine Zs9 ?_; refine Zs9 ?_; refine Zs9 ?_; refine Zs9 ?_; refine Zs9 ?_; refine Zs9 ?_; refine Zs9 ?_; refine Zs9 ?_; refine Zs9 ?_; refine Zs9 ?_; refine Zs9 ?_; refine Zs33 ?_; refine qb ?_; refine zg ?_; refine zm rfl ?_; refine zt ?_; refine zg ?_; refine zd ?_; refine zb (id := 20) ?_; refine Zs1 ?_; refine Zs1 ?_; refine Zs1 ?_; refine Zs1 ?_; refine qd (ok_callXG L 900 (GHeld b (uC d4 ++ rest) tyU) (.tuple #[.int .i64 mid, .bool ap]) (r := GHeld b (uC R.pi.1 ++ rest) tyU) rfl rfl rfl rfl rfl (fun u H C hH hle hr hC => by have h := part_ret (rest := rest) (cap := cap) (d := R.pi.1) hpv.1 hpv.2 (by omega) (m := m) (by omega) hm1 hH hr hC; rw [hx] at h; exact h)) ?_; refine Zs1 ?_; refine Zs43 ?_; refine Zs43 ?_; refine Zs3 ?_; refine Zs3 ?_; refine ze ?_; refine zg ?_; refine zd ?_; refine zb (id := 21) ?_; refine Zs1 ?_; refine Zs3 ?_; refine ze ?_; refine zg ?_; refine zd ?_; refine zb (id := 22) ?_; refine Zs1 ?_; refine Zs1 ?_; refine Zs19 ?_; refine Zs1 ?_; refine Zs1 ?_; refine Zs19 ?_; refine Zs3 ?_; refine Zs3 ?_; refine ze ?_; refine zg ?_; refine zd ?_; refine zb (id := 23) ?_; refine Zs1 ?_; refine Zs27 ?_; refine Zs3 ?_; refine ze ?_; refine zg ?_; refine zd ?_; refine zb (id := 24) ?_; refine Zs1 ?_; refine Zs1 ?_; refine Zs10 ?_; refine ze ?_; refine zg ?_; refine zu rfl ?_; refine zd ?_; refine zb (id := 25) ?_; refine Zs1 ?_; refine Zs1 ?_; refine Zs29 ?_; refine Zs3 ?_; refine ze ?_; refine zg ?_; refine zd ?_; refine zb (id := 26) ?_; refine Zs1 ?_; refine Zs1 ?_; refine Zs1 ?_; refine Zs1 ?_; refine qd (ok_callG L 900 (GHeld b (uC LL ++ rest) tyU) (r := GHeld b (uC d4 ++ rest) tyU) rfl rfl rfl rfl rfl (fun u H C hH _ hr hC => by rw [hLL]; exact ih (by omega) g1 (by omega) (by omega) hm1 hlle g4 hH hr hC)) ?_; refine ze ?_; refine zg ?_; refine zb (id := 27) ?_; refine Zs1 ?_; refine Zs17 ?_; refine Zs3 ?_; refine ze ?_; refine qo ?_
            exact qy (x := (((x, y), l), ((wb, wp), D))) (((mid + 1, y), R.lim), ((true, ap), LL)) ⟨by dsimp only; omega, hy, by dsimp only; omega, hlle, by dsimp only; omega, gB, hn.symm⟩ (by dsimp only; omega) ⟨rfl, rfl, rfl, rfl, rfl, rfl, rfl, trivial⟩
          · rw [decide_eq_false h8] at hn
            refine zd ?_; refine zd ?_; refine zy (id := 17) [(200080, [900]), (200084, [900])] mixed (by kernel_rfl) ?_; refine Zs7 ?_; refine Zs60 ?_; refine Zs7 ?_; refine Zs9 ?_; refine Zs9 ?_; refine Zs9 ?_; refine Zs9 ?_; refine Zs9 ?_; refine Zs9 ?_; refine Zs9 ?_; refine Zs9 ?_; refine Zs9 ?_; refine Zs9 ?_; refine Zs9 ?_; refine Zs33 ?_; refine qb ?_; refine zg ?_; refine zm rfl ?_; refine zt ?_; refine zg ?_; refine zd ?_; refine zb (id := 20) ?_; refine Zs1 ?_; refine Zs1 ?_; refine Zs1 ?_; refine Zs1 ?_; refine qd (ok_callXG L 900 (GHeld b (uC d4 ++ rest) tyU) (.tuple #[.int .i64 mid, .bool ap]) (r := GHeld b (uC R.pi.1 ++ rest) tyU) rfl rfl rfl rfl rfl (fun u H C hH hle hr hC => by have h := part_ret (rest := rest) (cap := cap) (d := R.pi.1) hpv.1 hpv.2 (by omega) (m := m) (by omega) hm1 hH hr hC; rw [hx] at h; exact h)) ?_; refine Zs1 ?_; refine Zs43 ?_; refine Zs43 ?_; refine Zs3 ?_; refine Zs3 ?_; refine ze ?_; refine zg ?_; refine zd ?_; refine zb (id := 21) ?_; refine Zs1 ?_; refine Zs3 ?_; refine ze ?_; refine zg ?_; refine zd ?_; refine zb (id := 22) ?_; refine Zs1 ?_; refine Zs1 ?_; refine Zs19 ?_; refine Zs1 ?_; refine Zs1 ?_; refine Zs19 ?_; refine Zs3 ?_; refine Zs3 ?_; refine ze ?_; refine zg ?_; refine zd ?_; refine zb (id := 23) ?_; refine Zs1 ?_; refine Zs27 ?_; refine Zs3 ?_; refine ze ?_; refine zg ?_; refine zd ?_; refine zb (id := 24) ?_; refine Zs1 ?_; refine Zs1 ?_; refine Zs10 ?_; refine ze ?_; refine zg ?_; refine zu rfl ?_; refine zd ?_; refine zb (id := 25) ?_; refine Zs1 ?_; refine Zs1 ?_; refine Zs22 ?_; refine Zs3 ?_; refine ze ?_; refine zg ?_; refine zd ?_; refine zb (id := 26) ?_; refine Zs1 ?_; refine Zs1 ?_; refine Zs1 ?_; refine Zs1 ?_; refine qd (ok_callG L 900 (GHeld b (uC LL ++ rest) tyU) (r := GHeld b (uC d4 ++ rest) tyU) rfl rfl rfl rfl rfl (fun u H C hH _ hr hC => by rw [hLL]; exact ih (by omega) g1 (by omega) (by omega) hm1 hlle g4 hH hr hC)) ?_; refine ze ?_; refine zg ?_; refine zb (id := 27) ?_; refine Zs1 ?_; refine Zs17 ?_; refine Zs3 ?_; refine ze ?_; refine qo ?_
            exact qy (x := (((x, y), l), ((wb, wp), D))) (((mid + 1, y), R.lim), ((false, ap), LL)) ⟨by dsimp only; omega, hy, by dsimp only; omega, hlle, by dsimp only; omega, gB, hn.symm⟩ (by dsimp only; omega) ⟨rfl, rfl, rfl, rfl, rfl, rfl, rfl, trivial⟩
        · have hn := hright h2 h2b (by rw [hx]; exact ⟨g1, g2⟩) (by rw [hx]; exact hlr)
          rw [hx] at hn
          dsimp only at hn
          obtain ⟨pL, sL⟩ := pdq_sorts lt swo_ltInt d4 (mid + 1) y R.lim true true (by omega) (by omega) g5
          obtain ⟨LL, hLL⟩ : ∃ LL, LL = pdq lt d4 (mid + 1) y R.lim true true := ⟨_, rfl⟩
          rw [← hLL] at hn pL sL
          obtain ⟨gB, _⟩ := gR LL pL sL
          have hLs : LL.size = d4.size := pL.1
          by_cases h8 : y - mid ≥ (y - x) / 8
          · rw [decide_eq_true h8] at hn
            refine zd ?_; refine zd ?_; refine zy (id := 17) [(200080, [900]), (200084, [900])] mixed (by kernel_rfl) ?_; refine Zs7 ?_; refine Zs60 ?_; refine Zs7 ?_; refine Zs9 ?_; refine Zs9 ?_; refine Zs9 ?_; refine Zs9 ?_; refine Zs9 ?_; refine Zs9 ?_; refine Zs9 ?_; refine Zs9 ?_; refine Zs9 ?_; refine Zs9 ?_; refine Zs9 ?_; refine Zs33 ?_; refine qb ?_; refine zg ?_; refine zm rfl ?_; refine zt ?_; refine zg ?_; refine zd ?_; refine zb (id := 20) ?_; refine Zs1 ?_; refine Zs1 ?_; refine Zs1 ?_; refine Zs1 ?_; refine qd (ok_callXG L 900 (GHeld b (uC d4 ++ rest) tyU) (.tuple #[.int .i64 mid, .bool ap]) (r := GHeld b (uC R.pi.1 ++ rest) tyU) rfl rfl rfl rfl rfl (fun u H C hH hle hr hC => by have h := part_ret (rest := rest) (cap := cap) (d := R.pi.1) hpv.1 hpv.2 (by omega) (m := m) (by omega) hm1 hH hr hC; rw [hx] at h; exact h)) ?_; refine Zs1 ?_; refine Zs43 ?_; refine Zs43 ?_; refine Zs3 ?_; refine Zs3 ?_; refine ze ?_; refine zg ?_; refine zd ?_; refine zb (id := 21) ?_; refine Zs1 ?_; refine Zs3 ?_; refine ze ?_; refine zg ?_; refine zd ?_; refine zb (id := 22) ?_; refine Zs1 ?_; refine Zs1 ?_; refine Zs19 ?_; refine Zs1 ?_; refine Zs1 ?_; refine Zs19 ?_; refine Zs3 ?_; refine Zs3 ?_; refine ze ?_; refine zg ?_; refine zd ?_; refine zb (id := 23) ?_; refine Zs1 ?_; refine Zs27 ?_; refine Zs3 ?_; refine ze ?_; refine zg ?_; refine zd ?_; refine zb (id := 24) ?_; refine Zs1 ?_; refine Zs1 ?_; refine Zs8 ?_; refine ze ?_; refine zg ?_; refine zm rfl ?_; refine zd ?_; refine zb (id := 28) ?_; refine Zs1 ?_; refine Zs1 ?_; refine Zs29 ?_; refine Zs3 ?_; refine ze ?_; refine zg ?_; refine zd ?_; refine zb (id := 29) ?_; refine Zs1 ?_; refine Zs1 ?_; refine Zs17 ?_; refine Zs1 ?_; refine Zs1 ?_; refine qd (ok_callG L 900 (GHeld b (uC LL ++ rest) tyU) (r := GHeld b (uC d4 ++ rest) tyU) rfl rfl rfl rfl rfl (fun u H C hH _ hr hC => by rw [hLL]; exact ih (by omega) (by omega) hy (by omega) hm1 hlle g5 hH hr hC)) ?_; refine ze ?_; refine zg ?_; refine zb (id := 30) ?_; refine Zs1 ?_; refine Zs3 ?_; refine ze ?_; refine qo ?_
            exact qy (x := (((x, y), l), ((wb, wp), D))) (((x, mid), R.lim), ((true, ap), LL)) ⟨by dsimp only; omega, by dsimp only; omega, by dsimp only; omega, hlle, by dsimp only; omega, gB, hn.symm⟩ (by dsimp only; omega) ⟨rfl, rfl, rfl, rfl, rfl, rfl, rfl, trivial⟩
          · rw [decide_eq_false h8] at hn
            refine zd ?_; refine zd ?_; refine zy (id := 17) [(200080, [900]), (200084, [900])] mixed (by kernel_rfl) ?_; refine Zs7 ?_; refine Zs60 ?_; refine Zs7 ?_; refine Zs9 ?_; refine Zs9 ?_; refine Zs9 ?_; refine Zs9 ?_; refine Zs9 ?_; refine Zs9 ?_; refine Zs9 ?_; refine Zs9 ?_; refine Zs9 ?_; refine Zs9 ?_; refine Zs9 ?_; refine Zs33 ?_; refine qb ?_; refine zg ?_; refine zm rfl ?_; refine zt ?_; refine zg ?_; refine zd ?_; refine zb (id := 20) ?_; refine Zs1 ?_; refine Zs1 ?_; refine Zs1 ?_; refine Zs1 ?_; refine qd (ok_callXG L 900 (GHeld b (uC d4 ++ rest) tyU) (.tuple #[.int .i64 mid, .bool ap]) (r := GHeld b (uC R.pi.1 ++ rest) tyU) rfl rfl rfl rfl rfl (fun u H C hH hle hr hC => by have h := part_ret (rest := rest) (cap := cap) (d := R.pi.1) hpv.1 hpv.2 (by omega) (m := m) (by omega) hm1 hH hr hC; rw [hx] at h; exact h)) ?_; refine Zs1 ?_; refine Zs43 ?_; refine Zs43 ?_; refine Zs3 ?_; refine Zs3 ?_; refine ze ?_; refine zg ?_; refine zd ?_; refine zb (id := 21) ?_; refine Zs1 ?_; refine Zs3 ?_; refine ze ?_; refine zg ?_; refine zd ?_; refine zb (id := 22) ?_; refine Zs1 ?_; refine Zs1 ?_; refine Zs19 ?_; refine Zs1 ?_; refine Zs1 ?_; refine Zs19 ?_; refine Zs3 ?_; refine Zs3 ?_; refine ze ?_; refine zg ?_; refine zd ?_; refine zb (id := 23) ?_; refine Zs1 ?_; refine Zs27 ?_; refine Zs3 ?_; refine ze ?_; refine zg ?_; refine zd ?_; refine zb (id := 24) ?_; refine Zs1 ?_; refine Zs1 ?_; refine Zs8 ?_; refine ze ?_; refine zg ?_; refine zm rfl ?_; refine zd ?_; refine zb (id := 28) ?_; refine Zs1 ?_; refine Zs1 ?_; refine Zs22 ?_; refine Zs3 ?_; refine ze ?_; refine zg ?_; refine zd ?_; refine zb (id := 29) ?_; refine Zs1 ?_; refine Zs1 ?_; refine Zs17 ?_; refine Zs1 ?_; refine Zs1 ?_; refine qd (ok_callG L 900 (GHeld b (uC LL ++ rest) tyU) (r := GHeld b (uC d4 ++ rest) tyU) rfl rfl rfl rfl rfl (fun u H C hH _ hr hC => by rw [hLL]; exact ih (by omega) (by omega) hy (by omega) hm1 hlle g5 hH hr hC)) ?_; refine ze ?_; refine zg ?_; refine zb (id := 30) ?_; refine Zs1 ?_; refine Zs3 ?_; refine ze ?_; refine qo ?_
            exact qy (x := (((x, y), l), ((wb, wp), D))) (((x, mid), R.lim), ((false, ap), LL)) ⟨by dsimp only; omega, by dsimp only; omega, by dsimp only; omega, hlle, by dsimp only; omega, gB, hn.symm⟩ (by dsimp only; omega) ⟨rfl, rfl, rfl, rfl, rfl, rfl, rfl, trivial⟩
end Go.V.So
namespace Go.V.So
open Go.Proofs Go.RowKit Go.V Go.Sort
attribute [local irreducible] V N X VO Par StepOK Has Ret RetL RetO RetG RetX Src
set_option maxRecDepth 20000 in
theorem sortU_ret {d : Array Int} {rest : List Value} {b m cap : Nat} (hm : d.size = m) (hm1 : m ≤ 100000) {w : World} {B : Heap} {C : Nat → Prop} (hB : B.Le (hp w))
    (hr : (GHeld b (uC d ++ rest) tyU).P B w C) (hC : ∀ k, C k → k < w.heap.size ∧ B k = none) :
    RetG Try.prog 58 [.slice (some ⟨b, 0, none⟩) m cap] w B C (GHeld b (uC (Go.Sort.sort lt d) ++ rest) tyU) := by
  unfold RetG
  refine V_enterG 900 (GHeld b (uC d ++ rest) tyU) Try.func58 rfl Try.ntmps58 (Nat.le_of_ble_eq_true rfl) hB hr hC ?_
  rw [gheld_res]
  have hc : IntKind.u64.wrap (m : Int) = (m : Int) := wrap_u64 (by omega) (by omega)
  have hb17 : bitsLen m ≤ 17 := (bitsLen_le_iff m 17).2 (by omega)
  refine zd ?_; refine zb (id := 0) ?_; refine Zs1 ?_; refine Zs39 ?_; refine Zs3 ?_; refine ze ?_; refine zg ?_; refine zb (id := 1) ?_; refine Zs1 ?_; refine Zs1 ?_; refine Zs1 ?_; refine z7 (ok_conv rfl rfl rfl cv3_148.1 cv3_148.2 (wrap_u64 (by omega) (by omega))) rfl ?_; refine z7 (zp L rfl rfl (zf rfl) rfl rfl rfl (fun u H hH _ _ => bitslen_ret (by omega) hH)) rfl ?_; refine qd (ok_callG L 900 (GHeld b (uC (Go.Sort.sort lt d) ++ rest) tyU) (r := GHeld b (uC d ++ rest) tyU) rfl rfl rfl rfl rfl (fun u H C hH _ hr hC => by have h := pdq_ret (rest := rest) (cap := cap) (m := m) (d := d) (a := 0) (e := m) (lim := bitsLen m) (m + 1) (by omega) (by omega) (by omega) hm hm1 (by omega) (Or.inl rfl) hH hr hC; unfold Go.Sort.sort; rw [hm]; exact h)) ?_; refine ze ?_
  exact N_retGhost L 900 (r := GHeld b _ tyU) rfl (fun _ _ h => h) Since.refl rfl rfl
set_option maxRecDepth 20000 in
theorem insN_ret {w : World} {B : Heap} (hB : B.Le (hp w)) : Ret Try.prog 89 [.slice none 0 0, .int .i64 0, .int .i64 0] w B (fun _ _ => True) := by
  refine y6 Try.func89 rfl Try.ntmps89 (Nat.le_of_ble_eq_true rfl) hB ?_
  refine zd ?_; refine zb (id := 0) ?_; refine Zs1 ?_; refine Zs16 ?_; refine Zs3 ?_; refine ze ?_; refine zg ?_; refine q0 ?_
  refine V_loop (fun _ : Nat => [(2, .is (.int .i64 0)), (6, .is (.int .i64 1))]) (fun _ => True) (fun s => s) 0 trivial ⟨rfl, rfl, trivial⟩ ?_
  rintro s _
  refine zd ?_; refine zd ?_; refine zb (id := 1) ?_; refine Zs1 ?_; refine Zs1 ?_; refine Zs8 ?_; refine ze ?_; refine zg ?_; refine zm rfl ?_; refine y5 ?_; refine qf ?_; refine qf ?_; refine y4 ?_
  exact N_ret0 L rfl (fun _ _ h => h) Since.refl
set_option maxRecDepth 20000 in
theorem pdqN_ret {w : World} {B : Heap} (hB : B.Le (hp w)) : Ret Try.prog 78 [.slice none 0 0, .int .i64 0, .int .i64 0, .int .i64 0] w B (fun _ _ => True) := by
  refine y6 Try.func78 rfl Try.ntmps78 (Nat.le_of_ble_eq_true rfl) hB ?_
  refine zd ?_; refine zb (id := 0) ?_; refine Zs3 ?_; refine ze ?_; refine zg ?_; refine zd ?_; refine zb (id := 1) ?_; refine Zs3 ?_; refine ze ?_; refine zg ?_; refine q0 ?_
  refine V_loop (fun _ : Nat => [(0, .is (.slice none 0 0)), (1, .is (.int .i64 0)), (2, .is (.int .i64 0))]) (fun _ => True) (fun s => s) 0 trivial ⟨rfl, rfl, rfl, trivial⟩ ?_
  rintro s _
  refine q0 ?_; refine zd ?_; refine zb (id := 2) ?_; refine Zs1 ?_; refine Zs1 ?_; refine Zs78 ?_; refine Zs3 ?_; refine ze ?_; refine zg ?_; refine zd ?_; refine zd ?_; refine zb (id := 3) ?_; refine Zs1 ?_; refine Zs58 ?_; refine ze ?_; refine zg ?_; refine zu rfl ?_; refine zd ?_; refine zb (id := 4) ?_; refine Zs1 ?_; refine Zs1 ?_; refine Zs1 ?_; refine z7 (ok_call (φ := fun _ _ => True) L rfl rfl (zf rfl) rfl rfl rfl (fun _ _ _ _ _ => trivial) (fun u H hH _ _ => insN_ret hH)) rfl ?_; refine ze ?_; refine zg ?_
  refine qe L (rs := []) rfl (fun _ _ h => h) Since.refl fun u H hH hle => ?_
  trivial
set_option maxRecDepth 20000 in
theorem sortN_ret {w : World} {B : Heap} (hB : B.Le (hp w)) : Ret Try.prog 58 [.slice none 0 0] w B (fun _ _ => True) := by
  have hc : IntKind.u64.wrap 0 = 0 := by decide
  refine y6 Try.func58 rfl Try.ntmps58 (Nat.le_of_ble_eq_true rfl) hB ?_
  refine zd ?_; refine zb (id := 0) ?_; refine Zs1 ?_; refine Zs39 ?_; refine Zs3 ?_; refine ze ?_; refine zg ?_; refine zb (id := 1) ?_; refine Zs1 ?_; refine Zs1 ?_; refine Zs1 ?_; refine z7 (ok_conv rfl rfl rfl cv3_148.1 cv3_148.2 (wrap_u64 (by omega) (by omega))) rfl ?_; refine z7 (zp (r := .int .i64 0) L rfl rfl (zf rfl) rfl rfl rfl (fun u H hH _ _ => bitslen_ret (n := 0) (by omega) hH)) rfl ?_; refine z7 (ok_call (φ := fun _ _ => True) L rfl rfl (zf rfl) rfl rfl rfl (fun _ _ _ _ _ => trivial) (fun u H hH _ _ => pdqN_ret hH)) rfl ?_; refine ze ?_
  exact N_ret0 L rfl (fun _ _ h => h) Since.refl
end Go.V.So
namespace Go.V.L39
open Go.Proofs Go.RowKit Go.V
def cntR (v : Int) (l : List It) : Nat := l.countP fun x => decide (x.rv = v)
def revsF (acc : List Int) (l : List It) : List Int := l.foldl (fun acc x => if x.rv ∈ acc then acc else acc ++ [x.rv]) acc
def revs (l : List It) : List Int := revsF [] l
theorem revs_snoc (l : List It) (x : It) : revs (l ++ [x]) = if x.rv ∈ revs l then revs l else revs l ++ [x.rv] := by
  unfold revs revsF
  rw [List.foldl_append]
  rfl
theorem cntR_snoc (v : Int) (l : List It) (x : It) : cntR v (l ++ [x]) = cntR v l + if x.rv = v then 1 else 0 := by
  unfold cntR
  rw [List.countP_append, List.countP_cons, List.countP_nil, Nat.zero_add]
  by_cases h : x.rv = v
  · rw [if_pos h, if_pos (decide_eq_true h)]
  · rw [if_neg h, if_neg (by simpa using h)]
theorem mem_revs (l : List It) : ∀ v, v ∈ revs l ↔ 0 < cntR v l := by
  suffices ∀ (m : List It) (l : List It), (∀ v, v ∈ revs l ↔ 0 < cntR v l) → ∀ v, v ∈ revs (l ++ m) ↔ 0 < cntR v (l ++ m) by
    simpa using this l [] (fun v => by simp [revs, revsF, cntR])
  intro m
  induction m with
  | nil => intro l h; simpa using h
  | cons x m ih =>
    intro l h
    have := ih (l ++ [x]) fun v => by
      rw [revs_snoc, cntR_snoc]
      by_cases hx : x.rv ∈ revs l
      · rw [if_pos hx, h]
        have h2 := (h x.rv).1 hx
        by_cases hv : x.rv = v
        · subst hv; rw [if_pos rfl]; omega
        · rw [if_neg hv]; omega
      · rw [if_neg hx, List.mem_append, List.mem_singleton, h]
        by_cases hv : x.rv = v
        · subst hv; rw [if_pos rfl]; simp
        · rw [if_neg hv]
          constructor
          · rintro (h3 | h3)
            · omega
            · exact absurd h3.symm hv
          · intro h3; exact .inl (by omega)
    simpa using this
theorem revs_len (l : List It) : (revs l).length ≤ l.length := by
  suffices ∀ (m : List It) (acc : List Int), (revsF acc m).length ≤ acc.length + m.length by simpa [revs] using this l []
  intro m
  induction m with
  | nil => intro acc; exact Nat.le_refl _
  | cons x m ih =>
    intro acc
    refine Nat.le_trans (ih _) ?_
    dsimp only
    split <;> simp <;> omega
def SeenR (l : List It) (a : List (Int × Int)) : Prop := ∀ v, mget v a = if cntR v l = 0 then none else some (cntR v l : Int)
theorem seenr_nil : SeenR [] [] := fun _ => rfl
theorem seenr_get {l : List It} {a : List (Int × Int)} (h : SeenR l a) (v : Int) : (mget v a).elim (.int .i64 0) (Value.int .i64) = .int .i64 (cntR v l) := by
  rw [h]
  split
  · rename_i h1; rw [h1]; rfl
  · rfl
theorem seenr_put {l : List It} {a : List (Int × Int)} (h : SeenR l a) (x : It) : SeenR (l ++ [x]) (mput x.rv (cntR x.rv l + 1 : Nat) a) := fun v => by
  rw [mget_put, h, cntR_snoc]
  by_cases hv : v = x.rv
  · subst hv; rw [if_pos rfl, if_pos rfl, if_neg (by omega)]
  · rw [if_neg hv, show (if x.rv = v then 1 else 0) = 0 from if_neg (fun e => hv e.symm), Nat.add_zero]
def srtR (l : List It) : List Int := (Go.Sort.sort So.lt (revs l).toArray).toList
def pins (l : List It) : List (Int × Nat) := (srtR l).map fun v => (v, cntR v l)
def pnc (p : Int × Nat) : List Value := [.int .u64 p.1, .int .i64 (p.2 : Int)]
theorem pnc_len (p : Int × Nat) : (pnc p).length = 2 := rfl
theorem pnc_plain (l : List (Int × Nat)) : (l.flatMap pnc).all plainV = true := by
  rw [List.all_eq_true]
  intro v hv
  obtain ⟨x, _, hx⟩ := List.mem_flatMap.1 hv
  simp only [pnc, List.mem_cons, List.mem_nil_iff, or_false] at hx
  rcases hx with rfl | rfl <;> rfl
theorem allI_take {l : List Fl} {i : Nat} {f : Fl} (h : l[i]? = some f) : allI (l.take (i + 1)) = allI (l.take i) ++ f.is := by rw [take_snoc h]; simp [allI]
def PinsP (ps : List (Int × Nat)) (e : Int) : Value → Heap → Prop := fun v H => ∃ sv, v = .tuple #[sv, .int .i64 e] ∧ SlV tyP 2 (ps.flatMap pnc) ps.length true sv H
theorem PinsP.mono {l : List (Int × Nat)} {e : Int} : Kn.mono (.sat (PinsP l e)) := fun _ _ _ ⟨sv, h1, h2⟩ hle => ⟨sv, h1, h2.le hle⟩
theorem u64_und : Try.prog.underlying 31 = some (.int .u64) := by kernel_rfl
theorem mpu_und : Try.prog.underlying 123 = some (.map 31 3) := by kernel_rfl
theorem mpi_zero (w : World) : (zeroValue 3).run Try.prog w = .ok (.int .i64 0) w := Try.zeroValue3 w
theorem rev_snoc {κ : Kap} {s : Nat} {r : List Int} {x : Int} (h : κ s = some (.own (SlR So.tyU 1 (r.length + 1) (r.map (Value.int .u64) ++ [.int .u64 x])))) : κ s = some (.own (SlR So.tyU 1 (r ++ [x]).length ((r ++ [x]).map (Value.int .u64)))) := by
  rw [h, List.map_append, List.length_append]; rfl
theorem pin_snoc {κ : Kap} {s : Nat} {r : List (Int × Nat)} {x : Int} {c : Nat} (h : κ s = some (.own (SlR tyP 2 (r.length + 1) (r.flatMap pnc ++ [.int .u64 x, .int .i64 (c : Int)])))) : κ s = some (.own (SlR tyP 2 (r ++ [(x, c)]).length ((r ++ [(x, c)]).flatMap pnc))) := by
  rw [h, List.flatMap_append, List.length_append]; rfl
theorem rv_plain (l : List Int) : (l.map (Value.int .u64)).all plainV = true := by
  rw [List.all_eq_true]
  intro v hv
  obtain ⟨x, _, rfl⟩ := List.mem_map.1 hv
  rfl
theorem rv_at {l : List Int} {i : Nat} {x : Int} (h : l[i]? = some x) : ((l.map (Value.int .u64)).drop (i * 1)).take 1 = [.int .u64 x] := by
  rw [Nat.mul_one, List.drop_eq_getElem_cons (by rw [List.length_map]; exact get_lt h), List.take_succ_cons, List.take_zero, List.getElem_map]
  congr 2
  have hi := get_lt h
  rw [List.getElem?_eq_getElem hi] at h
  exact Option.some.inj h
attribute [local irreducible] V N X VO Par StepOK Has Ret RetL RetO RetT RetG RetX Src
theorem ownP1_ret {xs : List Value} {n : Nat} {fa : Bool} {a v : Value} {w : World} {B : Heap} (ha : SlV tyP 2 xs n fa a B) (px : xs.all plainV = true) (hl : n ≤ 50000) (hB : B.Le (hp w)) (hv : SlB [a] 70 1 v B) :
    Ret Try.prog 59 [v] w B (SlN B tyP 2 xs n true) := by
  have h := ownP_ret (lsts1 ha px) (by simp) (by simpa [nXs] using hl) hB hv
  have e1 : nXs [(xs, n)] = n := by simp [nXs]
  have e2 : cXs [(xs, n)] = xs := by simp [cXs]
  rw [e1, e2] at h
  exact h.toN hB
theorem sortR_ret {l : List Int} {rest : List Value} {b m cap : Nat} (hm : l.length = m) (hm1 : m ≤ 100000) {w : World} {B : Heap} {C : Nat → Prop} (hB : B.Le (hp w)) (hr : (GHeld b (l.map (Value.int .u64) ++ rest) So.tyU).P B w C) (hC : ∀ k, C k → k < w.heap.size ∧ B k = none) :
    RetG Try.prog 58 [.slice (some ⟨b, 0, none⟩) m cap] w B C (GHeld b ((Go.Sort.sort So.lt l.toArray).toList.map (Value.int .u64) ++ rest) So.tyU) :=
  So.sortU_ret (d := l.toArray) (rest := rest) hm hm1 hB hr hC
theorem srt_len (l : List It) : (srtR l).length = (revs l).length := by
  have := (Go.Sort.sort_sorts So.lt Go.Sort.swo_ltInt (revs l).toArray).1.1
  unfold srtR
  rw [Array.length_toList, this, List.size_toArray]
set_option maxHeartbeats 4000000 in
set_option maxRecDepth 20000 in
theorem pins_ret {t : Tb} {zs : List (Fl × Value)} (hz : zs.map Prod.fst = t.fl) {fu fi : Bool} {s : Value} {w : World} {B : Heap} (hs : FsB zs fu fi s B) (hZ : ∀ f ∈ t.fl, QuZ f.q) (hn : itsN t.fl ≤ 4611686018427387904) (hB : B.Le (hp w)) :
    Ret Try.prog 28 [tbv t.nx s] w B (PinsP (if chkE t = 0 then pins (allI t.fl) else []) (chkE t)) := by
  have hsl := hs.sl
  have hlen := fls_len hz
  have hzl := hs.ln
  obtain ⟨e, hc⟩ : ∃ e, chkE t = e := ⟨_, rfl⟩
  rw [hc]
  refine y6 Try.func28 rfl Try.ntmps28 (Nat.le_of_ble_eq_true rfl) hB ?_
  by_cases h0 : e = 0
  · subst h0
    have h1024 := chk_its hc
    rw [if_pos rfl]
    refine zd ?_; refine zb (id := 0) ?_; refine Zs20 ?_; refine Zs3 ?_; refine Zs3 ?_; refine ze ?_; refine zg ?_; refine zd ?_; refine zd ?_; refine zb (id := 1) ?_; refine z7 (zo L (vs := [_, _]) (zl rfl) rfl rfl rfl rfl ⟨_, rfl⟩) rfl ?_; refine z7 (zp L rfl rfl (zf rfl) rfl rfl rfl (fun u H hH hle _ => check_ret hz (hs.le hle) hZ hn hc hH)) rfl ?_; refine Zs3 ?_; refine ze ?_; refine zg ?_; refine zd ?_; refine zb (id := 2) ?_; refine Zs1 ?_; refine Zs11 ?_; refine ze ?_; refine zg ?_; refine zm rfl ?_; refine zt ?_; refine zg ?_; refine zd ?_; refine zb (id := 4) ?_; refine z7 (ok_makeMapI (Y := Int) .u64 (Value.int .i64) rfl rfl) rfl ?_; refine qd (ya (.inr rfl) rfl rfl rfl rfl) ?_; refine ze ?_; refine zg ?_; refine zd ?_
    refine V_holdMi 5 900 rfl fun b => ?_
    refine zb (id := 5) ?_; refine Zs3 ?_; refine ze ?_; refine zg ?_; refine zd ?_; refine zd ?_; refine zb (id := 6) ?_; refine Zs5 ?_; refine Zs15 ?_; refine Zs32 ?_; refine Zs1 ?_; refine ze ?_; refine zg ?_; refine q0 ?_
    refine V_nilR 6 So.tyU 1 rfl ?_
    refine V_loop (fun x : Nat × List (Int × Int) => [(5, .is (.map (some b))), (6, .own (SlR So.tyU 1 (revs (allI (t.fl.take x.1))).length ((revs (allI (t.fl.take x.1))).map (Value.int .u64)))), (21, .sat (SlV tyF 14 (zs.flatMap flc) zs.length fu)), (22, .is (.int .i64 zs.length)), (23, .is (.int .i64 x.1)), (900, .own (MapHi b .u64 (Value.int .i64) x.2))]) (fun x => x.1 ≤ zs.length ∧ SeenR (allI (t.fl.take x.1)) x.2) (fun x => zs.length - x.1) (0, []) ⟨Nat.zero_le _, seenr_nil⟩ ⟨rfl, rfl, rfl, rfl, rfl, rfl, trivial⟩ ?_
    rintro ⟨i, a⟩ ⟨hi, hsn⟩
    dsimp only at hi hsn ⊢
    by_cases hlt : i < zs.length
    · obtain ⟨f, pp, c, hzi, hli, hzv, hil, hc14⟩ := hs.at hz hlt
      have hat := allI_take hli
      have hfl : f.is.length ≤ itsN t.fl := is_le (fls_mem hli)
      have hal : (allI (t.fl.take i)).length + f.is.length ≤ itsN t.fl := by
        have h1 := itsN_take hli
        have h2 := itsN_le t.fl (i + 1)
        rw [itsN_allI]; omega
      generalize allI (t.fl.take i) = pre at *
      refine zd ?_; refine zb (id := 7) ?_; refine Zs10 ?_; refine ze ?_; refine zg ?_; refine zd ?_; refine zu rfl ?_; refine zt ?_; refine zg ?_; refine zd ?_; refine q0 ?_; refine zd ?_; refine zb (id := 8) ?_; refine z7 (q9 L _ rfl rfl rfl rfl rfl rfl rfl (by first | omega | decide) (by assumption)) rfl ?_; refine z7 (y9 L (vs := [_, _, _, _, _, _, _, _, _, _, _, _, _, _]) rfl rfl rfl rfl rfl ⟨_, rfl⟩) rfl ?_; refine Zs36 ?_; refine Zs13 ?_; refine ze ?_; refine zg ?_; refine zd ?_
      refine V_pub 8 rfl ?_
      refine zb (id := 9) ?_; refine Zs5 ?_; refine Zs15 ?_; refine Zs32 ?_; refine Zs1 ?_; refine ze ?_; refine zg ?_; refine q0 ?_
      refine V_loop (fun y : Nat × List (Int × Int) => [(5, .is (.map (some b))), (6, .own (SlR So.tyU 1 (revs (pre ++ f.is.take y.1)).length ((revs (pre ++ f.is.take y.1)).map (Value.int .u64)))), (21, .sat (SlV tyF 14 (zs.flatMap flc) zs.length fu)), (22, .is (.int .i64 zs.length)), (23, .is (.int .i64 i)), (28, .sat (IsV f.is fi)), (29, .is (.int .i64 f.is.length)), (30, .is (.int .i64 y.1)), (900, .own (MapHi b .u64 (Value.int .i64) y.2))]) (fun y => y.1 ≤ f.is.length ∧ SeenR (pre ++ f.is.take y.1) y.2) (fun y => f.is.length - y.1) (0, a) ⟨Nat.zero_le _, by simpa using hsn⟩ ⟨rfl, by rw [List.take_zero, List.append_nil]; rfl, rfl, rfl, rfl, rfl, rfl, rfl, rfl, trivial⟩ ?_
      rintro ⟨k, a2⟩ ⟨hk, hsk⟩
      dsimp only at hk hsk ⊢
      by_cases hkl : k < f.is.length
      · obtain ⟨x, hx⟩ := get_some hkl
        have hc := it_at hx
        have hst : pre ++ f.is.take (k + 1) = (pre ++ f.is.take k) ++ [x] := by rw [take_snoc hx, List.append_assoc]
        have hrl := revs_len (pre ++ f.is.take k)
        have hmr := mem_revs (pre ++ f.is.take k) x.rv
        have hcl : cntR x.rv (pre ++ f.is.take k) ≤ (pre ++ f.is.take k).length := List.countP_le_length
        have hpl2 : (pre ++ f.is.take k).length ≤ itsN t.fl := by rw [List.length_append, List.length_take]; omega
        have hgr := seenr_get hsk x.rv
        have hpt := seenr_put hsk x
        have hrs := revs_snoc (pre ++ f.is.take k) x
        rw [← hst] at hpt hrs
        have hpln := rv_plain (revs (pre ++ f.is.take k))
        have hrl2 : ((revs (pre ++ f.is.take k)).map (Value.int .u64)).length = (revs (pre ++ f.is.take k)).length * 1 := by rw [List.length_map, Nat.mul_one]
        have had : IntKind.i64.wrap ((cntR x.rv (pre ++ f.is.take k) : Int) + 1) = ((cntR x.rv (pre ++ f.is.take k) + 1 : Nat) : Int) := wrap_i64 (by omega) (by omega) |>.trans (by omega)
        by_cases h0 : cntR x.rv (pre ++ f.is.take k) = 0
        · rw [if_neg (fun h => by have := hmr.1 h; omega)] at hrs
          refine zd ?_; refine zb (id := 10) ?_; refine Zs10 ?_; refine ze ?_; refine zg ?_; refine zd ?_; refine zu rfl ?_; refine zt ?_; refine zg ?_; refine zd ?_; refine q0 ?_; refine zd ?_; refine zb (id := 11) ?_; refine z7 (q9 L _ rfl rfl rfl rfl rfl rfl rfl (by first | omega | decide) (by assumption)) rfl ?_; refine z7 (y9 L (vs := [_, _, _, _, _]) rfl rfl rfl rfl rfl ⟨_, rfl⟩) rfl ?_; refine Zs36 ?_; refine Zs13 ?_; refine ze ?_; refine zg ?_; refine zd ?_; refine zd ?_
          refine V_pub 10 rfl ?_
          refine zb (id := 12) ?_; refine Zs1 ?_; refine Zs5 ?_; refine Zs4 ?_; refine vo_stepR (ok_lookupI (q := 900) x.rv mpu_und u64_und mpi_zero rfl rfl rfl rfl rfl hgr) ?_; refine Zs18 ?_; refine ze ?_; refine zg ?_; refine zu rfl ?_; refine zb (id := 13) ?_; refine qd (ya (.inl rfl) rfl rfl rfl rfl) ?_; refine Zs5 ?_; refine Zs4 ?_; refine Zs35 ?_; refine qd (ok_append L rfl rfl rfl (apd_B rfl) rfl el31 rfl rfl (by omega) (by omega)) ?_; refine qd (ya (.inr rfl) rfl rfl rfl rfl) ?_; refine ze ?_; refine zg ?_; refine zb (id := 14) ?_; refine Zs1 ?_; refine Zs5 ?_; refine Zs4 ?_; refine vo_stepR (ok_lookupI (q := 900) x.rv mpu_und u64_und mpi_zero rfl rfl rfl rfl rfl hgr) ?_; refine Zs17 ?_; refine vo_stepS (ok_mapUpdI (q := 900) x.rv ((cntR x.rv (pre ++ f.is.take k) + 1 : Nat) : Int) mpu_und u64_und rfl rfl rfl rfl rfl rfl rfl) ?_; refine ze ?_; refine qo ?_; refine zg ?_; refine zb (id := 15) ?_; refine Zs16 ?_; refine Zs1 ?_; refine ze ?_
          exact qy (x := (k, a2)) (k + 1, mput x.rv ((cntR x.rv (pre ++ f.is.take k) + 1 : Nat) : Int) a2) ⟨hkl, hpt⟩ (by dsimp only; omega) ⟨rfl, by rw [hrs]; exact rev_snoc rfl, rfl, rfl, rfl, rfl, rfl, rfl, rfl, trivial⟩
        · rw [if_pos (hmr.2 (by omega))] at hrs
          refine zd ?_; refine zb (id := 10) ?_; refine Zs10 ?_; refine ze ?_; refine zg ?_; refine zd ?_; refine zu rfl ?_; refine zt ?_; refine zg ?_; refine zd ?_; refine q0 ?_; refine zd ?_; refine zb (id := 11) ?_; refine z7 (q9 L _ rfl rfl rfl rfl rfl rfl rfl (by first | omega | decide) (by assumption)) rfl ?_; refine z7 (y9 L (vs := [_, _, _, _, _]) rfl rfl rfl rfl rfl ⟨_, rfl⟩) rfl ?_; refine Zs36 ?_; refine Zs13 ?_; refine ze ?_; refine zg ?_; refine zd ?_; refine zd ?_
          refine V_pub 10 rfl ?_
          refine zb (id := 12) ?_; refine Zs1 ?_; refine Zs5 ?_; refine Zs4 ?_; refine vo_stepR (ok_lookupI (q := 900) x.rv mpu_und u64_und mpi_zero rfl rfl rfl rfl rfl hgr) ?_; refine Zs14 ?_; refine ze ?_; refine zg ?_; refine zm rfl ?_; refine zt ?_; refine zg ?_; refine zb (id := 14) ?_; refine Zs1 ?_; refine Zs5 ?_; refine Zs4 ?_; refine vo_stepR (ok_lookupI (q := 900) x.rv mpu_und u64_und mpi_zero rfl rfl rfl rfl rfl hgr) ?_; refine Zs17 ?_; refine vo_stepS (ok_mapUpdI (q := 900) x.rv ((cntR x.rv (pre ++ f.is.take k) + 1 : Nat) : Int) mpu_und u64_und rfl rfl rfl rfl rfl rfl rfl) ?_; refine ze ?_; refine qo ?_; refine zg ?_; refine zb (id := 15) ?_; refine Zs16 ?_; refine Zs1 ?_; refine ze ?_
          exact qy (x := (k, a2)) (k + 1, mput x.rv ((cntR x.rv (pre ++ f.is.take k) + 1 : Nat) : Int) a2) ⟨hkl, hpt⟩ (by dsimp only; omega) ⟨rfl, by rw [hrs]; rfl, rfl, rfl, rfl, rfl, rfl, rfl, rfl, trivial⟩
      · obtain rfl : k = f.is.length := by omega
        rw [List.take_length] at hsk ⊢
        refine zd ?_; refine zb (id := 10) ?_; refine Zs8 ?_; refine ze ?_; refine zg ?_; refine zd ?_; refine zm rfl ?_; refine y5 ?_; refine qf ?_; refine qf ?_; refine y4 ?_; refine qo ?_; refine zg ?_; refine zb (id := 16) ?_; refine Zs16 ?_; refine Zs1 ?_; refine ze ?_
        exact qy (x := (i, a)) (i + 1, a2) ⟨hlt, by dsimp only; rw [hat]; exact hsk⟩ (by dsimp only; omega) ⟨rfl, by rw [hat]; rfl, rfl, rfl, rfl, rfl, trivial⟩
    · obtain rfl : i = zs.length := by omega
      rw [hlen, List.take_length] at hsn ⊢
      have hal : (allI t.fl).length ≤ 1024 := by rw [itsN_allI]; exact h1024
      have hrl := revs_len (allI t.fl)
      have hsl2 := srt_len (allI t.fl)
      refine zd ?_; refine zb (id := 7) ?_; refine Zs8 ?_; refine ze ?_; refine zg ?_; refine zd ?_; refine zm rfl ?_; refine y5 ?_; refine qf ?_; refine qf ?_; refine y4 ?_; refine zg ?_; refine zd ?_
      refine V_holdR 6 901 rfl (fun hm0 _ => ?_) fun br cap rest hrl2 hmc hcm hcl => ?_
      · have hp0 : pins (allI t.fl) = [] := by
          unfold pins
          rw [List.eq_nil_of_length_eq_zero (hsl2.trans hm0)]; rfl
        rw [hp0]
        refine zb (id := 17) ?_; refine Zs1 ?_; refine z7 (ok_call (φ := fun _ _ => True) L rfl rfl (zf rfl) rfl rfl rfl (fun _ _ _ _ _ => trivial) (fun u H hH _ _ => So.sortN_ret hH)) rfl ?_; refine ze ?_; refine zg ?_; refine zd ?_; refine zb (id := 18) ?_; refine Zs3 ?_; refine ze ?_; refine zg ?_; refine zd ?_; refine zd ?_; refine zb (id := 19) ?_; refine Zs1 ?_; refine Zs39 ?_; refine Zs1 ?_; refine ze ?_; refine zg ?_; refine q0 ?_
        refine V_loop (fun _ : Nat => [(11, .is (.slice none 0 0)), (54, .is (.int .i64 0)), (55, .is (.int .i64 0))]) (fun _ => True) (fun _ => 0) 0 trivial ⟨rfl, rfl, rfl, trivial⟩ ?_
        rintro _ _
        refine V_nilR 11 tyP 2 rfl ?_
        refine V_pubR 11 rfl ?_
        refine zd ?_; refine zb (id := 20) ?_; refine Zs8 ?_; refine ze ?_; refine zg ?_; refine zd ?_; refine zm rfl ?_; refine y5 ?_; refine qf ?_; refine qf ?_; refine y4 ?_; refine zg ?_; refine zd ?_; refine zb (id := 24) ?_; refine Zs41 ?_; refine z7 (ok_buildSliceS L (OneL tyP 2 [] 0 70) rfl rfl rfl rfl rfl rfl rfl OneL.mono (fun H hle v hv => by obtain ⟨p', c', rfl⟩ := slv_sh hv; exact ⟨rfl, fun v2 H2 hle2 h2 => ⟨_, _, h2, hv.le hle2⟩⟩)) rfl ?_; refine z7 (ok_call (φ := SlV tyP 2 [] 0 true) L rfl rfl (zf rfl) rfl rfl rfl SlV.mono (fun u H hH hle _ v hv => by obtain ⟨sl, fa, h1, h2⟩ := hv; exact Ret.mono (ownP1_ret h2 rfl (by omega) hH h1) fun v H' _ h => h.1)) rfl ?_; refine Zs64 ?_; refine Zs3 ?_; refine ze ?_; refine zg ?_
        refine qe L (rs := [.tmp 2, .tmp 3]) rfl (fun _ _ h => h) Since.refl fun u H hH hle => ?_
        exact fun v hv => ⟨_, rfl, hv⟩
      · refine zb (id := 17) ?_; refine Zs1 ?_; refine qd (ok_callG L 901 (GHeld br ((srtR (allI t.fl)).map (Value.int .u64) ++ rest) So.tyU) (r := GHeld br ((revs (allI t.fl)).map (Value.int .u64) ++ rest) So.tyU) rfl rfl rfl rfl rfl (fun u H C hH _ hr hC => sortR_ret rfl (by omega) hH hr hC)) ?_; refine ze ?_; refine zg ?_; refine zd ?_
        refine V_pubH 901 rfl fun H6 s6 hnb hb6 => ?_
        have hsv : SlV So.tyU 1 ((srtR (allI t.fl)).map (Value.int .u64)) (revs (allI t.fl)).length false (.slice (some ⟨br, 0, none⟩) (revs (allI t.fl)).length cap) H6 := ⟨by rw [List.length_map, hsl2, Nat.mul_one], .inr ⟨br, 0, cap, _, _, (0, 0), rfl, hb6, by show (((srtR (allI t.fl)).map (Value.int .u64) ++ rest).drop 0).take ((srtR (allI t.fl)).map (Value.int .u64)).length = _; rw [List.drop_zero, List.take_left], hmc, fun h => by cases h⟩⟩
        refine V_seen 6 (SlV So.tyU 1 ((srtR (allI t.fl)).map (Value.int .u64)) (revs (allI t.fl)).length false) rfl SlV.mono hsv ?_
        refine zb (id := 18) ?_; refine Zs3 ?_; refine ze ?_; refine zg ?_; refine zd ?_; refine zd ?_
        refine V_nilR 11 tyP 2 rfl ?_
        refine zb (id := 19) ?_; refine Zs41 ?_; refine Zs32 ?_; refine Zs1 ?_; refine ze ?_; refine zg ?_; refine q0 ?_
        obtain ⟨m, hm⟩ : ∃ m, m = (revs (allI t.fl)).length := ⟨_, rfl⟩
        rw [← hm] at hsl2 hrl ⊢
        refine V_loop (fun i : Nat => [(5, .is (.map (some b))), (11, .own (SlR tyP 2 ((pins (allI t.fl)).take i).length (((pins (allI t.fl)).take i).flatMap pnc))), (53, .sat (SlV So.tyU 1 ((srtR (allI t.fl)).map (Value.int .u64)) m false)), (54, .is (.int .i64 m)), (55, .is (.int .i64 i)), (900, .own (MapHi b .u64 (Value.int .i64) a))]) (fun i => i ≤ m) (fun i => m - i) 0 (Nat.zero_le _) ⟨rfl, rfl, rfl, rfl, rfl, rfl, trivial⟩ ?_
        rintro i hi
        have hpl : (pins (allI t.fl)).length = m := by unfold pins; rw [List.length_map]; exact hsl2
        have hti : ((pins (allI t.fl)).take i).length = i := by rw [List.length_take]; omega
        by_cases hlt : i < m
        · obtain ⟨x, hx⟩ := get_some (show i < (srtR (allI t.fl)).length by omega)
          have hc := rv_at hx
          have hgr := seenr_get hsn x
          have hpx : (pins (allI t.fl))[i]? = some (x, cntR x (allI t.fl)) := by unfold pins; rw [List.getElem?_map, hx]; rfl
          have hts := take_snoc hpx
          have hpp := pnc_plain ((pins (allI t.fl)).take i)
          have hfl2 := flatMap_len pnc_len ((pins (allI t.fl)).take i)
          refine zd ?_; refine zb (id := 20) ?_; refine Zs10 ?_; refine ze ?_; refine zg ?_; refine zd ?_; refine zu rfl ?_; refine zt ?_; refine zg ?_; refine zd ?_; refine q0 ?_; refine zd ?_; refine zb (id := 21) ?_; refine z7 (q9 L _ rfl rfl rfl rfl rfl rfl rfl (by first | omega | decide) (by assumption)) rfl ?_; refine Zs45 ?_; refine Zs3 ?_; refine ze ?_; refine zg ?_; refine zb (id := 22) ?_; refine qd (ya (.inl rfl) rfl rfl rfl rfl) ?_; refine Zs1 ?_; refine Zs1 ?_; refine Zs1 ?_; refine vo_stepR (ok_lookupI (q := 900) x mpu_und u64_und mpi_zero rfl rfl rfl rfl rfl hgr) ?_; refine z7 (y3 (cs := [_, _]) rfl rfl pl74 rfl rfl) rfl ?_; refine Zs35 ?_; refine qd (ok_append L rfl rfl rfl (apd_B rfl) rfl el74 rfl rfl (by omega) (by omega)) ?_; refine qd (ya (.inr rfl) rfl rfl rfl rfl) ?_; refine ze ?_; refine qo ?_; refine zg ?_; refine zb (id := 23) ?_; refine Zs16 ?_; refine Zs1 ?_; refine ze ?_
          exact N_roundS (x := i) (i + 1) Since.refl hlt (by omega) ⟨rfl, by rw [hts]; exact pin_snoc rfl, rfl, rfl, rfl, rfl, trivial⟩
        · obtain rfl : i = m := by omega
          rw [List.take_of_length_le (by omega)]
          have hpp := pnc_plain (pins (allI t.fl))
          refine V_pubR 11 rfl ?_
          refine zd ?_; refine zb (id := 20) ?_; refine Zs8 ?_; refine ze ?_; refine zg ?_; refine zd ?_; refine zm rfl ?_; refine y5 ?_; refine qf ?_; refine qf ?_; refine y4 ?_; refine zg ?_; refine zd ?_; refine zb (id := 24) ?_; refine Zs41 ?_; refine z7 (ok_buildSliceS L (OneL tyP 2 ((pins (allI t.fl)).flatMap pnc) (pins (allI t.fl)).length 70) rfl rfl rfl rfl rfl rfl rfl OneL.mono (fun H hle v hv => by obtain ⟨p', c', rfl⟩ := slv_sh hv; exact ⟨rfl, fun v2 H2 hle2 h2 => ⟨_, _, h2, hv.le hle2⟩⟩)) rfl ?_; refine z7 (ok_call (φ := SlV tyP 2 ((pins (allI t.fl)).flatMap pnc) (pins (allI t.fl)).length true) L rfl rfl (zf rfl) rfl rfl rfl SlV.mono (fun u H hH hle _ v hv => by obtain ⟨sl, fa, h1, h2⟩ := hv; exact Ret.mono (ownP1_ret h2 hpp (by omega) hH h1) fun v H' _ h => h.1)) rfl ?_; refine Zs64 ?_; refine Zs3 ?_; refine ze ?_; refine zg ?_
          refine qe L (rs := [.tmp 2, .tmp 3]) rfl (fun _ _ h => h) s6 fun u H hH hle => ?_
          exact fun v hv => ⟨_, rfl, hv⟩
  · rw [if_neg h0]
    refine zd ?_; refine zb (id := 0) ?_; refine Zs20 ?_; refine Zs3 ?_; refine Zs3 ?_; refine ze ?_; refine zg ?_; refine zd ?_; refine zd ?_; refine zb (id := 1) ?_; refine z7 (zo L (vs := [_, _]) (zl rfl) rfl rfl rfl rfl ⟨_, rfl⟩) rfl ?_; refine z7 (zp L rfl rfl (zf rfl) rfl rfl rfl (fun u H hH hle _ => check_ret hz (hs.le hle) hZ hn hc hH)) rfl ?_; refine Zs3 ?_; refine ze ?_; refine zg ?_; refine zd ?_; refine zb (id := 2) ?_; refine Zs1 ?_; refine Zs23 ?_; refine ze ?_; refine zg ?_; refine zu rfl ?_; refine zd ?_; refine zb (id := 3) ?_; refine Zs1 ?_; refine Zs3 ?_; refine Zs3 ?_; refine ze ?_; refine zg ?_
    refine qe L (rs := [.tmp 2, .tmp 3]) rfl (fun _ _ h => h) Since.refl fun u H hH hle => ?_
    exact ⟨_, rfl, rfl, .inl ⟨rfl, _, rfl⟩⟩
end Go.V.L39
namespace Go.V.L39
open Go.Proofs Go.RowKit Go.V
theorem tup3 {φ1 φ2 φ3 : Value → Heap → Prop} {a b c : Value} {H : Heap} (h1 : φ1 a H) (h2 : φ2 b H) (h3 : φ3 c H) : TupS [φ1, φ2, φ3] (.tuple #[a, b, c]) H := ⟨[a, b, c], rfl, rfl, fun i φ x hi hx => by
  match i with
  | 0 => cases hi; cases hx; exact h1
  | 1 => cases hi; cases hx; exact h2
  | 2 => cases hi; cases hx; exact h3
  | i + 3 => cases hi⟩
theorem TbN.r {B : Heap} {t : Tb} {v : Value} {H : Heap} (h : TbN B t v H) : TbR t v H := let ⟨zs, s, h1, h2, h3, _, _⟩ := h; ⟨zs, s, h1, h2, h3.nofu⟩
theorem TabP.tup {B : Heap} {t : Tb} {e : Int} {v : Value} {H : Heap} (h : TabP B t e v H) : RTabS t e v H := by
  obtain ⟨tv, rfl, h⟩ := h
  exact tup2 h.r rfl
abbrev JoinS (r : Tb × Int × Bool) (e : Int) : Value → Heap → Prop := TupS [TbR r.1, fun v _ => v = .int .i64 r.2.1, fun v _ => v = .bool r.2.2, fun v _ => v = .int .i64 e]
theorem JoinS.mono {r : Tb × Int × Bool} {e : Int} : Kn.mono (.sat (JoinS r e)) := TupS.mono fun φ h => by
  simp only [List.mem_cons, List.mem_nil_iff, or_false] at h
  rcases h with rfl | rfl | rfl | rfl
  · exact TbR.mn
  · exact eqv_mono
  · exact eqv_mono
  · exact eqv_mono
theorem JoinP.tup {B : Heap} {r : Tb × Int × Bool} {e : Int} {v : Value} {H : Heap} (h : JoinP B r e v H) : JoinS r e v H := by
  obtain ⟨tv, rfl, h⟩ := h
  exact tup4 h.r rfl rfl rfl
def FlR (f : Fl) (v : Value) (H : Heap) : Prop := ∃ sv, v = flv f sv ∧ IsV f.is true sv H
theorem FlR.mn {f : Fl} : Kn.mono (.sat (FlR f)) := fun _ _ _ ⟨sv, h1, h2⟩ hle => ⟨sv, h1, h2.le hle⟩
abbrev FindS (f : Fl) (e : Int) : Value → Heap → Prop := TupS [FlR f, fun v _ => v = .int .i64 e]
theorem FindS.mono {f : Fl} {e : Int} : Kn.mono (.sat (FindS f e)) := TupS.mono fun φ h => by
  simp only [List.mem_cons, List.mem_nil_iff, or_false] at h
  rcases h with rfl | rfl
  · exact FlR.mn
  · exact eqv_mono
theorem FindP.tup {B : Heap} {f : Fl} {e : Int} {v : Value} {H : Heap} (h : FindP B f e v H) : FindS f e v H := by
  obtain ⟨sv, rfl, h⟩ := h
  exact tup2 ⟨sv, rfl, h.1⟩ rfl
abbrev LandS (t : Tb) (f : Fl) (e : Int) : Value → Heap → Prop := TupS [TbR t, FlR f, fun v _ => v = .int .i64 e]
theorem LandS.mono {t : Tb} {f : Fl} {e : Int} : Kn.mono (.sat (LandS t f e)) := TupS.mono fun φ h => by
  simp only [List.mem_cons, List.mem_nil_iff, or_false] at h
  rcases h with rfl | rfl | rfl
  · exact TbR.mn
  · exact FlR.mn
  · exact eqv_mono
theorem LandP.tup {B : Heap} {t : Tb} {f : Fl} {e : Int} {v : Value} {H : Heap} (h : LandP B t f e v H) : LandS t f e v H := by
  obtain ⟨tv, sv, rfl, h1, h2⟩ := h
  exact tup3 h1.r ⟨sv, rfl, h2.1⟩ rfl
abbrev PinsS (ps : List (Int × Nat)) (e : Int) : Value → Heap → Prop := TupS [SlV tyP 2 (ps.flatMap pnc) ps.length true, fun v _ => v = .int .i64 e]
theorem PinsS.mono {ps : List (Int × Nat)} {e : Int} : Kn.mono (.sat (PinsS ps e)) := TupS.mono fun φ h => by
  simp only [List.mem_cons, List.mem_nil_iff, or_false] at h
  rcases h with rfl | rfl
  · exact SlV.mono
  · exact eqv_mono
theorem PinsP.tup {ps : List (Int × Nat)} {e : Int} {v : Value} {H : Heap} (h : PinsP ps e v H) : PinsS ps e v H := by
  obtain ⟨sv, rfl, h⟩ := h
  exact tup2 h rfl
def flxC (f : Fl) (x : SlX) : List Value := flc (f, .slice x.1 x.2.1 x.2.2)
def FlX (f : Fl) (x : SlX) (H : Heap) : Prop := IsV f.is true (.slice x.1 x.2.1 x.2.2) H
theorem FlX.mono {f : Fl} : MonoX (FlX f) := fun _ _ _ h hle => by
  unfold FlX IsV at *
  exact SlV.le h hle
theorem flx_st {f : Fl} : ∀ v H, FlR f v H → ∃ x, FlX f x H ∧ cellsL v = flxC f x := fun v H ⟨sv, h1, h2⟩ => by
  obtain ⟨p, c, hsv⟩ := slv_sh h2
  subst h1 hsv
  exact ⟨(p, f.is.length, c), h2, rfl⟩
theorem flx_pl {f : Fl} (x : SlX) : (flxC f x).length = 14 ∧ (flxC f x).all plainV = true := ⟨rfl, rfl⟩
end Go.V.L39
namespace Go.V.L39
open Go.Proofs Go.RowKit Go.V
structure TZ39 (t : Tb) : Prop where
  q : ∀ f ∈ t.fl, QuZ f.q
  x : ∀ f ∈ t.fl, ∀ x ∈ f.is, 0 ≤ x.rv
theorem tz_zero : TZ39 T0 := ⟨fun f h => (by cases h), fun f h => (by cases h)⟩
theorem tz_join {t : Tb} (h : TZ39 t) {q : Qu} (hq : QuZ q) {rv : Int} {x : It} (hx : 0 ≤ x.rv) {rd : Int} {lo : Bool} : TZ39 (joinT t q rv x rd lo).1 := by
  by_cases he : joinE t q rv x rd lo = 0
  · cases hi : t.fl.findIdx? (hitB q rv lo) with
    | none =>
      rw [jTn he hi]
      refine ⟨fun f hf => ?_, fun f hf y hy => ?_⟩
      · rcases List.mem_append.1 hf with h1 | h1
        · exact h.q f h1
        · rw [List.mem_singleton.1 h1]; exact hq
      · rcases List.mem_append.1 hf with h1 | h1
        · exact h.x f h1 y hy
        · rw [List.mem_singleton.1 h1] at hy
          rw [List.mem_singleton.1 hy]; exact hx
    | some i =>
      obtain ⟨f0, hf0⟩ := get_some (List.findIdx?_eq_some_iff_getElem.1 hi).1
      rw [jTh he hi hf0]
      have key : ∀ f ∈ t.fl.modify i (addI x), ∃ g ∈ t.fl, f = g ∨ f = addI x g := fun f hf => by
        obtain ⟨j, hj⟩ := List.getElem?_of_mem hf
        rw [List.getElem?_modify] at hj
        cases hl : t.fl[j]? with
        | none => rw [hl] at hj; cases hj
        | some g =>
          rw [hl] at hj
          refine ⟨g, fls_mem hl, ?_⟩
          by_cases hij : i = j
          · right; simpa [hij] using hj.symm
          · left; simpa [hij] using hj.symm
      refine ⟨fun f hf => ?_, fun f hf y hy => ?_⟩
      · obtain ⟨g, hg, rfl | rfl⟩ := key f hf
        · exact h.q _ hg
        · exact h.q g hg
      · obtain ⟨g, hg, rfl | rfl⟩ := key f hf
        · exact h.x _ hg y hy
        · rcases List.mem_append.1 hy with h1 | h1
          · exact h.x g hg y h1
          · rw [List.mem_singleton.1 h1]; exact hx
  · rw [jT0 he]; exact tz_zero
theorem tz_cm {t : Tb} (h : TZ39 t) {id st : Int} : TZ39 (cmT t id st) := by
  unfold cmT
  split
  · exact tz_zero
  · refine ⟨fun f hf => ?_, fun f hf y hy => ?_⟩
    · obtain ⟨g, hg, rfl⟩ := List.mem_map.1 hf
      split
      · exact h.q g hg
      · exact h.q g hg
    · obtain ⟨g, hg, rfl⟩ := List.mem_map.1 hf
      split at hy
      · exact h.x g hg y hy
      · exact h.x g hg y hy
theorem tz_ld {t : Tb} (h : TZ39 t) {id : Int} : TZ39 (ldT t id) := by
  unfold ldT
  split
  · exact tz_zero
  · exact ⟨fun f hf => h.q f (List.mem_filter.1 hf).1, fun f hf => h.x f (List.mem_filter.1 hf).1⟩
theorem tz_stp {t : Tb} (h : TZ39 t) (o : Op6) (i : Nat) : TZ39 (stp t o i) := by
  unfold stp jS
  repeat' split
  · exact tz_join h (qS_z _) (itS_rv _ _)
  · exact h
  · exact h
  · exact tz_cm h
  · exact h
  · exact tz_ld h
  · exact h
theorem lv_tz : ∀ i, TZ39 (lvT i)
  | 0 => tz_zero
  | i + 1 => tz_join (lv_tz i) (by unfold lvQ; split <;> exact qS_z _) (by
    rcases i with _ | _ | _ | i
    · exact (by decide : (0 : Int) ≤ 1)
    · exact (by decide : (0 : Int) ≤ 1)
    · exact (by decide : (0 : Int) ≤ 2)
    · exact (by decide : (0 : Int) ≤ 1))
end Go.V.L39
