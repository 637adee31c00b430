/- Texts on the way to DeltasErrors, part 5: one behind another. -/
import Derived.Test.YtkmjfdeeahjfcaaDeltasErrorsM4
import Derived.Lib.IndexAny
set_option linter.unusedVariables false
set_option linter.unusedSimpArgs false
/- The walks of the library's stable sort, at changes: blocks change places. -/
namespace Go.V.L8
open Go.Proofs Go.RowKit Go.V Go.V.L2 Go.V.L3 Go.V.L6
theorem cs_len (l : List CH) : (l.flatMap ccs).length = l.length * 7 := flatMap_len ccs_len l
theorem cs_plain (l : List CH) : (l.flatMap ccs).all plainV = true := by
  induction l with
  | nil => rfl
  | cons x l ih => rw [List.flatMap_cons, List.all_append, ih]; rfl
abbrev ch7 (c : CH) : List Value := [.string c.1.1.1.1, .string c.1.1.1.2, .string c.1.1.2, .string c.1.2.1.1, .string c.1.2.1.2, .string c.1.2.2, .bool c.2]
theorem heldC_at {l : List CH} {rest : List Value} {i : Nat} {t : CH} (h : l[i]? = some t) (off : Nat) (ho : off = i * 7) : ∃ r, (l.flatMap ccs ++ rest).drop off = ch7 t ++ r := by
  subst ho
  have h1 : ((l.flatMap ccs).drop (i * 7)).take 7 = ch7 t := ks_at h
  have h2 := get_lt h
  refine ⟨((l.flatMap ccs).drop (i * 7)).drop 7 ++ rest, ?_⟩
  rw [List.drop_append_of_le_length (by rw [cs_len]; exact Nat.mul_le_mul_right _ (by omega)), ← List.append_assoc]
  congr 1
  rw [← h1, List.take_append_drop]
theorem heldC_set {ls : List CH} {rest : List Value} {k : Nat} {z : CH} (h : k < ls.length) (off : Nat) (ho : off = k * 7) : (ls.flatMap ccs ++ rest).take off ++ (ch7 z ++ (ls.flatMap ccs ++ rest).drop (off + 7)) = (ls.set k z).flatMap ccs ++ rest := by
  subst ho
  have e1 : ls = ls.take k ++ (ls[k] :: ls.drop (k + 1)) := by rw [List.getElem_cons_drop, List.take_append_drop]
  have hk : (ls.take k).length = k := by rw [List.length_take]; omega
  have e2 : ls.set k z = ls.take k ++ (z :: ls.drop (k + 1)) := by
    conv => lhs; rw [e1]
    rw [List.set_append_right _ _ (by omega), hk, Nat.sub_self]; rfl
  rw [e2]
  generalize ls.take k = A at e1 hk
  generalize ls.drop (k + 1) = D at e1
  generalize ls[k] = y at e1
  subst e1
  have hA : (A.flatMap ccs).length = k * 7 := by rw [cs_len, hk]
  simp only [List.flatMap_append, List.flatMap_cons, List.append_assoc]
  rw [List.take_left' hA, show k * 7 + 7 = (A.flatMap ccs).length + 7 by omega, ← List.drop_drop, List.drop_left, show (ccs y ++ (D.flatMap ccs ++ rest)).drop 7 = D.flatMap ccs ++ rest from List.drop_left' rfl]
  rfl
theorem heldC_ble {ls : List CH} {rest : List Value} {k : Nat} (h : k < ls.length) (off : Nat) (ho : off = k * 7) : Nat.ble (off + 7) (ls.flatMap ccs ++ rest).length = true := Nat.ble_eq_true_of_le (by rw [List.length_append, cs_len]; omega)
section
variable {α : Type} {A M D : List α} {x y : α}
theorem two_get1 {i : Nat} (h : A.length = i) : (A ++ x :: (M ++ y :: D))[i]? = some x := by subst h; simp
theorem two_get2 {j : Nat} (h : A.length + 1 + M.length = j) : (A ++ x :: (M ++ y :: D))[j]? = some y := by
  subst h
  have e : A ++ x :: (M ++ y :: D) = (A ++ x :: M) ++ y :: D := by simp
  rw [e, List.getElem?_append_right (by simp; omega)]
  simp; rw [show A.length + 1 + M.length - (A.length + (M.length + 1)) = 0 by omega]; rfl
theorem two_set {i j : Nat} (hi : A.length = i) (hj : A.length + 1 + M.length = j) : ((A ++ x :: (M ++ y :: D)).set i y).set j x = A ++ y :: (M ++ x :: D) := by
  subst hi hj
  have e : (A ++ x :: (M ++ y :: D)).set A.length y = (A ++ y :: M) ++ y :: D := by simp
  rw [e, List.set_append_right _ _ (by simp; omega)]
  simp; rw [show A.length + 1 + M.length - (A.length + (M.length + 1)) = 0 by omega]; rfl
theorem two_set' {i j : Nat} (hi : A.length = i) (hj : A.length + 1 + M.length = j) : ((A ++ x :: (M ++ y :: D)).set j x).set i y = A ++ y :: (M ++ x :: D) := by
  rw [List.set_comm _ _ (by omega)]; exact two_set hi hj
end
attribute [local irreducible] V N X VO Par StepOK Has Ret RetL RetO RetT Src
/-- Two ranges that do not touch change places. -/
theorem swr_ret {P X Q Y R : List CH} {rest : List Value} {b m cap a e n : Nat} (ha : P.length = a) (he : a + X.length + Q.length = e) (hx : X.length = n) (hy : Y.length = n) (hm : (P ++ (X ++ (Q ++ (Y ++ R)))).length = m) (hm1 : m ≤ 100000) (fv : Value) {w : World} {B : Heap} {C : Nat → Prop} (hB : B.Le (hp w))
    (hr : (GHeld b ((P ++ (X ++ (Q ++ (Y ++ R)))).flatMap ccs ++ rest) tyC).P B w C) (hC : ∀ k, C k → k < w.heap.size ∧ B k = none) :
    RetG Try.prog 131 [.slice (some ⟨b, 0, none⟩) m cap, .int .i64 a, .int .i64 e, .int .i64 n, fv] w B C (GHeld b ((P ++ (Y ++ (Q ++ (X ++ R)))).flatMap ccs ++ rest) tyC) := by
  unfold RetG
  refine V_enterG 900 (GHeld b ((P ++ (X ++ (Q ++ (Y ++ R)))).flatMap ccs ++ rest) tyC) Try.func131 rfl Try.ntmps131 (Nat.le_of_ble_eq_true rfl) hB hr hC ?_
  rw [gheld_res]
  simp only [List.length_append] at hm
  refine V_seq ?_; refine V_region (id := 0) ?_; refine vo_step (ok_assign rfl rfl rfl) rfl ?_; refine vo_nil ?_; refine N_seq ?_; refine V_block ?_
  refine V_loop (fun i : Nat => [(0, .is (.slice (some ⟨b, 0, none⟩) m cap)), (1, .is (.int .i64 a)), (2, .is (.int .i64 e)), (3, .is (.int .i64 n)), (10, .is (.int .i64 i)), (900, .own (HeldR b ((P ++ (Y.take i ++ (X.drop i ++ (Q ++ (X.take i ++ (Y.drop i ++ R)))))).flatMap ccs ++ rest) tyC))]) (fun i => i ≤ n) (fun i => n - i) 0 (Nat.zero_le _) ⟨rfl, rfl, rfl, rfl, rfl, by simp only [List.take_zero, List.drop_zero, List.nil_append]; rfl, trivial⟩ ?_
  rintro i hi
  by_cases hlt : i < n
  · obtain ⟨x, hxi⟩ := get_some (l := X) (show i < X.length by omega)
    obtain ⟨y, hyi⟩ := get_some (l := Y) (show i < Y.length by omega)
    have e0 : P ++ (Y.take i ++ (X.drop i ++ (Q ++ (X.take i ++ (Y.drop i ++ R))))) = (P ++ Y.take i) ++ x :: ((X.drop (i + 1) ++ (Q ++ X.take i)) ++ y :: (Y.drop (i + 1) ++ R)) := by
      rw [drop_g hxi, drop_g hyi]; simp
    have e1 : P ++ (Y.take (i + 1) ++ (X.drop (i + 1) ++ (Q ++ (X.take (i + 1) ++ (Y.drop (i + 1) ++ R))))) = (P ++ Y.take i) ++ y :: ((X.drop (i + 1) ++ (Q ++ X.take i)) ++ x :: (Y.drop (i + 1) ++ R)) := by
      rw [List.take_add_one, List.take_add_one, hxi, hyi]; simp
    have l1 : (P ++ Y.take i).length = a + i := by rw [List.length_append, List.length_take]; omega
    have l2 : (P ++ Y.take i).length + 1 + (X.drop (i + 1) ++ (Q ++ X.take i)).length = e + i := by rw [l1, List.length_append, List.length_append, List.length_drop, List.length_take]; omega
    have g1 := two_get1 (x := x) (y := y) (M := X.drop (i + 1) ++ (Q ++ X.take i)) (D := Y.drop (i + 1) ++ R) l1
    have g2 := two_get2 (x := x) (y := y) (D := Y.drop (i + 1) ++ R) l2
    have g3 := two_set (x := x) (y := y) (D := Y.drop (i + 1) ++ R) l1 l2
    rw [e0]
    have hlen : ((P ++ Y.take i) ++ x :: ((X.drop (i + 1) ++ (Q ++ X.take i)) ++ y :: (Y.drop (i + 1) ++ R))).length = m := by rw [← e0]; simp only [List.length_append, List.length_take, List.length_drop]; omega
    generalize (P ++ Y.take i) ++ x :: ((X.drop (i + 1) ++ (Q ++ X.take i)) ++ y :: (Y.drop (i + 1) ++ R)) = K at *
    have h1 := get_lt g1
    have h2 := get_lt g2
    have q1 := heldC_at (rest := rest) g1 (0 + (a + i) * 7) (by omega)
    have q2 := heldC_at (rest := rest) g2 (0 + (e + i) * 7) (by omega)
    have s1 := heldC_set (rest := rest) (z := y) h1 (0 + (a + i) * 7) (by omega)
    have b1 := heldC_ble (rest := rest) h1 (0 + (a + i) * 7) (by omega)
    have h3 : e + i < (K.set (a + i) y).length := by rw [List.length_set]; exact h2
    have s2 := heldC_set (rest := rest) (z := x) h3 (0 + (e + i) * 7) (by omega)
    have b2 := heldC_ble (rest := rest) h3 (0 + (e + i) * 7) (by omega)
    rw [g3, ← e1] at s2
    have a1 : IntKind.i64.wrap ((a : Int) + (i : Int)) = ((a + i : Nat) : Int) := wrap_i64 (by omega) (by omega)
    have a2 : IntKind.i64.wrap ((e : Int) + (i : Int)) = ((e + i : Nat) : Int) := wrap_i64 (by omega) (by omega)
    refine V_seq ?_; refine V_seq ?_; refine V_region (id := 1) ?_; refine vo_step (ok_move rfl rfl rfl) rfl ?_; refine vo_step (ok_move rfl rfl rfl) rfl ?_; refine vo_step (ok_lss rfl rfl rfl rfl (decide_eq_true (by omega))) rfl ?_; refine vo_nil ?_; refine N_seq ?_; refine V_true rfl ?_; refine V_skip ?_; refine N_seq ?_; refine V_seq ?_; refine V_block ?_; refine V_regionD (id := 3) [(200029, [900]), (200035, [900]), (100036, [900]), (100037, [900])] mixed (by kernel_rfl) ?_; refine par_step (ok_move rfl rfl rfl) rfl ?_; refine par_step (ok_move rfl rfl rfl) rfl ?_; refine par_step (ok_move rfl rfl rfl) rfl ?_; refine par_step (ok_add rfl rfl rfl rfl (by assumption)) rfl ?_; refine par_step (ok_move rfl rfl rfl) rfl ?_; refine par_step (ok_move rfl rfl rfl) rfl ?_; refine par_step (ok_move rfl rfl rfl) rfl ?_; refine par_step (ok_add rfl rfl rfl rfl (by assumption)) rfl ?_; refine par_step (ok_move rfl rfl rfl) rfl ?_; refine par_step (ok_move rfl rfl rfl) rfl ?_; refine par_step (ok_move rfl rfl rfl) rfl ?_; refine par_step (ok_add rfl rfl rfl rfl (by assumption)) rfl ?_; refine par_step (ok_indexAt L _ rfl rfl rfl rfl rfl rfl rfl (by omega)) rfl ?_; refine par_stepR (ok_loadHA L (q := 900) (vs := [_, _, _, _, _, _, _]) rfl rfl rfl rfl rfl rfl q2) rfl rfl ?_; refine par_step (ok_move rfl rfl rfl) rfl ?_; refine par_step (ok_move rfl rfl rfl) rfl ?_; refine par_step (ok_move rfl rfl rfl) rfl ?_; refine par_step (ok_add rfl rfl rfl rfl (by assumption)) rfl ?_; refine par_step (ok_indexAt L _ rfl rfl rfl rfl rfl rfl rfl (by omega)) rfl ?_; refine par_stepR (ok_loadHA L (q := 900) (vs := [_, _, _, _, _, _, _]) rfl rfl rfl rfl rfl rfl q1) rfl rfl ?_; refine par_step (ok_indexAt L _ rfl rfl rfl rfl rfl rfl rfl (by omega)) rfl ?_; refine par_stepS (ok_storeH L (q := 900) rfl rfl rfl rfl rfl rfl b1 rfl s1) rfl ?_; refine par_step (ok_indexAt L _ rfl rfl rfl rfl rfl rfl rfl (by omega)) rfl ?_; refine par_stepS (ok_storeH L (q := 900) rfl rfl rfl rfl rfl rfl b2 rfl s2) rfl ?_; refine par_nil ?_; refine N_block ?_; refine N_seq ?_; refine V_region (id := 2) ?_; refine vo_step (ok_move rfl rfl rfl) rfl ?_; refine vo_step (ok_add rfl rfl rfl rfl (wrap_i64 (by omega) (by omega))) rfl ?_; refine vo_step (ok_assign rfl rfl rfl) rfl ?_; refine vo_nil ?_
    exact N_round (x := i) (i + 1) (by omega) (by omega) ⟨rfl, rfl, rfl, rfl, rfl, rfl, trivial⟩
  · obtain rfl : i = n := by omega
    have t1 : X.take i = X := List.take_of_length_le (by omega)
    have t2 : Y.take i = Y := List.take_of_length_le (by omega)
    have t3 : X.drop i = [] := List.drop_eq_nil_of_le (by omega)
    have t4 : Y.drop i = [] := List.drop_eq_nil_of_le (by omega)
    rw [t1, t2, t3, t4]
    simp only [List.nil_append]
    refine V_seq ?_; refine V_seq ?_; refine V_region (id := 1) ?_; refine vo_step (ok_move rfl rfl rfl) rfl ?_; refine vo_step (ok_move rfl rfl rfl) rfl ?_; refine vo_step (ok_lss rfl rfl rfl rfl (decide_eq_false (by omega))) rfl ?_; refine vo_nil ?_; refine N_seq ?_; refine V_false rfl ?_; refine V_exit ?_; refine X_then ?_; refine X_then ?_; refine X_here ?_
    exact N_retGhost L 900 (r := GHeld b _ tyC) rfl (fun _ _ h => h) Since.refl rfl rfl
end Go.V.L8
/- The walks of the library's stable sort, at changes: rotation, insertion. -/
namespace Go.V.L8
open Go.Proofs Go.RowKit Go.V Go.V.L2 Go.V.L3 Go.V.L6
def stC (l : List CH) : List CH := stbL (fun c => c.1) cmpT l
theorem stC_len (l : List CH) : (stC l).length = l.length := stbL_len cmpT_ord l
attribute [local irreducible] V N X VO Par StepOK Has Ret RetL RetO RetT RetG Src
set_option maxHeartbeats 1000000 in
set_option maxRecDepth 20000 in
theorem rot_ret {P X Y R : List CH} {rest : List Value} {b m cap a mm e : Nat} (ha : P.length = a) (hmm : a + X.length = mm) (he : mm + Y.length = e) (hx : 0 < X.length) (hy : 0 < Y.length) (hm : (P ++ (X ++ (Y ++ R))).length = m) (hm1 : m ≤ 100000) (fv : Value) {w : World} {B : Heap} {C : Nat → Prop} (hB : B.Le (hp w))
    (hr : (GHeld b ((P ++ (X ++ (Y ++ R))).flatMap ccs ++ rest) tyC).P B w C) (hC : ∀ k, C k → k < w.heap.size ∧ B k = none) :
    RetG Try.prog 128 [.slice (some ⟨b, 0, none⟩) m cap, .int .i64 a, .int .i64 mm, .int .i64 e, fv] w B C (GHeld b ((P ++ (Y ++ (X ++ R))).flatMap ccs ++ rest) tyC) := by
  unfold RetG
  refine V_enterG 900 (GHeld b ((P ++ (X ++ (Y ++ R))).flatMap ccs ++ rest) tyC) Try.func128 rfl Try.ntmps128 (Nat.le_of_ble_eq_true rfl) hB hr hC ?_
  rw [gheld_res]
  simp only [List.length_append] at hm
  have s1 : IntKind.i64.wrap ((mm : Int) - (a : Int)) = (X.length : Int) := wrap_i64 (by omega) (by omega) |>.trans (by omega)
  have s2 : IntKind.i64.wrap ((e : Int) - (mm : Int)) = (Y.length : Int) := wrap_i64 (by omega) (by omega) |>.trans (by omega)
  refine V_seq ?_; refine V_region (id := 0) ?_; refine vo_step (ok_move rfl rfl rfl) rfl ?_; refine vo_step (ok_move rfl rfl rfl) rfl ?_; refine vo_step (ok_sub rfl rfl rfl rfl (by assumption)) rfl ?_; refine vo_step (ok_assign rfl rfl rfl) rfl ?_; refine vo_nil ?_; refine N_seq ?_; refine V_seq ?_; refine V_region (id := 1) ?_; refine vo_step (ok_move rfl rfl rfl) rfl ?_; refine vo_step (ok_move rfl rfl rfl) rfl ?_; refine vo_step (ok_sub rfl rfl rfl rfl (by assumption)) rfl ?_; refine vo_step (ok_assign rfl rfl rfl) rfl ?_; refine vo_nil ?_; refine N_seq ?_; refine V_seq ?_; refine V_block ?_
  refine V_loop (fun s : (List CH × List CH) × (List CH × List CH) => [(0, .is (.slice (some ⟨b, 0, none⟩) m cap)), (2, .is (.int .i64 mm)), (4, .is fv), (10, .is (.int .i64 s.1.2.length)), (11, .is (.int .i64 s.2.1.length)), (900, .own (HeldR b ((P ++ (s.1.1 ++ (s.1.2 ++ (s.2.1 ++ (s.2.2 ++ R))))).flatMap ccs ++ rest) tyC))])
    (fun s => a + s.1.1.length + s.1.2.length = mm ∧ mm + s.2.1.length + s.2.2.length = e ∧ 0 < s.1.2.length ∧ 0 < s.2.1.length ∧ s.1.1 ++ (s.2.1 ++ (s.1.2 ++ s.2.2)) = Y ++ X) (fun s => s.1.2.length + s.2.1.length) (([], X), (Y, [])) ⟨hmm, he, hx, hy, by simp⟩ ⟨rfl, rfl, rfl, rfl, rfl, rfl, trivial⟩ ?_
  rintro ⟨⟨D1, X1⟩, ⟨Y1, D2⟩⟩ ⟨h1, h2, h3, h4, h5⟩
  dsimp only at h1 h2 h3 h4 h5 ⊢
  have hs1 : IntKind.i64.wrap ((mm : Int) - (X1.length : Int)) = ((mm - X1.length : Nat) : Int) := wrap_i64 (by omega) (by omega) |>.trans (by omega)
  by_cases heq : X1.length = Y1.length
  · have e0 : P ++ (D1 ++ (X1 ++ (Y1 ++ (D2 ++ R)))) = (P ++ D1) ++ (X1 ++ ([] ++ (Y1 ++ (D2 ++ R)))) := by simp
    have e1 : (P ++ D1) ++ (Y1 ++ ([] ++ (X1 ++ (D2 ++ R)))) = P ++ (Y ++ (X ++ R)) := by
      have : Y ++ (X ++ R) = D1 ++ (Y1 ++ (X1 ++ D2)) ++ R := by rw [h5]; simp
      rw [this]; simp
    have hlen : ((P ++ D1) ++ (X1 ++ ([] ++ (Y1 ++ (D2 ++ R))))).length = m := by simp only [List.length_append, List.length_nil]; omega
    rw [e0]
    refine V_seq ?_; refine V_seq ?_; refine V_region (id := 2) ?_; refine vo_step (ok_move rfl rfl rfl) rfl ?_; refine vo_step (ok_move rfl rfl rfl) rfl ?_; refine vo_step (ok_neq rfl rfl rfl rfl (decide_eq_false (by omega))) rfl ?_; refine vo_nil ?_; refine N_seq ?_; refine V_false rfl ?_; refine V_exit ?_; refine X_then ?_; refine X_then ?_; refine X_here ?_; refine N_seq ?_; refine V_region (id := 8) ?_; refine vo_step (ok_move rfl rfl rfl) rfl ?_; refine vo_step (ok_move rfl rfl rfl) rfl ?_; refine vo_step (ok_move rfl rfl rfl) rfl ?_; refine vo_step (ok_sub rfl rfl rfl rfl (by assumption)) rfl ?_; refine vo_step (ok_move rfl rfl rfl) rfl ?_; refine vo_step (ok_move rfl rfl rfl) rfl ?_; refine vo_step (ok_move rfl rfl rfl) rfl ?_; refine vo_step2 (ok_callG L 900 (GHeld b (((P ++ D1) ++ (Y1 ++ ([] ++ (X1 ++ (D2 ++ R))))).flatMap ccs ++ rest) tyC) (r := GHeld b (((P ++ D1) ++ (X1 ++ ([] ++ (Y1 ++ (D2 ++ R))))).flatMap ccs ++ rest) tyC) rfl rfl rfl rfl rfl (fun u H C hH _ hr hC => (by have h := swr_ret (cap := cap) (a := mm - X1.length) (e := mm) (n := X1.length) (by rw [List.length_append]; omega) (by simp only [List.length_nil]; omega) rfl heq.symm hlen hm1 fv hH hr hC; exact h))) ?_; refine vo_nil ?_
    rw [e1]
    exact N_retGhost L 900 (r := GHeld b _ tyC) rfl (fun _ _ h => h) Since.refl rfl rfl
  · by_cases hgt : Y1.length < X1.length
    · have hs2 : IntKind.i64.wrap ((X1.length : Int) - (Y1.length : Int)) = ((X1.drop Y1.length).length : Int) := wrap_i64 (by omega) (by omega) |>.trans (by rw [List.length_drop]; omega)
      have lt : (X1.take Y1.length).length = Y1.length := by rw [List.length_take]; omega
      have e0 : P ++ (D1 ++ (X1 ++ (Y1 ++ (D2 ++ R)))) = (P ++ D1) ++ (X1.take Y1.length ++ (X1.drop Y1.length ++ (Y1 ++ (D2 ++ R)))) := by
        conv => lhs; rw [← List.take_append_drop Y1.length X1]
        simp only [List.append_assoc]
      have e1 : (P ++ D1) ++ (Y1 ++ (X1.drop Y1.length ++ (X1.take Y1.length ++ (D2 ++ R)))) = P ++ ((D1 ++ Y1) ++ (X1.drop Y1.length ++ (X1.take Y1.length ++ (D2 ++ R)))) := by simp
      have hlen : ((P ++ D1) ++ (X1.take Y1.length ++ (X1.drop Y1.length ++ (Y1 ++ (D2 ++ R))))).length = m := by rw [← e0]; simp only [List.length_append]; omega
      have hld : (X1.drop Y1.length).length = X1.length - Y1.length := List.length_drop
      rw [e0]
      refine V_seq ?_; refine V_seq ?_; refine V_region (id := 2) ?_; refine vo_step (ok_move rfl rfl rfl) rfl ?_; refine vo_step (ok_move rfl rfl rfl) rfl ?_; refine vo_step (ok_neq rfl rfl rfl rfl (decide_eq_true (by omega))) rfl ?_; refine vo_nil ?_; refine N_seq ?_; refine V_true rfl ?_; refine V_skip ?_; refine N_seq ?_; refine V_block ?_; refine V_seq ?_; refine V_region (id := 3) ?_; refine vo_step (ok_move rfl rfl rfl) rfl ?_; refine vo_step (ok_move rfl rfl rfl) rfl ?_; refine vo_step (ok_gtr rfl rfl rfl rfl (decide_eq_true (by omega))) rfl ?_; refine vo_nil ?_; refine N_seq ?_; refine V_true rfl ?_; refine V_seq ?_; refine V_region (id := 4) ?_; refine vo_step (ok_move rfl rfl rfl) rfl ?_; refine vo_step (ok_move rfl rfl rfl) rfl ?_; refine vo_step (ok_move rfl rfl rfl) rfl ?_; refine vo_step (ok_sub rfl rfl rfl rfl (by assumption)) rfl ?_; refine vo_step (ok_move rfl rfl rfl) rfl ?_; refine vo_step (ok_move rfl rfl rfl) rfl ?_; refine vo_step (ok_move rfl rfl rfl) rfl ?_; refine vo_step2 (ok_callG L 900 (GHeld b (((P ++ D1) ++ (Y1 ++ (X1.drop Y1.length ++ (X1.take Y1.length ++ (D2 ++ R))))).flatMap ccs ++ rest) tyC) (r := GHeld b (((P ++ D1) ++ (X1.take Y1.length ++ (X1.drop Y1.length ++ (Y1 ++ (D2 ++ R))))).flatMap ccs ++ rest) tyC) rfl rfl rfl rfl rfl (fun u H C hH _ hr hC => (by have h := swr_ret (cap := cap) (a := mm - X1.length) (e := mm) (n := Y1.length) (by rw [List.length_append]; omega) (by omega) lt rfl hlen hm1 fv hH hr hC; exact h))) ?_; refine vo_nil ?_; refine N_seq ?_; refine V_region (id := 5) ?_; refine vo_step (ok_move rfl rfl rfl) rfl ?_; refine vo_step (ok_move rfl rfl rfl) rfl ?_; refine vo_step (ok_sub rfl rfl rfl rfl (by assumption)) rfl ?_; refine vo_step (ok_assign rfl rfl rfl) rfl ?_; refine vo_nil ?_; refine N_block ?_
      rw [e1]
      exact N_round (x := ((D1, X1), (Y1, D2))) ((D1 ++ Y1, X1.drop Y1.length), (X1.take Y1.length, D2)) ⟨by dsimp only; rw [List.length_append]; omega, by dsimp only; omega, by dsimp only; omega, by dsimp only; omega, by
        dsimp only
        rw [← h5]
        conv => rhs; rw [← List.take_append_drop Y1.length X1]
        simp only [List.append_assoc]⟩ (by dsimp only; omega) ⟨rfl, rfl, rfl, rfl, by dsimp only; rw [lt]; rfl, rfl, trivial⟩
    · have hs2 : IntKind.i64.wrap ((Y1.length : Int) - (X1.length : Int)) = ((Y1.take (Y1.length - X1.length)).length : Int) := wrap_i64 (by omega) (by omega) |>.trans (by rw [List.length_take]; omega)
      have hs3 : IntKind.i64.wrap ((mm : Int) + (Y1.length : Int)) = ((mm + Y1.length : Nat) : Int) := wrap_i64 (by omega) (by omega)
      have hs4 : IntKind.i64.wrap (((mm + Y1.length : Nat) : Int) - (X1.length : Int)) = ((mm + Y1.length - X1.length : Nat) : Int) := wrap_i64 (by omega) (by omega) |>.trans (by omega)
      have lt : (Y1.take (Y1.length - X1.length)).length = Y1.length - X1.length := by rw [List.length_take]; omega
      have ld : (Y1.drop (Y1.length - X1.length)).length = X1.length := by rw [List.length_drop]; omega
      have e0 : P ++ (D1 ++ (X1 ++ (Y1 ++ (D2 ++ R)))) = (P ++ D1) ++ (X1 ++ (Y1.take (Y1.length - X1.length) ++ (Y1.drop (Y1.length - X1.length) ++ (D2 ++ R)))) := by
        conv => lhs; rw [← List.take_append_drop (Y1.length - X1.length) Y1]
        simp only [List.append_assoc]
      have e1 : (P ++ D1) ++ (Y1.drop (Y1.length - X1.length) ++ (Y1.take (Y1.length - X1.length) ++ (X1 ++ (D2 ++ R)))) = P ++ (D1 ++ (Y1.drop (Y1.length - X1.length) ++ (Y1.take (Y1.length - X1.length) ++ ((X1 ++ D2) ++ R)))) := by simp
      have hlen : ((P ++ D1) ++ (X1 ++ (Y1.take (Y1.length - X1.length) ++ (Y1.drop (Y1.length - X1.length) ++ (D2 ++ R))))).length = m := by rw [← e0]; simp only [List.length_append]; omega
      rw [e0]
      refine V_seq ?_; refine V_seq ?_; refine V_region (id := 2) ?_; refine vo_step (ok_move rfl rfl rfl) rfl ?_; refine vo_step (ok_move rfl rfl rfl) rfl ?_; refine vo_step (ok_neq rfl rfl rfl rfl (decide_eq_true (by omega))) rfl ?_; refine vo_nil ?_; refine N_seq ?_; refine V_true rfl ?_; refine V_skip ?_; refine N_seq ?_; refine V_block ?_; refine V_seq ?_; refine V_region (id := 3) ?_; refine vo_step (ok_move rfl rfl rfl) rfl ?_; refine vo_step (ok_move rfl rfl rfl) rfl ?_; refine vo_step (ok_gtr rfl rfl rfl rfl (decide_eq_false (by omega))) rfl ?_; refine vo_nil ?_; refine N_seq ?_; refine V_false rfl ?_; refine V_seq ?_; refine V_region (id := 6) ?_; refine vo_step (ok_move rfl rfl rfl) rfl ?_; refine vo_step (ok_move rfl rfl rfl) rfl ?_; refine vo_step (ok_move rfl rfl rfl) rfl ?_; refine vo_step (ok_sub rfl rfl rfl rfl (by assumption)) rfl ?_; refine vo_step (ok_move rfl rfl rfl) rfl ?_; refine vo_step (ok_move rfl rfl rfl) rfl ?_; refine vo_step (ok_add rfl rfl rfl rfl (by assumption)) rfl ?_; refine vo_step (ok_move rfl rfl rfl) rfl ?_; refine vo_step (ok_sub rfl rfl rfl rfl (by assumption)) rfl ?_; refine vo_step (ok_move rfl rfl rfl) rfl ?_; refine vo_step (ok_move rfl rfl rfl) rfl ?_; refine vo_step2 (ok_callG L 900 (GHeld b (((P ++ D1) ++ (Y1.drop (Y1.length - X1.length) ++ (Y1.take (Y1.length - X1.length) ++ (X1 ++ (D2 ++ R))))).flatMap ccs ++ rest) tyC) (r := GHeld b (((P ++ D1) ++ (X1 ++ (Y1.take (Y1.length - X1.length) ++ (Y1.drop (Y1.length - X1.length) ++ (D2 ++ R))))).flatMap ccs ++ rest) tyC) rfl rfl rfl rfl rfl (fun u H C hH _ hr hC => (by have h := swr_ret (cap := cap) (a := mm - X1.length) (e := mm + Y1.length - X1.length) (n := X1.length) (by rw [List.length_append]; omega) (by omega) rfl ld hlen hm1 fv hH hr hC; exact h))) ?_; refine vo_nil ?_; refine N_seq ?_; refine V_region (id := 7) ?_; refine vo_step (ok_move rfl rfl rfl) rfl ?_; refine vo_step (ok_move rfl rfl rfl) rfl ?_; refine vo_step (ok_sub rfl rfl rfl rfl (by assumption)) rfl ?_; refine vo_step (ok_assign rfl rfl rfl) rfl ?_; refine vo_nil ?_; refine N_block ?_
      rw [e1]
      exact N_round (x := ((D1, X1), (Y1, D2))) ((D1, Y1.drop (Y1.length - X1.length)), (Y1.take (Y1.length - X1.length), X1 ++ D2)) ⟨by dsimp only; omega, by dsimp only; rw [List.length_append]; omega, by dsimp only; omega, by dsimp only; omega, by
        dsimp only
        rw [← h5]
        conv => rhs; rw [← List.take_append_drop (Y1.length - X1.length) Y1]
        simp only [List.append_assoc]⟩ (by dsimp only; omega) ⟨rfl, rfl, rfl, by dsimp only; rw [ld]; rfl, rfl, rfl, trivial⟩
abbrev ORD : Nat := 90
abbrev ordV : Value := .func (.func ORD) #[] #[]
theorem ordC_ret {x y : CH} {w : World} {B : Heap} (hB : B.Le (hp w)) : Ret Try.prog ORD ([chv x.1 x.2, chv y.1 y.2] ++ []) w B (fun r _ => r = .int .i64 (cmpT x.1 y.1)) := by
  refine V_enter Try.func90 rfl Try.ntmps90 (Nat.le_of_ble_eq_true rfl) hB ?_
  refine V_seq ?_; refine V_region (id := 0) ?_; refine vo_step (ok_box rfl rfl rfl rfl) rfl ?_; refine vo_step (ok_box rfl rfl rfl rfl) rfl ?_; refine vo_step (ok_assign rfl rfl rfl) rfl ?_; refine vo_nil ?_; refine N_seq ?_; refine V_seq ?_; refine V_region (id := 1) ?_; refine vo_step (ok_fieldAt L rfl rfl rfl rfl) rfl ?_; refine vo_step (ok_loadA L (vs := [_, _, _, _, _, _]) (src_at rfl) rfl rfl rfl rfl ⟨_, rfl⟩) rfl ?_; refine vo_step (ok_fieldAt L rfl rfl rfl rfl) rfl ?_; refine vo_step (ok_loadA L (vs := [_, _, _, _, _, _]) (src_at rfl) rfl rfl rfl rfl ⟨_, rfl⟩) rfl ?_; refine vo_step (ok_callx L rfl rfl (blt_lt rfl) rfl rfl rfl (fun u H hH _ _ => tcmp_ret (a := x.1) (b := y.1) hH)) rfl ?_; refine vo_step (ok_assign rfl rfl rfl) rfl ?_; refine vo_nil ?_; refine N_seq ?_
  refine V_ret L (rs := [.tmp 4]) rfl (fun _ _ h => h) Since.refl fun u H hH hle => ?_
  rfl
set_option maxHeartbeats 1000000 in
set_option maxRecDepth 20000 in
theorem ins_ret {P X R : List CH} {rest : List Value} {b m cap a e : Nat} (ha : P.length = a) (he : a + X.length = e) (hm : (P ++ (X ++ R)).length = m) (hm1 : m ≤ 100000) {w : World} {B : Heap} {C : Nat → Prop} (hB : B.Le (hp w))
    (hr : (GHeld b ((P ++ (X ++ R)).flatMap ccs ++ rest) tyC).P B w C) (hC : ∀ k, C k → k < w.heap.size ∧ B k = none) :
    RetG Try.prog 122 [.slice (some ⟨b, 0, none⟩) m cap, .int .i64 a, .int .i64 e, ordV] w B C (GHeld b ((P ++ (stC X ++ R)).flatMap ccs ++ rest) tyC) := by
  unfold RetG
  refine V_enterG 900 (GHeld b ((P ++ (X ++ R)).flatMap ccs ++ rest) tyC) Try.func122 rfl Try.ntmps122 (Nat.le_of_ble_eq_true rfl) hB hr hC ?_
  rw [gheld_res]
  simp only [List.length_append] at hm
  have hst1 : stC (X.take 1) = X.take 1 := by rcases X with _ | ⟨x, X⟩ <;> rfl
  refine V_seq ?_; refine V_region (id := 0) ?_; refine vo_step (ok_move rfl rfl rfl) rfl ?_; refine vo_step (ok_add rfl rfl rfl rfl (wrap_i64 (by omega) (by omega))) rfl ?_; refine vo_step (ok_assign rfl rfl rfl) rfl ?_; refine vo_nil ?_; refine N_seq ?_; refine V_block ?_
  refine V_loop (fun s : Nat => [(0, .is (.slice (some ⟨b, 0, none⟩) m cap)), (1, .is (.int .i64 a)), (2, .is (.int .i64 e)), (3, .is ordV), (8, .is (.int .i64 (a + s : Nat))), (900, .own (HeldR b ((P ++ (stC (X.take s) ++ (X.drop s ++ R))).flatMap ccs ++ rest) tyC))]) (fun s => 1 ≤ s ∧ s ≤ max X.length 1) (fun s => X.length - s) 1 ⟨Nat.le_refl _, by omega⟩ ⟨rfl, rfl, rfl, rfl, rfl, by rw [hst1, ← List.append_assoc (X.take 1), List.take_append_drop]; rfl, trivial⟩ ?_
  rintro s ⟨hs1, hs2⟩
  by_cases hlt : s < X.length
  · obtain ⟨x, hx⟩ := get_some hlt
    have hsl : (stC (X.take s)).length = s := by rw [stC_len, List.length_take]; omega
    refine V_seq ?_; refine V_seq ?_; refine V_region (id := 1) ?_; refine vo_step (ok_move rfl rfl rfl) rfl ?_; refine vo_step (ok_move rfl rfl rfl) rfl ?_; refine vo_step (ok_lss rfl rfl rfl rfl (decide_eq_true (by omega))) rfl ?_; refine vo_nil ?_; refine N_seq ?_; refine V_true rfl ?_; refine V_skip ?_; refine N_seq ?_; refine V_seq ?_; refine V_block ?_; refine V_seq ?_; refine V_region (id := 3) ?_; refine vo_step (ok_move rfl rfl rfl) rfl ?_; refine vo_step (ok_assign rfl rfl rfl) rfl ?_; refine vo_nil ?_; refine N_seq ?_; refine V_block ?_
    refine V_loop (fun t : List CH × List CH => [(0, .is (.slice (some ⟨b, 0, none⟩) m cap)), (1, .is (.int .i64 a)), (2, .is (.int .i64 e)), (3, .is ordV), (8, .is (.int .i64 (a + s : Nat))), (9, .is (.int .i64 (a + t.1.length : Nat))), (900, .own (HeldR b ((P ++ (t.1 ++ (x :: (t.2 ++ (X.drop (s + 1) ++ R))))).flatMap ccs ++ rest) tyC))])
      (fun t => t.1 ++ t.2 = stC (X.take s) ∧ ∀ z ∈ t.2, cmpT x.1 z.1 < 0) (fun t => t.1.length) (stC (X.take s), []) ⟨List.append_nil _, fun z hz => (by cases hz)⟩ ⟨rfl, rfl, rfl, rfl, rfl, by dsimp only; rw [hsl]; rfl, by dsimp only; rw [drop_g hx]; rfl, trivial⟩ ?_
    rintro ⟨A, D⟩ ⟨hAD, hD⟩
    dsimp only at hAD hD ⊢
    have hAl : A.length + D.length = s := by rw [← List.length_append, hAD, hsl]
    have hfin : (∀ y, A.getLast? = some y → ¬ cmpT x.1 y.1 < 0) → P ++ (A ++ (x :: (D ++ (X.drop (s + 1) ++ R)))) = P ++ (stC (X.take (s + 1)) ++ (X.drop (s + 1) ++ R)) := fun h => by
      have := ins_end (k := fun c : CH => c.1) cmpT_ord (x := x) hAD hD h
      rw [List.take_add_one, hx]
      unfold stC
      show _ = P ++ (stbL (fun c : CH => c.1) cmpT (X.take s ++ [x]) ++ _)
      rw [← this]; simp
    rcases List.eq_nil_or_concat A with hA | ⟨A', y, hA⟩
    · subst hA
      rw [hfin (fun y hy => by simp at hy), List.length_nil, Nat.add_zero]
      refine V_seq ?_; refine V_seq ?_; refine V_regionD (id := 4) [(200026, [900]), (200031, [900])] mixed (by kernel_rfl) ?_; refine par_step (ok_move rfl rfl rfl) rfl ?_; refine par_step (ok_move rfl rfl rfl) rfl ?_; refine par_step (ok_gtr rfl rfl rfl rfl (decide_eq_false (by omega))) rfl ?_; refine par_step (ok_move rfl rfl rfl) rfl ?_; refine par_step (ok_skip rfl (blt_lt rfl) rfl) rfl ?_; refine par_step (ok_skip rfl (blt_lt rfl) rfl) rfl ?_; refine par_step (ok_skip rfl (blt_lt rfl) rfl) rfl ?_; refine par_step (ok_skip rfl (blt_lt rfl) rfl) rfl ?_; refine par_step (ok_skip rfl (blt_lt rfl) rfl) rfl ?_; refine par_step (ok_skip rfl (blt_lt rfl) rfl) rfl ?_; refine par_step (ok_skip rfl (blt_lt rfl) rfl) rfl ?_; refine par_step (ok_skip rfl (blt_lt rfl) rfl) rfl ?_; refine par_step (ok_skip rfl (blt_lt rfl) rfl) rfl ?_; refine par_step (ok_skip rfl (blt_lt rfl) rfl) rfl ?_; refine par_step (ok_skip rfl (blt_lt rfl) rfl) rfl ?_; refine par_step (ok_skip rfl (blt_lt rfl) rfl) rfl ?_; refine par_step (ok_pick rfl rfl rfl rfl) rfl ?_; refine par_nil ?_; refine N_seq ?_; refine V_false rfl ?_; refine V_exit ?_; refine X_then ?_; refine X_then ?_; refine X_here ?_; refine N_block ?_; refine N_seq ?_; refine V_region (id := 2) ?_; refine vo_step (ok_move rfl rfl rfl) rfl ?_; refine vo_step (ok_add rfl rfl rfl rfl (wrap_i64 (by omega) (by omega))) rfl ?_; refine vo_step (ok_assign rfl rfl rfl) rfl ?_; refine vo_nil ?_
      exact N_round (x := s) (s + 1) ⟨by omega, by omega⟩ (by omega) ⟨rfl, rfl, rfl, rfl, rfl, rfl, trivial⟩
    · rw [List.concat_eq_append] at hA
      subst hA
      have hl9 : (A' ++ [y]).length = A'.length + 1 := by rw [List.length_append, List.length_singleton]
      rw [hl9] at hAl
      have e0 : P ++ ((A' ++ [y]) ++ (x :: (D ++ (X.drop (s + 1) ++ R)))) = (P ++ A') ++ y :: ([] ++ x :: (D ++ (X.drop (s + 1) ++ R))) := by simp
      have l1 : (P ++ A').length = a + A'.length := by rw [List.length_append, ha]
      have l2 : (P ++ A').length + 1 + ([] : List CH).length = a + (A' ++ [y]).length := by rw [l1, hl9]; rfl
      have g1 := two_get1 (x := y) (y := x) (M := []) (D := D ++ (X.drop (s + 1) ++ R)) l1
      have g2 := two_get2 (x := y) (y := x) (D := D ++ (X.drop (s + 1) ++ R)) l2
      have g3 := two_set' (x := y) (y := x) (D := D ++ (X.drop (s + 1) ++ R)) l1 l2
      have e1 : (P ++ A') ++ x :: ([] ++ y :: (D ++ (X.drop (s + 1) ++ R))) = P ++ (A' ++ (x :: ((y :: D) ++ (X.drop (s + 1) ++ R)))) := by simp
      have hlen : ((P ++ A') ++ y :: ([] ++ x :: (D ++ (X.drop (s + 1) ++ R)))).length = m := by rw [← e0]; simp only [List.length_append, List.length_cons, List.length_nil, List.length_drop]; omega
      have hw1 : IntKind.i64.wrap (((a + (A' ++ [y]).length : Nat) : Int) - 1) = ((a + A'.length : Nat) : Int) := wrap_i64 (by omega) (by omega) |>.trans (by omega)
      by_cases hc : cmpT x.1 y.1 < 0
      · rw [e0]
        rw [e1] at g3
        generalize (P ++ A') ++ y :: ([] ++ x :: (D ++ (X.drop (s + 1) ++ R))) = K at *
        have h1 := get_lt g1
        have h2 := get_lt g2
        have q1 := heldC_at (rest := rest) g1 (0 + (a + A'.length) * 7) (by omega)
        have q2 := heldC_at (rest := rest) g2 (0 + (a + (A' ++ [y]).length) * 7) (by omega)
        have s1 := heldC_set (rest := rest) (z := y) h2 (0 + (a + (A' ++ [y]).length) * 7) (by omega)
        have b1 := heldC_ble (rest := rest) h2 (0 + (a + (A' ++ [y]).length) * 7) (by omega)
        have h3 : a + A'.length < (K.set (a + (A' ++ [y]).length) y).length := by rw [List.length_set]; exact h1
        have s2 := heldC_set (rest := rest) (z := x) h3 (0 + (a + A'.length) * 7) (by omega)
        have b2 := heldC_ble (rest := rest) h3 (0 + (a + A'.length) * 7) (by omega)
        rw [g3] at s2
        refine V_seq ?_; refine V_seq ?_; refine V_regionD (id := 4) [(200026, [900]), (200031, [900])] mixed (by kernel_rfl) ?_; refine par_step (ok_move rfl rfl rfl) rfl ?_; refine par_step (ok_move rfl rfl rfl) rfl ?_; refine par_step (ok_gtr rfl rfl rfl rfl (decide_eq_true (by omega))) rfl ?_; refine par_step (ok_move rfl rfl rfl) rfl ?_; refine par_step (ok_move rfl rfl rfl) rfl ?_; refine par_step (ok_move rfl rfl rfl) rfl ?_; refine par_step (ok_move rfl rfl rfl) rfl ?_; refine par_step (ok_indexAt L _ rfl rfl rfl rfl rfl rfl rfl (by omega)) rfl ?_; refine par_stepR (ok_loadHA L (q := 900) (vs := [_, _, _, _, _, _, _]) rfl rfl rfl rfl rfl rfl q2) rfl rfl ?_; refine par_step (ok_move rfl rfl rfl) rfl ?_; refine par_step (ok_move rfl rfl rfl) rfl ?_; refine par_step (ok_sub rfl rfl rfl rfl (by assumption)) rfl ?_; refine par_step (ok_indexAt L _ rfl rfl rfl rfl rfl rfl rfl (by omega)) rfl ?_; refine par_stepR (ok_loadHA L (q := 900) (vs := [_, _, _, _, _, _, _]) rfl rfl rfl rfl rfl rfl q1) rfl rfl ?_; refine par_step (ok_callx L rfl rfl (blt_lt rfl) rfl rfl rfl (fun u H hH _ _ => ordC_ret hH)) rfl ?_; refine par_step (ok_lss rfl rfl rfl rfl (decide_eq_true (by omega))) rfl ?_; refine par_step (ok_pick rfl rfl rfl rfl) rfl ?_; refine par_nil ?_; refine N_seq ?_; refine V_true rfl ?_; refine V_skip ?_; refine N_seq ?_; refine V_seq ?_; refine V_block ?_; refine V_regionD (id := 6) [(200046, [900]), (200050, [900]), (100051, [900]), (100052, [900])] mixed (by kernel_rfl) ?_; refine par_step (ok_move rfl rfl rfl) rfl ?_; refine par_step (ok_move rfl rfl rfl) rfl ?_; refine par_step (ok_move rfl rfl rfl) rfl ?_; refine par_step (ok_move rfl rfl rfl) rfl ?_; refine par_step (ok_sub rfl rfl rfl rfl (by assumption)) rfl ?_; refine par_step (ok_move rfl rfl rfl) rfl ?_; refine par_step (ok_move rfl rfl rfl) rfl ?_; refine par_step (ok_sub rfl rfl rfl rfl (by assumption)) rfl ?_; refine par_step (ok_indexAt L _ rfl rfl rfl rfl rfl rfl rfl (by omega)) rfl ?_; refine par_stepR (ok_loadHA L (q := 900) (vs := [_, _, _, _, _, _, _]) rfl rfl rfl rfl rfl rfl q1) rfl rfl ?_; refine par_step (ok_move rfl rfl rfl) rfl ?_; refine par_step (ok_move rfl rfl rfl) rfl ?_; refine par_step (ok_indexAt L _ rfl rfl rfl rfl rfl rfl rfl (by omega)) rfl ?_; refine par_stepR (ok_loadHA L (q := 900) (vs := [_, _, _, _, _, _, _]) rfl rfl rfl rfl rfl rfl q2) rfl rfl ?_; refine par_step (ok_indexAt L _ rfl rfl rfl rfl rfl rfl rfl (by omega)) rfl ?_; refine par_stepS (ok_storeH L (q := 900) rfl rfl rfl rfl rfl rfl b1 rfl s1) rfl ?_; refine par_step (ok_indexAt L _ rfl rfl rfl rfl rfl rfl rfl (by omega)) rfl ?_; refine par_stepS (ok_storeH L (q := 900) rfl rfl rfl rfl rfl rfl b2 rfl s2) rfl ?_; refine par_nil ?_; refine N_block ?_; refine N_seq ?_; refine V_region (id := 5) ?_; refine vo_step (ok_move rfl rfl rfl) rfl ?_; refine vo_step (ok_sub rfl rfl rfl rfl (by assumption)) rfl ?_; refine vo_step (ok_assign rfl rfl rfl) rfl ?_; refine vo_nil ?_
        exact N_round (x := (A' ++ [y], D)) (A', y :: D) ⟨by rw [← hAD]; simp, fun z hz => by
          rcases List.mem_cons.1 hz with rfl | hz
          · exact hc
          · exact hD z hz⟩ (by dsimp only; omega) ⟨rfl, rfl, rfl, rfl, rfl, rfl, rfl, trivial⟩
      · have hf := hfin (fun z hz => by rw [List.getLast?_append] at hz; simp at hz; subst hz; exact hc)
        rw [e0]
        rw [e0] at hf
        have q1 := heldC_at (rest := rest) g1 (0 + (a + A'.length) * 7) (by omega)
        have q2 := heldC_at (rest := rest) g2 (0 + (a + (A' ++ [y]).length) * 7) (by omega)
        rw [hf] at q1 q2 ⊢
        refine V_seq ?_; refine V_seq ?_; refine V_regionD (id := 4) [(200026, [900]), (200031, [900])] mixed (by kernel_rfl) ?_; refine par_step (ok_move rfl rfl rfl) rfl ?_; refine par_step (ok_move rfl rfl rfl) rfl ?_; refine par_step (ok_gtr rfl rfl rfl rfl (decide_eq_true (by omega))) rfl ?_; refine par_step (ok_move rfl rfl rfl) rfl ?_; refine par_step (ok_move rfl rfl rfl) rfl ?_; refine par_step (ok_move rfl rfl rfl) rfl ?_; refine par_step (ok_move rfl rfl rfl) rfl ?_; refine par_step (ok_indexAt L _ rfl rfl rfl rfl rfl rfl rfl (by omega)) rfl ?_; refine par_stepR (ok_loadHA L (q := 900) (vs := [_, _, _, _, _, _, _]) rfl rfl rfl rfl rfl rfl q2) rfl rfl ?_; refine par_step (ok_move rfl rfl rfl) rfl ?_; refine par_step (ok_move rfl rfl rfl) rfl ?_; refine par_step (ok_sub rfl rfl rfl rfl (by assumption)) rfl ?_; refine par_step (ok_indexAt L _ rfl rfl rfl rfl rfl rfl rfl (by omega)) rfl ?_; refine par_stepR (ok_loadHA L (q := 900) (vs := [_, _, _, _, _, _, _]) rfl rfl rfl rfl rfl rfl q1) rfl rfl ?_; refine par_step (ok_callx L rfl rfl (blt_lt rfl) rfl rfl rfl (fun u H hH _ _ => ordC_ret hH)) rfl ?_; refine par_step (ok_lss rfl rfl rfl rfl (decide_eq_false (by omega))) rfl ?_; refine par_step (ok_pick rfl rfl rfl rfl) rfl ?_; refine par_nil ?_; refine N_seq ?_; refine V_false rfl ?_; refine V_exit ?_; refine X_then ?_; refine X_then ?_; refine X_here ?_; refine N_block ?_; refine N_seq ?_; refine V_region (id := 2) ?_; refine vo_step (ok_move rfl rfl rfl) rfl ?_; refine vo_step (ok_add rfl rfl rfl rfl (wrap_i64 (by omega) (by omega))) rfl ?_; refine vo_step (ok_assign rfl rfl rfl) rfl ?_; refine vo_nil ?_
        exact N_round (x := s) (s + 1) ⟨by omega, by omega⟩ (by omega) ⟨rfl, rfl, rfl, rfl, rfl, rfl, trivial⟩
  · have hX : P ++ (stC (X.take s) ++ (X.drop s ++ R)) = P ++ (stC X ++ R) := by
      rw [List.take_of_length_le (by omega), List.drop_eq_nil_of_le (by omega), List.nil_append]
    rw [hX]
    refine V_seq ?_; refine V_seq ?_; refine V_region (id := 1) ?_; refine vo_step (ok_move rfl rfl rfl) rfl ?_; refine vo_step (ok_move rfl rfl rfl) rfl ?_; refine vo_step (ok_lss rfl rfl rfl rfl (decide_eq_false (by omega))) rfl ?_; refine vo_nil ?_; refine N_seq ?_; refine V_false rfl ?_; refine V_exit ?_; refine X_then ?_; refine X_then ?_; refine X_here ?_
    exact N_retGhost L 900 (r := GHeld b _ tyC) rfl (fun _ _ h => h) Since.refl rfl rfl
end Go.V.L8
/- Stable sorting: symmetric merging, plain. -/
namespace Go.V
open Go.Proofs Go.RowKit
section
variable {α β : Type} [DecidableEq α] [DecidableEq β] {k : α → β} {c : β → β → Int}
omit [DecidableEq β] in
theorem le_lt (ho : Ord3 c) {z y x : β} (h1 : ¬ c y z < 0) (h2 : c y x < 0) : c z x < 0 := by
  by_cases h3 : c z y < 0
  · exact ho.tr h3 h2
  · have := ho.anti y z
    rw [ho.eq z y (by omega)]; exact h2
omit [DecidableEq β] in
theorem lt_le (ho : Ord3 c) {x y z : β} (h1 : c y x < 0) (h2 : ¬ c z x < 0) : c y z < 0 := by
  by_cases h3 : c x z < 0
  · exact ho.tr h1 h3
  · have := ho.anti x z
    rw [ho.eq z x (by omega)]; exact h1
/-- What the search of a symmetric merge keeps. -/
structure SymI (k : α → β) (c : β → β → Int) (X Y : List α) (a mid lo hi s r : Nat) : Prop where
  ls : lo ≤ s
  sr : s ≤ r
  rh : r ≤ hi
  bef : ∀ i x y, lo ≤ i → i < s → X[i - a]? = some x → Y[mid - 1 - i]? = some y → ¬ c (k y) (k x) < 0
  aft : ∀ i x y, r ≤ i → i < hi → X[i - a]? = some x → Y[mid - 1 - i]? = some y → c (k y) (k x) < 0
/-- Where the search of a symmetric merge may go. -/
structure SymB (X Y : List α) (a mm e mid lo hi : Nat) : Prop where
  lx : a + X.length = mm
  ly : mm + Y.length = e
  al : a ≤ lo
  nl : mid + mm ≤ lo + e
  hm : hi ≤ mid
  hx : hi ≤ mm
  lo_ : lo = a ∨ mid + mm = lo + e
  hi_ : hi = mm ∨ hi = mid
omit [DecidableEq α] [DecidableEq β] in
theorem SymI.start {X Y : List α} {a mid lo hi : Nat} (h : lo ≤ hi) : SymI k c X Y a mid lo hi lo hi := ⟨Nat.le_refl _, h, Nat.le_refl _, fun i x y h1 h2 => by omega, fun i x y h1 h2 => by omega⟩
omit [DecidableEq α] [DecidableEq β] in
theorem SymI.up (ho : Ord3 c) {X Y : List α} (hX : Srt k c X) (hY : Srt k c Y) {a mm e mid lo hi s r i : Nat} {x y : α} (hb : SymB X Y a mm e mid lo hi) (h : SymI k c X Y a mid lo hi s r) (h1 : s ≤ i) (h2 : i < r) (hx : X[i - a]? = some x) (hy : Y[mid - 1 - i]? = some y) (hc : ¬ c (k y) (k x) < 0) : SymI k c X Y a mid lo hi (i + 1) r := by
  obtain ⟨b1, b2, b3, b4, b5, b6, _, _⟩ := hb
  obtain ⟨i1, i2, i3, i4, i5⟩ := h
  refine ⟨by omega, by omega, i3, fun j x' y' hj hji hx' hy' hlt => hc ?_, i5⟩
  have e1 := srt_le ho hX hx' hx (by omega)
  have e2 := srt_le ho hY hy hy' (by omega)
  exact le_lt ho e2 (lt_le ho hlt e1)
omit [DecidableEq α] [DecidableEq β] in
theorem SymI.down (ho : Ord3 c) {X Y : List α} (hX : Srt k c X) (hY : Srt k c Y) {a mm e mid lo hi s r i : Nat} {x y : α} (hb : SymB X Y a mm e mid lo hi) (h : SymI k c X Y a mid lo hi s r) (h1 : s ≤ i) (h2 : i < r) (hx : X[i - a]? = some x) (hy : Y[mid - 1 - i]? = some y) (hc : c (k y) (k x) < 0) : SymI k c X Y a mid lo hi s i := by
  obtain ⟨b1, b2, b3, b4, b5, b6, _, _⟩ := hb
  obtain ⟨i1, i2, i3, i4, i5⟩ := h
  refine ⟨by omega, by omega, by omega, i4, fun j x' y' hj hji hx' hy' => ?_⟩
  have e1 := srt_le ho hX hx hx' (by omega)
  have e2 := srt_le ho hY hy' hy (by omega)
  exact le_lt ho e2 (lt_le ho hc e1)
theorem sym_join (ho : Ord3 c) {X Y : List α} (hX : Srt k c X) (hY : Srt k c Y) {a mm e mid lo hi s : Nat} (hb : SymB X Y a mm e mid lo hi) (h : SymI k c X Y a mid lo hi s s) :
    stbL k c (X.take (s - a) ++ Y.take (mid - s)) ++ stbL k c (X.drop (s - a) ++ Y.drop (mid - s)) = stbL k c (X ++ Y) := by
  obtain ⟨b1, b2, b3, b4, b5, b6, b7, b8⟩ := hb
  obtain ⟨i1, i2, i3, i4, i5⟩ := h
  have hXt : X.take (s - a) ++ X.drop (s - a) = X := List.take_append_drop _ _
  have hYt : Y.take (mid - s) ++ Y.drop (mid - s) = Y := List.take_append_drop _ _
  have h12 : ∀ x ∈ X.drop (s - a), ∀ y ∈ Y.take (mid - s), c (k y) (k x) < 0 := fun x hx y hy => by
    obtain ⟨i, hi⟩ := List.getElem?_of_mem hx
    obtain ⟨j, hj⟩ := List.getElem?_of_mem hy
    have hjl := get_lt hj
    rw [List.length_take] at hjl
    rw [List.getElem?_drop] at hi
    rw [List.getElem?_take_of_lt (by omega)] at hj
    have hil := get_lt hi
    obtain ⟨x0, hx0⟩ := get_some (l := X) (i := s - a) (by omega)
    obtain ⟨y0, hy0⟩ := get_some (l := Y) (i := mid - 1 - s) (by omega)
    have h0 := i5 s x0 y0 (Nat.le_refl _) (by omega) hx0 hy0
    exact le_lt ho (srt_le ho hY hj hy0 (by omega)) (lt_le ho h0 (srt_le ho hX hx0 hi (by omega)))
  have h21 : ∀ x ∈ X.take (s - a), ∀ y ∈ Y.drop (mid - s), ¬ c (k y) (k x) < 0 := fun x hx y hy hlt => by
    obtain ⟨i, hi⟩ := List.getElem?_of_mem hx
    obtain ⟨j, hj⟩ := List.getElem?_of_mem hy
    have hil := get_lt hi
    rw [List.length_take] at hil
    rw [List.getElem?_drop] at hj
    rw [List.getElem?_take_of_lt (by omega)] at hi
    have hjl := get_lt hj
    obtain ⟨x1, hx1⟩ := get_some (l := X) (i := s - 1 - a) (by omega)
    obtain ⟨y1, hy1⟩ := get_some (l := Y) (i := mid - s) (by omega)
    have h0 := i4 (s - 1) x1 y1 (by omega) (by omega) hx1 (by rw [show mid - 1 - (s - 1) = mid - s by omega]; exact hy1)
    exact h0 (le_lt ho (srt_le ho hY hy1 hj (by omega)) (lt_le ho hlt (srt_le ho hX hi hx1 (by omega))))
  have := stb_join ho (by rw [hXt]; exact hX) (by rw [hYt]; exact hY) h12 h21 (stbL_stb ho _) (stbL_stb ho _)
  rw [hXt, hYt] at this
  exact stb_of ho this
/-- One element ahead of what is sorted. -/
theorem one_fst (ho : Ord3 c) {x : α} {Y : List α} (hY : Srt k c Y) {i : Nat} (h1 : ∀ j z, j < i → Y[j]? = some z → c (k z) (k x) < 0) (h2 : ∀ j z, i ≤ j → Y[j]? = some z → ¬ c (k z) (k x) < 0) :
    Y.take i ++ x :: Y.drop i = stbL k c ([x] ++ Y) := by
  have hY' : Srt k c (Y.take i ++ Y.drop i) := by rw [List.take_append_drop]; exact hY
  have := stb_fst ho (x := x) hY' (fun z hz => by
    obtain ⟨j, hj⟩ := List.getElem?_of_mem hz
    have hjl := get_lt hj
    rw [List.length_take] at hjl
    rw [List.getElem?_take_of_lt (by omega)] at hj
    exact h1 j z (by omega) hj) (fun z hz => by
    obtain ⟨j, hj⟩ := List.getElem?_of_mem hz
    rw [List.getElem?_drop] at hj
    exact h2 _ z (by omega) hj)
  rw [List.take_append_drop] at this
  exact stb_of ho this
/-- One element behind what is sorted. -/
theorem one_lst (ho : Ord3 c) {x : α} {X : List α} (hX : Srt k c X) {i : Nat} (h1 : ∀ j z, j < i → X[j]? = some z → ¬ c (k x) (k z) < 0) (h2 : ∀ j z, i ≤ j → X[j]? = some z → c (k x) (k z) < 0) :
    X.take i ++ x :: X.drop i = stbL k c (X ++ [x]) := by
  have hX' : Srt k c (X.take i ++ X.drop i) := by rw [List.take_append_drop]; exact hX
  have := stb_ins ho (x := x) hX' (fun z hz => by
    obtain ⟨j, hj⟩ := List.getElem?_of_mem hz
    have hjl := get_lt hj
    rw [List.length_take] at hjl
    rw [List.getElem?_take_of_lt (by omega)] at hj
    exact h1 j z (by omega) hj) (fun z hz => by
    obtain ⟨j, hj⟩ := List.getElem?_of_mem hz
    rw [List.getElem?_drop] at hj
    exact h2 _ z (by omega) hj)
  rw [List.take_append_drop] at this
  exact stb_of ho this
end
end Go.V
/- The walks of the library's stable sort, at changes: symmetric merging. -/
namespace Go.V.L8
open Go.Proofs Go.RowKit Go.V Go.V.L2 Go.V.L3 Go.V.L6
theorem get_X {P X D : List CH} {a : Nat} (ha : P.length = a) {j : Nat} {x : CH} (h : X[j]? = some x) (i : Nat) (hi : i = a + j) : (P ++ (X ++ D))[i]? = some x := by
  subst hi ha
  have := get_lt h
  rw [List.getElem?_append_right (by omega), show P.length + j - P.length = j by omega, List.getElem?_append_left this]; exact h
theorem get_Y {P X Y D : List CH} {a mm : Nat} (ha : P.length = a) (hx : a + X.length = mm) {j : Nat} {y : CH} (h : Y[j]? = some y) (i : Nat) (hi : i = mm + j) : (P ++ (X ++ (Y ++ D)))[i]? = some y := by
  have e : P ++ (X ++ (Y ++ D)) = (P ++ X) ++ (Y ++ D) := by simp
  rw [e]
  exact get_X (by rw [List.length_append]; omega) h i hi
abbrev SrtC (l : List CH) : Prop := Srt (fun c : CH => c.1) cmpT l
theorem half_sum (i j : Nat) : ((i : Int) + (j : Int)).fdiv (2 ^ min (1 : Int).toNat IntKind.u64.bits) = ((i + j) / 2 : Nat) := by
  show ((i : Int) + (j : Int)).fdiv 2 = _
  rw [Int.fdiv_eq_ediv_of_nonneg _ (by decide)]
  omega
attribute [local irreducible] V N X VO Par StepOK Has Ret RetL RetO RetT RetG Src
abbrev SYM : Nat := 123
set_option maxHeartbeats 4000000 in
set_option maxRecDepth 20000 in
theorem sym_one {P Y R : List CH} {x : CH} {rest : List Value} {b m cap a mm e : Nat} (ha : P.length = a) (hmm : a + 1 = mm) (he : mm + Y.length = e) (hY : SrtC Y) (hm : (P ++ ([x] ++ (Y ++ R))).length = m) (hm1 : m ≤ 100000) {w : World} {B : Heap} {C : Nat → Prop} (hB : B.Le (hp w))
    (hr : (GHeld b ((P ++ ([x] ++ (Y ++ R))).flatMap ccs ++ rest) tyC).P B w C) (hC : ∀ k, C k → k < w.heap.size ∧ B k = none) :
    RetG Try.prog SYM [.slice (some ⟨b, 0, none⟩) m cap, .int .i64 a, .int .i64 mm, .int .i64 e, ordV] w B C (GHeld b ((P ++ (stC ([x] ++ Y) ++ R)).flatMap ccs ++ rest) tyC) := by
  unfold RetG
  refine V_enterG 900 (GHeld b ((P ++ ([x] ++ (Y ++ R))).flatMap ccs ++ rest) tyC) Try.func123 rfl Try.ntmps123 (Nat.le_of_ble_eq_true rfl) hB hr hC ?_
  rw [gheld_res]
  have hm' := hm
  simp only [List.length_append, List.length_singleton] at hm'
  refine V_seq ?_; refine V_seq ?_; refine V_region (id := 0) ?_; refine vo_step (ok_move rfl rfl rfl) rfl ?_; refine vo_step (ok_move rfl rfl rfl) rfl ?_; refine vo_step (ok_sub rfl rfl rfl rfl (wrap_i64 (by omega) (by omega))) rfl ?_; refine vo_step (ok_eql rfl rfl rfl rfl (decide_eq_true (by omega))) rfl ?_; refine vo_nil ?_; refine N_seq ?_; refine V_true rfl ?_; refine V_seq ?_; refine V_region (id := 1) ?_; refine vo_step (ok_move rfl rfl rfl) rfl ?_; refine vo_step (ok_assign rfl rfl rfl) rfl ?_; refine vo_nil ?_; refine N_seq ?_; refine V_seq ?_; refine V_region (id := 2) ?_; refine vo_step (ok_move rfl rfl rfl) rfl ?_; refine vo_step (ok_assign rfl rfl rfl) rfl ?_; refine vo_nil ?_; refine N_seq ?_; refine V_seq ?_; refine V_block ?_
  refine V_loop (fun s : Nat × Nat => [(0, .is (.slice (some ⟨b, 0, none⟩) m cap)), (1, .is (.int .i64 a)), (4, .is ordV), (10, .is (.int .i64 s.1)), (11, .is (.int .i64 s.2)), (900, .own (HeldR b ((P ++ ([x] ++ (Y ++ R))).flatMap ccs ++ rest) tyC))])
    (fun s => mm ≤ s.1 ∧ s.1 ≤ s.2 ∧ s.2 ≤ e ∧ (∀ (j : Nat) (z : CH), j < s.1 - mm → Y[j]? = some z → cmpT z.1 x.1 < 0) ∧ ∀ (j : Nat) (z : CH), s.2 - mm ≤ j → Y[j]? = some z → ¬ cmpT z.1 x.1 < 0) (fun s => s.2 - s.1) (mm, e)
    ⟨Nat.le_refl _, by dsimp only; omega, Nat.le_refl _, fun j z h => (by dsimp only at h; omega), fun j z h hz => (by have := get_lt hz; dsimp only at h; omega)⟩ ⟨rfl, rfl, rfl, rfl, rfl, rfl, trivial⟩ ?_
  rintro ⟨i, j⟩ ⟨h1, h2, h3, h4, h5⟩
  dsimp only at h1 h2 h3 h4 h5 ⊢
  by_cases hlt : i < j
  · have hsh := half_sum i j
    obtain ⟨h, hh⟩ : ∃ h, (i + j) / 2 = h := ⟨_, rfl⟩
    rw [hh] at hsh
    obtain ⟨y, hy⟩ := get_some (l := Y) (show h - mm < Y.length by omega)
    have q1 := heldC_at (rest := rest) (get_Y (X := [x]) (D := R) (mm := mm) ha hmm hy h (by omega)) (0 + h * 7) (by omega)
    have q2 := heldC_at (rest := rest) (get_X (X := [x]) (D := Y ++ R) ha (j := 0) rfl a (by omega)) (0 + a * 7) (by omega)
    by_cases hc : cmpT y.1 x.1 < 0
    · refine V_seq ?_; refine V_seq ?_; refine V_region (id := 3) ?_; refine vo_step (ok_move rfl rfl rfl) rfl ?_; refine vo_step (ok_move rfl rfl rfl) rfl ?_; refine vo_step (ok_lss rfl rfl rfl rfl (decide_eq_true (by omega))) rfl ?_; refine vo_nil ?_; refine N_seq ?_; refine V_true rfl ?_; refine V_skip ?_; refine N_seq ?_; refine V_block ?_; refine V_seq ?_; refine V_region (id := 4) ?_; refine vo_step (ok_move rfl rfl rfl) rfl ?_; refine vo_step (ok_move rfl rfl rfl) rfl ?_; refine vo_step (ok_add rfl rfl rfl rfl (wrap_i64 (by omega) (by omega))) rfl ?_; refine vo_step (ok_conv rfl rfl rfl cv3_185.1 cv3_185.2 (wrap_u64 (by omega) (by omega))) rfl ?_; refine vo_step (ok_shr rfl rfl rfl rfl (by omega) (by assumption)) rfl ?_; refine vo_step (ok_conv rfl rfl rfl cv185_3.1 cv185_3.2 (wrap_i64 (by omega) (by omega))) rfl ?_; refine vo_step (ok_assign rfl rfl rfl) rfl ?_; refine vo_nil ?_; refine N_seq ?_; refine V_seq ?_; refine V_regionD (id := 5) [(200044, [900]), (200048, [900])] mixed (by kernel_rfl) ?_; refine par_step (ok_move rfl rfl rfl) rfl ?_; refine par_step (ok_move rfl rfl rfl) rfl ?_; refine par_step (ok_move rfl rfl rfl) rfl ?_; refine par_step (ok_indexAt L _ rfl rfl rfl rfl rfl rfl rfl (by omega)) rfl ?_; refine par_stepR (ok_loadHA L (q := 900) (vs := [_, _, _, _, _, _, _]) rfl rfl rfl rfl rfl rfl q1) rfl rfl ?_; refine par_step (ok_move rfl rfl rfl) rfl ?_; refine par_step (ok_move rfl rfl rfl) rfl ?_; refine par_step (ok_indexAt L _ rfl rfl rfl rfl rfl rfl rfl (by omega)) rfl ?_; refine par_stepR (ok_loadHA L (q := 900) (vs := [_, _, _, _, _, _, _]) rfl rfl rfl rfl rfl rfl q2) rfl rfl ?_; refine par_step (ok_callx L rfl rfl (blt_lt rfl) rfl rfl rfl (fun u H hH _ _ => ordC_ret hH)) rfl ?_; refine par_step (ok_lss rfl rfl rfl rfl (decide_eq_true (by omega))) rfl ?_; refine par_nil ?_; refine N_seq ?_; refine V_true rfl ?_; refine V_region (id := 6) ?_; refine vo_step (ok_move rfl rfl rfl) rfl ?_; refine vo_step (ok_add rfl rfl rfl rfl (wrap_i64 (by omega) (by omega))) rfl ?_; refine vo_step (ok_assign rfl rfl rfl) rfl ?_; refine vo_nil ?_; refine N_block ?_
      exact N_round (x := (i, j)) (h + 1, j) ⟨by dsimp only; omega, by dsimp only; omega, h3, fun k z hk hz => by
        dsimp only at hk
        exact le_lt cmpT_ord (srt_le cmpT_ord hY hz hy (by omega)) hc, h5⟩ (by dsimp only; omega) ⟨rfl, rfl, rfl, rfl, rfl, rfl, trivial⟩
    · refine V_seq ?_; refine V_seq ?_; refine V_region (id := 3) ?_; refine vo_step (ok_move rfl rfl rfl) rfl ?_; refine vo_step (ok_move rfl rfl rfl) rfl ?_; refine vo_step (ok_lss rfl rfl rfl rfl (decide_eq_true (by omega))) rfl ?_; refine vo_nil ?_; refine N_seq ?_; refine V_true rfl ?_; refine V_skip ?_; refine N_seq ?_; refine V_block ?_; refine V_seq ?_; refine V_region (id := 4) ?_; refine vo_step (ok_move rfl rfl rfl) rfl ?_; refine vo_step (ok_move rfl rfl rfl) rfl ?_; refine vo_step (ok_add rfl rfl rfl rfl (wrap_i64 (by omega) (by omega))) rfl ?_; refine vo_step (ok_conv rfl rfl rfl cv3_185.1 cv3_185.2 (wrap_u64 (by omega) (by omega))) rfl ?_; refine vo_step (ok_shr rfl rfl rfl rfl (by omega) (by assumption)) rfl ?_; refine vo_step (ok_conv rfl rfl rfl cv185_3.1 cv185_3.2 (wrap_i64 (by omega) (by omega))) rfl ?_; refine vo_step (ok_assign rfl rfl rfl) rfl ?_; refine vo_nil ?_; refine N_seq ?_; refine V_seq ?_; refine V_regionD (id := 5) [(200044, [900]), (200048, [900])] mixed (by kernel_rfl) ?_; refine par_step (ok_move rfl rfl rfl) rfl ?_; refine par_step (ok_move rfl rfl rfl) rfl ?_; refine par_step (ok_move rfl rfl rfl) rfl ?_; refine par_step (ok_indexAt L _ rfl rfl rfl rfl rfl rfl rfl (by omega)) rfl ?_; refine par_stepR (ok_loadHA L (q := 900) (vs := [_, _, _, _, _, _, _]) rfl rfl rfl rfl rfl rfl q1) rfl rfl ?_; refine par_step (ok_move rfl rfl rfl) rfl ?_; refine par_step (ok_move rfl rfl rfl) rfl ?_; refine par_step (ok_indexAt L _ rfl rfl rfl rfl rfl rfl rfl (by omega)) rfl ?_; refine par_stepR (ok_loadHA L (q := 900) (vs := [_, _, _, _, _, _, _]) rfl rfl rfl rfl rfl rfl q2) rfl rfl ?_; refine par_step (ok_callx L rfl rfl (blt_lt rfl) rfl rfl rfl (fun u H hH _ _ => ordC_ret hH)) rfl ?_; refine par_step (ok_lss rfl rfl rfl rfl (decide_eq_false (by omega))) rfl ?_; refine par_nil ?_; refine N_seq ?_; refine V_false rfl ?_; refine V_region (id := 7) ?_; refine vo_step (ok_move rfl rfl rfl) rfl ?_; refine vo_step (ok_assign rfl rfl rfl) rfl ?_; refine vo_nil ?_; refine N_block ?_
      exact N_round (x := (i, j)) (i, h) ⟨h1, by dsimp only; omega, by dsimp only; omega, h4, fun k z hk hz hcx => by
        dsimp only at hk
        exact hc (le_lt cmpT_ord (srt_le cmpT_ord hY hy hz (by omega)) hcx)⟩ (by dsimp only; omega) ⟨rfl, rfl, rfl, rfl, rfl, rfl, trivial⟩
  · obtain rfl : i = j := by omega
    have hfin := one_fst (k := fun c : CH => c.1) cmpT_ord hY h4 h5
    have hal : (Y.take (i - mm)).length = i - mm := by rw [List.length_take]; omega
    have hYl : (Y.take (i - mm)).length + (Y.drop (i - mm)).length = Y.length := by rw [← List.length_append, List.take_append_drop]
    have e0 : P ++ ([x] ++ (Y ++ R)) = P ++ ([] ++ (x :: (Y.take (i - mm) ++ (Y.drop (i - mm) ++ R)))) := by
      rw [← List.append_assoc (Y.take _), List.take_append_drop]; rfl
    rw [e0]
    have e9 : P ++ (Y.take (i - mm) ++ (x :: (Y.drop (i - mm) ++ R))) = P ++ (stC ([x] ++ Y) ++ R) := by
      unfold stC
      rw [← hfin]; simp
    generalize Y.take (i - mm) = A at *
    generalize Y.drop (i - mm) = D at *
    clear hfin h4 h5 e0
    refine V_seq ?_; refine V_seq ?_; refine V_region (id := 3) ?_; refine vo_step (ok_move rfl rfl rfl) rfl ?_; refine vo_step (ok_move rfl rfl rfl) rfl ?_; refine vo_step (ok_lss rfl rfl rfl rfl (decide_eq_false (by omega))) rfl ?_; refine vo_nil ?_; refine N_seq ?_; refine V_false rfl ?_; refine V_exit ?_; refine X_then ?_; refine X_then ?_; refine X_here ?_; refine N_seq ?_; refine V_seq ?_; refine V_seq ?_; refine V_region (id := 8) ?_; refine vo_step (ok_move rfl rfl rfl) rfl ?_; refine vo_step (ok_assign rfl rfl rfl) rfl ?_; refine vo_nil ?_; refine N_seq ?_; refine V_block ?_
    refine V_loop (fun t : Nat => [(0, .is (.slice (some ⟨b, 0, none⟩) m cap)), (10, .is (.int .i64 i)), (13, .is (.int .i64 (a + t : Nat))), (900, .own (HeldR b ((P ++ (A.take t ++ (x :: (A.drop t ++ (D ++ R))))).flatMap ccs ++ rest) tyC))]) (fun t => t ≤ A.length) (fun t => A.length - t) 0 (Nat.zero_le _) ⟨rfl, rfl, rfl, rfl, trivial⟩ ?_
    rintro t ht
    by_cases htl : t < A.length
    · obtain ⟨z, hz⟩ := get_some htl
      have e0 : P ++ (A.take t ++ (x :: (A.drop t ++ (D ++ R)))) = (P ++ A.take t) ++ x :: ([] ++ z :: (A.drop (t + 1) ++ (D ++ R))) := by rw [drop_g hz]; simp
      have e1 : (P ++ A.take t) ++ z :: ([] ++ x :: (A.drop (t + 1) ++ (D ++ R))) = P ++ (A.take (t + 1) ++ (x :: (A.drop (t + 1) ++ (D ++ R)))) := by rw [List.take_add_one, hz]; simp
      have l1 : (P ++ A.take t).length = a + t := by rw [List.length_append, List.length_take]; omega
      have l2 : (P ++ A.take t).length + 1 + ([] : List CH).length = a + t + 1 := by rw [l1]; rfl
      have g1 := two_get1 (x := x) (y := z) (M := []) (D := A.drop (t + 1) ++ (D ++ R)) l1
      have g2 := two_get2 (x := x) (y := z) (D := A.drop (t + 1) ++ (D ++ R)) l2
      have g3 := two_set (x := x) (y := z) (D := A.drop (t + 1) ++ (D ++ R)) l1 l2
      rw [e0]
      rw [e1] at g3
      generalize (P ++ A.take t) ++ x :: ([] ++ z :: (A.drop (t + 1) ++ (D ++ R))) = K at *
      have k1 := get_lt g1
      have k2 := get_lt g2
      have hKl : a + t + 1 < m := by
        have : a + 1 + A.length + D.length ≤ m := by omega
        omega
      have q1 := heldC_at (rest := rest) g1 (0 + (a + t) * 7) (by omega)
      have q2 := heldC_at (rest := rest) g2 (0 + (a + t + 1) * 7) (by omega)
      have s1 := heldC_set (rest := rest) (z := z) k1 (0 + (a + t) * 7) (by omega)
      have b1 := heldC_ble (rest := rest) k1 (0 + (a + t) * 7) (by omega)
      have k3 : a + t + 1 < (K.set (a + t) z).length := by rw [List.length_set]; exact k2
      have s2 := heldC_set (rest := rest) (z := x) k3 (0 + (a + t + 1) * 7) (by omega)
      have b2 := heldC_ble (rest := rest) k3 (0 + (a + t + 1) * 7) (by omega)
      rw [g3] at s2
      have a1 : IntKind.i64.wrap (((a + t : Nat) : Int) + 1) = ((a + t + 1 : Nat) : Int) := wrap_i64 (by omega) (by omega)
      refine V_seq ?_; refine V_seq ?_; refine V_region (id := 9) ?_; refine vo_step (ok_move rfl rfl rfl) rfl ?_; refine vo_step (ok_move rfl rfl rfl) rfl ?_; refine vo_step (ok_sub rfl rfl rfl rfl (wrap_i64 (by omega) (by omega))) rfl ?_; refine vo_step (ok_lss rfl rfl rfl rfl (decide_eq_true (by omega))) rfl ?_; refine vo_nil ?_; refine N_seq ?_; refine V_true rfl ?_; refine V_skip ?_; refine N_seq ?_; refine V_seq ?_; refine V_block ?_; refine V_regionD (id := 11) [(200070, [900]), (200074, [900]), (100075, [900]), (100076, [900])] mixed (by kernel_rfl) ?_; refine par_step (ok_move rfl rfl rfl) rfl ?_; refine par_step (ok_move rfl rfl rfl) rfl ?_; refine par_step (ok_move rfl rfl rfl) rfl ?_; refine par_step (ok_move rfl rfl rfl) rfl ?_; refine par_step (ok_add rfl rfl rfl rfl (by assumption)) rfl ?_; refine par_step (ok_move rfl rfl rfl) rfl ?_; refine par_step (ok_move rfl rfl rfl) rfl ?_; refine par_step (ok_add rfl rfl rfl rfl (by assumption)) rfl ?_; refine par_step (ok_indexAt L _ rfl rfl rfl rfl rfl rfl rfl (by omega)) rfl ?_; refine par_stepR (ok_loadHA L (q := 900) (vs := [_, _, _, _, _, _, _]) rfl rfl rfl rfl rfl rfl q2) rfl rfl ?_; refine par_step (ok_move rfl rfl rfl) rfl ?_; refine par_step (ok_move rfl rfl rfl) rfl ?_; refine par_step (ok_indexAt L _ rfl rfl rfl rfl rfl rfl rfl (by omega)) rfl ?_; refine par_stepR (ok_loadHA L (q := 900) (vs := [_, _, _, _, _, _, _]) rfl rfl rfl rfl rfl rfl q1) rfl rfl ?_; refine par_step (ok_indexAt L _ rfl rfl rfl rfl rfl rfl rfl (by omega)) rfl ?_; refine par_stepS (ok_storeH L (q := 900) rfl rfl rfl rfl rfl rfl b1 rfl s1) rfl ?_; refine par_step (ok_indexAt L _ rfl rfl rfl rfl rfl rfl rfl (by omega)) rfl ?_; refine par_stepS (ok_storeH L (q := 900) rfl rfl rfl rfl rfl rfl b2 rfl s2) rfl ?_; refine par_nil ?_; refine N_block ?_; refine N_seq ?_; refine V_region (id := 10) ?_; refine vo_step (ok_move rfl rfl rfl) rfl ?_; refine vo_step (ok_add rfl rfl rfl rfl (by assumption)) rfl ?_; refine vo_step (ok_assign rfl rfl rfl) rfl ?_; refine vo_nil ?_
      exact N_round (x := t) (t + 1) (by omega) (by omega) ⟨rfl, rfl, rfl, rfl, trivial⟩
    · have hA : P ++ (A.take t ++ (x :: (A.drop t ++ (D ++ R)))) = P ++ (stC ([x] ++ Y) ++ R) := by
        rw [List.take_of_length_le (by omega), List.drop_eq_nil_of_le (by omega), List.nil_append, e9]
      rw [hA]
      refine V_seq ?_; refine V_seq ?_; refine V_region (id := 9) ?_; refine vo_step (ok_move rfl rfl rfl) rfl ?_; refine vo_step (ok_move rfl rfl rfl) rfl ?_; refine vo_step (ok_sub rfl rfl rfl rfl (wrap_i64 (by omega) (by omega))) rfl ?_; refine vo_step (ok_lss rfl rfl rfl rfl (decide_eq_false (by omega))) rfl ?_; refine vo_nil ?_; refine N_seq ?_; refine V_false rfl ?_; refine V_exit ?_; refine X_then ?_; refine X_then ?_; refine X_here ?_; refine N_seq ?_
      exact V_retGhost L 900 (r := GHeld b _ tyC) rfl (fun _ _ h => h) Since.refl rfl rfl
set_option maxHeartbeats 4000000 in
set_option maxRecDepth 20000 in
theorem sym_lst {P X R : List CH} {y : CH} {rest : List Value} {b m cap a mm e : Nat} (ha : P.length = a) (hmm : a + X.length = mm) (hx1 : ¬ X.length = 1) (he : mm + 1 = e) (hX : SrtC X) (hm : (P ++ (X ++ ([y] ++ R))).length = m) (hm1 : m ≤ 100000) {w : World} {B : Heap} {C : Nat → Prop} (hB : B.Le (hp w))
    (hr : (GHeld b ((P ++ (X ++ ([y] ++ R))).flatMap ccs ++ rest) tyC).P B w C) (hC : ∀ k, C k → k < w.heap.size ∧ B k = none) :
    RetG Try.prog SYM [.slice (some ⟨b, 0, none⟩) m cap, .int .i64 a, .int .i64 mm, .int .i64 e, ordV] w B C (GHeld b ((P ++ (stC (X ++ [y]) ++ R)).flatMap ccs ++ rest) tyC) := by
  unfold RetG
  refine V_enterG 900 (GHeld b ((P ++ (X ++ ([y] ++ R))).flatMap ccs ++ rest) tyC) Try.func123 rfl Try.ntmps123 (Nat.le_of_ble_eq_true rfl) hB hr hC ?_
  rw [gheld_res]
  have hm' := hm
  simp only [List.length_append, List.length_singleton] at hm'
  refine V_seq ?_; refine V_seq ?_; refine V_region (id := 0) ?_; refine vo_step (ok_move rfl rfl rfl) rfl ?_; refine vo_step (ok_move rfl rfl rfl) rfl ?_; refine vo_step (ok_sub rfl rfl rfl rfl (wrap_i64 (by omega) (by omega))) rfl ?_; refine vo_step (ok_eql rfl rfl rfl rfl (decide_eq_false (by omega))) rfl ?_; refine vo_nil ?_; refine N_seq ?_; refine V_false rfl ?_; refine V_skip ?_; refine N_seq ?_; refine V_seq ?_; refine V_seq ?_; refine V_region (id := 12) ?_; refine vo_step (ok_move rfl rfl rfl) rfl ?_; refine vo_step (ok_move rfl rfl rfl) rfl ?_; refine vo_step (ok_sub rfl rfl rfl rfl (wrap_i64 (by omega) (by omega))) rfl ?_; refine vo_step (ok_eql rfl rfl rfl rfl (decide_eq_true (by omega))) rfl ?_; refine vo_nil ?_; refine N_seq ?_; refine V_true rfl ?_; refine V_seq ?_; refine V_region (id := 13) ?_; refine vo_step (ok_move rfl rfl rfl) rfl ?_; refine vo_step (ok_assign rfl rfl rfl) rfl ?_; refine vo_nil ?_; refine N_seq ?_; refine V_seq ?_; refine V_region (id := 14) ?_; refine vo_step (ok_move rfl rfl rfl) rfl ?_; refine vo_step (ok_assign rfl rfl rfl) rfl ?_; refine vo_nil ?_; refine N_seq ?_; refine V_seq ?_; refine V_block ?_
  refine V_loop (fun s : Nat × Nat => [(0, .is (.slice (some ⟨b, 0, none⟩) m cap)), (2, .is (.int .i64 mm)), (4, .is ordV), (14, .is (.int .i64 s.1)), (15, .is (.int .i64 s.2)), (900, .own (HeldR b ((P ++ (X ++ ([y] ++ R))).flatMap ccs ++ rest) tyC))])
    (fun s => a ≤ s.1 ∧ s.1 ≤ s.2 ∧ s.2 ≤ mm ∧ (∀ (j : Nat) (z : CH), j < s.1 - a → X[j]? = some z → ¬ cmpT y.1 z.1 < 0) ∧ ∀ (j : Nat) (z : CH), s.2 - a ≤ j → X[j]? = some z → cmpT y.1 z.1 < 0) (fun s => s.2 - s.1) (a, mm)
    ⟨Nat.le_refl _, by dsimp only; omega, Nat.le_refl _, fun j z h => (by dsimp only at h; omega), fun j z h hz => (by have := get_lt hz; dsimp only at h; omega)⟩ ⟨rfl, rfl, rfl, rfl, rfl, rfl, trivial⟩ ?_
  rintro ⟨i, j⟩ ⟨h1, h2, h3, h4, h5⟩
  dsimp only at h1 h2 h3 h4 h5 ⊢
  by_cases hlt : i < j
  · have hsh := half_sum i j
    obtain ⟨h, hh⟩ : ∃ h, (i + j) / 2 = h := ⟨_, rfl⟩
    rw [hh] at hsh
    obtain ⟨x, hx⟩ := get_some (l := X) (show h - a < X.length by omega)
    have q1 := heldC_at (rest := rest) (get_Y (Y := [y]) (D := R) ha hmm (j := 0) rfl mm (by omega)) (0 + mm * 7) (by omega)
    have q2 := heldC_at (rest := rest) (get_X (D := [y] ++ R) ha hx h (by omega)) (0 + h * 7) (by omega)
    by_cases hc : cmpT y.1 x.1 < 0
    · refine V_seq ?_; refine V_seq ?_; refine V_region (id := 15) ?_; refine vo_step (ok_move rfl rfl rfl) rfl ?_; refine vo_step (ok_move rfl rfl rfl) rfl ?_; refine vo_step (ok_lss rfl rfl rfl rfl (decide_eq_true (by omega))) rfl ?_; refine vo_nil ?_; refine N_seq ?_; refine V_true rfl ?_; refine V_skip ?_; refine N_seq ?_; refine V_block ?_; refine V_seq ?_; refine V_region (id := 16) ?_; refine vo_step (ok_move rfl rfl rfl) rfl ?_; refine vo_step (ok_move rfl rfl rfl) rfl ?_; refine vo_step (ok_add rfl rfl rfl rfl (wrap_i64 (by omega) (by omega))) rfl ?_; refine vo_step (ok_conv rfl rfl rfl cv3_185.1 cv3_185.2 (wrap_u64 (by omega) (by omega))) rfl ?_; refine vo_step (ok_shr rfl rfl rfl rfl (by omega) (by assumption)) rfl ?_; refine vo_step (ok_conv rfl rfl rfl cv185_3.1 cv185_3.2 (wrap_i64 (by omega) (by omega))) rfl ?_; refine vo_step (ok_assign rfl rfl rfl) rfl ?_; refine vo_nil ?_; refine N_seq ?_; refine V_seq ?_; refine V_regionD (id := 17) [(200096, [900]), (200100, [900])] mixed (by kernel_rfl) ?_; refine par_step (ok_move rfl rfl rfl) rfl ?_; refine par_step (ok_move rfl rfl rfl) rfl ?_; refine par_step (ok_move rfl rfl rfl) rfl ?_; refine par_step (ok_indexAt L _ rfl rfl rfl rfl rfl rfl rfl (by omega)) rfl ?_; refine par_stepR (ok_loadHA L (q := 900) (vs := [_, _, _, _, _, _, _]) rfl rfl rfl rfl rfl rfl q1) rfl rfl ?_; refine par_step (ok_move rfl rfl rfl) rfl ?_; refine par_step (ok_move rfl rfl rfl) rfl ?_; refine par_step (ok_indexAt L _ rfl rfl rfl rfl rfl rfl rfl (by omega)) rfl ?_; refine par_stepR (ok_loadHA L (q := 900) (vs := [_, _, _, _, _, _, _]) rfl rfl rfl rfl rfl rfl q2) rfl rfl ?_; refine par_step (ok_callx L rfl rfl (blt_lt rfl) rfl rfl rfl (fun u H hH _ _ => ordC_ret hH)) rfl ?_; refine par_step (ok_lss rfl rfl rfl rfl (decide_eq_true (by omega))) rfl ?_; refine par_step (ok_not rfl rfl rfl rfl) rfl ?_; refine par_nil ?_; refine N_seq ?_; refine V_false rfl ?_; refine V_region (id := 19) ?_; refine vo_step (ok_move rfl rfl rfl) rfl ?_; refine vo_step (ok_assign rfl rfl rfl) rfl ?_; refine vo_nil ?_; refine N_block ?_
      exact N_round (x := (i, j)) (i, h) ⟨h1, by dsimp only; omega, by dsimp only; omega, h4, fun k z hk hz => by
        dsimp only at hk
        exact lt_le cmpT_ord hc (srt_le cmpT_ord hX hx hz (by omega))⟩ (by dsimp only; omega) ⟨rfl, rfl, rfl, rfl, rfl, rfl, trivial⟩
    · refine V_seq ?_; refine V_seq ?_; refine V_region (id := 15) ?_; refine vo_step (ok_move rfl rfl rfl) rfl ?_; refine vo_step (ok_move rfl rfl rfl) rfl ?_; refine vo_step (ok_lss rfl rfl rfl rfl (decide_eq_true (by omega))) rfl ?_; refine vo_nil ?_; refine N_seq ?_; refine V_true rfl ?_; refine V_skip ?_; refine N_seq ?_; refine V_block ?_; refine V_seq ?_; refine V_region (id := 16) ?_; refine vo_step (ok_move rfl rfl rfl) rfl ?_; refine vo_step (ok_move rfl rfl rfl) rfl ?_; refine vo_step (ok_add rfl rfl rfl rfl (wrap_i64 (by omega) (by omega))) rfl ?_; refine vo_step (ok_conv rfl rfl rfl cv3_185.1 cv3_185.2 (wrap_u64 (by omega) (by omega))) rfl ?_; refine vo_step (ok_shr rfl rfl rfl rfl (by omega) (by assumption)) rfl ?_; refine vo_step (ok_conv rfl rfl rfl cv185_3.1 cv185_3.2 (wrap_i64 (by omega) (by omega))) rfl ?_; refine vo_step (ok_assign rfl rfl rfl) rfl ?_; refine vo_nil ?_; refine N_seq ?_; refine V_seq ?_; refine V_regionD (id := 17) [(200096, [900]), (200100, [900])] mixed (by kernel_rfl) ?_; refine par_step (ok_move rfl rfl rfl) rfl ?_; refine par_step (ok_move rfl rfl rfl) rfl ?_; refine par_step (ok_move rfl rfl rfl) rfl ?_; refine par_step (ok_indexAt L _ rfl rfl rfl rfl rfl rfl rfl (by omega)) rfl ?_; refine par_stepR (ok_loadHA L (q := 900) (vs := [_, _, _, _, _, _, _]) rfl rfl rfl rfl rfl rfl q1) rfl rfl ?_; refine par_step (ok_move rfl rfl rfl) rfl ?_; refine par_step (ok_move rfl rfl rfl) rfl ?_; refine par_step (ok_indexAt L _ rfl rfl rfl rfl rfl rfl rfl (by omega)) rfl ?_; refine par_stepR (ok_loadHA L (q := 900) (vs := [_, _, _, _, _, _, _]) rfl rfl rfl rfl rfl rfl q2) rfl rfl ?_; refine par_step (ok_callx L rfl rfl (blt_lt rfl) rfl rfl rfl (fun u H hH _ _ => ordC_ret hH)) rfl ?_; refine par_step (ok_lss rfl rfl rfl rfl (decide_eq_false (by omega))) rfl ?_; refine par_step (ok_not rfl rfl rfl rfl) rfl ?_; refine par_nil ?_; refine N_seq ?_; refine V_true rfl ?_; refine V_region (id := 18) ?_; refine vo_step (ok_move rfl rfl rfl) rfl ?_; refine vo_step (ok_add rfl rfl rfl rfl (wrap_i64 (by omega) (by omega))) rfl ?_; refine vo_step (ok_assign rfl rfl rfl) rfl ?_; refine vo_nil ?_; refine N_block ?_
      exact N_round (x := (i, j)) (h + 1, j) ⟨by dsimp only; omega, by dsimp only; omega, h3, fun k z hk hz hcx => by
        dsimp only at hk
        exact hc (lt_le cmpT_ord hcx (srt_le cmpT_ord hX hz hx (by omega))), h5⟩ (by dsimp only; omega) ⟨rfl, rfl, rfl, rfl, rfl, rfl, trivial⟩
  · obtain rfl : i = j := by omega
    have hfin := one_lst (k := fun c : CH => c.1) cmpT_ord hX h4 h5
    have hal : (X.take (i - a)).length = i - a := by rw [List.length_take]; omega
    have hXl : (X.take (i - a)).length + (X.drop (i - a)).length = X.length := by rw [← List.length_append, List.take_append_drop]
    have e0 : P ++ (X ++ ([y] ++ R)) = P ++ (X.take (i - a) ++ (X.drop (i - a) ++ (y :: ([] ++ R)))) := by
      rw [← List.append_assoc (X.take _), List.take_append_drop]; rfl
    rw [e0]
    have e9 : P ++ (X.take (i - a) ++ (y :: (X.drop (i - a) ++ R))) = P ++ (stC (X ++ [y]) ++ R) := by
      unfold stC
      rw [← hfin]; simp
    generalize X.take (i - a) = A at *
    generalize X.drop (i - a) = D at *
    clear hfin h4 h5 e0
    have hk0 : mm = i + D.length := by omega
    refine V_seq ?_; refine V_seq ?_; refine V_region (id := 15) ?_; refine vo_step (ok_move rfl rfl rfl) rfl ?_; refine vo_step (ok_move rfl rfl rfl) rfl ?_; refine vo_step (ok_lss rfl rfl rfl rfl (decide_eq_false (by omega))) rfl ?_; refine vo_nil ?_; refine N_seq ?_; refine V_false rfl ?_; refine V_exit ?_; refine X_then ?_; refine X_then ?_; refine X_here ?_; refine N_seq ?_; refine V_seq ?_; refine V_seq ?_; refine V_region (id := 20) ?_; refine vo_step (ok_move rfl rfl rfl) rfl ?_; refine vo_step (ok_assign rfl rfl rfl) rfl ?_; refine vo_nil ?_; refine N_seq ?_; refine V_block ?_
    refine V_loop (fun t : Nat => [(0, .is (.slice (some ⟨b, 0, none⟩) m cap)), (14, .is (.int .i64 i)), (17, .is (.int .i64 (i + t : Nat))), (900, .own (HeldR b ((P ++ (A ++ (D.take t ++ (y :: (D.drop t ++ R))))).flatMap ccs ++ rest) tyC))]) (fun t => t ≤ D.length) (fun t => t) D.length (Nat.le_refl _) ⟨rfl, rfl, by rw [← hk0]; rfl, by rw [List.take_length, List.drop_length]; rfl, trivial⟩ ?_
    rintro t ht
    rcases t with _ | t
    · rw [List.take_zero, List.drop_zero, List.nil_append, e9, Nat.add_zero]
      refine V_seq ?_; refine V_seq ?_; refine V_region (id := 21) ?_; refine vo_step (ok_move rfl rfl rfl) rfl ?_; refine vo_step (ok_move rfl rfl rfl) rfl ?_; refine vo_step (ok_gtr rfl rfl rfl rfl (decide_eq_false (by omega))) rfl ?_; refine vo_nil ?_; refine N_seq ?_; refine V_false rfl ?_; refine V_exit ?_; refine X_then ?_; refine X_then ?_; refine X_here ?_; refine N_seq ?_
      exact V_retGhost L 900 (r := GHeld b _ tyC) rfl (fun _ _ h => h) Since.refl rfl rfl
    · obtain ⟨z, hz⟩ := get_some (l := D) (show t < D.length by omega)
      have e0 : P ++ (A ++ (D.take (t + 1) ++ (y :: (D.drop (t + 1) ++ R)))) = (P ++ (A ++ D.take t)) ++ z :: ([] ++ y :: (D.drop (t + 1) ++ R)) := by rw [List.take_add_one, hz]; simp
      have e1 : (P ++ (A ++ D.take t)) ++ y :: ([] ++ z :: (D.drop (t + 1) ++ R)) = P ++ (A ++ (D.take t ++ (y :: (D.drop t ++ R)))) := by rw [drop_g hz]; simp
      have l1 : (P ++ (A ++ D.take t)).length = i + t := by rw [List.length_append, List.length_append, List.length_take]; omega
      have l2 : (P ++ (A ++ D.take t)).length + 1 + ([] : List CH).length = i + (t + 1) := by rw [l1]; rfl
      have g1 := two_get1 (x := z) (y := y) (M := []) (D := D.drop (t + 1) ++ R) l1
      have g2 := two_get2 (x := z) (y := y) (D := D.drop (t + 1) ++ R) l2
      have g3 := two_set' (x := z) (y := y) (D := D.drop (t + 1) ++ R) l1 l2
      rw [e0]
      rw [e1] at g3
      generalize (P ++ (A ++ D.take t)) ++ z :: ([] ++ y :: (D.drop (t + 1) ++ R)) = K at *
      have k1 := get_lt g1
      have k2 := get_lt g2
      have hKl : i + (t + 1) < m := by omega
      have q1 := heldC_at (rest := rest) g1 (0 + (i + t) * 7) (by omega)
      have q2 := heldC_at (rest := rest) g2 (0 + (i + (t + 1)) * 7) (by omega)
      have s1 := heldC_set (rest := rest) (z := z) k2 (0 + (i + (t + 1)) * 7) (by omega)
      have b1 := heldC_ble (rest := rest) k2 (0 + (i + (t + 1)) * 7) (by omega)
      have k3 : i + t < (K.set (i + (t + 1)) z).length := by rw [List.length_set]; exact k1
      have s2 := heldC_set (rest := rest) (z := y) k3 (0 + (i + t) * 7) (by omega)
      have b2 := heldC_ble (rest := rest) k3 (0 + (i + t) * 7) (by omega)
      rw [g3] at s2
      have a1 : IntKind.i64.wrap (((i + (t + 1) : Nat) : Int) - 1) = ((i + t : Nat) : Int) := wrap_i64 (by omega) (by omega) |>.trans (by omega)
      refine V_seq ?_; refine V_seq ?_; refine V_region (id := 21) ?_; refine vo_step (ok_move rfl rfl rfl) rfl ?_; refine vo_step (ok_move rfl rfl rfl) rfl ?_; refine vo_step (ok_gtr rfl rfl rfl rfl (decide_eq_true (by omega))) rfl ?_; refine vo_nil ?_; refine N_seq ?_; refine V_true rfl ?_; refine V_skip ?_; refine N_seq ?_; refine V_seq ?_; refine V_block ?_; refine V_regionD (id := 23) [(200122, [900]), (200126, [900]), (100127, [900]), (100128, [900])] mixed (by kernel_rfl) ?_; refine par_step (ok_move rfl rfl rfl) rfl ?_; refine par_step (ok_move rfl rfl rfl) rfl ?_; refine par_step (ok_move rfl rfl rfl) rfl ?_; refine par_step (ok_move rfl rfl rfl) rfl ?_; refine par_step (ok_sub rfl rfl rfl rfl (by assumption)) rfl ?_; refine par_step (ok_move rfl rfl rfl) rfl ?_; refine par_step (ok_move rfl rfl rfl) rfl ?_; refine par_step (ok_sub rfl rfl rfl rfl (by assumption)) rfl ?_; refine par_step (ok_indexAt L _ rfl rfl rfl rfl rfl rfl rfl (by omega)) rfl ?_; refine par_stepR (ok_loadHA L (q := 900) (vs := [_, _, _, _, _, _, _]) rfl rfl rfl rfl rfl rfl q1) rfl rfl ?_; refine par_step (ok_move rfl rfl rfl) rfl ?_; refine par_step (ok_move rfl rfl rfl) rfl ?_; refine par_step (ok_indexAt L _ rfl rfl rfl rfl rfl rfl rfl (by omega)) rfl ?_; refine par_stepR (ok_loadHA L (q := 900) (vs := [_, _, _, _, _, _, _]) rfl rfl rfl rfl rfl rfl q2) rfl rfl ?_; refine par_step (ok_indexAt L _ rfl rfl rfl rfl rfl rfl rfl (by omega)) rfl ?_; refine par_stepS (ok_storeH L (q := 900) rfl rfl rfl rfl rfl rfl b1 rfl s1) rfl ?_; refine par_step (ok_indexAt L _ rfl rfl rfl rfl rfl rfl rfl (by omega)) rfl ?_; refine par_stepS (ok_storeH L (q := 900) rfl rfl rfl rfl rfl rfl b2 rfl s2) rfl ?_; refine par_nil ?_; refine N_block ?_; refine N_seq ?_; refine V_region (id := 22) ?_; refine vo_step (ok_move rfl rfl rfl) rfl ?_; refine vo_step (ok_sub rfl rfl rfl rfl (by assumption)) rfl ?_; refine vo_step (ok_assign rfl rfl rfl) rfl ?_; refine vo_nil ?_
      exact N_round (x := t + 1) t (by omega) (by omega) ⟨rfl, rfl, rfl, rfl, trivial⟩
end Go.V.L8
/- The walks of the library's stable sort, at changes: symmetric merging, the whole. -/
namespace Go.V.L8
open Go.Proofs Go.RowKit Go.V Go.V.L2 Go.V.L3 Go.V.L6
theorem len_one {l : List CH} (h : l.length = 1) : ∃ x, l = [x] := by
  rcases l with _ | ⟨x, _ | ⟨y, l⟩⟩
  · simp at h
  · exact ⟨x, rfl⟩
  · simp at h
theorem stC_srt {l : List CH} (h : SrtC l) : stC l = l := stbL_srt cmpT_ord h
attribute [local irreducible] V N X VO Par StepOK Has Ret RetL RetO RetT RetG Src
set_option maxHeartbeats 8000000 in
set_option maxRecDepth 20000 in
theorem sym_ret (N0 : Nat) : ∀ {P X Y R : List CH} {rest : List Value} {b m cap a mm e : Nat}, X.length + Y.length ≤ N0 → P.length = a → a + X.length = mm → mm + Y.length = e → 0 < X.length → 0 < Y.length → SrtC X → SrtC Y → (P ++ (X ++ (Y ++ R))).length = m → m ≤ 100000 → ∀ {w : World} {B : Heap} {C : Nat → Prop}, B.Le (hp w) →
    (GHeld b ((P ++ (X ++ (Y ++ R))).flatMap ccs ++ rest) tyC).P B w C → (∀ k, C k → k < w.heap.size ∧ B k = none) →
    RetG Try.prog SYM [.slice (some ⟨b, 0, none⟩) m cap, .int .i64 a, .int .i64 mm, .int .i64 e, ordV] w B C (GHeld b ((P ++ (stC (X ++ Y) ++ R)).flatMap ccs ++ rest) tyC) := by
  induction N0 with
  | zero => intro P X Y R rest b m cap a mm e h1 h2 h3 h4 h5; omega
  | succ N0 ih =>
  intro P X Y R rest b m cap a mm e hN ha hmm he hx hy hX hY hm hm1 w B C hB hr hC
  by_cases hx1 : X.length = 1
  · obtain ⟨x, rfl⟩ := len_one hx1
    exact sym_one ha (by simpa using hmm) he hY hm hm1 hB hr hC
  by_cases hy1 : Y.length = 1
  · obtain ⟨y, rfl⟩ := len_one hy1
    exact sym_lst ha hmm hx1 (by simpa using he) hX hm hm1 hB hr hC
  unfold RetG
  refine V_enterG 900 (GHeld b ((P ++ (X ++ (Y ++ R))).flatMap ccs ++ rest) tyC) Try.func123 rfl Try.ntmps123 (Nat.le_of_ble_eq_true rfl) hB hr hC ?_
  rw [gheld_res]
  have hm' := hm
  simp only [List.length_append] at hm'
  have hsh := half_sum a e
  obtain ⟨mid, hmid⟩ : ∃ mid, (a + e) / 2 = mid := ⟨_, rfl⟩
  rw [hmid] at hsh
  have hnn : IntKind.i64.wrap ((mid : Int) + (mm : Int)) = ((mid + mm : Nat) : Int) := wrap_i64 (by omega) (by omega)
  refine V_seq ?_; refine V_seq ?_; refine V_region (id := 0) ?_; refine vo_step (ok_move rfl rfl rfl) rfl ?_; refine vo_step (ok_move rfl rfl rfl) rfl ?_; refine vo_step (ok_sub rfl rfl rfl rfl (wrap_i64 (by omega) (by omega))) rfl ?_; refine vo_step (ok_eql rfl rfl rfl rfl (decide_eq_false (by omega))) rfl ?_; refine vo_nil ?_; refine N_seq ?_; refine V_false rfl ?_; refine V_skip ?_; refine N_seq ?_; refine V_seq ?_; refine V_seq ?_; refine V_region (id := 12) ?_; refine vo_step (ok_move rfl rfl rfl) rfl ?_; refine vo_step (ok_move rfl rfl rfl) rfl ?_; refine vo_step (ok_sub rfl rfl rfl rfl (wrap_i64 (by omega) (by omega))) rfl ?_; refine vo_step (ok_eql rfl rfl rfl rfl (decide_eq_false (by omega))) rfl ?_; refine vo_nil ?_; refine N_seq ?_; refine V_false rfl ?_; refine V_skip ?_; refine N_seq ?_; refine V_seq ?_; refine V_region (id := 24) ?_; refine vo_step (ok_move rfl rfl rfl) rfl ?_; refine vo_step (ok_move rfl rfl rfl) rfl ?_; refine vo_step (ok_add rfl rfl rfl rfl (wrap_i64 (by omega) (by omega))) rfl ?_; refine vo_step (ok_conv rfl rfl rfl cv3_185.1 cv3_185.2 (wrap_u64 (by omega) (by omega))) rfl ?_; refine vo_step (ok_shr rfl rfl rfl rfl (by omega) (by assumption)) rfl ?_; refine vo_step (ok_conv rfl rfl rfl cv185_3.1 cv185_3.2 (wrap_i64 (by omega) (by omega))) rfl ?_; refine vo_step (ok_assign rfl rfl rfl) rfl ?_; refine vo_nil ?_; refine N_seq ?_; refine V_seq ?_; refine V_region (id := 25) ?_; refine vo_step (ok_move rfl rfl rfl) rfl ?_; refine vo_step (ok_move rfl rfl rfl) rfl ?_; refine vo_step (ok_add rfl rfl rfl rfl (by assumption)) rfl ?_; refine vo_step (ok_assign rfl rfl rfl) rfl ?_; refine vo_nil ?_; refine N_seq ?_; refine V_seq ?_; refine V_region (id := 26) ?_; refine vo_step (ok_assign rfl rfl rfl) rfl ?_; refine vo_step (ok_assign rfl rfl rfl) rfl ?_; refine vo_nil ?_; refine N_seq ?_; refine V_seq ?_; refine V_seq ?_
  refine V_meetC (fun s : Nat × Nat => [(0, .is (.slice (some ⟨b, 0, none⟩) m cap)), (1, .is (.int .i64 a)), (2, .is (.int .i64 mm)), (3, .is (.int .i64 e)), (4, .is ordV), (18, .is (.int .i64 mid)), (19, .is (.int .i64 (mid + mm : Nat))), (20, .is (.int .i64 s.1)), (21, .is (.int .i64 s.2)), (900, .own (HeldR b ((P ++ (X ++ (Y ++ R))).flatMap ccs ++ rest) tyC))]) (fun s => SymB X Y a mm e mid s.1 s.2 ∧ s.1 ≤ s.2) (fun _ => []) ?rest ?first
  case first =>
    by_cases hgt : mid < mm
    · have hs : IntKind.i64.wrap (((mid + mm : Nat) : Int) - (e : Int)) = ((mid + mm - e : Nat) : Int) := wrap_i64 (by omega) (by omega) |>.trans (by omega)
      refine V_region (id := 27) ?_; refine vo_step (ok_move rfl rfl rfl) rfl ?_; refine vo_step (ok_move rfl rfl rfl) rfl ?_; refine vo_step (ok_gtr rfl rfl rfl rfl (decide_eq_true (by omega))) rfl ?_; refine vo_nil ?_; refine N_seq ?_; refine V_true rfl ?_; refine V_seq ?_; refine V_region (id := 28) ?_; refine vo_step (ok_move rfl rfl rfl) rfl ?_; refine vo_step (ok_move rfl rfl rfl) rfl ?_; refine vo_step (ok_sub rfl rfl rfl rfl (by assumption)) rfl ?_; refine vo_step (ok_assign rfl rfl rfl) rfl ?_; refine vo_nil ?_; refine N_seq ?_; refine V_region (id := 29) ?_; refine vo_step (ok_move rfl rfl rfl) rfl ?_; refine vo_step (ok_assign rfl rfl rfl) rfl ?_; refine vo_nil ?_
      exact N_mids (mid + mm - e, mid) Since.refl ⟨⟨hmm, he, by dsimp only; omega, by dsimp only; omega, Nat.le_refl _, by dsimp only; omega, .inr (by dsimp only; omega), .inr rfl⟩, by dsimp only; omega⟩ rfl ⟨rfl, rfl, rfl, rfl, rfl, rfl, rfl, rfl, rfl, rfl, trivial⟩
    · refine V_region (id := 27) ?_; refine vo_step (ok_move rfl rfl rfl) rfl ?_; refine vo_step (ok_move rfl rfl rfl) rfl ?_; refine vo_step (ok_gtr rfl rfl rfl rfl (decide_eq_false (by omega))) rfl ?_; refine vo_nil ?_; refine N_seq ?_; refine V_false rfl ?_; refine V_seq ?_; refine V_region (id := 30) ?_; refine vo_step (ok_move rfl rfl rfl) rfl ?_; refine vo_step (ok_assign rfl rfl rfl) rfl ?_; refine vo_nil ?_; refine N_seq ?_; refine V_region (id := 31) ?_; refine vo_step (ok_move rfl rfl rfl) rfl ?_; refine vo_step (ok_assign rfl rfl rfl) rfl ?_; refine vo_nil ?_
      exact N_mids (a, mm) Since.refl ⟨⟨hmm, he, Nat.le_refl _, by dsimp only; omega, by dsimp only; omega, Nat.le_refl _, .inl rfl, .inl rfl⟩, by dsimp only; omega⟩ rfl ⟨rfl, rfl, rfl, rfl, rfl, rfl, rfl, rfl, rfl, rfl, trivial⟩
  case rest =>
  rintro ⟨lo, hi⟩ ⟨hb, hlh⟩
  dsimp only at hb hlh ⊢
  have hp : IntKind.i64.wrap (((mid + mm : Nat) : Int) - 1) = ((mid + mm - 1 : Nat) : Int) := wrap_i64 (by omega) (by omega) |>.trans (by omega)
  refine V_seq ?_; refine V_region (id := 32) ?_; refine vo_step (ok_move rfl rfl rfl) rfl ?_; refine vo_step (ok_sub rfl rfl rfl rfl (by assumption)) rfl ?_; refine vo_step (ok_assign rfl rfl rfl) rfl ?_; refine vo_nil ?_; refine N_seq ?_; refine V_seq ?_; refine V_block ?_
  refine V_loop (fun s : Nat × Nat => [(0, .is (.slice (some ⟨b, 0, none⟩) m cap)), (1, .is (.int .i64 a)), (2, .is (.int .i64 mm)), (3, .is (.int .i64 e)), (4, .is ordV), (18, .is (.int .i64 mid)), (19, .is (.int .i64 (mid + mm : Nat))), (20, .is (.int .i64 s.1)), (21, .is (.int .i64 s.2)), (22, .is (.int .i64 (mid + mm - 1 : Nat))), (900, .own (HeldR b ((P ++ (X ++ (Y ++ R))).flatMap ccs ++ rest) tyC))])
    (fun s => SymI (fun c : CH => c.1) cmpT X Y a mid lo hi s.1 s.2) (fun s => s.2 - s.1) (lo, hi) (SymI.start hlh) ⟨rfl, rfl, rfl, rfl, rfl, rfl, rfl, rfl, rfl, rfl, rfl, trivial⟩ ?_
  rintro ⟨i, j⟩ hI
  dsimp only at hI ⊢
  have hI' := hI
  have hb' := hb
  obtain ⟨b1, b2, b3, b4, b5, b6, _, _⟩ := hb'
  obtain ⟨i1, i2, i3, _, _⟩ := hI'
  by_cases hlt : i < j
  · have hsc := half_sum i j
    obtain ⟨c, hc⟩ : ∃ c, (i + j) / 2 = c := ⟨_, rfl⟩
    rw [hc] at hsc
    obtain ⟨x, hxc⟩ := get_some (l := X) (show c - a < X.length by omega)
    obtain ⟨y, hyc⟩ := get_some (l := Y) (show mid - 1 - c < Y.length by omega)
    have q1 := heldC_at (rest := rest) (get_Y (D := R) ha hmm hyc (mid + mm - 1 - c) (by omega)) (0 + (mid + mm - 1 - c) * 7) (by omega)
    have q2 := heldC_at (rest := rest) (get_X (D := Y ++ R) ha hxc c (by omega)) (0 + c * 7) (by omega)
    have hpc : IntKind.i64.wrap (((mid + mm - 1 : Nat) : Int) - (c : Int)) = ((mid + mm - 1 - c : Nat) : Int) := wrap_i64 (by omega) (by omega) |>.trans (by omega)
    by_cases hcm : cmpT y.1 x.1 < 0
    · refine V_seq ?_; refine V_seq ?_; refine V_region (id := 33) ?_; refine vo_step (ok_move rfl rfl rfl) rfl ?_; refine vo_step (ok_move rfl rfl rfl) rfl ?_; refine vo_step (ok_lss rfl rfl rfl rfl (decide_eq_true (by omega))) rfl ?_; refine vo_nil ?_; refine N_seq ?_; refine V_true rfl ?_; refine V_skip ?_; refine N_seq ?_; refine V_block ?_; refine V_seq ?_; refine V_region (id := 34) ?_; refine vo_step (ok_move rfl rfl rfl) rfl ?_; refine vo_step (ok_move rfl rfl rfl) rfl ?_; refine vo_step (ok_add rfl rfl rfl rfl (wrap_i64 (by omega) (by omega))) rfl ?_; refine vo_step (ok_conv rfl rfl rfl cv3_185.1 cv3_185.2 (wrap_u64 (by omega) (by omega))) rfl ?_; refine vo_step (ok_shr rfl rfl rfl rfl (by omega) (by assumption)) rfl ?_; refine vo_step (ok_conv rfl rfl rfl cv185_3.1 cv185_3.2 (wrap_i64 (by omega) (by omega))) rfl ?_; refine vo_step (ok_assign rfl rfl rfl) rfl ?_; refine vo_nil ?_; refine N_seq ?_; refine V_seq ?_; refine V_regionD (id := 35) [(200164, [900]), (200168, [900])] mixed (by kernel_rfl) ?_; refine par_step (ok_move rfl rfl rfl) rfl ?_; refine par_step (ok_move rfl rfl rfl) rfl ?_; refine par_step (ok_move rfl rfl rfl) rfl ?_; refine par_step (ok_move rfl rfl rfl) rfl ?_; refine par_step (ok_sub rfl rfl rfl rfl (by assumption)) rfl ?_; refine par_step (ok_indexAt L _ rfl rfl rfl rfl rfl rfl rfl (by omega)) rfl ?_; refine par_stepR (ok_loadHA L (q := 900) (vs := [_, _, _, _, _, _, _]) rfl rfl rfl rfl rfl rfl q1) rfl rfl ?_; refine par_step (ok_move rfl rfl rfl) rfl ?_; refine par_step (ok_move rfl rfl rfl) rfl ?_; refine par_step (ok_indexAt L _ rfl rfl rfl rfl rfl rfl rfl (by omega)) rfl ?_; refine par_stepR (ok_loadHA L (q := 900) (vs := [_, _, _, _, _, _, _]) rfl rfl rfl rfl rfl rfl q2) rfl rfl ?_; refine par_step (ok_callx L rfl rfl (blt_lt rfl) rfl rfl rfl (fun u H hH _ _ => ordC_ret hH)) rfl ?_; refine par_step (ok_lss rfl rfl rfl rfl (decide_eq_true (by omega))) rfl ?_; refine par_step (ok_not rfl rfl rfl rfl) rfl ?_; refine par_nil ?_; refine N_seq ?_; refine V_false rfl ?_; refine V_region (id := 37) ?_; refine vo_step (ok_move rfl rfl rfl) rfl ?_; refine vo_step (ok_assign rfl rfl rfl) rfl ?_; refine vo_nil ?_; refine N_block ?_
      exact N_round (x := (i, j)) (i, c) (hI.down cmpT_ord hX hY hb (by omega) (by omega) hxc hyc hcm) (by dsimp only; omega) ⟨rfl, rfl, rfl, rfl, rfl, rfl, rfl, rfl, rfl, rfl, rfl, trivial⟩
    · refine V_seq ?_; refine V_seq ?_; refine V_region (id := 33) ?_; refine vo_step (ok_move rfl rfl rfl) rfl ?_; refine vo_step (ok_move rfl rfl rfl) rfl ?_; refine vo_step (ok_lss rfl rfl rfl rfl (decide_eq_true (by omega))) rfl ?_; refine vo_nil ?_; refine N_seq ?_; refine V_true rfl ?_; refine V_skip ?_; refine N_seq ?_; refine V_block ?_; refine V_seq ?_; refine V_region (id := 34) ?_; refine vo_step (ok_move rfl rfl rfl) rfl ?_; refine vo_step (ok_move rfl rfl rfl) rfl ?_; refine vo_step (ok_add rfl rfl rfl rfl (wrap_i64 (by omega) (by omega))) rfl ?_; refine vo_step (ok_conv rfl rfl rfl cv3_185.1 cv3_185.2 (wrap_u64 (by omega) (by omega))) rfl ?_; refine vo_step (ok_shr rfl rfl rfl rfl (by omega) (by assumption)) rfl ?_; refine vo_step (ok_conv rfl rfl rfl cv185_3.1 cv185_3.2 (wrap_i64 (by omega) (by omega))) rfl ?_; refine vo_step (ok_assign rfl rfl rfl) rfl ?_; refine vo_nil ?_; refine N_seq ?_; refine V_seq ?_; refine V_regionD (id := 35) [(200164, [900]), (200168, [900])] mixed (by kernel_rfl) ?_; refine par_step (ok_move rfl rfl rfl) rfl ?_; refine par_step (ok_move rfl rfl rfl) rfl ?_; refine par_step (ok_move rfl rfl rfl) rfl ?_; refine par_step (ok_move rfl rfl rfl) rfl ?_; refine par_step (ok_sub rfl rfl rfl rfl (by assumption)) rfl ?_; refine par_step (ok_indexAt L _ rfl rfl rfl rfl rfl rfl rfl (by omega)) rfl ?_; refine par_stepR (ok_loadHA L (q := 900) (vs := [_, _, _, _, _, _, _]) rfl rfl rfl rfl rfl rfl q1) rfl rfl ?_; refine par_step (ok_move rfl rfl rfl) rfl ?_; refine par_step (ok_move rfl rfl rfl) rfl ?_; refine par_step (ok_indexAt L _ rfl rfl rfl rfl rfl rfl rfl (by omega)) rfl ?_; refine par_stepR (ok_loadHA L (q := 900) (vs := [_, _, _, _, _, _, _]) rfl rfl rfl rfl rfl rfl q2) rfl rfl ?_; refine par_step (ok_callx L rfl rfl (blt_lt rfl) rfl rfl rfl (fun u H hH _ _ => ordC_ret hH)) rfl ?_; refine par_step (ok_lss rfl rfl rfl rfl (decide_eq_false (by omega))) rfl ?_; refine par_step (ok_not rfl rfl rfl rfl) rfl ?_; refine par_nil ?_; refine N_seq ?_; refine V_true rfl ?_; refine V_region (id := 36) ?_; refine vo_step (ok_move rfl rfl rfl) rfl ?_; refine vo_step (ok_add rfl rfl rfl rfl (wrap_i64 (by omega) (by omega))) rfl ?_; refine vo_step (ok_assign rfl rfl rfl) rfl ?_; refine vo_nil ?_; refine N_block ?_
      exact N_round (x := (i, j)) (c + 1, j) (hI.up cmpT_ord hX hY hb (by omega) (by omega) hxc hyc hcm) (by dsimp only; omega) ⟨rfl, rfl, rfl, rfl, rfl, rfl, rfl, rfl, rfl, rfl, rfl, trivial⟩
  · obtain rfl : i = j := by omega
    have hj := sym_join cmpT_ord hX hY hb hI
    have hen : IntKind.i64.wrap (((mid + mm : Nat) : Int) - (i : Int)) = ((mid + mm - i : Nat) : Int) := wrap_i64 (by omega) (by omega) |>.trans (by omega)
    refine V_seq ?_; refine V_seq ?_; refine V_region (id := 33) ?_; refine vo_step (ok_move rfl rfl rfl) rfl ?_; refine vo_step (ok_move rfl rfl rfl) rfl ?_; refine vo_step (ok_lss rfl rfl rfl rfl (decide_eq_false (by omega))) rfl ?_; refine vo_nil ?_; refine N_seq ?_; refine V_false rfl ?_; refine V_exit ?_; refine X_then ?_; refine X_then ?_; refine X_here ?_; refine N_seq ?_; refine V_seq ?_; refine V_region (id := 38) ?_; refine vo_step (ok_move rfl rfl rfl) rfl ?_; refine vo_step (ok_move rfl rfl rfl) rfl ?_; refine vo_step (ok_sub rfl rfl rfl rfl (by assumption)) rfl ?_; refine vo_step (ok_assign rfl rfl rfl) rfl ?_; refine vo_nil ?_; refine N_seq ?_; refine V_seq ?_; refine V_seq ?_
    have eX : X.take (i - a) ++ X.drop (i - a) = X := List.take_append_drop _ _
    have eY : Y.take (mid - i) ++ Y.drop (mid - i) = Y := List.take_append_drop _ _
    have lA1 : (X.take (i - a)).length = i - a := by rw [List.length_take]; omega
    have lA2 : (X.drop (i - a)).length = mm - i := by rw [List.length_drop]; omega
    have lB1 : (Y.take (mid - i)).length = mid - i := by rw [List.length_take]; omega
    have lB2 : (Y.drop (mid - i)).length = e - (mid + mm - i) := by rw [List.length_drop]; omega
    generalize X.take (i - a) = A1 at *
    generalize X.drop (i - a) = A2 at *
    generalize Y.take (mid - i) = B1 at *
    generalize Y.drop (mid - i) = B2 at *
    change stC (A1 ++ B1) ++ stC (A2 ++ B2) = stC (X ++ Y) at hj
    rw [← hj]
    subst eX eY
    obtain ⟨sA1, sA2, _⟩ := srt_app.1 hX
    obtain ⟨sB1, sB2, _⟩ := srt_app.1 hY
    clear hI hb hj hX hY
    obtain ⟨en, hend⟩ : ∃ en, mid + mm - i = en := ⟨_, rfl⟩
    rw [hend] at lB2 ⊢
    have e0 : P ++ ((A1 ++ A2) ++ ((B1 ++ B2) ++ R)) = (P ++ A1) ++ (A2 ++ (B1 ++ (B2 ++ R))) := by simp
    have e1 : (P ++ A1) ++ (B1 ++ (A2 ++ (B2 ++ R))) = P ++ (A1 ++ (B1 ++ (A2 ++ (B2 ++ R)))) := by simp
    have hlen1 : ((P ++ A1) ++ (A2 ++ (B1 ++ (B2 ++ R)))).length = m := by rw [← e0]; exact hm
    have hlen2 : (P ++ (A1 ++ (B1 ++ (A2 ++ (B2 ++ R))))).length = m := by simp only [List.length_append] at hm' ⊢; omega
    have hl3 := stC_len (A1 ++ B1)
    rw [List.length_append] at hl3
    have e3 : P ++ (stC (A1 ++ B1) ++ (A2 ++ (B2 ++ R))) = (P ++ stC (A1 ++ B1)) ++ (A2 ++ (B2 ++ R)) := by simp
    have hlen3 : ((P ++ stC (A1 ++ B1)) ++ (A2 ++ (B2 ++ R))).length = m := by simp only [List.length_append] at hm' ⊢; omega
    have e4 : (P ++ stC (A1 ++ B1)) ++ (stC (A2 ++ B2) ++ R) = P ++ ((stC (A1 ++ B1) ++ stC (A2 ++ B2)) ++ R) := by simp
    simp only [List.length_append] at hm' hmm he hN
    refine V_meetC (fun _ : Unit => [(0, .is (.slice (some ⟨b, 0, none⟩) m cap)), (1, .is (.int .i64 a)), (3, .is (.int .i64 e)), (4, .is ordV), (18, .is (.int .i64 mid)), (20, .is (.int .i64 i)), (24, .is (.int .i64 en)), (900, .own (HeldR b ((P ++ (A1 ++ (B1 ++ (A2 ++ (B2 ++ R))))).flatMap ccs ++ rest) tyC))]) (fun _ => True) (fun _ => []) ?rest1 ?first1
    case first1 =>
      rw [e0]
      by_cases h1 : i < mm
      · by_cases h2 : mm < en
        · refine V_region (id := 39) ?_; refine vo_step (ok_move rfl rfl rfl) rfl ?_; refine vo_step (ok_move rfl rfl rfl) rfl ?_; refine vo_step (ok_lss rfl rfl rfl rfl (decide_eq_true (by omega))) rfl ?_; refine vo_step (ok_move rfl rfl rfl) rfl ?_; refine vo_step (ok_move rfl rfl rfl) rfl ?_; refine vo_step (ok_move rfl rfl rfl) rfl ?_; refine vo_step (ok_lss rfl rfl rfl rfl (decide_eq_true (by omega))) rfl ?_; refine vo_step (ok_pick rfl rfl rfl rfl) rfl ?_; refine vo_nil ?_; refine N_seq ?_; refine V_true rfl ?_; refine V_region (id := 40) ?_; refine vo_step (ok_move rfl rfl rfl) rfl ?_; refine vo_step (ok_move rfl rfl rfl) rfl ?_; refine vo_step (ok_move rfl rfl rfl) rfl ?_; refine vo_step (ok_move rfl rfl rfl) rfl ?_; refine vo_step (ok_move rfl rfl rfl) rfl ?_; refine vo_step2 (ok_callG L 900 (GHeld b (((P ++ A1) ++ (B1 ++ (A2 ++ (B2 ++ R)))).flatMap ccs ++ rest) tyC) (r := GHeld b (((P ++ A1) ++ (A2 ++ (B1 ++ (B2 ++ R)))).flatMap ccs ++ rest) tyC) rfl rfl rfl rfl rfl (fun u H C hH _ hr hC => (by have h := rot_ret (cap := cap) (a := i) (mm := mm) (e := en) (by rw [List.length_append]; omega) (by omega) (by omega) (by omega) (by omega) hlen1 hm1 ordV hH hr hC; exact h))) ?_; refine vo_nil ?_
          rw [e1]
          exact N_mids () Since.refl trivial rfl ⟨rfl, rfl, rfl, rfl, rfl, rfl, rfl, rfl, trivial⟩
        · have hB1 : B1 = [] := List.eq_nil_of_length_eq_zero (by omega)
          subst hB1
          have e9 : (P ++ A1) ++ (A2 ++ ([] ++ (B2 ++ R))) = P ++ (A1 ++ ([] ++ (A2 ++ (B2 ++ R)))) := by simp
          rw [e9]
          refine V_region (id := 39) ?_; refine vo_step (ok_move rfl rfl rfl) rfl ?_; refine vo_step (ok_move rfl rfl rfl) rfl ?_; refine vo_step (ok_lss rfl rfl rfl rfl (decide_eq_true (by omega))) rfl ?_; refine vo_step (ok_move rfl rfl rfl) rfl ?_; refine vo_step (ok_move rfl rfl rfl) rfl ?_; refine vo_step (ok_move rfl rfl rfl) rfl ?_; refine vo_step (ok_lss rfl rfl rfl rfl (decide_eq_false (by omega))) rfl ?_; refine vo_step (ok_pick rfl rfl rfl rfl) rfl ?_; refine vo_nil ?_; refine N_seq ?_; refine V_false rfl ?_; refine V_skip ?_
          exact N_mids () Since.refl trivial rfl ⟨rfl, rfl, rfl, rfl, rfl, rfl, rfl, rfl, trivial⟩
      · have hA2 : A2 = [] := List.eq_nil_of_length_eq_zero (by omega)
        subst hA2
        have e9 : (P ++ A1) ++ ([] ++ (B1 ++ (B2 ++ R))) = P ++ (A1 ++ (B1 ++ ([] ++ (B2 ++ R)))) := by simp
        rw [e9]
        refine V_region (id := 39) ?_; refine vo_step (ok_move rfl rfl rfl) rfl ?_; refine vo_step (ok_move rfl rfl rfl) rfl ?_; refine vo_step (ok_lss rfl rfl rfl rfl (decide_eq_false (by omega))) rfl ?_; refine vo_step (ok_move rfl rfl rfl) rfl ?_; refine vo_step (ok_skip rfl (blt_lt rfl) rfl) rfl ?_; refine vo_step (ok_skip rfl (blt_lt rfl) rfl) rfl ?_; refine vo_step (ok_skip rfl (blt_lt rfl) rfl) rfl ?_; refine vo_step (ok_pick rfl rfl rfl rfl) rfl ?_; refine vo_nil ?_; refine N_seq ?_; refine V_false rfl ?_; refine V_skip ?_
        exact N_mids () Since.refl trivial rfl ⟨rfl, rfl, rfl, rfl, rfl, rfl, rfl, rfl, trivial⟩
    case rest1 =>
    rintro _ _
    refine V_seq ?_; refine V_seq ?_
    refine V_meetC (fun _ : Unit => [(0, .is (.slice (some ⟨b, 0, none⟩) m cap)), (3, .is (.int .i64 e)), (4, .is ordV), (18, .is (.int .i64 mid)), (24, .is (.int .i64 en)), (900, .own (HeldR b (((P ++ stC (A1 ++ B1)) ++ (A2 ++ (B2 ++ R))).flatMap ccs ++ rest) tyC))]) (fun _ => True) (fun _ => []) ?rest2 ?first2
    case first2 =>
      rw [← e3]
      by_cases h1 : a < i
      · by_cases h2 : i < mid
        · refine V_region (id := 41) ?_; refine vo_step (ok_move rfl rfl rfl) rfl ?_; refine vo_step (ok_move rfl rfl rfl) rfl ?_; refine vo_step (ok_lss rfl rfl rfl rfl (decide_eq_true (by omega))) rfl ?_; refine vo_step (ok_move rfl rfl rfl) rfl ?_; refine vo_step (ok_move rfl rfl rfl) rfl ?_; refine vo_step (ok_move rfl rfl rfl) rfl ?_; refine vo_step (ok_lss rfl rfl rfl rfl (decide_eq_true (by omega))) rfl ?_; refine vo_step (ok_pick rfl rfl rfl rfl) rfl ?_; refine vo_nil ?_; refine N_seq ?_; refine V_true rfl ?_; refine V_region (id := 42) ?_; refine vo_step (ok_move rfl rfl rfl) rfl ?_; refine vo_step (ok_move rfl rfl rfl) rfl ?_; refine vo_step (ok_move rfl rfl rfl) rfl ?_; refine vo_step (ok_move rfl rfl rfl) rfl ?_; refine vo_step (ok_move rfl rfl rfl) rfl ?_; refine vo_step2 (ok_callG L 900 (GHeld b ((P ++ (stC (A1 ++ B1) ++ (A2 ++ (B2 ++ R)))).flatMap ccs ++ rest) tyC) (r := GHeld b ((P ++ (A1 ++ (B1 ++ (A2 ++ (B2 ++ R))))).flatMap ccs ++ rest) tyC) rfl rfl rfl rfl rfl (fun u H C hH _ hr hC => (by have h := ih (cap := cap) (a := a) (mm := i) (e := mid) (by omega) ha (by omega) (by omega) (by omega) (by omega) sA1 sB1 hlen2 hm1 hH hr hC; exact h))) ?_; refine vo_nil ?_
          exact N_mids () Since.refl trivial rfl ⟨rfl, rfl, rfl, rfl, rfl, rfl, trivial⟩
        · have hB1 : B1 = [] := List.eq_nil_of_length_eq_zero (by omega)
          subst hB1
          have e9 : P ++ (A1 ++ ([] ++ (A2 ++ (B2 ++ R)))) = P ++ (stC (A1 ++ []) ++ (A2 ++ (B2 ++ R))) := by rw [List.append_nil, stC_srt sA1]; rfl
          rw [e9]
          refine V_region (id := 41) ?_; refine vo_step (ok_move rfl rfl rfl) rfl ?_; refine vo_step (ok_move rfl rfl rfl) rfl ?_; refine vo_step (ok_lss rfl rfl rfl rfl (decide_eq_true (by omega))) rfl ?_; refine vo_step (ok_move rfl rfl rfl) rfl ?_; refine vo_step (ok_move rfl rfl rfl) rfl ?_; refine vo_step (ok_move rfl rfl rfl) rfl ?_; refine vo_step (ok_lss rfl rfl rfl rfl (decide_eq_false (by omega))) rfl ?_; refine vo_step (ok_pick rfl rfl rfl rfl) rfl ?_; refine vo_nil ?_; refine N_seq ?_; refine V_false rfl ?_; refine V_skip ?_
          exact N_mids () Since.refl trivial rfl ⟨rfl, rfl, rfl, rfl, rfl, rfl, trivial⟩
      · have hA1 : A1 = [] := List.eq_nil_of_length_eq_zero (by omega)
        subst hA1
        have e9 : P ++ ([] ++ (B1 ++ (A2 ++ (B2 ++ R)))) = P ++ (stC ([] ++ B1) ++ (A2 ++ (B2 ++ R))) := by rw [List.nil_append, List.nil_append, stC_srt sB1]
        rw [e9]
        refine V_region (id := 41) ?_; refine vo_step (ok_move rfl rfl rfl) rfl ?_; refine vo_step (ok_move rfl rfl rfl) rfl ?_; refine vo_step (ok_lss rfl rfl rfl rfl (decide_eq_false (by omega))) rfl ?_; refine vo_step (ok_move rfl rfl rfl) rfl ?_; refine vo_step (ok_skip rfl (blt_lt rfl) rfl) rfl ?_; refine vo_step (ok_skip rfl (blt_lt rfl) rfl) rfl ?_; refine vo_step (ok_skip rfl (blt_lt rfl) rfl) rfl ?_; refine vo_step (ok_pick rfl rfl rfl rfl) rfl ?_; refine vo_nil ?_; refine N_seq ?_; refine V_false rfl ?_; refine V_skip ?_
        exact N_mids () Since.refl trivial rfl ⟨rfl, rfl, rfl, rfl, rfl, rfl, trivial⟩
    case rest2 =>
    rintro _ _
    by_cases h1 : mid < en
    · by_cases h2 : en < e
      · refine V_seq ?_; refine V_region (id := 43) ?_; refine vo_step (ok_move rfl rfl rfl) rfl ?_; refine vo_step (ok_move rfl rfl rfl) rfl ?_; refine vo_step (ok_lss rfl rfl rfl rfl (decide_eq_true (by omega))) rfl ?_; refine vo_step (ok_move rfl rfl rfl) rfl ?_; refine vo_step (ok_move rfl rfl rfl) rfl ?_; refine vo_step (ok_move rfl rfl rfl) rfl ?_; refine vo_step (ok_lss rfl rfl rfl rfl (decide_eq_true (by omega))) rfl ?_; refine vo_step (ok_pick rfl rfl rfl rfl) rfl ?_; refine vo_nil ?_; refine N_seq ?_; refine V_true rfl ?_; refine V_region (id := 44) ?_; refine vo_step (ok_move rfl rfl rfl) rfl ?_; refine vo_step (ok_move rfl rfl rfl) rfl ?_; refine vo_step (ok_move rfl rfl rfl) rfl ?_; refine vo_step (ok_move rfl rfl rfl) rfl ?_; refine vo_step (ok_move rfl rfl rfl) rfl ?_; refine vo_step2 (ok_callG L 900 (GHeld b (((P ++ stC (A1 ++ B1)) ++ (stC (A2 ++ B2) ++ R)).flatMap ccs ++ rest) tyC) (r := GHeld b (((P ++ stC (A1 ++ B1)) ++ (A2 ++ (B2 ++ R))).flatMap ccs ++ rest) tyC) rfl rfl rfl rfl rfl (fun u H C hH _ hr hC => (by have h := ih (cap := cap) (a := mid) (mm := en) (e := e) (by omega) (by rw [List.length_append]; omega) (by omega) (by omega) (by omega) (by omega) sA2 sB2 hlen3 hm1 hH hr hC; exact h))) ?_; refine vo_nil ?_
        rw [e4]
        exact N_retGhost L 900 (r := GHeld b _ tyC) rfl (fun _ _ h => h) Since.refl rfl rfl
      · have hB2 : B2 = [] := List.eq_nil_of_length_eq_zero (by omega)
        subst hB2
        have e9 : (P ++ stC (A1 ++ B1)) ++ (A2 ++ ([] ++ R)) = P ++ ((stC (A1 ++ B1) ++ stC (A2 ++ [])) ++ R) := by rw [List.append_nil, stC_srt sA2]; simp
        rw [e9]
        refine V_seq ?_; refine V_region (id := 43) ?_; refine vo_step (ok_move rfl rfl rfl) rfl ?_; refine vo_step (ok_move rfl rfl rfl) rfl ?_; refine vo_step (ok_lss rfl rfl rfl rfl (decide_eq_true (by omega))) rfl ?_; refine vo_step (ok_move rfl rfl rfl) rfl ?_; refine vo_step (ok_move rfl rfl rfl) rfl ?_; refine vo_step (ok_move rfl rfl rfl) rfl ?_; refine vo_step (ok_lss rfl rfl rfl rfl (decide_eq_false (by omega))) rfl ?_; refine vo_step (ok_pick rfl rfl rfl rfl) rfl ?_; refine vo_nil ?_; refine N_seq ?_; refine V_false rfl ?_; refine V_skip ?_
        exact N_retGhost L 900 (r := GHeld b _ tyC) rfl (fun _ _ h => h) Since.refl rfl rfl
    · have hA2 : A2 = [] := List.eq_nil_of_length_eq_zero (by omega)
      subst hA2
      have e9 : (P ++ stC (A1 ++ B1)) ++ ([] ++ (B2 ++ R)) = P ++ ((stC (A1 ++ B1) ++ stC ([] ++ B2)) ++ R) := by rw [List.nil_append, List.nil_append, stC_srt sB2]; simp
      rw [e9]
      refine V_seq ?_; refine V_region (id := 43) ?_; refine vo_step (ok_move rfl rfl rfl) rfl ?_; refine vo_step (ok_move rfl rfl rfl) rfl ?_; refine vo_step (ok_lss rfl rfl rfl rfl (decide_eq_false (by omega))) rfl ?_; refine vo_step (ok_move rfl rfl rfl) rfl ?_; refine vo_step (ok_skip rfl (blt_lt rfl) rfl) rfl ?_; refine vo_step (ok_skip rfl (blt_lt rfl) rfl) rfl ?_; refine vo_step (ok_skip rfl (blt_lt rfl) rfl) rfl ?_; refine vo_step (ok_pick rfl rfl rfl rfl) rfl ?_; refine vo_nil ?_; refine N_seq ?_; refine V_false rfl ?_; refine V_skip ?_
      exact N_retGhost L 900 (r := GHeld b _ tyC) rfl (fun _ _ h => h) Since.refl rfl rfl
end Go.V.L8
/- The walks of the library's stable sort, at changes: blocks are sorted, then merged. -/
namespace Go.V.L8
open Go.Proofs Go.RowKit Go.V Go.V.L2 Go.V.L3 Go.V.L6
abbrev chC (n : Nat) (l : List CH) : List CH := chL (fun c : CH => c.1) cmpT n l
theorem chC_step {n : Nat} (hn : 0 < n) (l : List CH) : chC n l = stC (l.take n) ++ chC n (l.drop n) := chL_step hn l
theorem chC_one {n : Nat} (hn : 0 < n) {l : List CH} (h : l.length ≤ n) : chC n l = stC l := chL_one hn h
theorem chC_len {n : Nat} (hn : 0 < n) (l : List CH) : (chC n l).length = l.length := chL_len cmpT_ord hn l.length (Nat.le_refl _)
theorem stC_app (X Y : List CH) : stC (stC X ++ stC Y) = stC (X ++ Y) := stbL_app cmpT_ord X Y
theorem srtC_stC (X : List CH) : SrtC (stC X) := (stbL_stb cmpT_ord X).1
attribute [local irreducible] V N X VO Par StepOK Has Ret RetL RetO RetT RetG Src
set_option maxHeartbeats 8000000 in
set_option maxRecDepth 20000 in
theorem stab_ret {l : List CH} {rest : List Value} {b m cap : Nat} (hm : l.length = m) (hm1 : m ≤ 100000) {w : World} {B : Heap} {C : Nat → Prop} (hB : B.Le (hp w))
    (hr : (GHeld b (l.flatMap ccs ++ rest) tyC).P B w C) (hC : ∀ k, C k → k < w.heap.size ∧ B k = none) :
    RetG Try.prog 114 [.slice (some ⟨b, 0, none⟩) m cap, .int .i64 m, ordV] w B C (GHeld b ((stC l).flatMap ccs ++ rest) tyC) := by
  unfold RetG
  refine V_enterG 900 (GHeld b (l.flatMap ccs ++ rest) tyC) Try.func114 rfl Try.ntmps114 (Nat.le_of_ble_eq_true rfl) hB hr hC ?_
  rw [gheld_res]
  refine V_seq ?_; refine V_region (id := 0) ?_; refine vo_step (ok_assign rfl rfl rfl) rfl ?_; refine vo_nil ?_; refine N_seq ?_; refine V_seq ?_; refine V_region (id := 1) ?_; refine vo_step (ok_move rfl rfl rfl) rfl ?_; refine vo_step (ok_assign rfl rfl rfl) rfl ?_; refine vo_step (ok_assign rfl rfl rfl) rfl ?_; refine vo_nil ?_; refine N_seq ?_; refine V_seq ?_; refine V_block ?_
  refine V_loop (fun s : Nat × List CH => [(0, .is (.slice (some ⟨b, 0, none⟩) m cap)), (1, .is (.int .i64 m)), (2, .is ordV), (6, .is (.int .i64 20)), (7, .is (.int .i64 s.1)), (8, .is (.int .i64 (s.1 + 20 : Nat))), (900, .own (HeldR b ((s.2 ++ l.drop s.1).flatMap ccs ++ rest) tyC))])
    (fun s => s.2.length = s.1 ∧ s.1 ≤ m ∧ s.2 ++ chC 20 (l.drop s.1) = chC 20 l) (fun s => m - s.1) (0, []) ⟨rfl, Nat.zero_le _, rfl⟩ ⟨rfl, rfl, rfl, rfl, rfl, rfl, rfl, trivial⟩ ?_
  rintro ⟨a, S1⟩ ⟨h1, h2, h3⟩
  dsimp only at h1 h2 h3 ⊢
  have hdl : (l.drop a).length = m - a := by rw [List.length_drop, hm]
  by_cases hlt : a + 20 ≤ m
  · have e0 : S1 ++ l.drop a = S1 ++ ((l.drop a).take 20 ++ (l.drop a).drop 20) := by rw [List.take_append_drop]
    have e1 : S1 ++ (stC ((l.drop a).take 20) ++ (l.drop a).drop 20) = (S1 ++ stC ((l.drop a).take 20)) ++ l.drop (a + 20) := by rw [List.drop_drop, List.append_assoc]
    have hlen : (S1 ++ ((l.drop a).take 20 ++ (l.drop a).drop 20)).length = m := by rw [← e0, List.length_append]; omega
    have ltk : ((l.drop a).take 20).length = 20 := by rw [List.length_take]; omega
    have a1 : IntKind.i64.wrap (((a + 20 : Nat) : Int) + 20) = ((a + 20 + 20 : Nat) : Int) := wrap_i64 (by omega) (by omega)
    rw [e0]
    refine V_seq ?_; refine V_seq ?_; refine V_region (id := 2) ?_; refine vo_step (ok_move rfl rfl rfl) rfl ?_; refine vo_step (ok_move rfl rfl rfl) rfl ?_; refine vo_step (ok_leq rfl rfl rfl rfl (decide_eq_true (by omega))) rfl ?_; refine vo_nil ?_; refine N_seq ?_; refine V_true rfl ?_; refine V_skip ?_; refine N_seq ?_; refine V_block ?_; refine V_seq ?_; refine V_region (id := 3) ?_; refine vo_step (ok_move rfl rfl rfl) rfl ?_; refine vo_step (ok_move rfl rfl rfl) rfl ?_; refine vo_step (ok_move rfl rfl rfl) rfl ?_; refine vo_step (ok_move rfl rfl rfl) rfl ?_; refine vo_step2 (ok_callG L 900 (GHeld b ((S1 ++ (stC ((l.drop a).take 20) ++ (l.drop a).drop 20)).flatMap ccs ++ rest) tyC) (r := GHeld b ((S1 ++ ((l.drop a).take 20 ++ (l.drop a).drop 20)).flatMap ccs ++ rest) tyC) rfl rfl rfl rfl rfl (fun u H C hH _ hr hC => (by have h := ins_ret (cap := cap) (a := a) (e := a + 20) h1 (by omega) hlen hm1 hH hr hC; exact h))) ?_; refine vo_nil ?_; refine N_seq ?_; refine V_seq ?_; refine V_region (id := 4) ?_; refine vo_step (ok_move rfl rfl rfl) rfl ?_; refine vo_step (ok_assign rfl rfl rfl) rfl ?_; refine vo_nil ?_; refine N_seq ?_; refine V_region (id := 5) ?_; refine vo_step (ok_move rfl rfl rfl) rfl ?_; refine vo_step (ok_move rfl rfl rfl) rfl ?_; refine vo_step (ok_add rfl rfl rfl rfl (by assumption)) rfl ?_; refine vo_step (ok_assign rfl rfl rfl) rfl ?_; refine vo_nil ?_; refine N_block ?_
    rw [e1]
    exact N_round (x := (a, S1)) (a + 20, S1 ++ stC ((l.drop a).take 20)) ⟨by dsimp only; rw [List.length_append, stC_len]; omega, hlt, by
      dsimp only
      rw [← h3, chC_step (by omega) (l.drop a), List.drop_drop, List.append_assoc]⟩ (by dsimp only; omega) ⟨rfl, rfl, rfl, rfl, rfl, rfl, rfl, trivial⟩
  · have e0 : S1 ++ l.drop a = S1 ++ (l.drop a ++ []) := by rw [List.append_nil]
    have e1 : S1 ++ (stC (l.drop a) ++ []) = chC 20 l := by rw [List.append_nil, ← h3, chC_one (by omega) (by omega)]
    have hlen : (S1 ++ (l.drop a ++ [])).length = m := by rw [← e0, List.length_append]; omega
    rw [e0]
    refine V_seq ?_; refine V_seq ?_; refine V_region (id := 2) ?_; refine vo_step (ok_move rfl rfl rfl) rfl ?_; refine vo_step (ok_move rfl rfl rfl) rfl ?_; refine vo_step (ok_leq rfl rfl rfl rfl (decide_eq_false (by omega))) rfl ?_; refine vo_nil ?_; refine N_seq ?_; refine V_false rfl ?_; refine V_exit ?_; refine X_then ?_; refine X_then ?_; refine X_here ?_; refine N_seq ?_; refine V_seq ?_; refine V_region (id := 6) ?_; refine vo_step (ok_move rfl rfl rfl) rfl ?_; refine vo_step (ok_move rfl rfl rfl) rfl ?_; refine vo_step (ok_move rfl rfl rfl) rfl ?_; refine vo_step (ok_move rfl rfl rfl) rfl ?_; refine vo_step2 (ok_callG L 900 (GHeld b ((S1 ++ (stC (l.drop a) ++ [])).flatMap ccs ++ rest) tyC) (r := GHeld b ((S1 ++ (l.drop a ++ [])).flatMap ccs ++ rest) tyC) rfl rfl rfl rfl rfl (fun u H C hH _ hr hC => (by have h := ins_ret (cap := cap) (a := a) (e := m) h1 (by omega) hlen hm1 hH hr hC; exact h))) ?_; refine vo_nil ?_; refine N_seq ?_; refine V_block ?_
    rw [e1]
    clear e0 e1 hlen hlt hdl h1 h2 h3
    refine V_loop (fun s : Nat => [(0, .is (.slice (some ⟨b, 0, none⟩) m cap)), (1, .is (.int .i64 m)), (2, .is ordV), (6, .is (.int .i64 s)), (900, .own (HeldR b ((chC s l).flatMap ccs ++ rest) tyC))]) (fun s => 0 < s ∧ s ≤ 20 + 2 * m) (fun s => m - s) 20 ⟨by omega, by omega⟩ ⟨rfl, rfl, rfl, rfl, rfl, trivial⟩ ?_
    rintro s ⟨hs0, hs1⟩
    by_cases hsm : s < m
    · refine V_seq ?_; refine V_seq ?_; refine V_region (id := 7) ?_; refine vo_step (ok_move rfl rfl rfl) rfl ?_; refine vo_step (ok_move rfl rfl rfl) rfl ?_; refine vo_step (ok_lss rfl rfl rfl rfl (decide_eq_true (by omega))) rfl ?_; refine vo_nil ?_; refine N_seq ?_; refine V_true rfl ?_; refine V_skip ?_; refine N_seq ?_; refine V_block ?_; refine V_seq ?_; refine V_region (id := 8) ?_; refine vo_step (ok_move rfl rfl rfl) rfl ?_; refine vo_step (ok_mul rfl rfl rfl rfl (wrap_i64 (by omega) (by omega))) rfl ?_; refine vo_step (ok_assign rfl rfl rfl) rfl ?_; refine vo_step (ok_assign rfl rfl rfl) rfl ?_; refine vo_nil ?_; refine N_seq ?_; refine V_seq ?_; refine V_block ?_
      refine V_loop (fun t : Nat × List CH => [(0, .is (.slice (some ⟨b, 0, none⟩) m cap)), (1, .is (.int .i64 m)), (2, .is ordV), (6, .is (.int .i64 s)), (7, .is (.int .i64 t.1)), (8, .is (.int .i64 (t.1 + 2 * s : Nat))), (900, .own (HeldR b ((t.2 ++ chC s (l.drop t.1)).flatMap ccs ++ rest) tyC))])
        (fun t => t.2.length = t.1 ∧ t.1 ≤ m ∧ t.2 ++ chC (2 * s) (l.drop t.1) = chC (2 * s) l) (fun t => m - t.1) (0, []) ⟨rfl, Nat.zero_le _, rfl⟩ ⟨rfl, rfl, rfl, rfl, rfl, by dsimp only; rw [Nat.zero_add]; rfl, rfl, trivial⟩ ?_
      rintro ⟨a, S1⟩ ⟨h1, h2, h3⟩
      dsimp only at h1 h2 h3 ⊢
      have hdl : (l.drop a).length = m - a := by rw [List.length_drop, hm]
      have hcs := chC_step hs0 (l.drop a)
      by_cases hlt : a + 2 * s ≤ m
      · have hcs2 := chC_step hs0 ((l.drop a).drop s)
        have e0 : S1 ++ chC s (l.drop a) = S1 ++ (stC ((l.drop a).take s) ++ (stC (((l.drop a).drop s).take s) ++ chC s (l.drop (a + 2 * s)))) := by
          rw [hcs, hcs2, List.drop_drop, List.drop_drop, show a + s + s = a + 2 * s by omega]
        have ht2 : (l.drop a).take (2 * s) = (l.drop a).take s ++ ((l.drop a).drop s).take s := by rw [show 2 * s = s + s by omega, List.take_add]
        have e1 : S1 ++ (stC (stC ((l.drop a).take s) ++ stC (((l.drop a).drop s).take s)) ++ chC s (l.drop (a + 2 * s))) = (S1 ++ stC ((l.drop a).take (2 * s))) ++ chC s (l.drop (a + 2 * s)) := by rw [stC_app, ← ht2, List.append_assoc]
        have l1 : (stC ((l.drop a).take s)).length = s := by rw [stC_len, List.length_take]; omega
        have l2 : (stC (((l.drop a).drop s).take s)).length = s := by rw [stC_len, List.length_take, List.length_drop]; omega
        have l3 : (chC s (l.drop (a + 2 * s))).length = m - (a + 2 * s) := by rw [chC_len hs0, List.length_drop, hm]
        have hlen : (S1 ++ (stC ((l.drop a).take s) ++ (stC (((l.drop a).drop s).take s) ++ chC s (l.drop (a + 2 * s))))).length = m := by simp only [List.length_append]; omega
        have a1 : IntKind.i64.wrap ((a : Int) + (s : Int)) = ((a + s : Nat) : Int) := wrap_i64 (by omega) (by omega)
        have a2 : IntKind.i64.wrap (((a + 2 * s : Nat) : Int) + 2 * (s : Int)) = ((a + 2 * s + 2 * s : Nat) : Int) := wrap_i64 (by omega) (by omega)
        rw [e0]
        refine V_seq ?_; refine V_seq ?_; refine V_region (id := 9) ?_; refine vo_step (ok_move rfl rfl rfl) rfl ?_; refine vo_step (ok_move rfl rfl rfl) rfl ?_; refine vo_step (ok_leq rfl rfl rfl rfl (decide_eq_true (by omega))) rfl ?_; refine vo_nil ?_; refine N_seq ?_; refine V_true rfl ?_; refine V_skip ?_; refine N_seq ?_; refine V_block ?_; refine V_seq ?_; refine V_region (id := 10) ?_; refine vo_step (ok_move rfl rfl rfl) rfl ?_; refine vo_step (ok_move rfl rfl rfl) rfl ?_; refine vo_step (ok_move rfl rfl rfl) rfl ?_; refine vo_step (ok_move rfl rfl rfl) rfl ?_; refine vo_step (ok_add rfl rfl rfl rfl (by assumption)) rfl ?_; refine vo_step (ok_move rfl rfl rfl) rfl ?_; refine vo_step (ok_move rfl rfl rfl) rfl ?_; refine vo_step2 (ok_callG L 900 (GHeld b ((S1 ++ (stC (stC ((l.drop a).take s) ++ stC (((l.drop a).drop s).take s)) ++ chC s (l.drop (a + 2 * s)))).flatMap ccs ++ rest) tyC) (r := GHeld b ((S1 ++ (stC ((l.drop a).take s) ++ (stC (((l.drop a).drop s).take s) ++ chC s (l.drop (a + 2 * s))))).flatMap ccs ++ rest) tyC) rfl rfl rfl rfl rfl (fun u H C hH _ hr hC => (by have h := sym_ret _ (cap := cap) (a := a) (mm := a + s) (e := a + 2 * s) (Nat.le_refl _) h1 (by omega) (by omega) (by omega) (by omega) (srtC_stC _) (srtC_stC _) hlen hm1 hH hr hC; exact h))) ?_; refine vo_nil ?_; refine N_seq ?_; refine V_seq ?_; refine V_region (id := 11) ?_; refine vo_step (ok_move rfl rfl rfl) rfl ?_; refine vo_step (ok_assign rfl rfl rfl) rfl ?_; refine vo_nil ?_; refine N_seq ?_; refine V_region (id := 12) ?_; refine vo_step (ok_move rfl rfl rfl) rfl ?_; refine vo_step (ok_move rfl rfl rfl) rfl ?_; refine vo_step (ok_mul rfl rfl rfl rfl (wrap_i64 (by omega) (by omega))) rfl ?_; refine vo_step (ok_add rfl rfl rfl rfl (by assumption)) rfl ?_; refine vo_step (ok_assign rfl rfl rfl) rfl ?_; refine vo_nil ?_; refine N_block ?_
        rw [e1]
        exact N_round (x := (a, S1)) (a + 2 * s, S1 ++ stC ((l.drop a).take (2 * s))) ⟨by dsimp only; rw [List.length_append, stC_len, List.length_take]; omega, hlt, by
          dsimp only
          rw [← h3, chC_step (by omega) (l.drop a), List.drop_drop, List.append_assoc]⟩ (by dsimp only; omega) ⟨rfl, rfl, rfl, rfl, rfl, rfl, rfl, trivial⟩
      · have a1 : IntKind.i64.wrap ((a : Int) + (s : Int)) = ((a + s : Nat) : Int) := wrap_i64 (by omega) (by omega)
        have a2 : IntKind.i64.wrap ((s : Int) * 2) = ((2 * s : Nat) : Int) := wrap_i64 (by omega) (by omega) |>.trans (by omega)
        by_cases hlm : a + s < m
        · have e0 : S1 ++ chC s (l.drop a) = S1 ++ (stC ((l.drop a).take s) ++ (stC ((l.drop a).drop s) ++ [])) := by
            rw [hcs, chC_one hs0 (l := (l.drop a).drop s) (by rw [List.length_drop]; omega), List.append_nil]
          have e1 : S1 ++ (stC (stC ((l.drop a).take s) ++ stC ((l.drop a).drop s)) ++ []) = chC (2 * s) l := by
            rw [stC_app, List.take_append_drop, List.append_nil, ← h3, chC_one (n := 2 * s) (by omega) (by omega)]
          have l1 : (stC ((l.drop a).take s)).length = s := by rw [stC_len, List.length_take]; omega
          have l2 : (stC ((l.drop a).drop s)).length = m - a - s := by rw [stC_len, List.length_drop]; omega
          have hlen : (S1 ++ (stC ((l.drop a).take s) ++ (stC ((l.drop a).drop s) ++ []))).length = m := by simp only [List.length_append, List.length_nil]; omega
          rw [e0]
          refine V_seq ?_; refine V_seq ?_; refine V_region (id := 9) ?_; refine vo_step (ok_move rfl rfl rfl) rfl ?_; refine vo_step (ok_move rfl rfl rfl) rfl ?_; refine vo_step (ok_leq rfl rfl rfl rfl (decide_eq_false (by omega))) rfl ?_; refine vo_nil ?_; refine N_seq ?_; refine V_false rfl ?_; refine V_exit ?_; refine X_then ?_; refine X_then ?_; refine X_here ?_; refine N_seq ?_; refine V_seq ?_; refine V_seq ?_; refine V_region (id := 13) ?_; refine vo_step (ok_move rfl rfl rfl) rfl ?_; refine vo_step (ok_move rfl rfl rfl) rfl ?_; refine vo_step (ok_add rfl rfl rfl rfl (by assumption)) rfl ?_; refine vo_step (ok_assign rfl rfl rfl) rfl ?_; refine vo_nil ?_; refine N_seq ?_; refine V_seq ?_; refine V_region (id := 14) ?_; refine vo_step (ok_move rfl rfl rfl) rfl ?_; refine vo_step (ok_move rfl rfl rfl) rfl ?_; refine vo_step (ok_lss rfl rfl rfl rfl (decide_eq_true (by omega))) rfl ?_; refine vo_nil ?_; refine N_seq ?_; refine V_true rfl ?_; refine V_region (id := 15) ?_; refine vo_step (ok_move rfl rfl rfl) rfl ?_; refine vo_step (ok_move rfl rfl rfl) rfl ?_; refine vo_step (ok_move rfl rfl rfl) rfl ?_; refine vo_step (ok_move rfl rfl rfl) rfl ?_; refine vo_step (ok_move rfl rfl rfl) rfl ?_; refine vo_step2 (ok_callG L 900 (GHeld b ((S1 ++ (stC (stC ((l.drop a).take s) ++ stC ((l.drop a).drop s)) ++ [])).flatMap ccs ++ rest) tyC) (r := GHeld b ((S1 ++ (stC ((l.drop a).take s) ++ (stC ((l.drop a).drop s) ++ []))).flatMap ccs ++ rest) tyC) rfl rfl rfl rfl rfl (fun u H C hH _ hr hC => (by have h := sym_ret _ (cap := cap) (a := a) (mm := a + s) (e := m) (Nat.le_refl _) h1 (by omega) (by omega) (by omega) (by omega) (srtC_stC _) (srtC_stC _) hlen hm1 hH hr hC; exact h))) ?_; refine vo_nil ?_; refine N_seq ?_; refine V_region (id := 16) ?_; refine vo_step (ok_move rfl rfl rfl) rfl ?_; refine vo_step (ok_mul rfl rfl rfl rfl a2) rfl ?_; refine vo_step (ok_assign rfl rfl rfl) rfl ?_; refine vo_nil ?_; refine N_block ?_
          rw [e1]
          exact N_round (x := s) (2 * s) ⟨by omega, by omega⟩ (by omega) ⟨rfl, rfl, rfl, rfl, rfl, trivial⟩
        · have e1 : S1 ++ chC s (l.drop a) = chC (2 * s) l := by
            rw [← h3, chC_one hs0 (by omega), chC_one (n := 2 * s) (by omega) (by omega)]
          rw [e1]
          refine V_seq ?_; refine V_seq ?_; refine V_region (id := 9) ?_; refine vo_step (ok_move rfl rfl rfl) rfl ?_; refine vo_step (ok_move rfl rfl rfl) rfl ?_; refine vo_step (ok_leq rfl rfl rfl rfl (decide_eq_false (by omega))) rfl ?_; refine vo_nil ?_; refine N_seq ?_; refine V_false rfl ?_; refine V_exit ?_; refine X_then ?_; refine X_then ?_; refine X_here ?_; refine N_seq ?_; refine V_seq ?_; refine V_seq ?_; refine V_region (id := 13) ?_; refine vo_step (ok_move rfl rfl rfl) rfl ?_; refine vo_step (ok_move rfl rfl rfl) rfl ?_; refine vo_step (ok_add rfl rfl rfl rfl (by assumption)) rfl ?_; refine vo_step (ok_assign rfl rfl rfl) rfl ?_; refine vo_nil ?_; refine N_seq ?_; refine V_seq ?_; refine V_region (id := 14) ?_; refine vo_step (ok_move rfl rfl rfl) rfl ?_; refine vo_step (ok_move rfl rfl rfl) rfl ?_; refine vo_step (ok_lss rfl rfl rfl rfl (decide_eq_false (by omega))) rfl ?_; refine vo_nil ?_; refine N_seq ?_; refine V_false rfl ?_; refine V_skip ?_; refine N_seq ?_; refine V_region (id := 16) ?_; refine vo_step (ok_move rfl rfl rfl) rfl ?_; refine vo_step (ok_mul rfl rfl rfl rfl a2) rfl ?_; refine vo_step (ok_assign rfl rfl rfl) rfl ?_; refine vo_nil ?_; refine N_block ?_
          exact N_round (x := s) (2 * s) ⟨by omega, by omega⟩ (by omega) ⟨rfl, rfl, rfl, rfl, rfl, trivial⟩
    · rw [chC_one hs0 (by omega)]
      refine V_seq ?_; refine V_seq ?_; refine V_region (id := 7) ?_; refine vo_step (ok_move rfl rfl rfl) rfl ?_; refine vo_step (ok_move rfl rfl rfl) rfl ?_; refine vo_step (ok_lss rfl rfl rfl rfl (decide_eq_false (by omega))) rfl ?_; refine vo_nil ?_; refine N_seq ?_; refine V_false rfl ?_; refine V_exit ?_; refine X_then ?_; refine X_then ?_; refine X_here ?_
      exact N_retGhost L 900 (r := GHeld b _ tyC) rfl (fun _ _ h => h) Since.refl rfl rfl
abbrev SSF : Nat := 91
set_option maxHeartbeats 1000000 in
set_option maxRecDepth 20000 in
theorem sortS_ret {l : List CH} {rest : List Value} {b m cap : Nat} (hm : l.length = m) (hm1 : m ≤ 100000) {w : World} {B : Heap} {C : Nat → Prop} (hB : B.Le (hp w))
    (hr : (GHeld b (l.flatMap ccs ++ rest) tyC).P B w C) (hC : ∀ k, C k → k < w.heap.size ∧ B k = none) :
    RetG Try.prog SSF [.slice (some ⟨b, 0, none⟩) m cap, ordV] w B C (GHeld b ((stC l).flatMap ccs ++ rest) tyC) := by
  unfold RetG
  refine V_enterG 900 (GHeld b (l.flatMap ccs ++ rest) tyC) Try.func91 rfl Try.ntmps91 (Nat.le_of_ble_eq_true rfl) hB hr hC ?_
  rw [gheld_res]
  refine V_region (id := 0) ?_; refine vo_step (ok_move rfl rfl rfl) rfl ?_; refine vo_step (ok_move rfl rfl rfl) rfl ?_; refine vo_step (ok_lenL L rfl rfl rfl rfl) rfl ?_; refine vo_step (ok_move rfl rfl rfl) rfl ?_; refine vo_step2 (ok_callG L 900 (GHeld b ((stC l).flatMap ccs ++ rest) tyC) (r := GHeld b (l.flatMap ccs ++ rest) tyC) rfl rfl rfl rfl rfl (fun u H C hH _ hr hC => (by have h := stab_ret (cap := cap) hm hm1 hH hr hC; exact h))) ?_; refine vo_nil ?_
  exact N_retGhost L 900 (r := GHeld b _ tyC) rfl (fun _ _ h => h) Since.refl rfl rfl
set_option maxRecDepth 20000 in
theorem ins0_ret {w : World} {B : Heap} (hB : B.Le (hp w)) : Ret Try.prog 122 [.slice none 0 0, .int .i64 0, .int .i64 0, ordV] w B (fun _ _ => True) := by
  refine V_enter Try.func122 rfl Try.ntmps122 (Nat.le_of_ble_eq_true rfl) hB ?_
  refine V_seq ?_; refine V_region (id := 0) ?_; refine vo_step (ok_move rfl rfl rfl) rfl ?_; refine vo_step (ok_add rfl rfl rfl rfl (wrap_i64 (by omega) (by omega))) rfl ?_; refine vo_step (ok_assign rfl rfl rfl) rfl ?_; refine vo_nil ?_; refine N_seq ?_; refine V_block ?_
  refine V_loop (fun _ : Nat => [(2, .is (.int .i64 0)), (8, .is (.int .i64 1))]) (fun _ => True) (fun s => s) 0 trivial ⟨rfl, rfl, trivial⟩ ?_
  rintro s _
  refine V_seq ?_; refine V_seq ?_; refine V_region (id := 1) ?_; refine vo_step (ok_move rfl rfl rfl) rfl ?_; refine vo_step (ok_move rfl rfl rfl) rfl ?_; refine vo_step (ok_lss rfl rfl rfl rfl (decide_eq_false (by omega))) rfl ?_; refine vo_nil ?_; refine N_seq ?_; refine V_false rfl ?_; refine V_exit ?_; refine X_then ?_; refine X_then ?_; refine X_here ?_
  exact N_ret0 L rfl (fun _ _ h => h) Since.refl
set_option maxRecDepth 20000 in
theorem stab0_ret {w : World} {B : Heap} (hB : B.Le (hp w)) : Ret Try.prog 114 [.slice none 0 0, .int .i64 0, ordV] w B (fun _ _ => True) := by
  refine V_enter Try.func114 rfl Try.ntmps114 (Nat.le_of_ble_eq_true rfl) hB ?_
  refine V_seq ?_; refine V_region (id := 0) ?_; refine vo_step (ok_assign rfl rfl rfl) rfl ?_; refine vo_nil ?_; refine N_seq ?_; refine V_seq ?_; refine V_region (id := 1) ?_; refine vo_step (ok_move rfl rfl rfl) rfl ?_; refine vo_step (ok_assign rfl rfl rfl) rfl ?_; refine vo_step (ok_assign rfl rfl rfl) rfl ?_; refine vo_nil ?_; refine N_seq ?_; refine V_seq ?_; refine V_block ?_
  refine V_loop (fun _ : Nat => [(0, .is (.slice none 0 0)), (1, .is (.int .i64 0)), (2, .is ordV), (6, .is (.int .i64 20)), (7, .is (.int .i64 0)), (8, .is (.int .i64 20))]) (fun _ => True) (fun s => s) 0 trivial ⟨rfl, rfl, rfl, rfl, rfl, rfl, trivial⟩ ?_
  rintro s _
  refine V_seq ?_; refine V_seq ?_; refine V_region (id := 2) ?_; refine vo_step (ok_move rfl rfl rfl) rfl ?_; refine vo_step (ok_move rfl rfl rfl) rfl ?_; refine vo_step (ok_leq rfl rfl rfl rfl (decide_eq_false (by omega))) rfl ?_; refine vo_nil ?_; refine N_seq ?_; refine V_false rfl ?_; refine V_exit ?_; refine X_then ?_; refine X_then ?_; refine X_here ?_; refine N_seq ?_; refine V_seq ?_; refine V_region (id := 6) ?_; refine vo_step (ok_move rfl rfl rfl) rfl ?_; refine vo_step (ok_move rfl rfl rfl) rfl ?_; refine vo_step (ok_move rfl rfl rfl) rfl ?_; refine vo_step (ok_move rfl rfl rfl) rfl ?_; refine vo_step (ok_call (φ := fun _ _ => True) L rfl rfl (blt_lt rfl) rfl rfl rfl (fun _ _ _ _ _ => trivial) (fun u H hH _ _ => ins0_ret hH)) rfl ?_; refine vo_nil ?_; refine N_seq ?_; refine V_block ?_
  refine V_loop (fun _ : Nat => [(1, .is (.int .i64 0)), (6, .is (.int .i64 20))]) (fun _ => True) (fun s => s) 0 trivial ⟨rfl, rfl, trivial⟩ ?_
  rintro s _
  refine V_seq ?_; refine V_seq ?_; refine V_region (id := 7) ?_; refine vo_step (ok_move rfl rfl rfl) rfl ?_; refine vo_step (ok_move rfl rfl rfl) rfl ?_; refine vo_step (ok_lss rfl rfl rfl rfl (decide_eq_false (by omega))) rfl ?_; refine vo_nil ?_; refine N_seq ?_; refine V_false rfl ?_; refine V_exit ?_; refine X_then ?_; refine X_then ?_; refine X_here ?_
  exact N_ret0 L rfl (fun _ _ h => h) Since.refl
set_option maxRecDepth 20000 in
theorem sortS0_ret {w : World} {B : Heap} (hB : B.Le (hp w)) : Ret Try.prog SSF [.slice none 0 0, ordV] w B (fun _ _ => True) := by
  refine V_enter Try.func91 rfl Try.ntmps91 (Nat.le_of_ble_eq_true rfl) hB ?_
  refine V_region (id := 0) ?_; refine vo_step (ok_move rfl rfl rfl) rfl ?_; refine vo_step (ok_move rfl rfl rfl) rfl ?_; refine vo_step (ok_lenL L rfl rfl rfl rfl) rfl ?_; refine vo_step (ok_move rfl rfl rfl) rfl ?_; refine vo_step (ok_call (φ := fun _ _ => True) L rfl rfl (blt_lt rfl) rfl rfl rfl (fun _ _ _ _ _ => trivial) (fun u H hH _ _ => stab0_ret hH)) rfl ?_; refine vo_nil ?_
  exact N_ret0 L rfl (fun _ _ h => h) Since.refl
end Go.V.L8
/- Deltas (chapter 7): plain laws. -/
namespace Go.V.L8
open Go.Proofs Go.RowKit Go.V Go.V.L2 Go.V.L3 Go.V.L6
abbrev zC : CH := ((n3, n3), false)
/-- The last change of a tuple. -/
def lastF (l : List CH) (t : U) (z : CH) : CH := l.foldl (fun a c => if c.1 = t then c else a) z
def lastK (l : List CH) (t : U) : Option CH := (l.filter fun c => decide (c.1 = t)).getLast?
theorem lastK_nil (t : U) : lastK [] t = none := rfl
theorem lastK_cons (c : CH) (l : List CH) (t : U) : lastK (c :: l) t = (lastK l t).or (if c.1 = t then some c else none) := by
  unfold lastK
  by_cases h : c.1 = t
  · rw [if_pos h, List.filter_cons_of_pos (by simpa using h), List.getLast?_cons]
    cases (l.filter fun c => decide (c.1 = t)).getLast? <;> rfl
  · rw [if_neg h, List.filter_cons_of_neg (by simpa using h)]
    cases (l.filter fun c => decide (c.1 = t)).getLast? <;> rfl
theorem lastK_key {l : List CH} {t : U} {c : CH} (h : lastK l t = some c) : c.1 = t ∧ c ∈ l := by
  have := List.mem_of_getLast? h
  rw [List.mem_filter] at this
  exact ⟨by simpa using this.2, this.1⟩
theorem lastK_none {l : List CH} {t : U} : lastK l t = none ↔ ∀ c ∈ l, c.1 ≠ t := by
  unfold lastK
  rw [List.getLast?_eq_none_iff, List.filter_eq_nil_iff]
  simp
theorem lastF_eq (l : List CH) (t : U) (z : CH) : lastF l t z = (lastK l t).getD z := by
  induction l generalizing z with
  | nil => rfl
  | cons c r ih =>
    have : lastF (c :: r) t z = lastF r t (if c.1 = t then c else z) := rfl
    rw [this, ih, lastK_cons]
    cases lastK r t with
    | some d => rfl
    | none => by_cases h : c.1 = t <;> simp [h]
theorem lastF_key {l : List CH} {t : U} {z : CH} (h : ∃ c ∈ l, c.1 = t) : lastK l t = some (lastF l t z) := by
  rw [lastF_eq]
  cases hk : lastK l t with
  | some d => rfl
  | none => obtain ⟨c, hc, he⟩ := h; exact absurd he (lastK_none.1 hk c hc)
/-- The normal form of a list. -/
def normL (l : List CH) : List CH := (sortT (l.map (·.1))).map fun t => lastF l t zC
theorem sortT_mem {l : List U} {t : U} : t ∈ sortT l ↔ t ∈ l := by unfold sortT; rw [mem_sortS]; simp
theorem sortT_sst (l : List U) : Sst cmpT (sortT l) := sst_sortS cmpT_ord Sst.nil
theorem normL_mem {l : List CH} {c : CH} : c ∈ normL l ↔ lastK l c.1 = some c := by
  unfold normL
  rw [List.mem_map]
  constructor
  · rintro ⟨t, ht, rfl⟩
    rw [sortT_mem, List.mem_map] at ht
    have := lastF_key (z := zC) ht
    rw [(lastK_key this).1]
    exact this
  · intro h
    have hm := lastK_key h
    exact ⟨c.1, sortT_mem.2 (List.mem_map.2 ⟨c, hm.2, rfl⟩), by rw [lastF_eq, h]; rfl⟩
theorem normL_keys (l : List CH) : (normL l).map (·.1) = sortT (l.map (·.1)) := by
  unfold normL
  rw [List.map_map]
  conv => rhs; rw [← List.map_id (sortT (l.map (·.1)))]
  refine List.map_congr_left fun t ht => ?_
  rw [sortT_mem, List.mem_map] at ht
  exact (lastK_key (lastF_key (z := zC) ht)).1
theorem normL_len (l : List CH) : (normL l).length ≤ l.length := by
  unfold normL
  rw [List.length_map]
  have := sortT_length (l.map (·.1))
  rwa [List.length_map] at this
/-- Lists of changes by different tuples, in order. -/
def NrmC (l : List CH) : Prop := Sst cmpT (l.map (·.1))
theorem normL_nrm (l : List CH) : NrmC (normL l) := by unfold NrmC; rw [normL_keys]; exact sortT_sst _
theorem nrm_pair {l : List CH} (h : NrmC l) : l.Pairwise fun a b => a.1 ≠ b.1 := by
  unfold NrmC Sst at h
  rw [List.pairwise_map] at h
  exact h.imp fun h1 => cmpT_ord.ne h1
theorem nrm_ext {l m : List CH} (hl : NrmC l) (hm : NrmC m) (h : ∀ c, c ∈ l ↔ c ∈ m) : l = m := by
  have hk : l.map (·.1) = m.map (·.1) := sst_ext cmpT_ord hl hm fun t => by
    rw [List.mem_map, List.mem_map]
    exact ⟨fun ⟨c, hc, e⟩ => ⟨c, (h c).1 hc, e⟩, fun ⟨c, hc, e⟩ => ⟨c, (h c).2 hc, e⟩⟩
  have uni : ∀ {l : List CH}, NrmC l → ∀ a ∈ l, ∀ b ∈ l, a.1 = b.1 → a = b := fun {l} hn a ha b hb e => by
    by_cases hab : a = b
    · exact hab
    · exfalso
      obtain ⟨i, hi⟩ := List.getElem?_of_mem ha
      obtain ⟨j, hj⟩ := List.getElem?_of_mem hb
      obtain ⟨hi', rfl⟩ := List.getElem?_eq_some_iff.1 hi
      obtain ⟨hj', rfl⟩ := List.getElem?_eq_some_iff.1 hj
      have hp := List.pairwise_iff_getElem.1 (nrm_pair hn)
      rcases Nat.lt_trichotomy i j with h | h | h
      · exact hp i j hi' hj' h e
      · subst h; exact hab rfl
      · exact hp j i hj' hi' h e.symm
  have hlen : l.length = m.length := by rw [← List.length_map (f := (·.1)), hk, List.length_map]
  refine List.ext_getElem hlen fun i h1 h2 => ?_
  have e : l[i].1 = m[i].1 := by
    have := congrArg (·[i]?) hk
    simp only [List.getElem?_map, List.getElem?_eq_getElem h1, List.getElem?_eq_getElem h2, Option.map_some, Option.some.injEq] at this
    exact this
  exact uni hm _ ((h _).1 (List.getElem_mem h1)) _ (List.getElem_mem h2) e
/-- The last ones of each run. -/
def keepL : List CH → List CH
  | [] => []
  | [c] => [c]
  | c :: d :: r => if cmpT c.1 d.1 = 0 then keepL (d :: r) else c :: keepL (d :: r)
theorem keepL_step {l : List CH} {i : Nat} {c : CH} (h : l[i]? = some c) : keepL (l.drop i) = (match l[i + 1]? with | none => [c] | some d => if cmpT c.1 d.1 = 0 then [] else [c]) ++ keepL (l.drop (i + 1)) := by
  have h1 : l.drop i = c :: l.drop (i + 1) := drop_g h
  rw [h1]
  cases h2 : l[i + 1]? with
  | none =>
    have : l.drop (i + 1) = [] := List.drop_eq_nil_of_le (by simpa using h2)
    rw [this]; rfl
  | some d =>
    have h3 : l.drop (i + 1) = d :: l.drop (i + 1 + 1) := drop_g h2
    rw [h3]
    show (if cmpT c.1 d.1 = 0 then _ else _) = (if cmpT c.1 d.1 = 0 then _ else _) ++ _
    split <;> rfl
theorem keepL_spec : ∀ {S : List CH}, Srt (·.1) cmpT S → (∀ c ∈ keepL S, lastK S c.1 = some c) ∧ (∀ x ∈ S, ∃ c ∈ keepL S, c.1 = x.1) ∧ NrmC (keepL S)
  | [], _ => ⟨fun c hc => (by cases hc), fun c hc => (by cases hc), Sst.nil⟩
  | [c], _ => by
    have e : keepL [c] = [c] := rfl
    rw [e]
    refine ⟨fun d hd => ?_, fun x hx => ⟨x, hx, rfl⟩, List.pairwise_singleton _ _⟩
    rw [List.mem_singleton] at hd; subst hd
    rw [lastK_cons, if_pos rfl]; rfl
  | c :: d :: r, h => by
    obtain ⟨h1, h2⟩ := List.pairwise_cons.1 h
    obtain ⟨g1, g2, g3⟩ := keepL_spec (S := d :: r) h2
    have e : keepL (c :: d :: r) = if cmpT c.1 d.1 = 0 then keepL (d :: r) else c :: keepL (d :: r) := rfl
    by_cases h0 : cmpT c.1 d.1 = 0
    · rw [e, if_pos h0]
      have hcd := cmpT_ord.eq _ _ h0
      refine ⟨fun x hx => by rw [lastK_cons, g1 x hx]; rfl, fun x hx => ?_, g3⟩
      rcases List.mem_cons.1 hx with rfl | hx
      · obtain ⟨y, hy, e⟩ := g2 d (List.mem_cons_self ..)
        exact ⟨y, hy, e.trans hcd.symm⟩
      · exact g2 x hx
    · rw [e, if_neg h0]
      have hlt : ∀ y ∈ d :: r, cmpT c.1 y.1 < 0 := fun y hy => by
        have hcd : cmpT c.1 d.1 < 0 := by
          have h3 := h1 d (List.mem_cons_self ..)
          have := cmpT_ord.anti c.1 d.1
          dsimp only at h3
          omega
        rcases List.mem_cons.1 hy with rfl | hy
        · exact hcd
        · have h3 := (List.pairwise_cons.1 h2).1 y hy
          dsimp only at h3
          by_cases h5 : cmpT d.1 y.1 < 0
          · exact cmpT_ord.tr hcd h5
          · have h6 : cmpT d.1 y.1 = 0 := by have := cmpT_ord.anti d.1 y.1; omega
            rw [← cmpT_ord.eq _ _ h6]; exact hcd
      refine ⟨fun x hx => ?_, fun x hx => ?_, ?_⟩
      · rcases List.mem_cons.1 hx with rfl | hx
        · rw [lastK_cons, if_pos rfl, lastK_none.2 fun y hy e => cmpT_ord.irr x.1 (by rw [← e] ; exact absurd (hlt y hy) (by rw [e]; exact cmpT_ord.irr _))]; rfl
        · rw [lastK_cons, g1 x hx]; rfl
      · rcases List.mem_cons.1 hx with rfl | hx
        · exact ⟨x, List.mem_cons_self .., rfl⟩
        · obtain ⟨y, hy, e⟩ := g2 x hx
          exact ⟨y, List.mem_cons_of_mem _ hy, e⟩
      · unfold NrmC
        rw [List.map_cons]
        refine List.pairwise_cons.2 ⟨fun t ht => ?_, g3⟩
        obtain ⟨y, hy, rfl⟩ := List.mem_map.1 ht
        exact hlt y (lastK_key (g1 y hy)).2
theorem keep_norm {l S : List CH} (h : Stb (·.1) cmpT l S) : keepL S = normL l := by
  obtain ⟨g1, g2, g3⟩ := keepL_spec h.1
  have hK : ∀ t, lastK S t = lastK l t := fun t => by unfold lastK; rw [h.2 t]
  refine nrm_ext g3 (normL_nrm l) fun c => ?_
  rw [normL_mem]
  constructor
  · exact fun hc => by rw [← hK]; exact g1 c hc
  · intro hc
    rw [← hK] at hc
    obtain ⟨d, hd, e⟩ := g2 c (lastK_key hc).2
    have := g1 d hd
    rw [e, hc] at this
    cases this; exact hd
end Go.V.L8
/- The walks of musts (chapter 8): the first must that does not hold; what is possible. -/
namespace Go.V.L8
open Go.Proofs Go.RowKit Go.V Go.V.L2 Go.V.L3 Go.V.L6
theorem firstR_no {s : List U} {l : List CH} (h0 : cE 32 l = 0) {i : Nat} {c : CH} (h : ∀ (j : Nat) x, j < i → l[j]? = some x → holdB s x = true) (hc : l[i]? = some c) (hh : holdB s c = false) : firstR s l = (i, 13) := by
  unfold firstR; rw [if_pos h0]; exact firstI_hit h hc hh
theorem firstR_yes {s : List U} {l : List CH} (h0 : cE 32 l = 0) (h : ∀ (j : Nat) x, l[j]? = some x → holdB s x = true) : firstR s l = (l.length, 0) := by
  unfold firstR; rw [if_pos h0]; exact firstI_all fun x hx => let ⟨j, hj⟩ := List.getElem?_of_mem hx; h j x hj
attribute [local irreducible] V N X VO Par StepOK Has Ret RetL RetO RetT Src
theorem holds_ret {s : List U} {c : CH} {b : Bool} (hb : holdB s c = b) {v : Value} {w : World} {B : Heap} (hB : B.Le (hp w)) (hv : SetV s v B) : Ret Try.prog 17 [v, chv c.1 c.2] w B (fun r _ => r = .bool b) := by
  subst hb
  obtain ⟨x, d⟩ := c
  obtain ⟨f1, p1, f2, q1, rfl, hpl⟩ := hv.shape
  obtain ⟨h, hh⟩ : ∃ h, decide (x ∈ s) = h := ⟨_, rfl⟩
  unfold holdB
  dsimp only
  rw [hh]
  refine V_enter Try.func17 rfl Try.ntmps17 (Nat.le_of_ble_eq_true rfl) hB ?_
  refine V_seq ?_; refine V_region (id := 0) ?_; refine vo_step (ok_box rfl rfl rfl rfl) rfl ?_; refine vo_step (ok_box rfl rfl rfl rfl) rfl ?_; refine vo_step (ok_assign rfl rfl rfl) rfl ?_; refine vo_nil ?_; refine N_seq ?_; refine V_seq ?_; refine V_regionD (id := 1) [] mixed (by kernel_rfl) ?_; refine par_step (ok_loadA L (vs := [_, _, _, _]) (src_at rfl) rfl rfl rfl rfl ⟨_, rfl⟩) rfl ?_; refine par_step (ok_fieldAt L rfl rfl rfl rfl) rfl ?_; refine par_step (ok_loadA L (vs := [_, _, _, _, _, _]) (src_at rfl) rfl rfl rfl rfl ⟨_, rfl⟩) rfl ?_; refine par_step (ok_callx L rfl rfl (blt_lt rfl) rfl rfl rfl (fun u H hH hle _ => shas_ret hh hH (hv.le hle))) rfl ?_; refine par_step (ok_fieldAt L rfl rfl rfl rfl) rfl ?_; refine par_step (ok_load1 L (src_at rfl) rfl rfl rfl rfl) rfl ?_; refine par_step (ok_bneq rfl rfl rfl rfl bt4 rfl) rfl ?_; refine par_step (ok_assign rfl rfl rfl) rfl ?_; refine par_nil ?_; refine N_seq ?_
  refine V_ret L (rs := [.tmp 4]) rfl (fun _ _ h => h) Since.refl fun u H hH hle => ?_
  cases h <;> cases d <;> rfl
set_option maxHeartbeats 1000000 in
theorem first_ret {s : List U} {l : List CH} {fu : Bool} (hz : ∀ c ∈ l, TM c.1) (hl : l.length ≤ 9223372036854775807) {r : Nat} {e : Int} (hr : firstR s l = (r, e)) {sv v : Value} {w : World} {B : Heap} (hB : B.Le (hp w)) (hs : SetV s sv B) (hv : KS tyM l fu v B) :
    Ret Try.prog 19 [sv, v] w B (fun x _ => x = .tuple #[.int .i64 r, .int .i64 e]) := by
  obtain ⟨f1, p1, f2, q1, rfl, hpl⟩ := hs.shape
  refine V_enter Try.func19 rfl Try.ntmps19 (Nat.le_of_ble_eq_true rfl) hB ?_
  refine V_seen 1 (KS tyM l fu) rfl SlV.mono hv ?_
  by_cases h0 : cE 32 l = 0
  · refine V_seq ?_; refine V_region (id := 0) ?_; refine vo_step (ok_box rfl rfl rfl rfl) rfl ?_; refine vo_step (ok_assign rfl rfl rfl) rfl ?_; refine vo_step (ok_assign rfl rfl rfl) rfl ?_; refine vo_nil ?_; refine N_seq ?_; refine V_seq ?_; refine V_seq ?_; refine V_region (id := 1) ?_; refine vo_step (ok_moves' rfl rfl rfl) rfl ?_; refine vo_step (ok_callx L rfl rfl (blt_lt rfl) rfl rfl rfl (fun u H hH _ _ v1 h1 => mchk_ret hz hl h0 hH h1)) rfl ?_; refine vo_step (ok_assign rfl rfl rfl) rfl ?_; refine vo_nil ?_; refine N_seq ?_; refine V_seq ?_; refine V_region (id := 2) ?_; refine vo_step (ok_move rfl rfl rfl) rfl ?_; refine vo_step (ok_neq rfl rfl rfl rfl (decide_eq_false (by omega))) rfl ?_; refine vo_nil ?_; refine N_seq ?_; refine V_false rfl ?_; refine V_skip ?_; refine N_seq ?_; refine V_seq ?_; refine V_seq ?_; refine V_region (id := 4) ?_; refine vo_step (ok_moves' rfl rfl rfl) rfl ?_; refine vo_step (ok_lenV L rfl rfl rfl rfl) rfl ?_; refine vo_step (ok_move rfl rfl rfl) rfl ?_; refine vo_nil ?_; refine N_seq ?_; refine V_block ?_
    refine V_loop (fun i : Nat => [(1, .sat (KS tyM l fu)), (2, .sat (At [f1, .pointer p1, f2, .pointer q1] tySet 0)), (14, .sat (KS tyM l fu)), (15, .is (.int .i64 l.length)), (16, .is (.int .i64 i))]) (fun i => i ≤ l.length ∧ ∀ (j : Nat) x, j < i → l[j]? = some x → holdB s x = true) (fun i => l.length - i) 0 ⟨Nat.zero_le _, fun j c h => absurd h (Nat.not_lt_zero _)⟩ ⟨rfl, rfl, rfl, rfl, rfl, trivial⟩ ?_
    rintro i ⟨hi, hok⟩
    by_cases hlt : i < l.length
    · obtain ⟨c, hc0⟩ := get_some hlt
      have hc := ks_at hc0
      cases hh : holdB s c
      · rw [firstR_no h0 hok hc0 hh] at hr
        cases hr
        refine V_seq ?_; refine V_region (id := 5) ?_; refine vo_step (ok_lss rfl rfl rfl rfl (decide_eq_true (by omega))) rfl ?_; refine vo_nil ?_; refine N_seq ?_; refine V_seq ?_; refine V_true rfl ?_; refine V_skip ?_; refine N_seq ?_; refine V_seq ?_; refine V_block ?_; refine V_seq ?_; refine V_region (id := 6) ?_; refine vo_step (ok_move rfl rfl rfl) rfl ?_; refine vo_step (ok_indexV L _ rfl rfl rfl rfl rfl rfl rfl (by first | omega | decide) (by assumption)) rfl ?_; refine vo_step (ok_loadPA L (vs := [_, _, _, _, _, _, _]) rfl rfl rfl rfl rfl ⟨_, rfl⟩) rfl ?_; refine vo_step (ok_alloc L rfl rfl rfl rfl) rfl ?_; refine vo_step (ok_assign rfl rfl rfl) rfl ?_; refine vo_step (ok_store L rfl rfl rfl rfl rfl rfl rfl rfl) rfl ?_; refine vo_nil ?_; refine N_seq ?_; refine V_seq ?_; refine V_region (id := 7) ?_; refine vo_step (ok_loadA L (vs := [_, _, _, _]) (src_at rfl) rfl rfl rfl rfl ⟨_, rfl⟩) rfl ?_; refine vo_step (ok_loadA L (vs := [_, _, _, _, _, _, _]) (src_own rfl) rfl rfl rfl rfl ⟨_, rfl⟩) rfl ?_; refine vo_step (ok_callx L rfl rfl (blt_lt rfl) rfl rfl rfl (fun u H hH hle _ => holds_ret hh hH (hs.le hle))) rfl ?_; refine vo_step (ok_not rfl rfl rfl rfl) rfl ?_; refine vo_nil ?_; refine N_seq ?_; refine V_true rfl ?_; refine V_seq ?_; refine V_region (id := 8) ?_; refine vo_step (ok_move rfl rfl rfl) rfl ?_; refine vo_step (ok_assign rfl rfl rfl) rfl ?_; refine vo_step (ok_assign rfl rfl rfl) rfl ?_; refine vo_nil ?_; refine N_seq ?_
        refine V_ret L (rs := [.tmp 4, .tmp 5]) rfl (fun _ _ h => h) Since.refl fun u H hH hle => ?_
        rfl
      · refine V_seq ?_; refine V_region (id := 5) ?_; refine vo_step (ok_lss rfl rfl rfl rfl (decide_eq_true (by omega))) rfl ?_; refine vo_nil ?_; refine N_seq ?_; refine V_seq ?_; refine V_true rfl ?_; refine V_skip ?_; refine N_seq ?_; refine V_seq ?_; refine V_block ?_; refine V_seq ?_; refine V_region (id := 6) ?_; refine vo_step (ok_move rfl rfl rfl) rfl ?_; refine vo_step (ok_indexV L _ rfl rfl rfl rfl rfl rfl rfl (by first | omega | decide) (by assumption)) rfl ?_; refine vo_step (ok_loadPA L (vs := [_, _, _, _, _, _, _]) rfl rfl rfl rfl rfl ⟨_, rfl⟩) rfl ?_; refine vo_step (ok_alloc L rfl rfl rfl rfl) rfl ?_; refine vo_step (ok_assign rfl rfl rfl) rfl ?_; refine vo_step (ok_store L rfl rfl rfl rfl rfl rfl rfl rfl) rfl ?_; refine vo_nil ?_; refine N_seq ?_; refine V_seq ?_; refine V_region (id := 7) ?_; refine vo_step (ok_loadA L (vs := [_, _, _, _]) (src_at rfl) rfl rfl rfl rfl ⟨_, rfl⟩) rfl ?_; refine vo_step (ok_loadA L (vs := [_, _, _, _, _, _, _]) (src_own rfl) rfl rfl rfl rfl ⟨_, rfl⟩) rfl ?_; refine vo_step (ok_callx L rfl rfl (blt_lt rfl) rfl rfl rfl (fun u H hH hle _ => holds_ret hh hH (hs.le hle))) rfl ?_; refine vo_step (ok_not rfl rfl rfl rfl) rfl ?_; refine vo_nil ?_; refine N_seq ?_; refine V_false rfl ?_; refine V_skip ?_; refine N_block ?_; refine N_seq ?_; refine V_region (id := 9) ?_; refine vo_step (ok_add rfl rfl rfl rfl (wrap_i64 (by omega) (by omega))) rfl ?_; refine vo_step (ok_move rfl rfl rfl) rfl ?_; refine vo_nil ?_
        exact N_round (x := i) (i + 1) ⟨hlt, fun j c' hj hc' => by
          rcases Nat.lt_or_ge j i with h | h
          · exact hok j c' h hc'
          · have : j = i := by omega
            subst this; rw [hc0] at hc'; cases hc'; exact hh⟩ (by omega) ⟨rfl, rfl, rfl, rfl, rfl, trivial⟩
    · rw [firstR_yes h0 (fun j x hj => hok j x (by have := get_lt hj; omega) hj)] at hr
      cases hr
      refine V_seq ?_; refine V_region (id := 5) ?_; refine vo_step (ok_lss rfl rfl rfl rfl (decide_eq_false (by omega))) rfl ?_; refine vo_nil ?_; refine N_seq ?_; refine V_seq ?_; refine V_false rfl ?_; refine V_exit ?_; refine X_then ?_; refine X_then ?_; refine X_here ?_; refine N_seq ?_; refine V_seq ?_; refine V_region (id := 10) ?_; refine vo_step (ok_moves' rfl rfl rfl) rfl ?_; refine vo_step (ok_lenV L rfl rfl rfl rfl) rfl ?_; refine vo_step (ok_assign rfl rfl rfl) rfl ?_; refine vo_step (ok_assign rfl rfl rfl) rfl ?_; refine vo_nil ?_; refine N_seq ?_
      refine V_ret L (rs := [.tmp 4, .tmp 5]) rfl (fun _ _ h => h) Since.refl fun u H hH hle => ?_
      rfl
  · have : firstR s l = (0, cE 32 l) := if_neg h0
    rw [this] at hr
    cases hr
    refine V_seq ?_; refine V_region (id := 0) ?_; refine vo_step (ok_box rfl rfl rfl rfl) rfl ?_; refine vo_step (ok_assign rfl rfl rfl) rfl ?_; refine vo_step (ok_assign rfl rfl rfl) rfl ?_; refine vo_nil ?_; refine N_seq ?_; refine V_seq ?_; refine V_seq ?_; refine V_region (id := 1) ?_; refine vo_step (ok_moves' rfl rfl rfl) rfl ?_; refine vo_step (ok_callx L rfl rfl (blt_lt rfl) rfl rfl rfl (fun u H hH _ _ v1 h1 => mchk_ret hz hl rfl hH h1)) rfl ?_; refine vo_step (ok_assign rfl rfl rfl) rfl ?_; refine vo_nil ?_; refine N_seq ?_; refine V_seq ?_; refine V_region (id := 2) ?_; refine vo_step (ok_move rfl rfl rfl) rfl ?_; refine vo_step (ok_neq rfl rfl rfl rfl (decide_eq_true (by omega))) rfl ?_; refine vo_nil ?_; refine N_seq ?_; refine V_true rfl ?_; refine V_seq ?_; refine V_region (id := 3) ?_; refine vo_step (ok_move rfl rfl rfl) rfl ?_; refine vo_step (ok_assign rfl rfl rfl) rfl ?_; refine vo_step (ok_assign rfl rfl rfl) rfl ?_; refine vo_nil ?_; refine N_seq ?_
    refine V_ret L (rs := [.tmp 4, .tmp 5]) rfl (fun _ _ h => h) Since.refl fun u H hH hle => ?_
    rfl
end Go.V.L8
/- The walks of musts (chapter 8): is there a set in which all hold. -/
namespace Go.V.L8
open Go.Proofs Go.RowKit Go.V Go.V.L2 Go.V.L3 Go.V.L6
attribute [local irreducible] V N X VO Par StepOK Has Ret RetL RetO RetT Src
end Go.V.L8
/- The walks of musts (chapter 8): writes. -/
namespace Go.V.L8
open Go.Proofs Go.RowKit Go.V Go.V.L2 Go.V.L3 Go.V.L6
theorem cE_all {n : Nat} {l : List CH} (h : cE n l = 0) : l.length ≤ n ∧ ∀ c ∈ l, tE c.1 = 0 := by
  unfold cE at h
  split at h
  · exact absurd h (by decide)
  · split at h
    · exact absurd h (by decide)
    · rename_i h1 h2
      refine ⟨by omega, fun c hc => ?_⟩
      by_cases h0 : tE c.1 = 0
      · exact h0
      · exact absurd (List.any_eq_true.2 ⟨c, hc, by simp [h0]⟩) h2
theorem tz_chk {s : ByteArray} (h : chk s = 0) : s.size ≤ 1099511627776 := by
  unfold chk at h
  split at h
  · rename_i h1; omega
  · exact absurd h (by decide)
theorem tz_valid {t : U} (h : tE t = 0) : TZ t := by
  unfold tE at h
  split at h
  · rename_i h1
    obtain ⟨c1, c2, c3⟩ := allE3 h1
    obtain ⟨d1, d2, d3⟩ := subjE_zero h
    refine ⟨⟨tz_chk c1, tz_chk c2, tz_chk c3⟩, tz_chk d1, tz_chk d2, ?_⟩
    rcases d3 with d3 | d3
    · rw [d3]; exact Nat.zero_le _
    · exact tz_chk d3
  · rename_i h1; exact absurd h h1
/-- What Write gives. -/
def WriteP (t : List U) (made : List CH) (e : Int) (r : Value) (H : Heap) : Prop := ∃ tv mv, r = .tuple #[tv, mv, .int .i64 e] ∧ SetV t tv H ∧ KS tyC made true mv H
theorem WriteP.mono {t : List U} {made : List CH} {e : Int} : Kn.mono (.sat (WriteP t made e)) := fun _ _ _ ⟨tv, mv, h1, h2, h3⟩ hle => ⟨tv, mv, h1, h2.le hle, h3.le hle⟩
attribute [local irreducible] V N X VO Par StepOK Has Ret RetL RetO RetT Src
end Go.V.L8
/- The walk of the definition of musts (chapter 8). -/
namespace Go.V.L8
open Go.Proofs Go.RowKit Go.V Go.V.L2 Go.V.L3 Go.V.L6
attribute [local irreducible] V N X VO Par StepOK Has Ret RetL RetO RetT Src
end Go.V.L8
/- The walk of the definition of musts (chapter 8): possible musts; equal lists of changes. -/
namespace Go.V.L8
open Go.Proofs Go.RowKit Go.V Go.V.L2 Go.V.L3 Go.V.L6
attribute [local irreducible] V N X VO Par StepOK Has Ret RetL RetO RetT Src
end Go.V.L8
/- The walk of the definition of musts (chapter 8): writes. -/
namespace Go.V.L8
open Go.Proofs Go.RowKit Go.V Go.V.L2 Go.V.L3 Go.V.L6
/-- What the definition of Write gives. -/
def RWriteP (t : List U) (made : List CH) (e : Int) (r : Value) (H : Heap) : Prop := ∃ tv mv, r = .tuple #[tv, mv, .int .i64 e] ∧ US t false tv H ∧ KS tyC made false mv H
theorem RWriteP.mono {t : List U} {made : List CH} {e : Int} : Kn.mono (.sat (RWriteP t made e)) := fun _ _ _ ⟨tv, mv, h1, h2, h3⟩ hle => ⟨tv, mv, h1, h2.le hle, h3.le hle⟩
attribute [local irreducible] V N X VO Par StepOK Has Ret RetL RetO RetT Src
end Go.V.L8
/- The walk of the definition of deltas (chapter 7): equal lists. -/
namespace Go.V.L8
open Go.Proofs Go.RowKit Go.V Go.V.L2 Go.V.L3 Go.V.L6
theorem eqCH {t v : CH} {r : Bool} (e : decide (t = v) = r) : eqCs [0, 0, 0, 0, 0, 0, 2] [.string t.1.1.1.1, .string t.1.1.1.2, .string t.1.1.2, .string t.1.2.1.1, .string t.1.2.1.2, .string t.1.2.2, .bool t.2] [.string v.1.1.1.1, .string v.1.1.1.2, .string v.1.1.2, .string v.1.2.1.1, .string v.1.2.1.2, .string v.1.2.2, .bool v.2] = some r := by
  subst e
  simp only [eqCs, eqC]
  obtain ⟨⟨⟨⟨t1, t2⟩, t3⟩, ⟨⟨t4, t5⟩, t6⟩⟩, t7⟩ := t
  obtain ⟨⟨⟨⟨v1, v2⟩, v3⟩, ⟨⟨v4, v5⟩, v6⟩⟩, v7⟩ := v
  simp only [Prod.mk.injEq]
  by_cases a1 : t1 = v1
  · by_cases a2 : t2 = v2
    · by_cases a3 : t3 = v3
      · by_cases a4 : t4 = v4
        · by_cases a5 : t5 = v5
          · by_cases a6 : t6 = v6
            · by_cases a7 : t7 = v7
              · simp [a1, a2, a3, a4, a5, a6, a7]
              · cases t7 <;> cases v7 <;> simp [a1, a2, a3, a4, a5, a6] at a7 ⊢
            · simp [a6]
          · simp [a5]
        · simp [a4]
      · simp [a3]
    · simp [a2]
  · simp [a1]
attribute [local irreducible] V N X VO Par StepOK Has Ret RetL RetO RetT Src
set_option maxHeartbeats 2000000 in
theorem rsame7_ret {a b : List CH} {fa fb : Bool} (hla : a.length ≤ 1000000) (hlb : b.length ≤ 1000000) {e : Int} (he : (if a = b then 1 else 0 : Int) = e) {va vb : Value} {w : World} {B : Heap} (hB : B.Le (hp w)) (ha : KS tyC a fa va B) (hb : KS tyC b fb vb B) :
    Ret Try.prog 33 [va, vb] w B (fun v _ => v = .int .i64 e) := by
  subst he
  refine V_enter Try.func33 rfl Try.ntmps33 (Nat.le_of_ble_eq_true rfl) hB ?_
  refine V_seen 0 (KS tyC a fa) rfl SlV.mono ha ?_
  refine V_seen 1 (KS tyC b fb) rfl SlV.mono hb ?_
  by_cases hl : a.length = b.length
  · refine V_seq ?_; refine V_region (id := 0) ?_; refine vo_step (ok_assign rfl rfl rfl) rfl ?_; refine vo_nil ?_; refine N_seq ?_; refine V_seq ?_; refine V_seq ?_; refine V_region (id := 1) ?_; refine vo_step (ok_moves' rfl rfl rfl) rfl ?_; refine vo_step (ok_lenV L rfl rfl rfl rfl) rfl ?_; refine vo_step (ok_moves' rfl rfl rfl) rfl ?_; refine vo_step (ok_lenV L rfl rfl rfl rfl) rfl ?_; refine vo_step (ok_neq rfl rfl rfl rfl (decide_eq_false (by omega))) rfl ?_; refine vo_nil ?_; refine N_seq ?_; refine V_false rfl ?_; refine V_skip ?_; refine N_seq ?_; refine V_seq ?_; refine V_seq ?_; refine V_region (id := 3) ?_; refine vo_step (ok_assign rfl rfl rfl) rfl ?_; refine vo_nil ?_; refine N_seq ?_; refine V_block ?_
    refine V_loop (fun i : Nat => [(0, .sat (KS tyC a fa)), (1, .sat (KS tyC b fb)), (5, .is (.int .i64 i))]) (fun i => i ≤ a.length ∧ a.take i = b.take i) (fun i => a.length - i) 0 ⟨Nat.zero_le _, rfl⟩ ⟨rfl, rfl, rfl, trivial⟩ ?_
    rintro i ⟨hi, hti⟩
    by_cases hlt : i < a.length
    · obtain ⟨x, hx⟩ := get_some hlt
      obtain ⟨y, hy⟩ := get_some (l := b) (i := i) (by omega)
      have hcx := ks_at hx
      have hcy := ks_at hy
      by_cases hxy : x = y
      · subst hxy
        have hq := eqCH (t := x) (v := x) (decide_eq_true rfl)
        refine V_seq ?_; refine V_seq ?_; refine V_region (id := 4) ?_; refine vo_step (ok_move rfl rfl rfl) rfl ?_; refine vo_step (ok_moves' rfl rfl rfl) rfl ?_; refine vo_step (ok_lenV L rfl rfl rfl rfl) rfl ?_; refine vo_step (ok_lss rfl rfl rfl rfl (decide_eq_true (by omega))) rfl ?_; refine vo_nil ?_; refine N_seq ?_; refine V_true rfl ?_; refine V_skip ?_; refine N_seq ?_; refine V_seq ?_; refine V_block ?_; refine V_seq ?_; refine V_regionD (id := 6) [] mixed (by kernel_rfl) ?_; refine par_step (ok_moves' rfl rfl rfl) rfl ?_; refine par_step (ok_move rfl rfl rfl) rfl ?_; refine par_step (ok_indexV L _ rfl rfl rfl rfl rfl rfl rfl (by first | omega | decide) (by assumption)) rfl ?_; refine par_step (ok_loadPA L (vs := [_, _, _, _, _, _, _]) rfl rfl rfl rfl rfl ⟨_, rfl⟩) rfl ?_; refine par_step (ok_moves' rfl rfl rfl) rfl ?_; refine par_step (ok_move rfl rfl rfl) rfl ?_; refine par_step (ok_indexV L _ rfl rfl rfl rfl rfl rfl rfl (by first | omega | decide) (by assumption)) rfl ?_; refine par_step (ok_loadPA L (vs := [_, _, _, _, _, _, _]) rfl rfl rfl rfl rfl ⟨_, rfl⟩) rfl ?_; refine par_step (ok_aneq rfl rfl rfl rfl eq67 (by assumption) rfl) rfl ?_; refine par_nil ?_; refine N_seq ?_; refine V_false rfl ?_; refine V_skip ?_; refine N_block ?_; refine N_seq ?_; refine V_region (id := 5) ?_; refine vo_step (ok_move rfl rfl rfl) rfl ?_; refine vo_step (ok_add rfl rfl rfl rfl (wrap_i64 (by omega) (by omega))) rfl ?_; refine vo_step (ok_assign rfl rfl rfl) rfl ?_; refine vo_nil ?_
        exact N_round (x := i) (i + 1) ⟨hlt, by rw [List.take_add_one, List.take_add_one, hx, hy, hti]⟩ (by omega) ⟨rfl, rfl, rfl, trivial⟩
      · have hq := eqCH (t := x) (v := y) (decide_eq_false hxy)
        rw [if_neg (fun h => by subst h; rw [hx] at hy; cases hy; exact hxy rfl)]
        refine V_seq ?_; refine V_seq ?_; refine V_region (id := 4) ?_; refine vo_step (ok_move rfl rfl rfl) rfl ?_; refine vo_step (ok_moves' rfl rfl rfl) rfl ?_; refine vo_step (ok_lenV L rfl rfl rfl rfl) rfl ?_; refine vo_step (ok_lss rfl rfl rfl rfl (decide_eq_true (by omega))) rfl ?_; refine vo_nil ?_; refine N_seq ?_; refine V_true rfl ?_; refine V_skip ?_; refine N_seq ?_; refine V_seq ?_; refine V_block ?_; refine V_seq ?_; refine V_regionD (id := 6) [] mixed (by kernel_rfl) ?_; refine par_step (ok_moves' rfl rfl rfl) rfl ?_; refine par_step (ok_move rfl rfl rfl) rfl ?_; refine par_step (ok_indexV L _ rfl rfl rfl rfl rfl rfl rfl (by first | omega | decide) (by assumption)) rfl ?_; refine par_step (ok_loadPA L (vs := [_, _, _, _, _, _, _]) rfl rfl rfl rfl rfl ⟨_, rfl⟩) rfl ?_; refine par_step (ok_moves' rfl rfl rfl) rfl ?_; refine par_step (ok_move rfl rfl rfl) rfl ?_; refine par_step (ok_indexV L _ rfl rfl rfl rfl rfl rfl rfl (by first | omega | decide) (by assumption)) rfl ?_; refine par_step (ok_loadPA L (vs := [_, _, _, _, _, _, _]) rfl rfl rfl rfl rfl ⟨_, rfl⟩) rfl ?_; refine par_step (ok_aneq rfl rfl rfl rfl eq67 (by assumption) rfl) rfl ?_; refine par_nil ?_; refine N_seq ?_; refine V_true rfl ?_; refine V_seq ?_; refine V_region (id := 7) ?_; refine vo_step (ok_assign rfl rfl rfl) rfl ?_; refine vo_nil ?_; refine N_seq ?_
        refine V_ret L (rs := [.tmp 4]) rfl (fun _ _ h => h) Since.refl fun u H hH hle => ?_
        rfl
    · have hab : a = b := by rw [List.take_of_length_le (by omega), List.take_of_length_le (by omega)] at hti; exact hti
      rw [if_pos hab]
      refine V_seq ?_; refine V_seq ?_; refine V_region (id := 4) ?_; refine vo_step (ok_move rfl rfl rfl) rfl ?_; refine vo_step (ok_moves' rfl rfl rfl) rfl ?_; refine vo_step (ok_lenV L rfl rfl rfl rfl) rfl ?_; refine vo_step (ok_lss rfl rfl rfl rfl (decide_eq_false (by omega))) rfl ?_; refine vo_nil ?_; refine N_seq ?_; refine V_false rfl ?_; refine V_exit ?_; refine X_then ?_; refine X_then ?_; refine X_here ?_; refine N_seq ?_; refine V_seq ?_; refine V_region (id := 8) ?_; refine vo_step (ok_assign rfl rfl rfl) rfl ?_; refine vo_nil ?_; refine N_seq ?_
      refine V_ret L (rs := [.tmp 4]) rfl (fun _ _ h => h) Since.refl fun u H hH hle => ?_
      rfl
  · rw [if_neg (fun h => hl (by rw [h]))]
    refine V_seq ?_; refine V_region (id := 0) ?_; refine vo_step (ok_assign rfl rfl rfl) rfl ?_; refine vo_nil ?_; refine N_seq ?_; refine V_seq ?_; refine V_seq ?_; refine V_region (id := 1) ?_; refine vo_step (ok_moves' rfl rfl rfl) rfl ?_; refine vo_step (ok_lenV L rfl rfl rfl rfl) rfl ?_; refine vo_step (ok_moves' rfl rfl rfl) rfl ?_; refine vo_step (ok_lenV L rfl rfl rfl rfl) rfl ?_; refine vo_step (ok_neq rfl rfl rfl rfl (decide_eq_true (by omega))) rfl ?_; refine vo_nil ?_; refine N_seq ?_; refine V_true rfl ?_; refine V_seq ?_; refine V_region (id := 2) ?_; refine vo_step (ok_assign rfl rfl rfl) rfl ?_; refine vo_nil ?_; refine N_seq ?_
    refine V_ret L (rs := [.tmp 4]) rfl (fun _ _ h => h) Since.refl fun u H hH hle => ?_
    rfl
end Go.V.L8
/- The walks of deltas (chapter 7): the normal form. -/
namespace Go.V.L8
open Go.Proofs Go.RowKit Go.V Go.V.L2 Go.V.L3 Go.V.L6
theorem keep_stC (l : List CH) : keepL (stC l) = normL l := keep_norm (stbL_stb cmpT_ord l)
theorem keepL_len : ∀ (l : List CH), (keepL l).length ≤ l.length
  | [] => Nat.le_refl _
  | [c] => Nat.le_refl _
  | c :: d :: r => by
    show (if cmpT c.1 d.1 = 0 then keepL (d :: r) else c :: keepL (d :: r)).length ≤ _
    have := keepL_len (d :: r)
    split
    · simp only [List.length_cons] at this ⊢; omega
    · simp only [List.length_cons] at this ⊢; omega
attribute [local irreducible] V N X VO Par StepOK Has Ret RetL RetO RetT RetG Src
set_option maxHeartbeats 1000000 in
theorem cloneC_ret {l : List CH} {fu : Bool} (hz : l.length ≤ 100000) {v : Value} {w : World} {B : Heap} (hB : B.Le (hp w)) (hv : KS tyC l fu v B) :
    RetO Try.prog 89 [v] w B (SlR tyC 7 l.length (l.flatMap ccs)) := by
  have hv0 := hv
  have hlen := cs_len l
  have hpl := cs_plain l
  obtain ⟨_, ⟨h0, rfl⟩ | ⟨b, off, cap, cs, ty0, fr, rfl, _⟩⟩ := hv
  · have hn : l = [] := List.eq_nil_of_length_eq_zero h0
    subst hn
    refine V_enterO Try.func89 rfl Try.ntmps89 (Nat.le_of_ble_eq_true rfl) hB ?_
    refine V_seq ?_; refine V_region (id := 0) ?_; refine vo_step (ok_assign rfl rfl rfl) rfl ?_; refine vo_nil ?_; refine N_seq ?_; refine V_seq ?_; refine V_seq ?_; refine V_region (id := 1) ?_; refine vo_step (ok_move rfl rfl rfl) rfl ?_; refine vo_step (ok_neql rfl rfl rfl rfl nk65 rfl) rfl ?_; refine vo_nil ?_; refine N_seq ?_; refine V_true rfl ?_; refine V_seq ?_; refine V_region (id := 2) ?_; refine vo_step (ok_assign rfl rfl rfl) rfl ?_; refine vo_nil ?_; refine N_seq ?_
    refine V_nilR 2 tyC 7 rfl ?_
    exact V_retO rfl (fun _ _ h => h) Since.refl rfl
  · refine V_enterO Try.func89 rfl Try.ntmps89 (Nat.le_of_ble_eq_true rfl) hB ?_
    refine V_seq ?_; refine V_region (id := 0) ?_; refine vo_step (ok_assign rfl rfl rfl) rfl ?_; refine vo_nil ?_; refine N_seq ?_; refine V_seq ?_; refine V_seq ?_; refine V_region (id := 1) ?_; refine vo_step (ok_move rfl rfl rfl) rfl ?_; refine vo_step (ok_neql rfl rfl rfl rfl nk65 rfl) rfl ?_; refine vo_nil ?_; refine N_seq ?_; refine V_false rfl ?_; refine V_skip ?_; refine N_seq ?_; refine V_seq ?_
    refine V_seen 0 (KS tyC l fu) rfl SlV.mono hv0 ?_
    refine V_region (id := 3) ?_; refine vo_step (ok_buildSlice0 L rfl rfl rfl rfl rfl) rfl ?_; refine vo_step (ok_moves' rfl rfl rfl) rfl ?_; refine vo_step2 (ok_append L rfl rfl rfl (apd_V rfl) rfl el67 (by assumption) (by assumption) (by omega) (by omega)) ?_; refine vo_step2 (ok_moveO (.inr rfl) rfl rfl rfl rfl) ?_; refine vo_nil ?_; refine N_seq ?_
    rw [Nat.zero_add, List.nil_append]
    exact V_retO rfl (fun _ _ h => h) Since.refl rfl
set_option maxHeartbeats 8000000 in
set_option maxRecDepth 20000 in
theorem dnormal_ret {l m : List CH} {fu : Bool} (hm : normL l = m) (hz : l.length ≤ 50000) {v : Value} {w : World} {B : Heap} (hB : B.Le (hp w)) (hv : KS tyC l fu v B) :
    Ret Try.prog 72 [v] w B (KS tyC m true) := by
  subst hm
  have hsl := stC_len l
  refine V_enter Try.func72 rfl Try.ntmps72 (Nat.le_of_ble_eq_true rfl) hB ?_
  refine V_seen 0 (KS tyC l fu) rfl SlV.mono hv ?_
  refine V_seq ?_; refine V_region (id := 0) ?_; refine vo_step (ok_assign rfl rfl rfl) rfl ?_; refine vo_nil ?_; refine N_seq ?_; refine V_seq ?_; refine V_region (id := 1) ?_; refine vo_step (ok_moves' rfl rfl rfl) rfl ?_; refine vo_step (ok_callO L rfl rfl (blt_lt rfl) rfl rfl rfl (fun u H hH _ _ v1 hv1 => cloneC_ret (by omega) hH hv1)) rfl ?_; refine vo_step2 (ok_moveO (.inr rfl) rfl rfl rfl rfl) ?_; refine vo_nil ?_; refine N_seq ?_; refine V_seq ?_; refine V_region (id := 2) ?_; refine vo_step (ok_assign rfl rfl rfl) rfl ?_; refine vo_nil ?_; refine N_seq ?_; refine V_seq ?_
  refine V_holdR 3 900 rfl (fun h0 hn => ?_) fun b cap rest hl hmc hcm hcl => ?_
  · have hl0 : l = [] := List.eq_nil_of_length_eq_zero h0
    subst hl0
    refine V_region (id := 3) ?_; refine vo_step (ok_move rfl rfl rfl) rfl ?_; refine vo_step (ok_move rfl rfl rfl) rfl ?_; refine vo_step (ok_call (φ := fun _ _ => True) L rfl rfl (blt_lt rfl) rfl rfl rfl (fun _ _ _ _ _ => trivial) (fun u H hH _ _ => sortS0_ret hH)) rfl ?_; refine vo_nil ?_; refine N_seq ?_; refine V_seq ?_
    refine V_seen 3 (KS tyC [] false) rfl SlV.mono SlV.nil ?_
    refine V_region (id := 4) ?_; refine vo_step (ok_moves' rfl rfl rfl) rfl ?_; refine vo_step (ok_sliceV L (kl := .i64) (pl := 0) 0 0 true rfl rfl rfl rfl rfl rfl ⟨rfl, rfl⟩ ⟨rfl, rfl⟩ (by decide) (by decide) rfl) rfl ?_; refine vo_step (ok_assigns' rfl rfl rfl) rfl ?_; refine vo_nil ?_; refine N_seq ?_; refine V_seq ?_; refine V_seq ?_; refine V_region (id := 5) ?_; refine vo_step (ok_moves' rfl rfl rfl) rfl ?_; refine vo_step (ok_lenV L rfl rfl rfl rfl) rfl ?_; refine vo_step (ok_move rfl rfl rfl) rfl ?_; refine vo_nil ?_; refine N_seq ?_; refine V_block ?_
    refine V_loop (fun _ : Nat => [(5, .sat (KS tyC [] true)), (15, .sat (KS tyC [] false)), (16, .is (.int .i64 0)), (17, .is (.int .i64 0))]) (fun _ => True) (fun s => s) 0 trivial ⟨rfl, rfl, rfl, rfl, trivial⟩ ?_
    rintro s _
    refine V_seq ?_; refine V_region (id := 6) ?_; refine vo_step (ok_lss rfl rfl rfl rfl (decide_eq_false (by omega))) rfl ?_; refine vo_nil ?_; refine N_seq ?_; refine V_seq ?_; refine V_false rfl ?_; refine V_exit ?_; refine X_then ?_; refine X_then ?_; refine X_here ?_; refine N_seq ?_; refine V_seq ?_; refine V_region (id := 11) ?_; refine vo_step (ok_moves' rfl rfl rfl) rfl ?_; refine vo_step (ok_moves' rfl rfl rfl) rfl ?_; refine vo_step (ok_lenV L rfl rfl rfl rfl) rfl ?_; refine vo_step (ok_moves' rfl rfl rfl) rfl ?_; refine vo_step (ok_lenV L rfl rfl rfl rfl) rfl ?_; refine vo_step (ok_clipV L rfl rfl rfl rfl rfl rfl rfl) rfl ?_; refine vo_step (ok_assigns' rfl rfl rfl) rfl ?_; refine vo_nil ?_; refine N_seq ?_
    refine V_ret L (rs := [.tmp 2]) rfl (fun _ _ h => h) Since.refl fun u H hH hle => ?_
    exact fun v hv => hv
  · refine V_region (id := 3) ?_; refine vo_step (ok_move rfl rfl rfl) rfl ?_; refine vo_step (ok_move rfl rfl rfl) rfl ?_; refine vo_step2 (ok_callG L 900 (GHeld b ((stC l).flatMap ccs ++ rest) tyC) (r := GHeld b (l.flatMap ccs ++ rest) tyC) rfl rfl rfl rfl rfl (fun u H C hH _ hr hC => (by have h := sortS_ret (cap := cap) rfl (by omega) hH hr hC; exact h))) ?_; refine vo_nil ?_; refine N_seq ?_; refine V_seq ?_
    refine V_releaseR (xs := (stC l).flatMap ccs) (rest := rest) (s := 7) 3 900 rfl rfl rfl (by rw [cs_len, hsl]) hmc hcm (by
      rw [List.length_append] at hcl ⊢
      rw [cs_len] at hcl ⊢
      rw [hsl]; exact hcl) ?_
    rw [← hsl]
    have hkn := keep_stC l
    have hkl := keepL_len (stC l)
    rw [← hkn]
    generalize stC l = S at *
    refine V_pubR 3 rfl ?_
    refine V_region (id := 4) ?_; refine vo_step (ok_moves' rfl rfl rfl) rfl ?_; refine vo_step (ok_sliceV L (kl := .i64) (pl := 0) 0 0 true rfl rfl rfl rfl rfl rfl ⟨rfl, rfl⟩ ⟨rfl, rfl⟩ (by omega) (by omega) rfl) rfl ?_; refine vo_step (ok_assigns' rfl rfl rfl) rfl ?_; refine vo_nil ?_; refine N_seq ?_; refine V_seq ?_; refine V_seq ?_; refine V_region (id := 5) ?_; refine vo_step (ok_moves' rfl rfl rfl) rfl ?_; refine vo_step (ok_lenV L rfl rfl rfl rfl) rfl ?_; refine vo_step (ok_move rfl rfl rfl) rfl ?_; refine vo_nil ?_; refine N_seq ?_; refine V_block ?_
    refine V_imp 5 (SlV tyC 7 [] 0 true) rfl SlV.mono (fun v H h => h) ?_
    refine V_toG 5 rfl ?_
    refine V_loop (fun i : Nat × List CH => [(3, .sat (KS tyC S false)), (4, .is ordV), (5, .own (SlG tyC 7 i.2.length (i.2.flatMap ccs))), (15, .sat (KS tyC S false)), (16, .is (.int .i64 S.length)), (17, .is (.int .i64 i.1))]) (fun i => i.1 ≤ S.length ∧ i.2.length ≤ i.1 ∧ i.2 ++ keepL (S.drop i.1) = keepL S) (fun i => S.length - i.1) (0, []) ⟨Nat.zero_le _, Nat.le_refl _, rfl⟩ ⟨rfl, rfl, rfl, rfl, rfl, rfl, trivial⟩ ?_
    rintro ⟨i, kp⟩ ⟨h1, h2, h3⟩
    dsimp only at h1 h2 h3 ⊢
    by_cases hlt : i < S.length
    · obtain ⟨c, hc0⟩ := get_some hlt
      have hc := ks_at hc0
      have hst := keepL_step hc0
      have a1 : IntKind.i64.wrap ((i : Int) + 1) = ((i + 1 : Nat) : Int) := wrap_i64 (by omega) (by omega)
      by_cases hlast : i + 1 < S.length
      · obtain ⟨d, hd0⟩ := get_some hlast
        have hd := ks_at hd0
        rw [hd0] at hst
        dsimp only at hst
        by_cases heq : cmpT c.1 d.1 = 0
        · rw [if_pos heq, List.nil_append] at hst
          refine V_seq ?_; refine V_region (id := 6) ?_; refine vo_step (ok_lss rfl rfl rfl rfl (decide_eq_true (by omega))) rfl ?_; refine vo_nil ?_; refine N_seq ?_; refine V_seq ?_; refine V_true rfl ?_; refine V_skip ?_; refine N_seq ?_; refine V_seq ?_; refine V_block ?_; refine V_seq ?_; refine V_region (id := 7) ?_; refine vo_step (ok_move rfl rfl rfl) rfl ?_; refine vo_step (ok_indexV L _ rfl rfl rfl rfl rfl rfl rfl (by first | omega | decide) (by assumption)) rfl ?_; refine vo_step (ok_loadPA L (vs := [_, _, _, _, _, _, _]) rfl rfl rfl rfl rfl ⟨_, rfl⟩) rfl ?_; refine vo_step (ok_alloc L rfl rfl rfl rfl) rfl ?_; refine vo_step (ok_assign rfl rfl rfl) rfl ?_; refine vo_step (ok_store L rfl rfl rfl rfl rfl rfl rfl rfl) rfl ?_; refine vo_nil ?_; refine N_seq ?_; refine V_seq ?_; refine V_regionD (id := 8) [] mixed (by kernel_rfl) ?_; refine par_step (ok_move rfl rfl rfl) rfl ?_; refine par_step (ok_add rfl rfl rfl rfl (by assumption)) rfl ?_; refine par_step (ok_moves' rfl rfl rfl) rfl ?_; refine par_step (ok_lenV L rfl rfl rfl rfl) rfl ?_; refine par_step (ok_eql rfl rfl rfl rfl (decide_eq_false (by omega))) rfl ?_; refine par_step (ok_move rfl rfl rfl) rfl ?_; refine par_step (ok_move rfl rfl rfl) rfl ?_; refine par_step (ok_loadA L (vs := [_, _, _, _, _, _, _]) (src_own rfl) rfl rfl rfl rfl ⟨_, rfl⟩) rfl ?_; refine par_step (ok_moves' rfl rfl rfl) rfl ?_; refine par_step (ok_move rfl rfl rfl) rfl ?_; refine par_step (ok_add rfl rfl rfl rfl (by assumption)) rfl ?_; refine par_step (ok_indexV L _ rfl rfl rfl rfl rfl rfl rfl (by first | omega | decide) (by assumption)) rfl ?_; refine par_step (ok_loadPA L (vs := [_, _, _, _, _, _, _]) rfl rfl rfl rfl rfl ⟨_, rfl⟩) rfl ?_; refine par_step (ok_callx L rfl rfl (blt_lt rfl) rfl rfl rfl (fun u H hH _ _ => ordC_ret hH)) rfl ?_; refine par_step (ok_neq rfl rfl rfl rfl (decide_eq_false (by omega))) rfl ?_; refine par_step (ok_pick rfl rfl rfl rfl) rfl ?_; refine par_nil ?_; refine N_seq ?_; refine V_false rfl ?_; refine V_skip ?_; refine N_block ?_; refine N_seq ?_; refine V_region (id := 10) ?_; refine vo_step (ok_add rfl rfl rfl rfl (by assumption)) rfl ?_; refine vo_step (ok_move rfl rfl rfl) rfl ?_; refine vo_nil ?_
          exact N_round (x := (i, kp)) (i + 1, kp) ⟨hlt, by dsimp only; omega, by dsimp only; rw [← hst]; exact h3⟩ (by dsimp only; omega) ⟨rfl, rfl, rfl, rfl, rfl, rfl, trivial⟩
        · rw [if_neg heq] at hst
          refine V_seq ?_; refine V_region (id := 6) ?_; refine vo_step (ok_lss rfl rfl rfl rfl (decide_eq_true (by omega))) rfl ?_; refine vo_nil ?_; refine N_seq ?_; refine V_seq ?_; refine V_true rfl ?_; refine V_skip ?_; refine N_seq ?_; refine V_seq ?_; refine V_block ?_; refine V_seq ?_; refine V_region (id := 7) ?_; refine vo_step (ok_move rfl rfl rfl) rfl ?_; refine vo_step (ok_indexV L _ rfl rfl rfl rfl rfl rfl rfl (by first | omega | decide) (by assumption)) rfl ?_; refine vo_step (ok_loadPA L (vs := [_, _, _, _, _, _, _]) rfl rfl rfl rfl rfl ⟨_, rfl⟩) rfl ?_; refine vo_step (ok_alloc L rfl rfl rfl rfl) rfl ?_; refine vo_step (ok_assign rfl rfl rfl) rfl ?_; refine vo_step (ok_store L rfl rfl rfl rfl rfl rfl rfl rfl) rfl ?_; refine vo_nil ?_; refine N_seq ?_; refine V_seq ?_; refine V_regionD (id := 8) [] mixed (by kernel_rfl) ?_; refine par_step (ok_move rfl rfl rfl) rfl ?_; refine par_step (ok_add rfl rfl rfl rfl (by assumption)) rfl ?_; refine par_step (ok_moves' rfl rfl rfl) rfl ?_; refine par_step (ok_lenV L rfl rfl rfl rfl) rfl ?_; refine par_step (ok_eql rfl rfl rfl rfl (decide_eq_false (by omega))) rfl ?_; refine par_step (ok_move rfl rfl rfl) rfl ?_; refine par_step (ok_move rfl rfl rfl) rfl ?_; refine par_step (ok_loadA L (vs := [_, _, _, _, _, _, _]) (src_own rfl) rfl rfl rfl rfl ⟨_, rfl⟩) rfl ?_; refine par_step (ok_moves' rfl rfl rfl) rfl ?_; refine par_step (ok_move rfl rfl rfl) rfl ?_; refine par_step (ok_add rfl rfl rfl rfl (by assumption)) rfl ?_; refine par_step (ok_indexV L _ rfl rfl rfl rfl rfl rfl rfl (by first | omega | decide) (by assumption)) rfl ?_; refine par_step (ok_loadPA L (vs := [_, _, _, _, _, _, _]) rfl rfl rfl rfl rfl ⟨_, rfl⟩) rfl ?_; refine par_step (ok_callx L rfl rfl (blt_lt rfl) rfl rfl rfl (fun u H hH _ _ => ordC_ret hH)) rfl ?_; refine par_step (ok_neq rfl rfl rfl rfl (decide_eq_true (by omega))) rfl ?_; refine par_step (ok_pick rfl rfl rfl rfl) rfl ?_; refine par_nil ?_; refine N_seq ?_; refine V_true rfl ?_; refine V_region (id := 9) ?_; refine vo_step2 (ok_moveO (.inl rfl) rfl rfl rfl rfl) ?_; refine vo_step (ok_loadA L (vs := [_, _, _, _, _, _, _]) (src_own rfl) rfl rfl rfl rfl ⟨_, rfl⟩) rfl ?_; refine vo_step (ok_buildSlice L rfl rfl rfl rfl rfl rfl rfl rfl rfl) rfl ?_; refine vo_step2 (ok_appendG L (by decide) rfl rfl rfl (apd_B rfl) rfl el67 rfl rfl (by omega) (by omega)) ?_; refine vo_step2 (ok_moveO (.inr rfl) rfl rfl rfl rfl) ?_; refine vo_nil ?_; refine N_block ?_; refine N_seq ?_; refine V_region (id := 10) ?_; refine vo_step (ok_add rfl rfl rfl rfl (by assumption)) rfl ?_; refine vo_step (ok_move rfl rfl rfl) rfl ?_; refine vo_nil ?_
          exact N_round (x := (i, kp)) (i + 1, kp ++ [c]) ⟨hlt, by dsimp only; rw [List.length_append, List.length_singleton]; omega, by dsimp only; rw [List.append_assoc, ← hst]; exact h3⟩ (by dsimp only; omega) ⟨rfl, rfl, by dsimp only; rw [List.flatMap_append, List.length_append]; rfl, rfl, rfl, rfl, trivial⟩
      · have hend : i + 1 = S.length := by omega
        rw [List.getElem?_eq_none (by omega)] at hst
        dsimp only at hst
        refine V_seq ?_; refine V_region (id := 6) ?_; refine vo_step (ok_lss rfl rfl rfl rfl (decide_eq_true (by omega))) rfl ?_; refine vo_nil ?_; refine N_seq ?_; refine V_seq ?_; refine V_true rfl ?_; refine V_skip ?_; refine N_seq ?_; refine V_seq ?_; refine V_block ?_; refine V_seq ?_; refine V_region (id := 7) ?_; refine vo_step (ok_move rfl rfl rfl) rfl ?_; refine vo_step (ok_indexV L _ rfl rfl rfl rfl rfl rfl rfl (by first | omega | decide) (by assumption)) rfl ?_; refine vo_step (ok_loadPA L (vs := [_, _, _, _, _, _, _]) rfl rfl rfl rfl rfl ⟨_, rfl⟩) rfl ?_; refine vo_step (ok_alloc L rfl rfl rfl rfl) rfl ?_; refine vo_step (ok_assign rfl rfl rfl) rfl ?_; refine vo_step (ok_store L rfl rfl rfl rfl rfl rfl rfl rfl) rfl ?_; refine vo_nil ?_; refine N_seq ?_; refine V_seq ?_; refine V_regionD (id := 8) [] mixed (by kernel_rfl) ?_; refine par_step (ok_move rfl rfl rfl) rfl ?_; refine par_step (ok_add rfl rfl rfl rfl (by assumption)) rfl ?_; refine par_step (ok_moves' rfl rfl rfl) rfl ?_; refine par_step (ok_lenV L rfl rfl rfl rfl) rfl ?_; refine par_step (ok_eql rfl rfl rfl rfl (decide_eq_true (by omega))) rfl ?_; refine par_step (ok_move rfl rfl rfl) rfl ?_; refine par_step (ok_skip rfl (blt_lt rfl) rfl) rfl ?_; refine par_step (ok_skip rfl (blt_lt rfl) rfl) rfl ?_; refine par_step (ok_skip rfl (blt_lt rfl) rfl) rfl ?_; refine par_step (ok_skip rfl (blt_lt rfl) rfl) rfl ?_; refine par_step (ok_skip rfl (blt_lt rfl) rfl) rfl ?_; refine par_step (ok_skip rfl (blt_lt rfl) rfl) rfl ?_; refine par_step (ok_skip rfl (blt_lt rfl) rfl) rfl ?_; refine par_step (ok_skip rfl (blt_lt rfl) rfl) rfl ?_; refine par_step (ok_skip rfl (blt_lt rfl) rfl) rfl ?_; refine par_step (ok_pick rfl rfl rfl rfl) rfl ?_; refine par_nil ?_; refine N_seq ?_; refine V_true rfl ?_; refine V_region (id := 9) ?_; refine vo_step2 (ok_moveO (.inl rfl) rfl rfl rfl rfl) ?_; refine vo_step (ok_loadA L (vs := [_, _, _, _, _, _, _]) (src_own rfl) rfl rfl rfl rfl ⟨_, rfl⟩) rfl ?_; refine vo_step (ok_buildSlice L rfl rfl rfl rfl rfl rfl rfl rfl rfl) rfl ?_; refine vo_step2 (ok_appendG L (by decide) rfl rfl rfl (apd_B rfl) rfl el67 rfl rfl (by omega) (by omega)) ?_; refine vo_step2 (ok_moveO (.inr rfl) rfl rfl rfl rfl) ?_; refine vo_nil ?_; refine N_block ?_; refine N_seq ?_; refine V_region (id := 10) ?_; refine vo_step (ok_add rfl rfl rfl rfl (by assumption)) rfl ?_; refine vo_step (ok_move rfl rfl rfl) rfl ?_; refine vo_nil ?_
        exact N_round (x := (i, kp)) (i + 1, kp ++ [c]) ⟨hlt, by dsimp only; rw [List.length_append, List.length_singleton]; omega, by dsimp only; rw [List.append_assoc, ← hst]; exact h3⟩ (by dsimp only; omega) ⟨rfl, rfl, by dsimp only; rw [List.flatMap_append, List.length_append]; rfl, rfl, rfl, rfl, trivial⟩
    · rw [List.drop_eq_nil_of_le (by omega), show keepL [] = [] from rfl, List.append_nil] at h3
      subst h3
      refine V_pubG 5 rfl ?_
      refine V_seq ?_; refine V_region (id := 6) ?_; refine vo_step (ok_lss rfl rfl rfl rfl (decide_eq_false (by omega))) rfl ?_; refine vo_nil ?_; refine N_seq ?_; refine V_seq ?_; refine V_false rfl ?_; refine V_exit ?_; refine X_then ?_; refine X_then ?_; refine X_here ?_; refine N_seq ?_; refine V_seq ?_; refine V_region (id := 11) ?_; refine vo_step (ok_moves' rfl rfl rfl) rfl ?_; refine vo_step (ok_moves' rfl rfl rfl) rfl ?_; refine vo_step (ok_lenV L rfl rfl rfl rfl) rfl ?_; refine vo_step (ok_moves' rfl rfl rfl) rfl ?_; refine vo_step (ok_lenV L rfl rfl rfl rfl) rfl ?_; refine vo_step (ok_clipV L rfl rfl rfl rfl rfl rfl rfl) rfl ?_; refine vo_step (ok_assigns' rfl rfl rfl) rfl ?_; refine vo_nil ?_; refine N_seq ?_
      refine V_ret L (rs := [.tmp 2]) rfl (fun _ _ h => h) Since.refl fun u H hH hle => ?_
      exact fun v hv => hv
end Go.V.L8
/- The walk of filters.Both (chapter 3). -/
namespace Go.V.L3
open Go.Proofs Go.RowKit Go.V Go.V.L2
attribute [local irreducible] V N X VO Par StepOK Has Ret RetL RetO RetT Src
end Go.V.L3
/- The walks of filters (chapter 3): texts. -/
namespace Go.V.L3
open Go.Proofs Go.RowKit Go.V Go.V.L2
attribute [local irreducible] V N X VO Par StepOK Has Ret RetL RetO RetT Src
end Go.V.L3
/- The walks of the definition of filters (chapter 3): texts. -/
namespace Go.V.L3
open Go.Proofs Go.RowKit Go.V Go.V.L2
attribute [local irreducible] V N X VO Par StepOK Has Ret RetL RetO RetT Src
end Go.V.L3
/- The walk of the definition of filters (chapter 3): texts are read. -/
namespace Go.V.L3
open Go.Proofs Go.RowKit Go.V Go.V.L2
attribute [local irreducible] V N X VO Par StepOK Has Ret RetL RetO RetT Src
end Go.V.L3
/- The goals and tuples of the statements (chapters 2, 23): plain words. -/
namespace Go.V
open Go.Proofs Go.RowKit
def spaceS (n : Nat) : ByteArray := match n % 3 with
  | 0 => ⟨#[100, 111, 99]⟩
  | 1 => ⟨#[102, 111, 108, 100, 101, 114]⟩
  | _ => ⟨#[103, 114, 111, 117, 112]⟩
def idS (n : Nat) : ByteArray := match n % 5 with
  | 0 => ⟨#[97]⟩
  | 1 => ⟨#[98]⟩
  | 2 => ⟨#[99, 49]⟩
  | 3 => ⟨#[100]⟩
  | _ => ⟨#[114, 111, 111, 116]⟩
def relS (n : Nat) : ByteArray := match n % 4 with
  | 0 => ⟨#[118, 105, 101, 119, 101, 114]⟩
  | 1 => ⟨#[101, 100, 105, 116, 111, 114]⟩
  | 2 => ⟨#[109, 101, 109, 98, 101, 114]⟩
  | _ => ⟨#[112, 97, 114, 101, 110, 116]⟩
theorem spaceS_ok (n : Nat) : chk (spaceS n) = 0 ∧ (spaceS n).size ≤ 16 := by
  unfold spaceS
  split <;> decide +kernel
theorem idS_ok (n : Nat) : chk (idS n) = 0 ∧ (idS n).size ≤ 16 := by
  unfold idS
  split <;> decide +kernel
theorem relS_ok (n : Nat) : chk (relS n) = 0 ∧ (relS n).size ≤ 16 := by
  unfold relS
  split <;> decide +kernel
/-- A goal of sixty. -/
def goalS (n : Nat) : (ByteArray × ByteArray) × ByteArray := ((spaceS n, idS (n / 3)), relS (n / 15))
theorem goalS_ok (n : Nat) : allE [(goalS n).1.1, (goalS n).1.2, (goalS n).2] = 0 := by
  simp only [allE, goalS, (spaceS_ok _).1, (idS_ok _).1, (relS_ok _).1, if_pos]
theorem goalS_size (n : Nat) : (goalS n).1.1.size ≤ 16 ∧ (goalS n).1.2.size ≤ 16 ∧ (goalS n).2.size ≤ 16 := ⟨(spaceS_ok _).2, (idS_ok _).2, (relS_ok _).2⟩
end Go.V
/- The walks of the goals of the statements (chapters 2, 23). -/
namespace Go.V
open Go.Proofs Go.RowKit
attribute [local irreducible] V N X VO Par StepOK Has Ret RetL Src
theorem space_ret (n : Nat) {w : World} {B : Heap} (hB : B.Le (hp w)) : Ret Try.prog 100 [.int .i64 n] w B (fun v _ => v = .string (spaceS n)) := by
  unfold spaceS
  have e : Int.tmod (n : Int) 3 = ((n % 3 : Nat) : Int) := rfl
  refine V_enter Try.func100 rfl Try.ntmps100 (Nat.le_of_ble_eq_true rfl) hB ?_
  have hlt := Nat.mod_lt n (show 0 < 3 by decide)
  rcases (by omega : n % 3 = 0 ∨ n % 3 = 1 ∨ n % 3 = 2) with h | h | h
  · have e0 : Int.tmod (n : Int) 3 = 0 := by rw [e, h]; rfl
    rw [h]
    refine V_seq ?_; refine V_region (id := 0) ?_; refine vo_step (ok_assign rfl rfl rfl) rfl ?_; refine vo_nil ?_; refine N_seq ?_; refine V_seq ?_; refine V_region (id := 1) ?_; refine vo_step (ok_buildSlice L rfl rfl rfl rfl rfl rfl rfl rfl rfl) rfl ?_; refine vo_step (ok_move rfl rfl rfl) rfl ?_; refine vo_step (ok_rem rfl rfl rfl rfl (by omega) (by assumption)) rfl ?_; refine vo_step (ok_indexSl L 0 rfl rfl rfl rfl rfl rfl rfl (by omega)) rfl ?_; refine vo_step (ok_load1 L (src_at rfl) rfl rfl rfl rfl) rfl ?_; refine vo_step (ok_assign rfl rfl rfl) rfl ?_; refine vo_nil ?_; refine N_seq ?_
    refine V_ret L (rs := [.tmp 2]) rfl (fun _ _ h => h) Since.refl fun u H hH hle => ?_
    rfl
  · have e0 : Int.tmod (n : Int) 3 = 1 := by rw [e, h]; rfl
    rw [h]
    refine V_seq ?_; refine V_region (id := 0) ?_; refine vo_step (ok_assign rfl rfl rfl) rfl ?_; refine vo_nil ?_; refine N_seq ?_; refine V_seq ?_; refine V_region (id := 1) ?_; refine vo_step (ok_buildSlice L rfl rfl rfl rfl rfl rfl rfl rfl rfl) rfl ?_; refine vo_step (ok_move rfl rfl rfl) rfl ?_; refine vo_step (ok_rem rfl rfl rfl rfl (by omega) (by assumption)) rfl ?_; refine vo_step (ok_indexSl L 1 rfl rfl rfl rfl rfl rfl rfl (by omega)) rfl ?_; refine vo_step (ok_load1 L (src_at rfl) rfl rfl rfl rfl) rfl ?_; refine vo_step (ok_assign rfl rfl rfl) rfl ?_; refine vo_nil ?_; refine N_seq ?_
    refine V_ret L (rs := [.tmp 2]) rfl (fun _ _ h => h) Since.refl fun u H hH hle => ?_
    rfl
  · have e0 : Int.tmod (n : Int) 3 = 2 := by rw [e, h]; rfl
    rw [h]
    refine V_seq ?_; refine V_region (id := 0) ?_; refine vo_step (ok_assign rfl rfl rfl) rfl ?_; refine vo_nil ?_; refine N_seq ?_; refine V_seq ?_; refine V_region (id := 1) ?_; refine vo_step (ok_buildSlice L rfl rfl rfl rfl rfl rfl rfl rfl rfl) rfl ?_; refine vo_step (ok_move rfl rfl rfl) rfl ?_; refine vo_step (ok_rem rfl rfl rfl rfl (by omega) (by assumption)) rfl ?_; refine vo_step (ok_indexSl L 2 rfl rfl rfl rfl rfl rfl rfl (by omega)) rfl ?_; refine vo_step (ok_load1 L (src_at rfl) rfl rfl rfl rfl) rfl ?_; refine vo_step (ok_assign rfl rfl rfl) rfl ?_; refine vo_nil ?_; refine N_seq ?_
    refine V_ret L (rs := [.tmp 2]) rfl (fun _ _ h => h) Since.refl fun u H hH hle => ?_
    rfl
theorem id_ret (n : Nat) {w : World} {B : Heap} (hB : B.Le (hp w)) : Ret Try.prog 101 [.int .i64 n] w B (fun v _ => v = .string (idS n)) := by
  unfold idS
  have e : Int.tmod (n : Int) 5 = ((n % 5 : Nat) : Int) := rfl
  refine V_enter Try.func101 rfl Try.ntmps101 (Nat.le_of_ble_eq_true rfl) hB ?_
  have hlt := Nat.mod_lt n (show 0 < 5 by decide)
  rcases (by omega : n % 5 = 0 ∨ n % 5 = 1 ∨ n % 5 = 2 ∨ n % 5 = 3 ∨ n % 5 = 4) with h | h | h | h | h
  · have e0 : Int.tmod (n : Int) 5 = 0 := by rw [e, h]; rfl
    rw [h]
    refine V_seq ?_; refine V_region (id := 0) ?_; refine vo_step (ok_assign rfl rfl rfl) rfl ?_; refine vo_nil ?_; refine N_seq ?_; refine V_seq ?_; refine V_region (id := 1) ?_; refine vo_step (ok_buildSlice L rfl rfl rfl rfl rfl rfl rfl rfl rfl) rfl ?_; refine vo_step (ok_move rfl rfl rfl) rfl ?_; refine vo_step (ok_rem rfl rfl rfl rfl (by omega) (by assumption)) rfl ?_; refine vo_step (ok_indexSl L 0 rfl rfl rfl rfl rfl rfl rfl (by omega)) rfl ?_; refine vo_step (ok_load1 L (src_at rfl) rfl rfl rfl rfl) rfl ?_; refine vo_step (ok_assign rfl rfl rfl) rfl ?_; refine vo_nil ?_; refine N_seq ?_
    refine V_ret L (rs := [.tmp 2]) rfl (fun _ _ h => h) Since.refl fun u H hH hle => ?_
    rfl
  · have e0 : Int.tmod (n : Int) 5 = 1 := by rw [e, h]; rfl
    rw [h]
    refine V_seq ?_; refine V_region (id := 0) ?_; refine vo_step (ok_assign rfl rfl rfl) rfl ?_; refine vo_nil ?_; refine N_seq ?_; refine V_seq ?_; refine V_region (id := 1) ?_; refine vo_step (ok_buildSlice L rfl rfl rfl rfl rfl rfl rfl rfl rfl) rfl ?_; refine vo_step (ok_move rfl rfl rfl) rfl ?_; refine vo_step (ok_rem rfl rfl rfl rfl (by omega) (by assumption)) rfl ?_; refine vo_step (ok_indexSl L 1 rfl rfl rfl rfl rfl rfl rfl (by omega)) rfl ?_; refine vo_step (ok_load1 L (src_at rfl) rfl rfl rfl rfl) rfl ?_; refine vo_step (ok_assign rfl rfl rfl) rfl ?_; refine vo_nil ?_; refine N_seq ?_
    refine V_ret L (rs := [.tmp 2]) rfl (fun _ _ h => h) Since.refl fun u H hH hle => ?_
    rfl
  · have e0 : Int.tmod (n : Int) 5 = 2 := by rw [e, h]; rfl
    rw [h]
    refine V_seq ?_; refine V_region (id := 0) ?_; refine vo_step (ok_assign rfl rfl rfl) rfl ?_; refine vo_nil ?_; refine N_seq ?_; refine V_seq ?_; refine V_region (id := 1) ?_; refine vo_step (ok_buildSlice L rfl rfl rfl rfl rfl rfl rfl rfl rfl) rfl ?_; refine vo_step (ok_move rfl rfl rfl) rfl ?_; refine vo_step (ok_rem rfl rfl rfl rfl (by omega) (by assumption)) rfl ?_; refine vo_step (ok_indexSl L 2 rfl rfl rfl rfl rfl rfl rfl (by omega)) rfl ?_; refine vo_step (ok_load1 L (src_at rfl) rfl rfl rfl rfl) rfl ?_; refine vo_step (ok_assign rfl rfl rfl) rfl ?_; refine vo_nil ?_; refine N_seq ?_
    refine V_ret L (rs := [.tmp 2]) rfl (fun _ _ h => h) Since.refl fun u H hH hle => ?_
    rfl
  · have e0 : Int.tmod (n : Int) 5 = 3 := by rw [e, h]; rfl
    rw [h]
    refine V_seq ?_; refine V_region (id := 0) ?_; refine vo_step (ok_assign rfl rfl rfl) rfl ?_; refine vo_nil ?_; refine N_seq ?_; refine V_seq ?_; refine V_region (id := 1) ?_; refine vo_step (ok_buildSlice L rfl rfl rfl rfl rfl rfl rfl rfl rfl) rfl ?_; refine vo_step (ok_move rfl rfl rfl) rfl ?_; refine vo_step (ok_rem rfl rfl rfl rfl (by omega) (by assumption)) rfl ?_; refine vo_step (ok_indexSl L 3 rfl rfl rfl rfl rfl rfl rfl (by omega)) rfl ?_; refine vo_step (ok_load1 L (src_at rfl) rfl rfl rfl rfl) rfl ?_; refine vo_step (ok_assign rfl rfl rfl) rfl ?_; refine vo_nil ?_; refine N_seq ?_
    refine V_ret L (rs := [.tmp 2]) rfl (fun _ _ h => h) Since.refl fun u H hH hle => ?_
    rfl
  · have e0 : Int.tmod (n : Int) 5 = 4 := by rw [e, h]; rfl
    rw [h]
    refine V_seq ?_; refine V_region (id := 0) ?_; refine vo_step (ok_assign rfl rfl rfl) rfl ?_; refine vo_nil ?_; refine N_seq ?_; refine V_seq ?_; refine V_region (id := 1) ?_; refine vo_step (ok_buildSlice L rfl rfl rfl rfl rfl rfl rfl rfl rfl) rfl ?_; refine vo_step (ok_move rfl rfl rfl) rfl ?_; refine vo_step (ok_rem rfl rfl rfl rfl (by omega) (by assumption)) rfl ?_; refine vo_step (ok_indexSl L 4 rfl rfl rfl rfl rfl rfl rfl (by omega)) rfl ?_; refine vo_step (ok_load1 L (src_at rfl) rfl rfl rfl rfl) rfl ?_; refine vo_step (ok_assign rfl rfl rfl) rfl ?_; refine vo_nil ?_; refine N_seq ?_
    refine V_ret L (rs := [.tmp 2]) rfl (fun _ _ h => h) Since.refl fun u H hH hle => ?_
    rfl
theorem rel_ret (n : Nat) {w : World} {B : Heap} (hB : B.Le (hp w)) : Ret Try.prog 102 [.int .i64 n] w B (fun v _ => v = .string (relS n)) := by
  unfold relS
  have e : Int.tmod (n : Int) 4 = ((n % 4 : Nat) : Int) := rfl
  refine V_enter Try.func102 rfl Try.ntmps102 (Nat.le_of_ble_eq_true rfl) hB ?_
  have hlt := Nat.mod_lt n (show 0 < 4 by decide)
  rcases (by omega : n % 4 = 0 ∨ n % 4 = 1 ∨ n % 4 = 2 ∨ n % 4 = 3) with h | h | h | h
  · have e0 : Int.tmod (n : Int) 4 = 0 := by rw [e, h]; rfl
    rw [h]
    refine V_seq ?_; refine V_region (id := 0) ?_; refine vo_step (ok_assign rfl rfl rfl) rfl ?_; refine vo_nil ?_; refine N_seq ?_; refine V_seq ?_; refine V_region (id := 1) ?_; refine vo_step (ok_buildSlice L rfl rfl rfl rfl rfl rfl rfl rfl rfl) rfl ?_; refine vo_step (ok_move rfl rfl rfl) rfl ?_; refine vo_step (ok_rem rfl rfl rfl rfl (by omega) (by assumption)) rfl ?_; refine vo_step (ok_indexSl L 0 rfl rfl rfl rfl rfl rfl rfl (by omega)) rfl ?_; refine vo_step (ok_load1 L (src_at rfl) rfl rfl rfl rfl) rfl ?_; refine vo_step (ok_assign rfl rfl rfl) rfl ?_; refine vo_nil ?_; refine N_seq ?_
    refine V_ret L (rs := [.tmp 2]) rfl (fun _ _ h => h) Since.refl fun u H hH hle => ?_
    rfl
  · have e0 : Int.tmod (n : Int) 4 = 1 := by rw [e, h]; rfl
    rw [h]
    refine V_seq ?_; refine V_region (id := 0) ?_; refine vo_step (ok_assign rfl rfl rfl) rfl ?_; refine vo_nil ?_; refine N_seq ?_; refine V_seq ?_; refine V_region (id := 1) ?_; refine vo_step (ok_buildSlice L rfl rfl rfl rfl rfl rfl rfl rfl rfl) rfl ?_; refine vo_step (ok_move rfl rfl rfl) rfl ?_; refine vo_step (ok_rem rfl rfl rfl rfl (by omega) (by assumption)) rfl ?_; refine vo_step (ok_indexSl L 1 rfl rfl rfl rfl rfl rfl rfl (by omega)) rfl ?_; refine vo_step (ok_load1 L (src_at rfl) rfl rfl rfl rfl) rfl ?_; refine vo_step (ok_assign rfl rfl rfl) rfl ?_; refine vo_nil ?_; refine N_seq ?_
    refine V_ret L (rs := [.tmp 2]) rfl (fun _ _ h => h) Since.refl fun u H hH hle => ?_
    rfl
  · have e0 : Int.tmod (n : Int) 4 = 2 := by rw [e, h]; rfl
    rw [h]
    refine V_seq ?_; refine V_region (id := 0) ?_; refine vo_step (ok_assign rfl rfl rfl) rfl ?_; refine vo_nil ?_; refine N_seq ?_; refine V_seq ?_; refine V_region (id := 1) ?_; refine vo_step (ok_buildSlice L rfl rfl rfl rfl rfl rfl rfl rfl rfl) rfl ?_; refine vo_step (ok_move rfl rfl rfl) rfl ?_; refine vo_step (ok_rem rfl rfl rfl rfl (by omega) (by assumption)) rfl ?_; refine vo_step (ok_indexSl L 2 rfl rfl rfl rfl rfl rfl rfl (by omega)) rfl ?_; refine vo_step (ok_load1 L (src_at rfl) rfl rfl rfl rfl) rfl ?_; refine vo_step (ok_assign rfl rfl rfl) rfl ?_; refine vo_nil ?_; refine N_seq ?_
    refine V_ret L (rs := [.tmp 2]) rfl (fun _ _ h => h) Since.refl fun u H hH hle => ?_
    rfl
  · have e0 : Int.tmod (n : Int) 4 = 3 := by rw [e, h]; rfl
    rw [h]
    refine V_seq ?_; refine V_region (id := 0) ?_; refine vo_step (ok_assign rfl rfl rfl) rfl ?_; refine vo_nil ?_; refine N_seq ?_; refine V_seq ?_; refine V_region (id := 1) ?_; refine vo_step (ok_buildSlice L rfl rfl rfl rfl rfl rfl rfl rfl rfl) rfl ?_; refine vo_step (ok_move rfl rfl rfl) rfl ?_; refine vo_step (ok_rem rfl rfl rfl rfl (by omega) (by assumption)) rfl ?_; refine vo_step (ok_indexSl L 3 rfl rfl rfl rfl rfl rfl rfl (by omega)) rfl ?_; refine vo_step (ok_load1 L (src_at rfl) rfl rfl rfl rfl) rfl ?_; refine vo_step (ok_assign rfl rfl rfl) rfl ?_; refine vo_nil ?_; refine N_seq ?_
    refine V_ret L (rs := [.tmp 2]) rfl (fun _ _ h => h) Since.refl fun u H hH hle => ?_
    rfl
end Go.V
/- The walks of the statements' helpers on tuples (chapter 2): what is handed in. -/
namespace Go.V.L2
open Go.Proofs Go.RowKit Go.V
/-- The subject of seventy-five. -/
def subS (s : Nat) : Str3 := ((spaceS s, idS (s / 3)), if 15 ≤ s then relS (s / 15 - 1) else ⟨#[]⟩)
def oneT (a b : Nat) : U := (goalS (a % 60), subS (b % 75))
/-- Pairs of numbers as they are handed in. -/
abbrev ty2 : TypeId := 134
def pcs (p : Nat × Nat) : List Value := [.int .u8 p.1, .int .u8 p.2]
theorem pcs_len (p : Nat × Nat) : (pcs p).length = 2 := rfl
abbrev PS2 (ps : List (Nat × Nat)) (fu : Bool) : Value → Heap → Prop := SlV ty2 2 (ps.flatMap pcs) ps.length fu
theorem ps_at {ps : List (Nat × Nat)} {j : Nat} {a b : Nat} (h : ps[j]? = some (a, b)) : ((ps.flatMap pcs).drop (j * 2)).take 2 = [.int .u8 a, .int .u8 b] := flatMap_at pcs_len ps j _ h
def tl (ps : List (Nat × Nat)) : List U := (ps.take 20).map fun p => oneT p.1 p.2
theorem tl_length (ps : List (Nat × Nat)) : (tl ps).length = min 20 ps.length := by simp [tl]
theorem tl_get {ps : List (Nat × Nat)} {i a b : Nat} (h : ps[i]? = some (a, b)) (hi : i < 20) : (tl ps)[i]? = some (oneT a b) := by
  unfold tl
  rw [List.getElem?_map, List.getElem?_take_of_lt hi, h]; rfl
theorem subS_size (s : Nat) : (subS s).1.1.size ≤ 16 ∧ (subS s).1.2.size ≤ 16 ∧ (subS s).2.size ≤ 16 := by
  refine ⟨(spaceS_ok _).2, (idS_ok _).2, ?_⟩
  unfold subS
  dsimp only
  split
  · exact (relS_ok _).2
  · decide
theorem oneT_size (a b : Nat) : TZ (oneT a b) := by
  have h1 := goalS_size (a % 60)
  have h2 := subS_size (b % 75)
  unfold TZ oneT
  dsimp only
  refine ⟨⟨?_, ?_, ?_⟩, ?_, ?_, ?_⟩ <;> omega
theorem oneT_ok (a b : Nat) : tE (oneT a b) = 0 := by
  unfold tE oneT
  dsimp only
  rw [if_pos (goalS_ok _)]
  unfold subS subjE
  dsimp only
  by_cases h : 15 ≤ b % 75
  · rw [if_pos h]
    split
    · simp only [allE, (spaceS_ok _).1, (idS_ok _).1, if_pos]
    · simp only [allE, (spaceS_ok _).1, (idS_ok _).1, (relS_ok _).1, if_pos]
  · rw [if_neg h, if_pos rfl]
    simp only [allE, (spaceS_ok _).1, (idS_ok _).1, if_pos]
theorem tl_mem {ps : List (Nat × Nat)} {t : U} (h : t ∈ tl ps) : TZ t ∧ tE t = 0 := by
  obtain ⟨p, _, rfl⟩ := List.mem_map.1 h
  exact ⟨oneT_size _ _, oneT_ok _ _⟩
attribute [local irreducible] V N X VO Par StepOK Has Ret RetL Src
set_option maxHeartbeats 1000000 in
theorem one02_ret (a b : Nat) (ha : a ≤ 255) (hb : b ≤ 255) {w : World} {B : Heap} (hB : B.Le (hp w)) : Ret Try.prog 79 [.agg #[.int .u8 a, .int .u8 b]] w B (fun v _ => v = uv (oneT a b)) := by
  have e60 : Int.tmod (a : Int) 60 = ((a % 60 : Nat) : Int) := rfl
  have e75 : Int.tmod (b : Int) 75 = ((b % 75 : Nat) : Int) := rfl
  have hlt := Nat.mod_lt a (show 0 < 60 by decide)
  have hlt2 := Nat.mod_lt b (show 0 < 75 by decide)
  unfold oneT
  generalize a % 60 = m at e60 hlt
  generalize b % 75 = s at e75 hlt2
  have q1 : (m : Int).tdiv 3 = ((m / 3 : Nat) : Int) := rfl
  have q2 : (m : Int).tdiv 15 = ((m / 15 : Nat) : Int) := rfl
  have q3 : (s : Int).tdiv 3 = ((s / 3 : Nat) : Int) := rfl
  have q4 : (s : Int).tdiv 15 = ((s / 15 : Nat) : Int) := rfl
  have d1 : IntKind.i64.wrap ((m : Int).tdiv 3) = ((m / 3 : Nat) : Int) := wrap_i64 (by omega) (by omega)
  have d2 : IntKind.i64.wrap ((m : Int).tdiv 15) = ((m / 15 : Nat) : Int) := wrap_i64 (by omega) (by omega)
  have d3 : IntKind.i64.wrap ((s : Int).tdiv 3) = ((s / 3 : Nat) : Int) := wrap_i64 (by omega) (by omega)
  have d4 : IntKind.i64.wrap ((s : Int).tdiv 15) = ((s / 15 : Nat) : Int) := wrap_i64 (by omega) (by omega)
  unfold goalS subS
  refine V_enter Try.func79 rfl Try.ntmps79 (Nat.le_of_ble_eq_true rfl) hB ?_
  refine V_seq ?_; refine V_region (id := 0) ?_; refine vo_step (ok_box rfl rfl rfl rfl) rfl ?_; refine vo_step (ok_alloc L rfl rfl rfl rfl) rfl ?_; refine vo_nil ?_; refine N_seq ?_; refine V_seq ?_; refine V_regionD (id := 1) [] mixed (by kernel_rfl) ?_; refine par_step (ok_indexArS L _ rfl rfl rfl rfl ar134 rfl rfl (by first | omega | decide)) rfl ?_; refine par_step (ok_load1 L (src_at rfl) rfl rfl rfl rfl) rfl ?_; refine par_step (ok_rem rfl rfl rfl rfl (by omega) (by assumption)) rfl ?_; refine par_step (ok_conv rfl rfl rfl cv5_3.1 cv5_3.2 (wrap_i64 (by omega) (by omega))) rfl ?_; refine par_step (ok_indexArS L _ rfl rfl rfl rfl ar134 rfl rfl (by first | omega | decide)) rfl ?_; refine par_step (ok_load1 L (src_at rfl) rfl rfl rfl rfl) rfl ?_; refine par_step (ok_rem rfl rfl rfl rfl (by omega) (by assumption)) rfl ?_; refine par_step (ok_conv rfl rfl rfl cv5_3.1 cv5_3.2 (wrap_i64 (by omega) (by omega))) rfl ?_; refine par_step (ok_assign rfl rfl rfl) rfl ?_; refine par_step (ok_assign rfl rfl rfl) rfl ?_; refine par_nil ?_; refine N_seq ?_; refine V_seq ?_; refine V_region (id := 2) ?_; refine vo_step (ok_move rfl rfl rfl) rfl ?_; refine vo_step (ok_callx L rfl rfl (blt_lt rfl) rfl rfl rfl (fun u H hH _ _ => space_ret _ hH)) rfl ?_; refine vo_step (ok_move rfl rfl rfl) rfl ?_; refine vo_step (ok_quo rfl rfl rfl rfl (by omega) (by assumption)) rfl ?_; refine vo_step (ok_callx L rfl rfl (blt_lt rfl) rfl rfl rfl (fun u H hH _ _ => id_ret _ hH)) rfl ?_; refine vo_step (ok_build (cs := [_, _]) rfl rfl pl47 rfl rfl) rfl ?_; refine vo_step (ok_move rfl rfl rfl) rfl ?_; refine vo_step (ok_quo rfl rfl rfl rfl (by omega) (by assumption)) rfl ?_; refine vo_step (ok_callx L rfl rfl (blt_lt rfl) rfl rfl rfl (fun u H hH _ _ => rel_ret _ hH)) rfl ?_; refine vo_step (ok_build (cs := [_, _, _]) rfl rfl pl49 rfl rfl) rfl ?_; refine vo_step (ok_move rfl rfl rfl) rfl ?_; refine vo_step (ok_callx L rfl rfl (blt_lt rfl) rfl rfl rfl (fun u H hH _ _ => space_ret _ hH)) rfl ?_; refine vo_step (ok_move rfl rfl rfl) rfl ?_; refine vo_step (ok_quo rfl rfl rfl rfl (by omega) (by assumption)) rfl ?_; refine vo_step (ok_callx L rfl rfl (blt_lt rfl) rfl rfl rfl (fun u H hH _ _ => id_ret _ hH)) rfl ?_; refine vo_step (ok_build (cs := [_, _]) rfl rfl pl47 rfl rfl) rfl ?_; refine vo_step (ok_build (cs := [_, _, _]) rfl rfl pl50 rfl rfl) rfl ?_; refine vo_step (ok_build (cs := [_, _, _, _, _, _]) rfl rfl pl52 rfl rfl) rfl ?_; refine vo_step (ok_alloc L rfl rfl rfl rfl) rfl ?_; refine vo_step (ok_store L rfl rfl rfl rfl rfl rfl rfl rfl) rfl ?_; refine vo_nil ?_; refine N_seq ?_; refine V_seq ?_; refine V_seq ?_
  by_cases h : 15 ≤ s
  · rw [if_pos h]
    have hs1 : IntKind.i64.wrap (((s / 15 : Nat) : Int) - 1) = ((s / 15 - 1 : Nat) : Int) := (wrap_i64 (by omega) (by omega)).trans (by omega)
    refine V_box 5 rfl fun b5 hb5 => ?_
    refine V_region (id := 3) ?_; refine vo_step (ok_move rfl rfl rfl) rfl ?_; refine vo_step (ok_geq rfl rfl rfl rfl (decide_eq_true (by omega))) rfl ?_; refine vo_nil ?_; refine N_seq ?_; refine V_true rfl ?_; refine V_region (id := 4) ?_; refine vo_step (ok_move rfl rfl rfl) rfl ?_; refine vo_step (ok_quo rfl rfl rfl rfl (by omega) (by assumption)) rfl ?_; refine vo_step (ok_sub rfl rfl rfl rfl (by assumption)) rfl ?_; refine vo_step (ok_callx L rfl rfl (blt_lt rfl) rfl rfl rfl (fun u H hH _ _ => rel_ret _ hH)) rfl ?_; refine vo_step (ok_fieldP L rfl rfl rfl rfl) rfl ?_; refine vo_step (ok_fieldP L rfl rfl rfl rfl) rfl ?_; refine box_store L (O1 := []) rfl rfl rfl rfl rfl rfl rfl rfl rfl ?_; refine vo_nil ?_; refine N_seq ?_; refine V_seq ?_; refine V_region (id := 5) ?_; refine vo_step (ok_loadA L (vs := [_, _, _, _, _, _]) (src_box rfl (List.Mem.head _)) rfl rfl rfl rfl ⟨_, rfl⟩) rfl ?_; refine vo_step (ok_store L rfl rfl rfl rfl rfl rfl rfl rfl) rfl ?_; refine vo_nil ?_; refine N_seq ?_
    refine V_ret L (rs := [.cell 2 52]) rfl (fun _ _ h => h) Since.refl fun u H hH hle => ?_
    refine resK_cellA (src_own rfl) rfl rfl ?_
    rfl
  · rw [if_neg h]
    refine V_region (id := 3) ?_; refine vo_step (ok_move rfl rfl rfl) rfl ?_; refine vo_step (ok_geq rfl rfl rfl rfl (decide_eq_false (by omega))) rfl ?_; refine vo_nil ?_; refine N_seq ?_; refine V_false rfl ?_; refine V_skip ?_; refine N_seq ?_; refine V_seq ?_; refine V_region (id := 5) ?_; refine vo_step (ok_loadA L (vs := [_, _, _, _, _, _]) (src_own rfl) rfl rfl rfl rfl ⟨_, rfl⟩) rfl ?_; refine vo_step (ok_store L rfl rfl rfl rfl rfl rfl rfl rfl) rfl ?_; refine vo_nil ?_; refine N_seq ?_
    refine V_ret L (rs := [.cell 2 52]) rfl (fun _ _ h => h) Since.refl fun u H hH hle => ?_
    refine resK_cellA (src_own rfl) rfl rfl ?_
    rfl
set_option maxHeartbeats 1000000 in
theorem tof_ret {ps : List (Nat × Nat)} {fu : Bool} (hps : ∀ p ∈ ps, p.1 ≤ 255 ∧ p.2 ≤ 255) (hlen : ps.length ≤ 9223372036854775807) {sv : Value} {w : World} {B : Heap} (hB : B.Le (hp w)) (hv : PS2 ps fu sv B) :
    Ret Try.prog 55 [.agg #[sv]] w B (US (tl ps) false) := by
  refine V_enter Try.func55 rfl Try.ntmps55 (Nat.le_of_ble_eq_true rfl) hB ?_
  refine V_seq ?_; refine V_region (id := 0) ?_; refine vo_step (ok_box rfl rfl rfl rfl) rfl ?_; refine vo_step (ok_assign rfl rfl rfl) rfl ?_; refine vo_nil ?_; refine N_seq ?_; refine V_seq ?_; refine V_region (id := 1) ?_; refine vo_step (ok_assign rfl rfl rfl) rfl ?_; refine vo_nil ?_; refine N_seq ?_; refine V_seq ?_; refine V_seq ?_
  refine V_nilR 3 tyU 6 rfl ?_
  refine V_region (id := 2) ?_; refine vo_step (ok_assign rfl rfl rfl) rfl ?_; refine vo_nil ?_; refine N_seq ?_; refine V_block ?_
  have hll := tl_length ps
  refine V_loop (fun i : Nat => [(1, .sat (At [sv] 24 0)), (3, .own (SlR tyU 6 ((tl ps).take i).length (((tl ps).take i).flatMap ucs))), (4, .is (.int .i64 i))])
    (fun i => i ≤ (tl ps).length) (fun i => (tl ps).length - i) 0 (Nat.zero_le _) ⟨rfl, rfl, rfl, trivial⟩ ?_
  rintro i hi
  have hli := List.length_take (i := i) (l := tl ps)
  by_cases h1 : i < ps.length
  · by_cases h2 : i < 20
    · obtain ⟨⟨a, b⟩, hn⟩ := get_some h1
      have hc := ps_at hn
      have hab := hps _ (List.mem_of_getElem? hn)
      have hg := tl_get hn h2
      generalize hgg : oneT a b = t at hg
      refine V_seq ?_; refine V_seq ?_; refine V_region (id := 3) ?_; refine vo_step (ok_move rfl rfl rfl) rfl ?_; refine vo_step (ok_fieldAt L rfl rfl rfl rfl) rfl ?_; refine vo_step (ok_load1 L (src_at rfl) rfl rfl rfl rfl) rfl ?_; refine vo_seen 7 (PS2 ps fu) rfl SlV.mono hv ?_; refine vo_step (ok_lenV L rfl rfl rfl rfl) rfl ?_; refine vo_step (ok_lss rfl rfl rfl rfl (decide_eq_true (by omega))) rfl ?_; refine vo_step (ok_move rfl rfl rfl) rfl ?_; refine vo_step (ok_move rfl rfl rfl) rfl ?_; refine vo_step (ok_lss rfl rfl rfl rfl (decide_eq_true (by omega))) rfl ?_; refine vo_step (ok_pick rfl rfl rfl rfl) rfl ?_; refine vo_nil ?_; refine N_seq ?_; refine V_true rfl ?_; refine V_skip ?_; refine N_seq ?_; refine V_seq ?_; refine V_block ?_; refine V_region (id := 5) ?_; refine vo_step2 (ok_moveO (.inl rfl) rfl rfl rfl rfl) ?_; refine vo_step (ok_fieldAt L rfl rfl rfl rfl) rfl ?_; refine vo_step (ok_load1 L (src_at rfl) rfl rfl rfl rfl) rfl ?_; refine vo_seen 18 (PS2 ps fu) rfl SlV.mono hv ?_; refine vo_step (ok_move rfl rfl rfl) rfl ?_; refine vo_step (ok_indexV L _ rfl rfl rfl rfl rfl rfl rfl (by first | omega | decide) (by assumption)) rfl ?_; refine vo_step (ok_loadPA L (vs := [_, _]) rfl rfl rfl rfl rfl ⟨_, rfl⟩) rfl ?_; refine vo_step (ok_callx (r := uv t) L rfl rfl (blt_lt rfl) rfl rfl rfl (fun u H hH _ _ => hgg ▸ one02_ret a b hab.1 hab.2 hH)) rfl ?_; refine vo_step (ok_buildSlice L rfl rfl rfl rfl rfl rfl rfl rfl rfl) rfl ?_; refine vo_step2 (ok_append L rfl rfl rfl (apd_B rfl) rfl el52 rfl rfl (by omega) (by omega)) ?_; refine vo_step2 (ok_moveO (.inr rfl) rfl rfl rfl rfl) ?_; refine vo_nil ?_; refine N_block ?_; refine N_seq ?_; refine V_region (id := 4) ?_; refine vo_step (ok_move rfl rfl rfl) rfl ?_; refine vo_step (ok_add rfl rfl rfl rfl (wrap_i64 (by omega) (by omega))) rfl ?_; refine vo_step (ok_assign rfl rfl rfl) rfl ?_; refine vo_nil ?_
      exact N_round (x := i) (i + 1) (by omega) (by omega) ⟨rfl, by rw [take_s hg]; exact ups_snoc rfl, rfl, trivial⟩
    · obtain rfl : i = (tl ps).length := by omega
      rw [List.take_length]
      refine V_seq ?_; refine V_seq ?_; refine V_region (id := 3) ?_; refine vo_step (ok_move rfl rfl rfl) rfl ?_; refine vo_step (ok_fieldAt L rfl rfl rfl rfl) rfl ?_; refine vo_step (ok_load1 L (src_at rfl) rfl rfl rfl rfl) rfl ?_; refine vo_seen 7 (PS2 ps fu) rfl SlV.mono hv ?_; refine vo_step (ok_lenV L rfl rfl rfl rfl) rfl ?_; refine vo_step (ok_lss rfl rfl rfl rfl (decide_eq_true (by omega))) rfl ?_; refine vo_step (ok_move rfl rfl rfl) rfl ?_; refine vo_step (ok_move rfl rfl rfl) rfl ?_; refine vo_step (ok_lss rfl rfl rfl rfl (decide_eq_false (by omega))) rfl ?_; refine vo_step (ok_pick rfl rfl rfl rfl) rfl ?_; refine vo_nil ?_; refine N_seq ?_; refine V_false rfl ?_; refine V_exit ?_; refine X_then ?_; refine X_then ?_; refine X_here ?_; refine N_seq ?_; refine V_seq ?_; refine V_region (id := 6) ?_; refine vo_step2 (ok_moveO (.inl rfl) rfl rfl rfl rfl) ?_; refine vo_step2 (ok_moveO (.inr rfl) rfl rfl rfl rfl) ?_; refine vo_nil ?_; refine N_seq ?_
      refine V_pubR 2 rfl ?_
      refine V_ret L (rs := [.tmp 2]) rfl (fun _ _ h => h) Since.refl fun u H hH hle => ?_
      exact fun v hv => hv
  · obtain rfl : i = (tl ps).length := by omega
    rw [List.take_length]
    refine V_seq ?_; refine V_seq ?_; refine V_region (id := 3) ?_; refine vo_step (ok_move rfl rfl rfl) rfl ?_; refine vo_step (ok_fieldAt L rfl rfl rfl rfl) rfl ?_; refine vo_step (ok_load1 L (src_at rfl) rfl rfl rfl rfl) rfl ?_; refine vo_seen 7 (PS2 ps fu) rfl SlV.mono hv ?_; refine vo_step (ok_lenV L rfl rfl rfl rfl) rfl ?_; refine vo_step (ok_lss rfl rfl rfl rfl (decide_eq_false (by omega))) rfl ?_; refine vo_step (ok_move rfl rfl rfl) rfl ?_; refine vo_step (ok_skip rfl (blt_lt rfl) rfl) rfl ?_; refine vo_step (ok_skip rfl (blt_lt rfl) rfl) rfl ?_; refine vo_step (ok_pick rfl rfl rfl rfl) rfl ?_; refine vo_nil ?_; refine N_seq ?_; refine V_false rfl ?_; refine V_exit ?_; refine X_then ?_; refine X_then ?_; refine X_here ?_; refine N_seq ?_; refine V_seq ?_; refine V_region (id := 6) ?_; refine vo_step2 (ok_moveO (.inl rfl) rfl rfl rfl rfl) ?_; refine vo_step2 (ok_moveO (.inr rfl) rfl rfl rfl rfl) ?_; refine vo_nil ?_; refine N_seq ?_
    refine V_pubR 2 rfl ?_
    refine V_ret L (rs := [.tmp 2]) rfl (fun _ _ h => h) Since.refl fun u H hH hle => ?_
    exact fun v hv => hv
end Go.V.L2
/- The kit's floor of bits. -/
namespace Go.V
open Go.Proofs Go.RowKit
section
variable {P : Program} {F : Fr} {B : Heap} {O : Boxes} {n : Nat} {ops : Array Oper} {κ : Kap} {d : Nat} {ty : TypeId} {pos : String} {aft : Array Edge} {g : Option (Nat × Bool)}
end
end Go.V
/- The walks of the statements' helpers on filters (chapter 3): what is handed in. -/
namespace Go.V.L3
open Go.Proofs Go.RowKit Go.V Go.V.L2
attribute [local irreducible] V N X VO Par StepOK Has Ret RetL RetO RetT Src
end Go.V.L3
/- strings.ContainsAny at the two marks. -/
namespace Go.V.L3
open Go.Proofs Go.RowKit Go.V Go.V.L2
attribute [local irreducible] V N X VO Par StepOK Has Ret RetL RetO RetT Src
end Go.V.L3
/- The walk of the definition of filters (chapter 3): the text of a filter. -/
namespace Go.V.L3
open Go.Proofs Go.RowKit Go.V Go.V.L2
attribute [local irreducible] V N X VO Par StepOK Has Ret RetL RetO RetT Src
end Go.V.L3
/- The examples of chapter 3. -/
namespace Go.V.L3
open Go.Proofs Go.RowKit Go.V Go.V.L2
attribute [local irreducible] V N X VO Par StepOK Has Ret RetL RetO RetT Src
end Go.V.L3
/- The examples of chapter 6. -/
namespace Go.V.L6
open Go.Proofs Go.RowKit Go.V Go.V.L2 Go.V.L3
abbrev d0 : U := (((⟨#[100, 111, 99]⟩, ⟨#[97]⟩), ⟨#[118, 105, 101, 119, 101, 114]⟩), ((⟨#[117, 115, 101, 114]⟩, ⟨#[120]⟩), ⟨#[]⟩))
abbrev d1 : U := (((⟨#[100, 111, 99]⟩, ⟨#[97]⟩), ⟨#[118, 105, 101, 119, 101, 114]⟩), ((⟨#[103, 114, 111, 117, 112]⟩, ⟨#[103]⟩), ⟨#[109, 101, 109, 98, 101, 114]⟩))
abbrev d2 : U := (((⟨#[100, 111, 99]⟩, ⟨#[98]⟩), ⟨#[118, 105, 101, 119, 101, 114]⟩), ((⟨#[117, 115, 101, 114]⟩, ⟨#[120]⟩), ⟨#[]⟩))
def tzB (t : U) : Bool := decide (t.1.1.1.size ≤ 1000) && decide (t.1.1.2.size ≤ 1000) && decide (t.1.2.size ≤ 1000) && decide (t.2.1.1.size ≤ 1000) && decide (t.2.1.2.size ≤ 1000) && decide (t.2.2.size ≤ 1000)
theorem tz_ofB {t : U} (h : tzB t = true) : TZ t := by
  unfold tzB at h
  simp only [Bool.and_eq_true, decide_eq_true_eq] at h
  unfold TZ; omega
attribute [local irreducible] V N X VO Par StepOK Has Ret RetL RetO RetT Src
end Go.V.L6
/- Sets as plain data (chapter 6): what the statements' inputs are. -/
namespace Go.V.L6
open Go.Proofs Go.RowKit Go.V Go.V.L2 Go.V.L3
abbrev ty3 : TypeId := 108
/-- A change's three numbers. -/
abbrev C3 := Nat × Nat × Nat
def qcs (p : C3) : List Value := [.int .u8 p.1, .int .u8 p.2.1, .int .u8 p.2.2]
theorem qcs_len (p : C3) : (qcs p).length = 3 := rfl
abbrev PS3 (cs : List C3) (fu : Bool) : Value → Heap → Prop := SlV ty3 3 (cs.flatMap qcs) cs.length fu
theorem ps3_at {cs : List C3} {j : Nat} {a b c : Nat} (h : cs[j]? = some (a, b, c)) : ((cs.flatMap qcs).drop (j * 3)).take 3 = [.int .u8 a, .int .u8 b, .int .u8 c] := flatMap_at qcs_len cs j _ h
def drB (c : Nat) : Bool := decide (c % 2 = 1)
def stepS (l : List U) (c : C3) : List U := (withU l (oneT c.1 c.2.1) (drB c.2.2)).1
def sOf (ps : List (Nat × Nat)) (cs : List C3) : List U := (cs.take 30).foldl stepS (sortT (tl ps))
/-- A list of valid tuples that is sorted. -/
structure SOK (l : List U) : Prop where
  sst : Sst cmpT l
  tz : ∀ t ∈ l, TZ t
  ok : ∀ t ∈ l, tE t = 0
theorem withU_ok {l : List U} (h : SOK l) {x : U} (hz : TZ x) (hx : tE x = 0) (d : Bool) (hl : l.length < 4096) : SOK (withU l x d).1 ∧ (withU l x d).2 = 0 ∧ (withU l x d).1.length ≤ l.length + 1 := by
  refine ⟨⟨withU_sst h.sst x d, fun t ht => ?_, fun t ht => ?_⟩, ?_⟩
  · rcases withU_mem ht with ht | rfl
    · exact h.tz t ht
    · exact hz
  · rcases withU_mem ht with ht | rfl
    · exact h.ok t ht
    · exact hx
  · unfold withU
    rw [if_pos hx]
    split
    · exact ⟨rfl, Nat.le_succ_of_le (List.length_filter_le _ _)⟩
    · split
      · exact ⟨rfl, Nat.le_succ _⟩
      · rw [if_neg (by omega), insS_length]; exact ⟨rfl, Nat.le_refl _⟩
theorem stepS_ok {l : List U} (h : SOK l) (c : C3) (hl : l.length < 4096) : SOK (stepS l c) ∧ (withU l (oneT c.1 c.2.1) (drB c.2.2)).2 = 0 ∧ (stepS l c).length ≤ l.length + 1 := withU_ok h (oneT_size _ _) (oneT_ok _ _) _ hl
theorem sortT_ok (ps : List (Nat × Nat)) : SOK (sortT (tl ps)) ∧ (sortT (tl ps)).length ≤ 20 := by
  have hm : ∀ t ∈ sortT (tl ps), TZ t ∧ tE t = 0 := fun t ht => tl_mem (by unfold sortT at ht; simpa using mem_sortS.1 ht)
  refine ⟨⟨sst_sortS cmpT_ord Sst.nil, fun t ht => (hm t ht).1, fun t ht => (hm t ht).2⟩, ?_⟩
  have h1 := sortT_length (tl ps)
  have h2 := tl_length ps
  omega
theorem fold_ok : ∀ (cs : List C3) {l : List U}, SOK l → l.length + cs.length < 4096 → SOK (cs.foldl stepS l) ∧ (cs.foldl stepS l).length ≤ l.length + cs.length
  | [], l, h, _ => ⟨h, Nat.le_refl _⟩
  | c :: cs, l, h, hl => by
    simp only [List.length_cons] at hl
    obtain ⟨h1, _, h3⟩ := stepS_ok h c (by omega)
    obtain ⟨g1, g2⟩ := fold_ok cs h1 (by omega)
    exact ⟨g1, by simp only [List.foldl_cons, List.length_cons]; omega⟩
theorem sOf_ok (ps : List (Nat × Nat)) (cs : List C3) : SOK (sOf ps cs) ∧ (sOf ps cs).length ≤ 50 := by
  obtain ⟨h1, h2⟩ := sortT_ok ps
  have h3 : (cs.take 30).length ≤ 30 := by rw [List.length_take]; omega
  obtain ⟨g1, g2⟩ := fold_ok (cs.take 30) h1 (by omega)
  exact ⟨g1, by unfold sOf; omega⟩
theorem fold_take {cs : List C3} {i : Nat} {c : C3} (h : cs[i]? = some c) (l : List U) : (cs.take (i + 1)).foldl stepS l = stepS ((cs.take i).foldl stepS l) c := by
  rw [List.take_add_one, h]
  simp
attribute [local irreducible] V N X VO Par StepOK Has Ret RetL RetO RetT Src
theorem rem_u8 (c : Nat) : Int.tmod (c : Int) 2 = ((c % 2 : Nat) : Int) := rfl
theorem change_r {a b c : Nat} {x : U} {d : Bool} (hx : oneT a b = x) (hd : drB c = d) (ha : a ≤ 255) (hb : b ≤ 255) (hc : c ≤ 255) {w : World} {B : Heap} (hB : B.Le (hp w)) : Ret Try.prog 57 [.agg #[.int .u8 a, .int .u8 b, .int .u8 c]] w B (fun v _ => v = chv x d) := by
  subst hx hd
  have hr := rem_u8 c
  refine V_enter Try.func57 rfl Try.ntmps57 (Nat.le_of_ble_eq_true rfl) hB ?_
  by_cases h1 : c % 2 = 1
  · have e1 : drB c = true := decide_eq_true h1
    rw [e1]
    refine V_seq ?_; refine V_region (id := 0) ?_; refine vo_step (ok_box rfl rfl rfl rfl) rfl ?_; refine vo_step (ok_alloc L rfl rfl rfl rfl) rfl ?_; refine vo_nil ?_; refine N_seq ?_; refine V_seq ?_; refine V_regionD (id := 1) [] mixed (by kernel_rfl) ?_; refine par_step (ok_indexArS L _ rfl rfl rfl rfl ar108 rfl rfl (by first | omega | decide)) rfl ?_; refine par_step (ok_load1 L (src_at rfl) rfl rfl rfl rfl) rfl ?_; refine par_step (ok_indexArS L _ rfl rfl rfl rfl ar108 rfl rfl (by first | omega | decide)) rfl ?_; refine par_step (ok_load1 L (src_at rfl) rfl rfl rfl rfl) rfl ?_; refine par_step (ok_build (cs := [_, _]) rfl rfl pl134 rfl rfl) rfl ?_; refine par_step (ok_callx L rfl rfl (blt_lt rfl) rfl rfl rfl (fun u H hH _ _ => one02_ret a b ha hb hH)) rfl ?_; refine par_step (ok_indexArS L _ rfl rfl rfl rfl ar108 rfl rfl (by first | omega | decide)) rfl ?_; refine par_step (ok_load1 L (src_at rfl) rfl rfl rfl rfl) rfl ?_; refine par_step (ok_rem rfl rfl rfl rfl (by omega) (by assumption)) rfl ?_; refine par_step (ok_eql rfl rfl rfl rfl (decide_eq_true (by omega))) rfl ?_; refine par_step (ok_build (cs := [_, _, _, _, _, _, _]) rfl rfl pl67 rfl rfl) rfl ?_; refine par_step (ok_store L rfl rfl rfl rfl rfl rfl rfl rfl) rfl ?_; refine par_nil ?_; refine N_seq ?_
    refine V_ret L (rs := [.cell 2 67]) rfl (fun _ _ h => h) Since.refl fun u H hH hle => ?_
    refine resK_cellA (src_own rfl) rfl rfl ?_
    rfl
  · have e1 : drB c = false := decide_eq_false h1
    rw [e1]
    refine V_seq ?_; refine V_region (id := 0) ?_; refine vo_step (ok_box rfl rfl rfl rfl) rfl ?_; refine vo_step (ok_alloc L rfl rfl rfl rfl) rfl ?_; refine vo_nil ?_; refine N_seq ?_; refine V_seq ?_; refine V_regionD (id := 1) [] mixed (by kernel_rfl) ?_; refine par_step (ok_indexArS L _ rfl rfl rfl rfl ar108 rfl rfl (by first | omega | decide)) rfl ?_; refine par_step (ok_load1 L (src_at rfl) rfl rfl rfl rfl) rfl ?_; refine par_step (ok_indexArS L _ rfl rfl rfl rfl ar108 rfl rfl (by first | omega | decide)) rfl ?_; refine par_step (ok_load1 L (src_at rfl) rfl rfl rfl rfl) rfl ?_; refine par_step (ok_build (cs := [_, _]) rfl rfl pl134 rfl rfl) rfl ?_; refine par_step (ok_callx L rfl rfl (blt_lt rfl) rfl rfl rfl (fun u H hH _ _ => one02_ret a b ha hb hH)) rfl ?_; refine par_step (ok_indexArS L _ rfl rfl rfl rfl ar108 rfl rfl (by first | omega | decide)) rfl ?_; refine par_step (ok_load1 L (src_at rfl) rfl rfl rfl rfl) rfl ?_; refine par_step (ok_rem rfl rfl rfl rfl (by omega) (by assumption)) rfl ?_; refine par_step (ok_eql rfl rfl rfl rfl (decide_eq_false (by omega))) rfl ?_; refine par_step (ok_build (cs := [_, _, _, _, _, _, _]) rfl rfl pl67 rfl rfl) rfl ?_; refine par_step (ok_store L rfl rfl rfl rfl rfl rfl rfl rfl) rfl ?_; refine par_nil ?_; refine N_seq ?_
    refine V_ret L (rs := [.cell 2 67]) rfl (fun _ _ h => h) Since.refl fun u H hH hle => ?_
    refine resK_cellA (src_own rfl) rfl rfl ?_
    rfl
set_option maxHeartbeats 1000000 in
theorem sof6_ret {ps : List (Nat × Nat)} {cs : List C3} {fx fc : Bool} {M : List U} (hM : sOf ps cs = M) (hps : ∀ p ∈ ps, p.1 ≤ 255 ∧ p.2 ≤ 255) (lps : ps.length ≤ 9223372036854775807) (hcs : ∀ c ∈ cs, c.1 ≤ 255 ∧ c.2.1 ≤ 255 ∧ c.2.2 ≤ 255) (lcs : cs.length ≤ 9223372036854775807)
    {sx cx : Value} {w : World} {B : Heap} (hB : B.Le (hp w)) (hx : PS2 ps fx sx B) (hc : PS3 cs fc cx B) : Ret Try.prog 13 [.agg #[sx, cx]] w B (US M false) := by
  have ofx : ∀ (w : World) (B : Heap), B.Le (hp w) → PS2 ps fx sx B → Ret Try.prog 55 [.agg #[sx]] w B (US (tl ps) false) := fun w B hB hv => tof_ret hps lps hB hv
  obtain ⟨ok0, l0⟩ := sortT_ok ps
  have zp : ∀ t ∈ tl ps, TZ t := fun t ht => (tl_mem ht).1
  have lp := tl_length ps
  unfold sOf at hM
  have rsx := fun (v : Value) (w : World) (B : Heap) (hB : B.Le (hp w)) (hv : US (tl ps) false v B) => rsorted_ret (l := tl ps) (by omega) zp hB hv
  have hrs : sortS cmpT [] (tl ps) = sortT (tl ps) := rfl
  generalize sortT (tl ps) = l1 at *
  generalize tl ps = p at *
  refine V_enter Try.func13 rfl Try.ntmps13 (Nat.le_of_ble_eq_true rfl) hB ?_
  refine V_seq ?_; refine V_region (id := 0) ?_; refine vo_step (ok_box rfl rfl rfl rfl) rfl ?_; refine vo_step (ok_assign rfl rfl rfl) rfl ?_; refine vo_nil ?_; refine N_seq ?_; refine V_seq ?_; refine V_region (id := 1) ?_; refine vo_step (ok_fieldAt L rfl rfl rfl rfl) rfl ?_; refine vo_step (ok_loadA L (vs := [_]) (src_at rfl) rfl rfl rfl rfl ⟨_, rfl⟩) rfl ?_; refine vo_step (ok_call (φ := US p false) L rfl rfl (blt_lt rfl) rfl rfl rfl SlV.mono (fun u H hH hle _ => ofx _ _ hH (hx.le hle))) rfl ?_; refine vo_step (ok_call (φ := US l1 false) L rfl rfl (blt_lt rfl) rfl rfl rfl SlV.mono (fun u H hH _ _ v1 h1 => rsx _ _ _ hH h1)) rfl ?_; refine vo_step (ok_assigns' rfl rfl rfl) rfl ?_; refine vo_nil ?_; refine N_seq ?_; refine V_seq ?_; refine V_seq ?_; refine V_region (id := 2) ?_; refine vo_step (ok_assign rfl rfl rfl) rfl ?_; refine vo_nil ?_; refine N_seq ?_; refine V_block ?_
  refine V_loop (fun i : Nat => [(1, .sat (At [sx, cx] 27 0)), (3, .sat (US ((cs.take i).foldl stepS l1) false)), (4, .is (.int .i64 i))])
    (fun i => i ≤ (cs.take 30).length) (fun i => (cs.take 30).length - i) 0 (Nat.zero_le _) ⟨rfl, rfl, rfl, trivial⟩ ?_
  rintro i hi
  have h30 : (cs.take 30).length = min 30 cs.length := List.length_take
  have hfin : i = (cs.take 30).length → (cs.take i).foldl stepS l1 = M := fun e => by
    rw [← hM, e, h30]
    congr 1
    exact (List.take_eq_take_min (l := cs) (i := 30)).symm
  by_cases h1 : i < cs.length
  · by_cases h2 : i < 30
    · obtain ⟨⟨a, b, c⟩, hn⟩ := get_some h1
      have hcc := ps3_at hn
      obtain ⟨ka, kb, kc⟩ := hcs _ (List.mem_of_getElem? hn)
      dsimp only at ka kb kc
      have hst := fold_take hn l1
      obtain ⟨okl, ll⟩ := fold_ok (cs.take i) ok0 (by rw [List.length_take]; omega)
      rw [List.length_take] at ll
      obtain ⟨_, he, _⟩ := stepS_ok okl (a, b, c) (by omega)
      have hw : withU ((cs.take i).foldl stepS l1) (oneT a b) (drB c) = (stepS ((cs.take i).foldl stepS l1) (a, b, c), 0) := Prod.ext rfl he
      rw [← hst] at hw
      have hmono : Kn.mono (.sat (US ((cs.take (i + 1)).foldl stepS l1) false)) := SlV.mono
      have hz1 := oneT_size a b
      generalize hxx : oneT a b = x at hw hz1
      generalize hdd : drB c = d at hw
      refine V_seq ?_; refine V_seq ?_; refine V_region (id := 3) ?_; refine vo_step (ok_move rfl rfl rfl) rfl ?_; refine vo_step (ok_fieldAt L rfl rfl rfl rfl) rfl ?_; refine vo_step (ok_load1 L (src_at rfl) rfl rfl rfl rfl) rfl ?_; refine vo_seen 11 (PS3 cs fc) rfl SlV.mono hc ?_; refine vo_step (ok_lenV L rfl rfl rfl rfl) rfl ?_; refine vo_step (ok_lss rfl rfl rfl rfl (decide_eq_true (by omega))) rfl ?_; refine vo_step (ok_move rfl rfl rfl) rfl ?_; refine vo_step (ok_move rfl rfl rfl) rfl ?_; refine vo_step (ok_lss rfl rfl rfl rfl (decide_eq_true (by omega))) rfl ?_; refine vo_step (ok_pick rfl rfl rfl rfl) rfl ?_; refine vo_nil ?_; refine N_seq ?_; refine V_true rfl ?_; refine V_skip ?_; refine N_seq ?_; refine V_seq ?_; refine V_block ?_; refine V_region (id := 5) ?_; refine vo_step (ok_moves' rfl rfl rfl) rfl ?_; refine vo_step (ok_fieldAt L rfl rfl rfl rfl) rfl ?_; refine vo_step (ok_load1 L (src_at rfl) rfl rfl rfl rfl) rfl ?_; refine vo_seen 23 (PS3 cs fc) rfl SlV.mono hc ?_; refine vo_step (ok_move rfl rfl rfl) rfl ?_; refine vo_step (ok_indexV L _ rfl rfl rfl rfl rfl rfl rfl (by first | omega | decide) (by assumption)) rfl ?_; refine vo_step (ok_loadPA L (vs := [_, _, _]) rfl rfl rfl rfl rfl ⟨_, rfl⟩) rfl ?_; refine vo_step (ok_callx L rfl rfl (blt_lt rfl) rfl rfl rfl (fun u H hH _ _ => change_r hxx hdd ka kb kc hH)) rfl ?_; refine vo_step (ok_call (φ := R6 ((cs.take (i + 1)).foldl stepS l1) 0) L rfl rfl (blt_lt rfl) rfl rfl rfl R6.mono (fun u H hH _ _ v1 h1 => rwith_ret hw okl.sst (by omega) hz1 okl.tz hH h1)) rfl ?_; refine vo_step (ok_moves' rfl rfl rfl) rfl ?_; refine vo_step (ok_extracts rfl rfl rfl rfl (by assumption)) rfl ?_; refine vo_step (ok_extractx rfl rfl rfl rfl) rfl ?_; refine vo_step (ok_assigns' rfl rfl rfl) rfl ?_; refine vo_nil ?_; refine N_block ?_; refine N_seq ?_; refine V_region (id := 4) ?_; refine vo_step (ok_move rfl rfl rfl) rfl ?_; refine vo_step (ok_add rfl rfl rfl rfl (wrap_i64 (by omega) (by omega))) rfl ?_; refine vo_step (ok_assign rfl rfl rfl) rfl ?_; refine vo_nil ?_
      exact N_round (x := i) (i + 1) (by omega) (by omega) ⟨rfl, rfl, rfl, trivial⟩
    · obtain he := hfin (by omega)
      rw [he]
      refine V_seq ?_; refine V_seq ?_; refine V_region (id := 3) ?_; refine vo_step (ok_move rfl rfl rfl) rfl ?_; refine vo_step (ok_fieldAt L rfl rfl rfl rfl) rfl ?_; refine vo_step (ok_load1 L (src_at rfl) rfl rfl rfl rfl) rfl ?_; refine vo_seen 11 (PS3 cs fc) rfl SlV.mono hc ?_; refine vo_step (ok_lenV L rfl rfl rfl rfl) rfl ?_; refine vo_step (ok_lss rfl rfl rfl rfl (decide_eq_true (by omega))) rfl ?_; refine vo_step (ok_move rfl rfl rfl) rfl ?_; refine vo_step (ok_move rfl rfl rfl) rfl ?_; refine vo_step (ok_lss rfl rfl rfl rfl (decide_eq_false (by omega))) rfl ?_; refine vo_step (ok_pick rfl rfl rfl rfl) rfl ?_; refine vo_nil ?_; refine N_seq ?_; refine V_false rfl ?_; refine V_exit ?_; refine X_then ?_; refine X_then ?_; refine X_here ?_; refine N_seq ?_; refine V_seq ?_; refine V_region (id := 6) ?_; refine vo_step (ok_moves' rfl rfl rfl) rfl ?_; refine vo_step (ok_assigns' rfl rfl rfl) rfl ?_; refine vo_nil ?_; refine N_seq ?_
      refine V_ret L (rs := [.tmp 2]) rfl (fun _ _ h => h) Since.refl fun u H hH hle => ?_
      exact fun v hv => hv
  · obtain he := hfin (by omega)
    rw [he]
    refine V_seq ?_; refine V_seq ?_; refine V_region (id := 3) ?_; refine vo_step (ok_move rfl rfl rfl) rfl ?_; refine vo_step (ok_fieldAt L rfl rfl rfl rfl) rfl ?_; refine vo_step (ok_load1 L (src_at rfl) rfl rfl rfl rfl) rfl ?_; refine vo_seen 11 (PS3 cs fc) rfl SlV.mono hc ?_; refine vo_step (ok_lenV L rfl rfl rfl rfl) rfl ?_; refine vo_step (ok_lss rfl rfl rfl rfl (decide_eq_false (by omega))) rfl ?_; refine vo_step (ok_move rfl rfl rfl) rfl ?_; refine vo_step (ok_skip rfl (blt_lt rfl) rfl) rfl ?_; refine vo_step (ok_skip rfl (blt_lt rfl) rfl) rfl ?_; refine vo_step (ok_pick rfl rfl rfl rfl) rfl ?_; refine vo_nil ?_; refine N_seq ?_; refine V_false rfl ?_; refine V_exit ?_; refine X_then ?_; refine X_then ?_; refine X_here ?_; refine N_seq ?_; refine V_seq ?_; refine V_region (id := 6) ?_; refine vo_step (ok_moves' rfl rfl rfl) rfl ?_; refine vo_step (ok_assigns' rfl rfl rfl) rfl ?_; refine vo_nil ?_; refine N_seq ?_
    refine V_ret L (rs := [.tmp 2]) rfl (fun _ _ h => h) Since.refl fun u H hH hle => ?_
    exact fun v hv => hv
end Go.V.L6
/- Plain laws for the statements of chapter 6. -/
namespace Go.V.L6
open Go.Proofs Go.RowKit Go.V Go.V.L2 Go.V.L3
theorem ofU_sort : ∀ (r : List U) {out : List U}, (∀ t ∈ r, tE t = 0) → out.length + r.length ≤ 4096 → ofU out r = (sortS cmpT out r, 0)
  | [], _, _, _ => rfl
  | t :: r, out, hr, hl => by
    simp only [List.length_cons] at hl
    have h1 : withU out t false = (if t ∈ out then out else insS cmpT t out, 0) := by
      unfold withU
      rw [if_pos (hr t (List.mem_cons_self ..)), if_neg (by decide)]
      split
      · rfl
      · rw [if_neg (by omega)]
    rw [ofU, h1, if_pos rfl, sortS_cons]
    refine ofU_sort r (out := if t ∈ out then out else insS cmpT t out) (fun z hz => hr z (List.mem_cons_of_mem _ hz)) ?_
    split
    · omega
    · rw [insS_length]; omega
theorem ofU_self {l : List U} (h : SOK l) (hl : l.length ≤ 4096) : ofU [] l = (l, 0) := by
  rw [ofU_sort l h.ok (by simpa using hl), sortS_self cmpT_ord h.sst]
end Go.V.L6
/- The helpers of the laws of deltas (chapter 7): lists of changes out of plain data. -/
namespace Go.V.L8
open Go.Proofs Go.RowKit Go.V Go.V.L2 Go.V.L3 Go.V.L6
def fC (c : C3) : CH := (oneT c.1 c.2.1, drB c.2.2)
def dOf (cs : List C3) : List CH := (cs.take 30).map fC
theorem dOf_len (cs : List C3) : (dOf cs).length ≤ 30 := by unfold dOf; rw [List.length_map, List.length_take]; omega
attribute [local irreducible] V N X VO Par StepOK Has Ret RetL RetO RetT Src
set_option maxHeartbeats 1000000 in
theorem dof_ret {cs : List C3} {fc : Bool} {M : List CH} (hM : dOf cs = M) (hcs : ∀ c ∈ cs, c.1 ≤ 255 ∧ c.2.1 ≤ 255 ∧ c.2.2 ≤ 255) (lcs : cs.length ≤ 9223372036854775807)
    {cx : Value} {w : World} {B : Heap} (hB : B.Le (hp w)) (hc : PS3 cs fc cx B) : Ret Try.prog 34 [.agg #[cx]] w B (KS tyC M false) := by
  refine V_enter Try.func34 rfl Try.ntmps34 (Nat.le_of_ble_eq_true rfl) hB ?_
  refine V_seq ?_; refine V_region (id := 0) ?_; refine vo_step (ok_box rfl rfl rfl rfl) rfl ?_; refine vo_step (ok_assign rfl rfl rfl) rfl ?_; refine vo_nil ?_; refine N_seq ?_; refine V_seq ?_; refine V_region (id := 1) ?_; refine vo_step (ok_assign rfl rfl rfl) rfl ?_; refine vo_nil ?_; refine N_seq ?_; refine V_seq ?_; refine V_seq ?_; refine V_region (id := 2) ?_; refine vo_step (ok_assign rfl rfl rfl) rfl ?_; refine vo_nil ?_; refine N_seq ?_; refine V_block ?_
  refine V_nilR 3 tyC 7 rfl ?_
  refine V_loop (fun y : Nat × List CH => [(1, .sat (At [cx] 29 0)), (3, .own (SlR tyC 7 y.2.length (y.2.flatMap ccs))), (4, .is (.int .i64 y.1))])
    (fun y => y.1 ≤ (cs.take 30).length ∧ y.2 = (cs.take y.1).map fC) (fun y => (cs.take 30).length - y.1) (0, []) ⟨Nat.zero_le _, rfl⟩ ⟨rfl, rfl, rfl, trivial⟩ ?_
  rintro ⟨i, out⟩ ⟨hi, ho⟩
  dsimp only at hi ho ⊢
  have h30 : (cs.take 30).length = min 30 cs.length := List.length_take
  have hol : out.length = i := by rw [ho, List.length_map, List.length_take]; omega
  have hfin : i = (cs.take 30).length → out = M := fun e => by
    rw [← hM, ho, e, h30]
    unfold dOf
    congr 1
    exact (List.take_eq_take_min (l := cs) (i := 30)).symm
  by_cases h1 : i < cs.length
  · by_cases h2 : i < 30
    · obtain ⟨⟨a, b, c⟩, hn⟩ := get_some h1
      have hcc := ps3_at hn
      obtain ⟨ka, kb, kc⟩ := hcs _ (List.mem_of_getElem? hn)
      dsimp only at ka kb kc
      have hnx : out ++ [(oneT a b, drB c)] = (cs.take (i + 1)).map fC := by rw [List.take_add_one, hn, List.map_append, ho]; rfl
      generalize hxx : oneT a b = x at hnx
      generalize hdd : drB c = d at hnx
      refine V_seq ?_; refine V_seq ?_; refine V_region (id := 3) ?_; refine vo_step (ok_move rfl rfl rfl) rfl ?_; refine vo_step (ok_fieldAt L rfl rfl rfl rfl) rfl ?_; refine vo_step (ok_load1 L (src_at rfl) rfl rfl rfl rfl) rfl ?_; refine vo_seen 7 (PS3 cs fc) rfl SlV.mono hc ?_; refine vo_step (ok_lenV L rfl rfl rfl rfl) rfl ?_; refine vo_step (ok_lss rfl rfl rfl rfl (decide_eq_true (by omega))) rfl ?_; refine vo_step (ok_move rfl rfl rfl) rfl ?_; refine vo_step (ok_move rfl rfl rfl) rfl ?_; refine vo_step (ok_lss rfl rfl rfl rfl (decide_eq_true (by omega))) rfl ?_; refine vo_step (ok_pick rfl rfl rfl rfl) rfl ?_; refine vo_nil ?_; refine N_seq ?_; refine V_true rfl ?_; refine V_skip ?_; refine N_seq ?_; refine V_seq ?_; refine V_block ?_; refine V_region (id := 5) ?_; refine vo_step2 (ok_moveO (.inl rfl) rfl rfl rfl rfl) ?_; refine vo_step (ok_fieldAt L rfl rfl rfl rfl) rfl ?_; refine vo_step (ok_load1 L (src_at rfl) rfl rfl rfl rfl) rfl ?_; refine vo_seen 18 (PS3 cs fc) rfl SlV.mono hc ?_; refine vo_step (ok_move rfl rfl rfl) rfl ?_; refine vo_step (ok_indexV L _ rfl rfl rfl rfl rfl rfl rfl (by first | omega | decide) (by assumption)) rfl ?_; refine vo_step (ok_loadPA L (vs := [_, _, _]) rfl rfl rfl rfl rfl ⟨_, rfl⟩) rfl ?_; refine vo_step (ok_callx L rfl rfl (blt_lt rfl) rfl rfl rfl (fun u H hH _ _ => change_r hxx hdd ka kb kc hH)) rfl ?_; refine vo_step (ok_buildSlice L rfl rfl rfl rfl rfl rfl rfl rfl rfl) rfl ?_; refine vo_step2 (ok_append L rfl rfl rfl (apd_B rfl) rfl el67 rfl rfl (by omega) (by omega)) ?_; refine vo_step2 (ok_moveO (.inr rfl) rfl rfl rfl rfl) ?_; refine vo_nil ?_; refine N_block ?_; refine N_seq ?_; refine V_region (id := 4) ?_; refine vo_step (ok_move rfl rfl rfl) rfl ?_; refine vo_step (ok_add rfl rfl rfl rfl (wrap_i64 (by omega) (by omega))) rfl ?_; refine vo_step (ok_assign rfl rfl rfl) rfl ?_; refine vo_nil ?_
      exact N_round (x := (i, out)) (i + 1, out ++ [(x, d)]) ⟨by dsimp only; omega, hnx⟩ (by dsimp only; omega) ⟨rfl, ks_snoc rfl, rfl, trivial⟩
    · obtain he := hfin (by omega)
      subst he
      refine V_seq ?_; refine V_seq ?_; refine V_region (id := 3) ?_; refine vo_step (ok_move rfl rfl rfl) rfl ?_; refine vo_step (ok_fieldAt L rfl rfl rfl rfl) rfl ?_; refine vo_step (ok_load1 L (src_at rfl) rfl rfl rfl rfl) rfl ?_; refine vo_seen 7 (PS3 cs fc) rfl SlV.mono hc ?_; refine vo_step (ok_lenV L rfl rfl rfl rfl) rfl ?_; refine vo_step (ok_lss rfl rfl rfl rfl (decide_eq_true (by omega))) rfl ?_; refine vo_step (ok_move rfl rfl rfl) rfl ?_; refine vo_step (ok_move rfl rfl rfl) rfl ?_; refine vo_step (ok_lss rfl rfl rfl rfl (decide_eq_false (by omega))) rfl ?_; refine vo_step (ok_pick rfl rfl rfl rfl) rfl ?_; refine vo_nil ?_; refine N_seq ?_; refine V_false rfl ?_; refine V_exit ?_; refine X_then ?_; refine X_then ?_; refine X_here ?_; refine N_seq ?_; refine V_seq ?_
      refine V_pubR 3 rfl ?_
      refine V_region (id := 6) ?_; refine vo_step (ok_moves' rfl rfl rfl) rfl ?_; refine vo_step (ok_assigns' rfl rfl rfl) rfl ?_; refine vo_nil ?_; refine N_seq ?_
      refine V_ret L (rs := [.tmp 2]) rfl (fun _ _ h => h) Since.refl fun u H hH hle => ?_
      exact fun v hv => hv
  · obtain he := hfin (by omega)
    subst he
    refine V_seq ?_; refine V_seq ?_; refine V_region (id := 3) ?_; refine vo_step (ok_move rfl rfl rfl) rfl ?_; refine vo_step (ok_fieldAt L rfl rfl rfl rfl) rfl ?_; refine vo_step (ok_load1 L (src_at rfl) rfl rfl rfl rfl) rfl ?_; refine vo_seen 7 (PS3 cs fc) rfl SlV.mono hc ?_; refine vo_step (ok_lenV L rfl rfl rfl rfl) rfl ?_; refine vo_step (ok_lss rfl rfl rfl rfl (decide_eq_false (by omega))) rfl ?_; refine vo_step (ok_move rfl rfl rfl) rfl ?_; refine vo_step (ok_skip rfl (blt_lt rfl) rfl) rfl ?_; refine vo_step (ok_skip rfl (blt_lt rfl) rfl) rfl ?_; refine vo_step (ok_pick rfl rfl rfl rfl) rfl ?_; refine vo_nil ?_; refine N_seq ?_; refine V_false rfl ?_; refine V_exit ?_; refine X_then ?_; refine X_then ?_; refine X_here ?_; refine N_seq ?_; refine V_seq ?_
    refine V_pubR 3 rfl ?_
    refine V_region (id := 6) ?_; refine vo_step (ok_moves' rfl rfl rfl) rfl ?_; refine vo_step (ok_assigns' rfl rfl rfl) rfl ?_; refine vo_nil ?_; refine N_seq ?_
    refine V_ret L (rs := [.tmp 2]) rfl (fun _ _ h => h) Since.refl fun u H hH hle => ?_
    exact fun v hv => hv
end Go.V.L8
/- Plain laws for the statements of chapter 8. -/
namespace Go.V.L8
open Go.Proofs Go.RowKit Go.V Go.V.L2 Go.V.L3 Go.V.L6
theorem withU_mem2 {l : List U} {x : U} {d : Bool} (h0 : (withU l x d).2 = 0) (z : U) : z ∈ (withU l x d).1 ↔ if z = x then d = false else z ∈ l := by
  unfold withU at h0 ⊢
  by_cases ht : tE x = 0
  · rw [if_pos ht] at h0 ⊢
    cases d with
    | true =>
      rw [if_pos rfl]
      dsimp only
      rw [List.mem_filter, decide_eq_true_eq]
      by_cases hz : z = x
      · rw [if_pos hz]; simp [hz]
      · rw [if_neg hz]; simp [hz]
    | false =>
      rw [if_neg (by decide)] at h0 ⊢
      by_cases hx : x ∈ l
      · rw [if_pos hx]
        by_cases hz : z = x
        · rw [if_pos hz, hz]; simp [hx]
        · rw [if_neg hz]
      · rw [if_neg hx] at h0 ⊢
        by_cases hl : l.length ≥ 4096
        · rw [if_pos hl] at h0; exact absurd h0 (by decide)
        · rw [if_neg hl]
          dsimp only
          rw [mem_insS]
          by_cases hz : z = x
          · rw [if_pos hz, hz]; simp
          · rw [if_neg hz]; simp [hz]
  · rw [if_neg ht] at h0; exact absurd h0 ht
theorem cE_ok {n : Nat} {l : List CH} (h : ∀ c ∈ l, tE c.1 = 0) (hl : l.length ≤ n) : cE n l = 0 := by
  unfold cE
  rw [if_neg (by omega), if_neg]
  rw [List.any_eq_true]
  rintro ⟨c, hc, h1⟩
  rw [decide_eq_true (h c hc)] at h1
  cases h1
theorem dof_ok {cs : List C3} : ∀ c ∈ dOf cs, TZ c.1 ∧ tE c.1 = 0 := fun c hc => by
  unfold dOf at hc
  obtain ⟨x, _, rfl⟩ := List.mem_map.1 hc
  exact ⟨oneT_size _ _, oneT_ok _ _⟩
end Go.V.L8
