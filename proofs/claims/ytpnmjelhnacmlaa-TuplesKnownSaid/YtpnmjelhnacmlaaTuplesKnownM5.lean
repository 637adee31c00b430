/- TuplesKnown returns true: no condition. -/
import Derived.Test.YtpnmjelhnacmlaaTuplesKnownM4
import Derived.ProofKit
import Derived.HandedShaped
import Derived.OpenShut
import Derived.Carry
import Derived.Deep.Slices
import Derived.Test.YtpnmjelhnacmlaaRows
set_option linter.unusedVariables false
set_option linter.unusedSimpArgs false
/- The walks of the definition of names: texts are read. -/
namespace Go.V
open Go.Proofs Go.RowKit
/-- Where a byte is. -/
def fi (c : UInt8) : List UInt8 → Nat
  | [] => 0
  | x :: l => if x = c then 0 else fi c l + 1
theorem fi_no {c : UInt8} : ∀ {l : List UInt8}, c ∉ l → fi c l = l.length
  | [], _ => rfl
  | x :: l, h => by
    rw [fi, if_neg fun e => h (by rw [e]; exact List.mem_cons_self ..), fi_no fun e => h (List.mem_cons_of_mem _ e), List.length_cons]
theorem fi_app {c : UInt8} {q : List UInt8} : ∀ {p : List UInt8}, c ∉ p → fi c (p ++ q) = p.length + fi c q
  | [], _ => by simp
  | x :: p, h => by
    rw [List.cons_append, fi, if_neg fun e => h (by rw [e]; exact List.mem_cons_self ..), fi_app fun e => h (List.mem_cons_of_mem _ e), List.length_cons]; omega
theorem fi_lt {c : UInt8} {q : List UInt8} : ∀ {p : List UInt8}, c ∈ p → fi c (p ++ q) < p.length
  | x :: p, h => by
    rw [List.cons_append, fi]
    split
    · simp
    · rename_i hx
      have := fi_lt (q := q) ((List.mem_cons.1 h).resolve_left fun e => hx e.symm)
      simp only [List.length_cons]; omega
/-- A string that has a byte. -/
theorem split_b (s : ByteArray) (c : UInt8) : noB s c ∨ ∃ a b, s = a ++ ⟨#[c]⟩ ++ b ∧ noB a c := by
  by_cases h : c ∈ s.data.toList
  · obtain ⟨p, q, e, hp⟩ := List.eq_append_cons_of_mem h
    refine .inr ⟨⟨p.toArray⟩, ⟨q.toArray⟩, ba_ext' ?_, by unfold noB; simpa using hp⟩
    rw [list_app, list_app, e]
    simp
  · exact .inl h
theorem ext_mid (p q r : ByteArray) (i j : Nat) (hi : i = p.size) (hj : j = p.size + q.size) : (p ++ q ++ r).extract i j = q := by
  subst hi hj
  apply ba_ext'
  rw [ByteArray.data_extract, Array.toList_extract, List.extract, list_app, list_app]
  have h1 : p.data.toList.length = p.size := len_toList p
  have h2 : q.data.toList.length = q.size := len_toList q
  rw [List.append_assoc, ← h1, List.drop_left, List.take_left' (by omega)]
theorem hasA_yes {a : ByteArray} {c : UInt8} (h : ¬ noB a c) : hasA a c = true := by
  rcases split_b a c with h1 | ⟨p, q, rfl, hp⟩
  · exact absurd h1 h
  · unfold hasA
    have e : (p ++ ⟨#[c]⟩ ++ q).data.toList = p.data.toList ++ c :: q.data.toList := by rw [list_app, list_app]; simp
    rw [e, indexByte_mid _ _ _ hp]
    simp
/-- What the definition reads. -/
def rp1 (s : ByteArray) : ByteArray × ByteArray × ByteArray × Bool × Int :=
  match partsA s with
  | none => (sNil, sNil, sNil, false, 5)
  | some (x, y, z, d) => (x, y, z, d, if d = true then allE [x, y, z] else allE [x, y])
theorem mid_list (a b : ByteArray) (c : UInt8) : (a ++ ⟨#[c]⟩ ++ b).data.toList = a.data.toList ++ c :: b.data.toList := by rw [list_app, list_app]; simp
theorem mid_size (a b : ByteArray) (c : UInt8) : (a ++ ⟨#[c]⟩ ++ b).size = a.size + 1 + b.size := by rw [ByteArray.size_append, ByteArray.size_append]; rfl
theorem count_pos {s : ByteArray} {c : UInt8} (h : ¬ noB s c) : 0 < s.data.toList.count c := List.count_pos_iff.2 (Classical.not_not.1 h)
attribute [local irreducible] V N X VO Par StepOK Has Ret RetL Src
set_option maxHeartbeats 1000000 in
theorem place_ret {s : ByteArray} {c : UInt8} {a n : Nat} (ha : fi c s.data.toList = a) (hn : s.data.toList.count c = n) (hs : s.size ≤ 1000000) {w : World} {B : Heap} (hB : B.Le (hp w)) :
    Ret Try.prog 117 [.string s, .int .u8 c.toNat] w B (fun v _ => v = .tuple #[.int .i64 a, .int .i64 n]) := by
  subst ha hn
  have hlen := len_toList s
  refine V_enter Try.func117 rfl Try.ntmps117 (Nat.le_of_ble_eq_true rfl) hB ?_
  refine V_seq ?_; refine V_region (id := 0) ?_; refine vo_step (ok_assign rfl rfl rfl) rfl ?_; refine vo_step (ok_assign rfl rfl rfl) rfl ?_; refine vo_nil ?_; refine N_seq ?_; refine V_seq ?_; refine V_region (id := 1) ?_; refine vo_step (ok_move rfl rfl rfl) rfl ?_; refine vo_step (ok_lenS L rfl rfl rfl rfl) rfl ?_; refine vo_step (ok_assign rfl rfl rfl) rfl ?_; refine vo_step (ok_assign rfl rfl rfl) rfl ?_; refine vo_nil ?_; refine N_seq ?_; refine V_seq ?_; refine V_seq ?_; refine V_region (id := 2) ?_; refine vo_step (ok_move rfl rfl rfl) rfl ?_; refine vo_step (ok_lenS L rfl rfl rfl rfl) rfl ?_; refine vo_step (ok_sub rfl rfl rfl rfl (wrap_i64 (by omega) (by omega))) rfl ?_; refine vo_step (ok_assign rfl rfl rfl) rfl ?_; refine vo_nil ?_; refine N_seq ?_; refine V_block ?_
  refine V_loop (fun x : Nat × Nat × Nat × Int => [(0, .is (.string s)), (1, .is (.int .u8 c.toNat)), (6, .is (.int .i64 x.2.1)), (7, .is (.int .i64 x.2.2.1)), (8, .is (.int .i64 x.2.2.2))])
    (fun x => x.1 ≤ s.size ∧ x.2.1 = x.1 + fi c (s.data.toList.drop x.1) ∧ x.2.2.1 = (s.data.toList.drop x.1).count c ∧ x.2.2.2 = (x.1 : Int) - 1 ∧ x.2.2.1 ≤ s.size - x.1) (fun x => x.1) (s.size, s.size, 0, (s.size : Int) - 1)
    ⟨Nat.le_refl _, by rw [List.drop_eq_nil_of_le (by omega)]; rfl, by rw [List.drop_eq_nil_of_le (by omega)]; rfl, rfl, Nat.zero_le _⟩ ⟨rfl, rfl, rfl, rfl, rfl, trivial⟩ ?_
  rintro ⟨i, a, n, z⟩ ⟨hi, ha, hn, hz, hb⟩
  dsimp only at hi ha hn hz hb ⊢
  cases i with
  | zero =>
    rw [List.drop_zero] at ha hn
    have hz0 : z < 0 := by omega
    obtain rfl : a = fi c s.data.toList := by omega
    subst hn
    refine V_seq ?_; refine V_seq ?_; refine V_region (id := 3) ?_; refine vo_step (ok_move rfl rfl rfl) rfl ?_; refine vo_step (ok_geq rfl rfl rfl rfl (decide_eq_false (by omega))) rfl ?_; refine vo_nil ?_; refine N_seq ?_; refine V_false rfl ?_; refine V_exit ?_; refine X_then ?_; refine X_then ?_; refine X_here ?_; refine N_seq ?_; refine V_seq ?_; refine V_region (id := 8) ?_; refine vo_step (ok_move rfl rfl rfl) rfl ?_; refine vo_step (ok_move rfl rfl rfl) rfl ?_; refine vo_step (ok_assign rfl rfl rfl) rfl ?_; refine vo_step (ok_assign rfl rfl rfl) rfl ?_; refine vo_nil ?_; refine N_seq ?_
    refine V_ret L (rs := [.tmp 4, .tmp 5]) rfl (fun _ _ h => h) Since.refl fun u H hH hle => ?_
    rfl
  | succ k =>
    obtain rfl : z = (k : Int) := by omega
    obtain ⟨x, hc⟩ := getElem?_lt (show k < s.size by omega)
    have hd : s.data.toList[k]? = some x := by
      have : s.data[k]? = some x := hc
      simpa using this
    have hdr : s.data.toList.drop k = x :: s.data.toList.drop (k + 1) := by
      have h1 : k < s.data.toList.length := by omega
      rw [List.drop_eq_getElem_cons h1]
      rw [List.getElem?_eq_getElem h1] at hd
      rw [Option.some.inj hd]
    by_cases hx : x = c
    · subst hx
      refine V_seq ?_; refine V_seq ?_; refine V_region (id := 3) ?_; refine vo_step (ok_move rfl rfl rfl) rfl ?_; refine vo_step (ok_geq rfl rfl rfl rfl (decide_eq_true (by omega))) rfl ?_; refine vo_nil ?_; refine N_seq ?_; refine V_true rfl ?_; refine V_skip ?_; refine N_seq ?_; refine V_seq ?_; refine V_block ?_; refine V_seq ?_; refine V_region (id := 5) ?_; refine vo_step (ok_move rfl rfl rfl) rfl ?_; refine vo_step (ok_move rfl rfl rfl) rfl ?_; refine vo_step (ok_indexS L rfl rfl rfl rfl rfl (by assumption)) rfl ?_; refine vo_step (ok_move rfl rfl rfl) rfl ?_; refine vo_step (ok_eql rfl rfl rfl rfl (decide_eq_true (by omega))) rfl ?_; refine vo_nil ?_; refine N_seq ?_; refine V_true rfl ?_; refine V_seq ?_; refine V_region (id := 6) ?_; refine vo_step (ok_move rfl rfl rfl) rfl ?_; refine vo_step (ok_assign rfl rfl rfl) rfl ?_; refine vo_nil ?_; refine N_seq ?_; refine V_region (id := 7) ?_; refine vo_step (ok_move rfl rfl rfl) rfl ?_; refine vo_step (ok_add rfl rfl rfl rfl (wrap_i64 (by omega) (by omega))) rfl ?_; refine vo_step (ok_assign rfl rfl rfl) rfl ?_; refine vo_nil ?_; refine N_block ?_; refine N_seq ?_; refine V_region (id := 4) ?_; refine vo_step (ok_move rfl rfl rfl) rfl ?_; refine vo_step (ok_sub rfl rfl rfl rfl (wrap_i64 (by omega) (by omega))) rfl ?_; refine vo_step (ok_assign rfl rfl rfl) rfl ?_; refine vo_nil ?_
      exact N_round (x := (k + 1, a, n, (k : Int))) (k, k, n + 1, (k : Int) - 1) ⟨by dsimp only; omega, by dsimp only; rw [hdr, fi, if_pos rfl]; rfl, by dsimp only; rw [hdr, List.count_cons_self, hn], rfl, by dsimp only; omega⟩ (by dsimp only; omega) ⟨rfl, rfl, rfl, rfl, rfl, trivial⟩
    · have hxc : (x.toNat : Int) ≠ (c.toNat : Int) := fun e => hx (UInt8.toNat_inj.1 (by omega))
      refine V_seq ?_; refine V_seq ?_; refine V_region (id := 3) ?_; refine vo_step (ok_move rfl rfl rfl) rfl ?_; refine vo_step (ok_geq rfl rfl rfl rfl (decide_eq_true (by omega))) rfl ?_; refine vo_nil ?_; refine N_seq ?_; refine V_true rfl ?_; refine V_skip ?_; refine N_seq ?_; refine V_seq ?_; refine V_block ?_; refine V_seq ?_; refine V_region (id := 5) ?_; refine vo_step (ok_move rfl rfl rfl) rfl ?_; refine vo_step (ok_move rfl rfl rfl) rfl ?_; refine vo_step (ok_indexS L rfl rfl rfl rfl rfl (by assumption)) rfl ?_; refine vo_step (ok_move rfl rfl rfl) rfl ?_; refine vo_step (ok_eql rfl rfl rfl rfl (decide_eq_false (by omega))) rfl ?_; refine vo_nil ?_; refine N_seq ?_; refine V_false rfl ?_; refine V_skip ?_; refine N_block ?_; refine N_seq ?_; refine V_region (id := 4) ?_; refine vo_step (ok_move rfl rfl rfl) rfl ?_; refine vo_step (ok_sub rfl rfl rfl rfl (wrap_i64 (by omega) (by omega))) rfl ?_; refine vo_step (ok_assign rfl rfl rfl) rfl ?_; refine vo_nil ?_
      exact N_round (x := (k + 1, a, n, (k : Int))) (k, a, n, (k : Int) - 1) ⟨by dsimp only; omega, by dsimp only; rw [hdr, fi, if_neg hx, ha]; omega, by dsimp only; rw [hdr, List.count_cons_of_ne hx, hn], rfl, by dsimp only; omega⟩ (by dsimp only; omega) ⟨rfl, rfl, rfl, rfl, rfl, trivial⟩
set_option maxHeartbeats 2000000 in
theorem rparse1_ret {s : ByteArray} {r : ByteArray × ByteArray × ByteArray × Bool × Int} (hr : rp1 s = r) (hs : s.size ≤ 1000000) {w : World} {B : Heap} (hB : B.Le (hp w)) :
    Ret Try.prog 87 [.string s] w B (fun v _ => v = .tuple #[.agg #[.string r.1, .string r.2.1], .string r.2.2.1, .bool r.2.2.2.1, .int .i64 r.2.2.2.2]) := by
  subst hr
  have bad : partsA s = none → ∀ {m k m2 k2 : Nat}, fi 58 s.data.toList = m → s.data.toList.count 58 = k → fi 35 s.data.toList = m2 → s.data.toList.count 35 = k2 → (k ≠ 1 ∨ 1 < k2 ∨ m2 < m) →
      Ret Try.prog 87 [.string s] w B (fun v _ => v = .tuple #[.agg #[.string (rp1 s).1, .string (rp1 s).2.1], .string (rp1 s).2.2.1, .bool (rp1 s).2.2.2.1, .int .i64 (rp1 s).2.2.2.2]) := by
    intro hp m k m2 k2 e1 e2 e3 e4 hor
    have hr1 : rp1 s = (sNil, sNil, sNil, false, 5) := by unfold rp1; rw [hp]
    rw [hr1]
    refine V_enter Try.func87 rfl Try.ntmps87 (Nat.le_of_ble_eq_true rfl) hB ?_
    by_cases c1 : k = 1
    · by_cases c2 : 1 < k2
      · refine V_seq ?_; refine V_region (id := 0) ?_; refine vo_step (ok_alloc L rfl rfl rfl rfl) rfl ?_; refine vo_step (ok_assign rfl rfl rfl) rfl ?_; refine vo_step (ok_assign rfl rfl rfl) rfl ?_; refine vo_step (ok_assign rfl rfl rfl) rfl ?_; refine vo_nil ?_; refine N_seq ?_; refine V_seq ?_; refine V_region (id := 1) ?_; refine vo_step (ok_move rfl rfl rfl) rfl ?_; refine vo_step (ok_callx L rfl rfl (blt_lt rfl) rfl rfl rfl (fun u H hH _ _ => place_ret (c := 58) e1 e2 hs hH)) rfl ?_; refine vo_step (ok_move rfl rfl rfl) rfl ?_; refine vo_step (ok_extract rfl rfl rfl rfl) rfl ?_; refine vo_step (ok_extract rfl rfl rfl rfl) rfl ?_; refine vo_step (ok_assign rfl rfl rfl) rfl ?_; refine vo_step (ok_assign rfl rfl rfl) rfl ?_; refine vo_nil ?_; refine N_seq ?_; refine V_seq ?_; refine V_region (id := 2) ?_; refine vo_step (ok_move rfl rfl rfl) rfl ?_; refine vo_step (ok_callx L rfl rfl (blt_lt rfl) rfl rfl rfl (fun u H hH _ _ => place_ret (c := 35) e3 e4 hs hH)) rfl ?_; refine vo_step (ok_move rfl rfl rfl) rfl ?_; refine vo_step (ok_extract rfl rfl rfl rfl) rfl ?_; refine vo_step (ok_extract rfl rfl rfl rfl) rfl ?_; refine vo_step (ok_assign rfl rfl rfl) rfl ?_; refine vo_step (ok_assign rfl rfl rfl) rfl ?_; refine vo_nil ?_; refine N_seq ?_; refine V_seq ?_; refine V_seq ?_; refine V_region (id := 3) ?_; refine vo_step (ok_move rfl rfl rfl) rfl ?_; refine vo_step (ok_neq rfl rfl rfl rfl (decide_eq_false (by omega))) rfl ?_; refine vo_step (ok_move rfl rfl rfl) rfl ?_; refine vo_step (ok_move rfl rfl rfl) rfl ?_; refine vo_step (ok_gtr rfl rfl rfl rfl (decide_eq_true (by omega))) rfl ?_; refine vo_step (ok_pick rfl rfl rfl rfl) rfl ?_; refine vo_step (ok_move rfl rfl rfl) rfl ?_; refine vo_step (ok_skip rfl (blt_lt rfl) rfl) rfl ?_; refine vo_step (ok_skip rfl (blt_lt rfl) rfl) rfl ?_; refine vo_step (ok_skip rfl (blt_lt rfl) rfl) rfl ?_; refine vo_step (ok_pick rfl rfl rfl rfl) rfl ?_; refine vo_nil ?_; refine N_seq ?_; refine V_true rfl ?_; refine V_seq ?_; refine V_region (id := 4) ?_; refine vo_step (ok_build (cs := [_, _]) rfl rfl pl42 rfl rfl) rfl ?_; refine vo_step (ok_store L rfl rfl rfl rfl rfl rfl rfl rfl) rfl ?_; refine vo_step (ok_assign rfl rfl rfl) rfl ?_; refine vo_step (ok_assign rfl rfl rfl) rfl ?_; refine vo_step (ok_assign rfl rfl rfl) rfl ?_; refine vo_nil ?_; refine N_seq ?_
        refine V_ret L (rs := [.cell 2 42, .tmp 3, .tmp 4, .tmp 5]) rfl (fun _ _ h => h) Since.refl fun u H hH hle => ?_
        exact ⟨_, src_own rfl, rfl, rfl⟩
      · have c3 : m2 < m := by omega
        refine V_seq ?_; refine V_region (id := 0) ?_; refine vo_step (ok_alloc L rfl rfl rfl rfl) rfl ?_; refine vo_step (ok_assign rfl rfl rfl) rfl ?_; refine vo_step (ok_assign rfl rfl rfl) rfl ?_; refine vo_step (ok_assign rfl rfl rfl) rfl ?_; refine vo_nil ?_; refine N_seq ?_; refine V_seq ?_; refine V_region (id := 1) ?_; refine vo_step (ok_move rfl rfl rfl) rfl ?_; refine vo_step (ok_callx L rfl rfl (blt_lt rfl) rfl rfl rfl (fun u H hH _ _ => place_ret (c := 58) e1 e2 hs hH)) rfl ?_; refine vo_step (ok_move rfl rfl rfl) rfl ?_; refine vo_step (ok_extract rfl rfl rfl rfl) rfl ?_; refine vo_step (ok_extract rfl rfl rfl rfl) rfl ?_; refine vo_step (ok_assign rfl rfl rfl) rfl ?_; refine vo_step (ok_assign rfl rfl rfl) rfl ?_; refine vo_nil ?_; refine N_seq ?_; refine V_seq ?_; refine V_region (id := 2) ?_; refine vo_step (ok_move rfl rfl rfl) rfl ?_; refine vo_step (ok_callx L rfl rfl (blt_lt rfl) rfl rfl rfl (fun u H hH _ _ => place_ret (c := 35) e3 e4 hs hH)) rfl ?_; refine vo_step (ok_move rfl rfl rfl) rfl ?_; refine vo_step (ok_extract rfl rfl rfl rfl) rfl ?_; refine vo_step (ok_extract rfl rfl rfl rfl) rfl ?_; refine vo_step (ok_assign rfl rfl rfl) rfl ?_; refine vo_step (ok_assign rfl rfl rfl) rfl ?_; refine vo_nil ?_; refine N_seq ?_; refine V_seq ?_; refine V_seq ?_; refine V_region (id := 3) ?_; refine vo_step (ok_move rfl rfl rfl) rfl ?_; refine vo_step (ok_neq rfl rfl rfl rfl (decide_eq_false (by omega))) rfl ?_; refine vo_step (ok_move rfl rfl rfl) rfl ?_; refine vo_step (ok_move rfl rfl rfl) rfl ?_; refine vo_step (ok_gtr rfl rfl rfl rfl (decide_eq_false (by omega))) rfl ?_; refine vo_step (ok_pick rfl rfl rfl rfl) rfl ?_; refine vo_step (ok_move rfl rfl rfl) rfl ?_; refine vo_step (ok_move rfl rfl rfl) rfl ?_; refine vo_step (ok_move rfl rfl rfl) rfl ?_; refine vo_step (ok_lss rfl rfl rfl rfl (decide_eq_true (by omega))) rfl ?_; refine vo_step (ok_pick rfl rfl rfl rfl) rfl ?_; refine vo_nil ?_; refine N_seq ?_; refine V_true rfl ?_; refine V_seq ?_; refine V_region (id := 4) ?_; refine vo_step (ok_build (cs := [_, _]) rfl rfl pl42 rfl rfl) rfl ?_; refine vo_step (ok_store L rfl rfl rfl rfl rfl rfl rfl rfl) rfl ?_; refine vo_step (ok_assign rfl rfl rfl) rfl ?_; refine vo_step (ok_assign rfl rfl rfl) rfl ?_; refine vo_step (ok_assign rfl rfl rfl) rfl ?_; refine vo_nil ?_; refine N_seq ?_
        refine V_ret L (rs := [.cell 2 42, .tmp 3, .tmp 4, .tmp 5]) rfl (fun _ _ h => h) Since.refl fun u H hH hle => ?_
        exact ⟨_, src_own rfl, rfl, rfl⟩
    · refine V_seq ?_; refine V_region (id := 0) ?_; refine vo_step (ok_alloc L rfl rfl rfl rfl) rfl ?_; refine vo_step (ok_assign rfl rfl rfl) rfl ?_; refine vo_step (ok_assign rfl rfl rfl) rfl ?_; refine vo_step (ok_assign rfl rfl rfl) rfl ?_; refine vo_nil ?_; refine N_seq ?_; refine V_seq ?_; refine V_region (id := 1) ?_; refine vo_step (ok_move rfl rfl rfl) rfl ?_; refine vo_step (ok_callx L rfl rfl (blt_lt rfl) rfl rfl rfl (fun u H hH _ _ => place_ret (c := 58) e1 e2 hs hH)) rfl ?_; refine vo_step (ok_move rfl rfl rfl) rfl ?_; refine vo_step (ok_extract rfl rfl rfl rfl) rfl ?_; refine vo_step (ok_extract rfl rfl rfl rfl) rfl ?_; refine vo_step (ok_assign rfl rfl rfl) rfl ?_; refine vo_step (ok_assign rfl rfl rfl) rfl ?_; refine vo_nil ?_; refine N_seq ?_; refine V_seq ?_; refine V_region (id := 2) ?_; refine vo_step (ok_move rfl rfl rfl) rfl ?_; refine vo_step (ok_callx L rfl rfl (blt_lt rfl) rfl rfl rfl (fun u H hH _ _ => place_ret (c := 35) e3 e4 hs hH)) rfl ?_; refine vo_step (ok_move rfl rfl rfl) rfl ?_; refine vo_step (ok_extract rfl rfl rfl rfl) rfl ?_; refine vo_step (ok_extract rfl rfl rfl rfl) rfl ?_; refine vo_step (ok_assign rfl rfl rfl) rfl ?_; refine vo_step (ok_assign rfl rfl rfl) rfl ?_; refine vo_nil ?_; refine N_seq ?_; refine V_seq ?_; refine V_seq ?_; refine V_region (id := 3) ?_; refine vo_step (ok_move rfl rfl rfl) rfl ?_; refine vo_step (ok_neq rfl rfl rfl rfl (decide_eq_true (by omega))) rfl ?_; refine vo_step (ok_move rfl rfl rfl) rfl ?_; refine vo_step (ok_skip rfl (blt_lt rfl) rfl) rfl ?_; refine vo_step (ok_skip rfl (blt_lt rfl) rfl) rfl ?_; refine vo_step (ok_pick rfl rfl rfl rfl) rfl ?_; refine vo_step (ok_move rfl rfl rfl) rfl ?_; refine vo_step (ok_skip rfl (blt_lt rfl) rfl) rfl ?_; refine vo_step (ok_skip rfl (blt_lt rfl) rfl) rfl ?_; refine vo_step (ok_skip rfl (blt_lt rfl) rfl) rfl ?_; refine vo_step (ok_pick rfl rfl rfl rfl) rfl ?_; refine vo_nil ?_; refine N_seq ?_; refine V_true rfl ?_; refine V_seq ?_; refine V_region (id := 4) ?_; refine vo_step (ok_build (cs := [_, _]) rfl rfl pl42 rfl rfl) rfl ?_; refine vo_step (ok_store L rfl rfl rfl rfl rfl rfl rfl rfl) rfl ?_; refine vo_step (ok_assign rfl rfl rfl) rfl ?_; refine vo_step (ok_assign rfl rfl rfl) rfl ?_; refine vo_step (ok_assign rfl rfl rfl) rfl ?_; refine vo_nil ?_; refine N_seq ?_
      refine V_ret L (rs := [.cell 2 42, .tmp 3, .tmp 4, .tmp 5]) rfl (fun _ _ h => h) Since.refl fun u H hH hle => ?_
      exact ⟨_, src_own rfl, rfl, rfl⟩
  rcases split_b s 58 with h58 | ⟨a, b, rfl, ha⟩
  · refine bad ?_ rfl rfl rfl rfl (.inl ?_)
    · unfold partsA; rw [cutA_no h58]; simp
    · rw [List.count_eq_zero_of_not_mem h58]; decide
  · have hcut : cutA (a ++ ⟨#[58]⟩ ++ b) 58 = (a, b, true) := cutA_mid ha
    have hls := mid_list a b 58
    have hsz := mid_size a b 58
    by_cases hb : noB b 58
    · have hf1 : fi 58 (a ++ ⟨#[58]⟩ ++ b).data.toList = a.size := by rw [hls, fi_app ha, len_toList]; simp [fi]
      have hc1 : (a ++ ⟨#[58]⟩ ++ b).data.toList.count 58 = 1 := by rw [hls, List.count_append, List.count_cons_self, List.count_eq_zero_of_not_mem ha, List.count_eq_zero_of_not_mem hb]
      by_cases ha3 : noB a 35
      · have hf2 : fi 35 (a ++ ⟨#[58]⟩ ++ b).data.toList = a.size + 1 + fi 35 b.data.toList := by rw [hls, fi_app ha3, len_toList, fi, if_neg (by decide)]; omega
        have hc2 : (a ++ ⟨#[58]⟩ ++ b).data.toList.count 35 = b.data.toList.count 35 := by rw [hls, List.count_append, List.count_eq_zero_of_not_mem ha3, List.count_cons_of_ne (by decide)]; omega
        have hn1 := hasA_no ha3
        have hn2 := hasA_no hb
        have za : a.size ≤ 1099511627776 := by omega
        have zb : b.size ≤ 1099511627776 := by omega
        have hadd1 : IntKind.i64.wrap ((a.size : Int) + 1) = ((a.size + 1 : Nat) : Int) := wrap_i64 (by omega) (by omega) |>.trans (by omega)
        have x1 : (a ++ ⟨#[58]⟩ ++ b).extract 0 a.size = a := by
          have := ext_mid ⟨#[]⟩ a (⟨#[58]⟩ ++ b) 0 a.size rfl (by show _ = 0 + _; omega)
          conv => rhs; rw [← this]
          congr 1; apply ba_ext'; simp [list_app]
        rcases split_b b 35 with hb3 | ⟨c, e, rfl, hc3⟩
        · have hp : partsA (a ++ ⟨#[58]⟩ ++ b) = some (a, b, sNil, false) := by
            unfold partsA; rw [hcut]
            simp only [hn1, hn2, cntA_no hb3, cutA_no hb3]
            simp
          have hr1 : rp1 (a ++ ⟨#[58]⟩ ++ b) = (a, b, sNil, false, allE [a, b]) := by unfold rp1; rw [hp]; rfl
          rw [hr1]
          have hf3 : fi 35 (a ++ ⟨#[58]⟩ ++ b).data.toList = a.size + 1 + b.size := by rw [hf2, fi_no hb3, len_toList]
          have hc3 : (a ++ ⟨#[58]⟩ ++ b).data.toList.count 35 = 0 := by rw [hc2, List.count_eq_zero_of_not_mem hb3]
          have x2 : (a ++ ⟨#[58]⟩ ++ b).extract (a.size + 1) (a.size + 1 + b.size) = b := by
            have := ext_mid (a ++ ⟨#[58]⟩) b ⟨#[]⟩ (a.size + 1) (a.size + 1 + b.size) (by rw [ByteArray.size_append]; rfl) (by rw [ByteArray.size_append]; rfl)
            conv => rhs; rw [← this]
            congr 1; apply ba_ext'; simp [list_app]
          generalize a ++ ⟨#[58]⟩ ++ b = s at *
          refine V_enter Try.func87 rfl Try.ntmps87 (Nat.le_of_ble_eq_true rfl) hB ?_
          refine V_seq ?_; refine V_region (id := 0) ?_; refine vo_step (ok_alloc L rfl rfl rfl rfl) rfl ?_; refine vo_step (ok_assign rfl rfl rfl) rfl ?_; refine vo_step (ok_assign rfl rfl rfl) rfl ?_; refine vo_step (ok_assign rfl rfl rfl) rfl ?_; refine vo_nil ?_; refine N_seq ?_; refine V_seq ?_; refine V_region (id := 1) ?_; refine vo_step (ok_move rfl rfl rfl) rfl ?_; refine vo_step (ok_callx L rfl rfl (blt_lt rfl) rfl rfl rfl (fun u H hH _ _ => place_ret (c := 58) hf1 hc1 hs hH)) rfl ?_; refine vo_step (ok_move rfl rfl rfl) rfl ?_; refine vo_step (ok_extract rfl rfl rfl rfl) rfl ?_; refine vo_step (ok_extract rfl rfl rfl rfl) rfl ?_; refine vo_step (ok_assign rfl rfl rfl) rfl ?_; refine vo_step (ok_assign rfl rfl rfl) rfl ?_; refine vo_nil ?_; refine N_seq ?_; refine V_seq ?_; refine V_region (id := 2) ?_; refine vo_step (ok_move rfl rfl rfl) rfl ?_; refine vo_step (ok_callx L rfl rfl (blt_lt rfl) rfl rfl rfl (fun u H hH _ _ => place_ret (c := 35) hf3 hc3 hs hH)) rfl ?_; refine vo_step (ok_move rfl rfl rfl) rfl ?_; refine vo_step (ok_extract rfl rfl rfl rfl) rfl ?_; refine vo_step (ok_extract rfl rfl rfl rfl) rfl ?_; refine vo_step (ok_assign rfl rfl rfl) rfl ?_; refine vo_step (ok_assign rfl rfl rfl) rfl ?_; refine vo_nil ?_; refine N_seq ?_; refine V_seq ?_; refine V_seq ?_; refine V_region (id := 3) ?_; refine vo_step (ok_move rfl rfl rfl) rfl ?_; refine vo_step (ok_neq rfl rfl rfl rfl (decide_eq_false (by omega))) rfl ?_; refine vo_step (ok_move rfl rfl rfl) rfl ?_; refine vo_step (ok_move rfl rfl rfl) rfl ?_; refine vo_step (ok_gtr rfl rfl rfl rfl (decide_eq_false (by omega))) rfl ?_; refine vo_step (ok_pick rfl rfl rfl rfl) rfl ?_; refine vo_step (ok_move rfl rfl rfl) rfl ?_; refine vo_step (ok_move rfl rfl rfl) rfl ?_; refine vo_step (ok_move rfl rfl rfl) rfl ?_; refine vo_step (ok_lss rfl rfl rfl rfl (decide_eq_false (by omega))) rfl ?_; refine vo_step (ok_pick rfl rfl rfl rfl) rfl ?_; refine vo_nil ?_; refine N_seq ?_; refine V_false rfl ?_; refine V_skip ?_; refine N_seq ?_; refine V_seq ?_; refine V_regionD (id := 5) [] mixed (by kernel_rfl) ?_; refine par_step (ok_move rfl rfl rfl) rfl ?_; refine par_step (ok_move rfl rfl rfl) rfl ?_; refine par_step (ok_sliceS L (kl := .i64) (pl := 0) 0 a.size rfl rfl rfl rfl rfl ⟨rfl, rfl⟩ (by omega) (by omega) x1) rfl ?_; refine par_step (ok_move rfl rfl rfl) rfl ?_; refine par_step (ok_move rfl rfl rfl) rfl ?_; refine par_step (ok_add rfl rfl rfl rfl (by assumption)) rfl ?_; refine par_step (ok_move rfl rfl rfl) rfl ?_; refine par_step (ok_sliceS L (a.size + 1) (a.size + 1 + b.size) rfl rfl rfl rfl ⟨rfl, rfl⟩ ⟨rfl, rfl⟩ (by omega) (by omega) x2) rfl ?_; refine par_step (ok_build (cs := [_, _]) rfl rfl pl42 rfl rfl) rfl ?_; refine par_step (ok_alloc L rfl rfl rfl rfl) rfl ?_; refine par_step (ok_store L rfl rfl rfl rfl rfl rfl rfl rfl) rfl ?_; refine par_nil ?_; refine N_seq ?_; refine V_seq ?_; refine V_seq ?_; refine V_region (id := 6) ?_; refine vo_step (ok_move rfl rfl rfl) rfl ?_; refine vo_step (ok_eql rfl rfl rfl rfl (decide_eq_true (by omega))) rfl ?_; refine vo_nil ?_; refine N_seq ?_; refine V_true rfl ?_; refine V_seq ?_; refine V_regionD (id := 7) [] mixed (by kernel_rfl) ?_; refine par_step (ok_loadA L (vs := [_, _]) (src_own rfl) rfl rfl rfl rfl ⟨_, rfl⟩) rfl ?_; refine par_step (ok_loadA L (vs := [_, _]) (src_own rfl) rfl rfl rfl rfl ⟨_, rfl⟩) rfl ?_; refine par_step (ok_callx L rfl rfl (blt_lt rfl) rfl rfl rfl (fun u H hH _ _ => robject_ret (by first | assumption | decide) (by first | assumption | decide) hH)) rfl ?_; refine par_step (ok_store L rfl rfl rfl rfl rfl rfl rfl rfl) rfl ?_; refine par_step (ok_assign rfl rfl rfl) rfl ?_; refine par_step (ok_assign rfl rfl rfl) rfl ?_; refine par_step (ok_assign rfl rfl rfl) rfl ?_; refine par_nil ?_; refine N_seq ?_
          refine V_ret L (rs := [.cell 2 42, .tmp 3, .tmp 4, .tmp 5]) rfl (fun _ _ h => h) Since.refl fun u H hH hle => ?_
          exact ⟨_, src_own rfl, rfl, rfl⟩
        · have hls2 := mid_list c e 35
          have hsz2 := mid_size c e 35
          by_cases he3 : noB e 35
          · have hcn : (c ++ ⟨#[35]⟩ ++ e).data.toList.count 35 = 1 := by rw [hls2, List.count_append, List.count_cons_self, List.count_eq_zero_of_not_mem hc3, List.count_eq_zero_of_not_mem he3]
            have hp : partsA (a ++ ⟨#[58]⟩ ++ (c ++ ⟨#[35]⟩ ++ e)) = some (a, c, e, true) := by
              unfold partsA; rw [hcut]
              have h4 : cntA (c ++ ⟨#[35]⟩ ++ e) 35 = 1 := hcn
              simp only [hn1, hn2, h4, cutA_mid hc3]
              simp
            have hr1 : rp1 (a ++ ⟨#[58]⟩ ++ (c ++ ⟨#[35]⟩ ++ e)) = (a, c, e, true, allE [a, c, e]) := by unfold rp1; rw [hp]; rfl
            rw [hr1]
            have hf3 : fi 35 (a ++ ⟨#[58]⟩ ++ (c ++ ⟨#[35]⟩ ++ e)).data.toList = a.size + 1 + c.size := by rw [hf2, hls2, fi_app hc3, len_toList]; simp [fi]
            have hc4 : (a ++ ⟨#[58]⟩ ++ (c ++ ⟨#[35]⟩ ++ e)).data.toList.count 35 = 1 := by rw [hc2, hcn]
            have x2 : (a ++ ⟨#[58]⟩ ++ (c ++ ⟨#[35]⟩ ++ e)).extract (a.size + 1) (a.size + 1 + c.size) = c := by
              have := ext_mid (a ++ ⟨#[58]⟩) c (⟨#[35]⟩ ++ e) (a.size + 1) (a.size + 1 + c.size) (by rw [ByteArray.size_append]; rfl) (by rw [ByteArray.size_append]; rfl)
              conv => rhs; rw [← this]
              congr 1; apply ba_ext'; simp [list_app]
            have x3 : (a ++ ⟨#[58]⟩ ++ (c ++ ⟨#[35]⟩ ++ e)).extract (a.size + 1 + c.size + 1) (a ++ ⟨#[58]⟩ ++ (c ++ ⟨#[35]⟩ ++ e)).size = e := by
              have := ext_mid (a ++ ⟨#[58]⟩ ++ c ++ ⟨#[35]⟩) e ⟨#[]⟩ (a.size + 1 + c.size + 1) (a ++ ⟨#[58]⟩ ++ (c ++ ⟨#[35]⟩ ++ e)).size (by simp only [ByteArray.size_append]; rfl) (by simp only [ByteArray.size_append]; rw [show (⟨#[58]⟩ : ByteArray).size = 1 from rfl, show (⟨#[35]⟩ : ByteArray).size = 1 from rfl]; omega)
              conv => rhs; rw [← this]
              congr 1; apply ba_ext'; simp [list_app]
            have hsz3 : (a ++ ⟨#[58]⟩ ++ (c ++ ⟨#[35]⟩ ++ e)).size = a.size + 1 + (c.size + 1 + e.size) := by rw [hsz, hsz2]
            have zc : c.size ≤ 1099511627776 := by omega
            have ze : e.size ≤ 1099511627776 := by omega
            have hadd2 : IntKind.i64.wrap (((a.size + 1 + c.size : Nat) : Int) + 1) = ((a.size + 1 + c.size + 1 : Nat) : Int) := wrap_i64 (by omega) (by omega) |>.trans (by omega)
            have hmx := max3 a c e
            generalize a ++ ⟨#[58]⟩ ++ (c ++ ⟨#[35]⟩ ++ e) = s at *
            refine V_enter Try.func87 rfl Try.ntmps87 (Nat.le_of_ble_eq_true rfl) hB ?_
            refine V_seq ?_; refine V_region (id := 0) ?_; refine vo_step (ok_alloc L rfl rfl rfl rfl) rfl ?_; refine vo_step (ok_assign rfl rfl rfl) rfl ?_; refine vo_step (ok_assign rfl rfl rfl) rfl ?_; refine vo_step (ok_assign rfl rfl rfl) rfl ?_; refine vo_nil ?_; refine N_seq ?_; refine V_seq ?_; refine V_region (id := 1) ?_; refine vo_step (ok_move rfl rfl rfl) rfl ?_; refine vo_step (ok_callx L rfl rfl (blt_lt rfl) rfl rfl rfl (fun u H hH _ _ => place_ret (c := 58) hf1 hc1 hs hH)) rfl ?_; refine vo_step (ok_move rfl rfl rfl) rfl ?_; refine vo_step (ok_extract rfl rfl rfl rfl) rfl ?_; refine vo_step (ok_extract rfl rfl rfl rfl) rfl ?_; refine vo_step (ok_assign rfl rfl rfl) rfl ?_; refine vo_step (ok_assign rfl rfl rfl) rfl ?_; refine vo_nil ?_; refine N_seq ?_; refine V_seq ?_; refine V_region (id := 2) ?_; refine vo_step (ok_move rfl rfl rfl) rfl ?_; refine vo_step (ok_callx L rfl rfl (blt_lt rfl) rfl rfl rfl (fun u H hH _ _ => place_ret (c := 35) hf3 hc4 hs hH)) rfl ?_; refine vo_step (ok_move rfl rfl rfl) rfl ?_; refine vo_step (ok_extract rfl rfl rfl rfl) rfl ?_; refine vo_step (ok_extract rfl rfl rfl rfl) rfl ?_; refine vo_step (ok_assign rfl rfl rfl) rfl ?_; refine vo_step (ok_assign rfl rfl rfl) rfl ?_; refine vo_nil ?_; refine N_seq ?_; refine V_seq ?_; refine V_seq ?_; refine V_region (id := 3) ?_; refine vo_step (ok_move rfl rfl rfl) rfl ?_; refine vo_step (ok_neq rfl rfl rfl rfl (decide_eq_false (by omega))) rfl ?_; refine vo_step (ok_move rfl rfl rfl) rfl ?_; refine vo_step (ok_move rfl rfl rfl) rfl ?_; refine vo_step (ok_gtr rfl rfl rfl rfl (decide_eq_false (by omega))) rfl ?_; refine vo_step (ok_pick rfl rfl rfl rfl) rfl ?_; refine vo_step (ok_move rfl rfl rfl) rfl ?_; refine vo_step (ok_move rfl rfl rfl) rfl ?_; refine vo_step (ok_move rfl rfl rfl) rfl ?_; refine vo_step (ok_lss rfl rfl rfl rfl (decide_eq_false (by omega))) rfl ?_; refine vo_step (ok_pick rfl rfl rfl rfl) rfl ?_; refine vo_nil ?_; refine N_seq ?_; refine V_false rfl ?_; refine V_skip ?_; refine N_seq ?_; refine V_seq ?_; refine V_regionD (id := 5) [] mixed (by kernel_rfl) ?_; refine par_step (ok_move rfl rfl rfl) rfl ?_; refine par_step (ok_move rfl rfl rfl) rfl ?_; refine par_step (ok_sliceS L (kl := .i64) (pl := 0) 0 a.size rfl rfl rfl rfl rfl ⟨rfl, rfl⟩ (by omega) (by omega) x1) rfl ?_; refine par_step (ok_move rfl rfl rfl) rfl ?_; refine par_step (ok_move rfl rfl rfl) rfl ?_; refine par_step (ok_add rfl rfl rfl rfl (by assumption)) rfl ?_; refine par_step (ok_move rfl rfl rfl) rfl ?_; refine par_step (ok_sliceS L (a.size + 1) (a.size + 1 + c.size) rfl rfl rfl rfl ⟨rfl, rfl⟩ ⟨rfl, rfl⟩ (by omega) (by omega) x2) rfl ?_; refine par_step (ok_build (cs := [_, _]) rfl rfl pl42 rfl rfl) rfl ?_; refine par_step (ok_alloc L rfl rfl rfl rfl) rfl ?_; refine par_step (ok_store L rfl rfl rfl rfl rfl rfl rfl rfl) rfl ?_; refine par_nil ?_; refine N_seq ?_; refine V_seq ?_; refine V_seq ?_; refine V_region (id := 6) ?_; refine vo_step (ok_move rfl rfl rfl) rfl ?_; refine vo_step (ok_eql rfl rfl rfl rfl (decide_eq_false (by omega))) rfl ?_; refine vo_nil ?_; refine N_seq ?_; refine V_false rfl ?_; refine V_skip ?_; refine N_seq ?_; refine V_seq ?_; refine V_regionD (id := 8) [] mixed (by kernel_rfl) ?_; refine par_step (ok_loadA L (vs := [_, _]) (src_own rfl) rfl rfl rfl rfl ⟨_, rfl⟩) rfl ?_; refine par_step (ok_move rfl rfl rfl) rfl ?_; refine par_step (ok_move rfl rfl rfl) rfl ?_; refine par_step (ok_add rfl rfl rfl rfl (by assumption)) rfl ?_; refine par_step (ok_sliceS L (kh := .i64) (ph := 0) (a.size + 1 + c.size + 1) _ rfl rfl rfl rfl ⟨rfl, rfl⟩ rfl (by omega) (by omega) x3) rfl ?_; refine par_step (ok_loadA L (vs := [_, _]) (src_own rfl) rfl rfl rfl rfl ⟨_, rfl⟩) rfl ?_; refine par_step (ok_callx L rfl rfl (blt_lt rfl) rfl rfl rfl (fun u H hH _ _ => robject_ret (by first | assumption | decide) (by first | assumption | decide) hH)) rfl ?_; refine par_step (ok_move rfl rfl rfl) rfl ?_; refine par_step (ok_move rfl rfl rfl) rfl ?_; refine par_step (ok_add rfl rfl rfl rfl (by assumption)) rfl ?_; refine par_step (ok_sliceS L (kh := .i64) (ph := 0) (a.size + 1 + c.size + 1) _ rfl rfl rfl rfl ⟨rfl, rfl⟩ rfl (by omega) (by omega) x3) rfl ?_; refine par_step (ok_callx L rfl rfl (blt_lt rfl) rfl rfl rfl (fun u H hH _ _ => rcheck_ret (by first | omega | decide) hH)) rfl ?_; refine par_step (ok_max rfl rfl rfl rfl (by assumption)) rfl ?_; refine par_step (ok_store L rfl rfl rfl rfl rfl rfl rfl rfl) rfl ?_; refine par_step (ok_assign rfl rfl rfl) rfl ?_; refine par_step (ok_assign rfl rfl rfl) rfl ?_; refine par_step (ok_assign rfl rfl rfl) rfl ?_; refine par_nil ?_; refine N_seq ?_
            refine V_ret L (rs := [.cell 2 42, .tmp 3, .tmp 4, .tmp 5]) rfl (fun _ _ h => h) Since.refl fun u H hH hle => ?_
            exact ⟨_, src_own rfl, rfl, rfl⟩
          · have hcn : 1 < (c ++ ⟨#[35]⟩ ++ e).data.toList.count 35 := by have := count_pos he3; rw [hls2, List.count_append, List.count_cons_self]; omega
            refine bad ?_ rfl rfl rfl rfl (.inr (.inl (by rw [hc2]; exact hcn)))
            unfold partsA; rw [hcut]
            have h4 : ¬ cntA (c ++ ⟨#[35]⟩ ++ e) 35 ≤ 1 := by unfold cntA Lib.countByte; omega
            simp only [h4, and_false, if_false]
      · refine bad ?_ rfl rfl rfl rfl (.inr (.inr ?_))
        · unfold partsA; rw [hcut]
          simp only [hasA_yes ha3]
          simp
        · rw [hf1, hls, ← len_toList]
          exact fi_lt (Classical.not_not.1 ha3)
    · refine bad ?_ rfl rfl rfl rfl (.inl ?_)
      · unfold partsA; rw [hcut]
        simp only [hasA_yes hb]
        simp
      · have := count_pos hb
        rw [hls, List.count_append, List.count_cons_self]; omega
theorem rparse1_ret' {s x y z : ByteArray} {d : Bool} {e : Int} (hr : rp1 s = (x, y, z, d, e)) (hs : s.size ≤ 1000000) {w : World} {B : Heap} (hB : B.Le (hp w)) :
    Ret Try.prog 87 [.string s] w B (fun v _ => v = .tuple #[.agg #[.string x, .string y], .string z, .bool d, .int .i64 e]) := rparse1_ret hr hs hB
end Go.V
/- The walks of the definition of tuples (chapter 2): texts are read. -/
namespace Go.V.L2
open Go.Proofs Go.RowKit Go.V
theorem pg_rp (a : ByteArray) : pgA a = if (rp1 a).2.2.2.1 = false then (sNil, sNil, sNil, 5) else if (rp1 a).2.2.2.2 = 0 then ((rp1 a).1, (rp1 a).2.1, (rp1 a).2.2.1, 0) else (sNil, sNil, sNil, (rp1 a).2.2.2.2) := by
  unfold pgA rp1
  rcases partsA a with _ | ⟨x, y, z, d⟩
  · rfl
  · cases d
    · rfl
    · simp only [if_true]
theorem ps_rp (a : ByteArray) : psA a = if (rp1 a).2.2.2.2 = 0 then ((rp1 a).1, (rp1 a).2.1, (rp1 a).2.2.1, 0) else (sNil, sNil, sNil, (rp1 a).2.2.2.2) := by
  unfold psA rp1
  rcases partsA a with _ | ⟨x, y, z, d⟩
  · rfl
  · dsimp only
    cases d
    · simp
    · simp only [if_true, allE]
      rcases chk_cases x with h1 | h1 <;> rcases chk_cases y with h2 | h2 <;> rcases chk_cases z with h3 | h3 <;> simp [h1, h2, h3]
theorem at_of {l a b : List UInt8} {c : UInt8} {k : Nat} (e : l = a ++ c :: b) (ha : c ∉ a) (hb : c ∉ b) (hk : l[k]? = some c) : k = a.length := by
  subst e
  rcases Nat.lt_trichotomy k a.length with h | h | h
  · rw [List.getElem?_append_left h] at hk
    exact absurd (List.mem_of_getElem? hk) ha
  · exact h
  · rw [List.getElem?_append_right (by omega), show k - a.length = (k - a.length - 1) + 1 by omega, List.getElem?_cons_succ] at hk
    exact absurd (List.mem_of_getElem? hk) hb
attribute [local irreducible] V N X VO Par StepOK Has Ret RetL Src
set_option maxHeartbeats 4000000 in
theorem rtparse_ret {s : ByteArray} {r : U × Int} (hr : ptA s = r) (hs : s.size ≤ 1000000) {w : World} {B : Heap} (hB : B.Le (hp w)) :
    Ret Try.prog 52 [.string s] w B (fun v _ => v = .tuple #[uv r.1, .int .i64 r.2]) := by
  subst hr
  have hlen := len_toList s
  refine V_enter Try.func52 rfl Try.ntmps52 (Nat.le_of_ble_eq_true rfl) hB ?_
  refine V_seq ?_; refine V_region (id := 0) ?_; refine vo_step (ok_alloc L rfl rfl rfl rfl) rfl ?_; refine vo_step (ok_assign rfl rfl rfl) rfl ?_; refine vo_nil ?_; refine N_seq ?_; refine V_seq ?_; refine V_region (id := 1) ?_; refine vo_step (ok_assign rfl rfl rfl) rfl ?_; refine vo_step (ok_assign rfl rfl rfl) rfl ?_; refine vo_nil ?_; refine N_seq ?_; refine V_seq ?_; refine V_seq ?_; refine V_region (id := 2) ?_; refine vo_step (ok_assign rfl rfl rfl) rfl ?_; refine vo_nil ?_; refine N_seq ?_; refine V_block ?_
  refine V_loop (fun x : Nat × Nat × Nat => [(0, .is (.string s)), (2, .own (Cell [.string ⟨#[]⟩, .string ⟨#[]⟩, .string ⟨#[]⟩, .string ⟨#[]⟩, .string ⟨#[]⟩, .string ⟨#[]⟩] tyU)), (4, .is (.int .i64 x.2.1)), (5, .is (.int .i64 x.2.2)), (6, .is (.int .i64 x.1))])
    (fun x => x.1 ≤ s.size ∧ x.2.2 = (s.data.toList.take x.1).count 64 ∧ x.2.2 ≤ x.1 ∧ (x.2.2 = 1 → x.2.1 < s.size ∧ s.data.toList[x.2.1]? = some 64)) (fun x => s.size - x.1) (0, 0, 0)
    ⟨Nat.zero_le _, by simp, Nat.le_refl _, fun h => by cases h⟩ ⟨rfl, rfl, rfl, rfl, rfl, trivial⟩ ?_
  rintro ⟨i, k, n⟩ ⟨hi, hn, hni, hk⟩
  dsimp only at hi hn hni hk ⊢
  by_cases hlt : i < s.size
  · obtain ⟨x, hc⟩ := getElem?_lt hlt
    have hd : s.data.toList[i]? = some x := by
      have : s.data[i]? = some x := hc
      simpa using this
    have htk : s.data.toList.take (i + 1) = s.data.toList.take i ++ [x] := by rw [List.take_add_one, hd]; rfl
    by_cases hx : x = 64
    · subst hx
      refine V_seq ?_; refine V_seq ?_; refine V_region (id := 3) ?_; refine vo_step (ok_move rfl rfl rfl) rfl ?_; refine vo_step (ok_move rfl rfl rfl) rfl ?_; refine vo_step (ok_lenS L rfl rfl rfl rfl) rfl ?_; refine vo_step (ok_lss rfl rfl rfl rfl (decide_eq_true (by omega))) rfl ?_; refine vo_nil ?_; refine N_seq ?_; refine V_true rfl ?_; refine V_skip ?_; refine N_seq ?_; refine V_seq ?_; refine V_block ?_; refine V_seq ?_; refine V_region (id := 5) ?_; refine vo_step (ok_move rfl rfl rfl) rfl ?_; refine vo_step (ok_move rfl rfl rfl) rfl ?_; refine vo_step (ok_indexS L rfl rfl rfl rfl rfl (by assumption)) rfl ?_; refine vo_step (ok_eql rfl rfl rfl rfl rfl) rfl ?_; refine vo_nil ?_; refine N_seq ?_; refine V_true rfl ?_; refine V_seq ?_; refine V_region (id := 6) ?_; refine vo_step (ok_move rfl rfl rfl) rfl ?_; refine vo_step (ok_assign rfl rfl rfl) rfl ?_; refine vo_nil ?_; refine N_seq ?_; refine V_region (id := 7) ?_; refine vo_step (ok_move rfl rfl rfl) rfl ?_; refine vo_step (ok_add rfl rfl rfl rfl (wrap_i64 (by omega) (by omega))) rfl ?_; refine vo_step (ok_assign rfl rfl rfl) rfl ?_; refine vo_nil ?_; refine N_block ?_; refine N_seq ?_; refine V_region (id := 4) ?_; refine vo_step (ok_move rfl rfl rfl) rfl ?_; refine vo_step (ok_add rfl rfl rfl rfl (wrap_i64 (by omega) (by omega))) rfl ?_; refine vo_step (ok_assign rfl rfl rfl) rfl ?_; refine vo_nil ?_
      exact N_round (x := (i, k, n)) (i + 1, i, n + 1) ⟨hlt, by dsimp only; rw [htk, List.count_append, ← hn]; rfl, by dsimp only; omega, fun _ => ⟨hlt, hd⟩⟩ (by dsimp only; omega) ⟨rfl, rfl, rfl, rfl, rfl, trivial⟩
    · have hxc : (x.toNat : Int) ≠ 64 := fun e => hx (UInt8.toNat_inj.1 (by show x.toNat = 64; omega))
      refine V_seq ?_; refine V_seq ?_; refine V_region (id := 3) ?_; refine vo_step (ok_move rfl rfl rfl) rfl ?_; refine vo_step (ok_move rfl rfl rfl) rfl ?_; refine vo_step (ok_lenS L rfl rfl rfl rfl) rfl ?_; refine vo_step (ok_lss rfl rfl rfl rfl (decide_eq_true (by omega))) rfl ?_; refine vo_nil ?_; refine N_seq ?_; refine V_true rfl ?_; refine V_skip ?_; refine N_seq ?_; refine V_seq ?_; refine V_block ?_; refine V_seq ?_; refine V_region (id := 5) ?_; refine vo_step (ok_move rfl rfl rfl) rfl ?_; refine vo_step (ok_move rfl rfl rfl) rfl ?_; refine vo_step (ok_indexS L rfl rfl rfl rfl rfl (by assumption)) rfl ?_; refine vo_step (ok_eql rfl rfl rfl rfl (decide_eq_false (by omega))) rfl ?_; refine vo_nil ?_; refine N_seq ?_; refine V_false rfl ?_; refine V_skip ?_; refine N_block ?_; refine N_seq ?_; refine V_region (id := 4) ?_; refine vo_step (ok_move rfl rfl rfl) rfl ?_; refine vo_step (ok_add rfl rfl rfl rfl (wrap_i64 (by omega) (by omega))) rfl ?_; refine vo_step (ok_assign rfl rfl rfl) rfl ?_; refine vo_nil ?_
      exact N_round (x := (i, k, n)) (i + 1, k, n) ⟨hlt, by dsimp only; rw [htk, List.count_append, ← hn, List.count_cons_of_ne hx]; rfl, by dsimp only; omega, hk⟩ (by dsimp only; omega) ⟨rfl, rfl, rfl, rfl, rfl, trivial⟩
  · obtain rfl : i = s.size := by omega
    rw [List.take_of_length_le (by omega)] at hn
    by_cases h1 : n = 1
    · obtain ⟨hk1, hk2⟩ := hk h1
      rcases split_b s 64 with h64 | ⟨a, b, rfl, ha⟩
      · rw [List.count_eq_zero_of_not_mem h64] at hn; omega
      · have hls := mid_list a b 64
        have hsz := mid_size a b 64
        have hb : noB b 64 := fun hm => by
          have := List.count_pos_iff.2 hm
          rw [hls, List.count_append, List.count_cons_self] at hn
          omega
        obtain rfl : k = a.size := (at_of hls ha hb hk2).trans (len_toList a)
        have hcut : cutA (a ++ ⟨#[64]⟩ ++ b) 64 = (a, b, true) := cutA_mid ha
        have x1 : (a ++ ⟨#[64]⟩ ++ b).extract 0 a.size = a := by
          have := ext_mid ⟨#[]⟩ a (⟨#[64]⟩ ++ b) 0 a.size rfl (by show _ = 0 + _; omega)
          conv => rhs; rw [← this]
          congr 1; apply ba_ext'; simp [list_app]
        have x2 : (a ++ ⟨#[64]⟩ ++ b).extract (a.size + 1) (a ++ ⟨#[64]⟩ ++ b).size = b := by
          have := ext_mid (a ++ ⟨#[64]⟩) b ⟨#[]⟩ (a.size + 1) (a ++ ⟨#[64]⟩ ++ b).size (by rw [ByteArray.size_append]; rfl) (by rw [ByteArray.size_append])
          conv => rhs; rw [← this]
          congr 1; apply ba_ext'; simp [list_app]
        have za : a.size ≤ 1000000 := by omega
        have zb : b.size ≤ 1000000 := by omega
        have hadd : IntKind.i64.wrap ((a.size : Int) + 1) = ((a.size + 1 : Nat) : Int) := wrap_i64 (by omega) (by omega) |>.trans (by omega)
        have hpt : ptA (a ++ ⟨#[64]⟩ ++ b) = if (pgA a).2.2.2 = 0 then (if (psA b).2.2.2 = 0 then (((((pgA a).1, (pgA a).2.1), (pgA a).2.2.1), (((psA b).1, (psA b).2.1), (psA b).2.2.1)), 0) else ((((⟨#[]⟩, ⟨#[]⟩), ⟨#[]⟩), ((⟨#[]⟩, ⟨#[]⟩), ⟨#[]⟩)), (psA b).2.2.2)) else ((((⟨#[]⟩, ⟨#[]⟩), ⟨#[]⟩), ((⟨#[]⟩, ⟨#[]⟩), ⟨#[]⟩)), (pgA a).2.2.2) := by
          unfold ptA
          rw [hcut]
          dsimp only
          rw [if_pos ⟨rfl, hasA_no hb⟩]
        clear hk hk2 hn hcut
        generalize a ++ ⟨#[64]⟩ ++ b = s at *
        rcases hra : rp1 a with ⟨o1, o2, rel, has, e⟩
        rcases hrb : rp1 b with ⟨p1, p2, rel2, has2, e2⟩
        cases has
        · have g1 : pgA a = (sNil, sNil, sNil, 5) := by rw [pg_rp, hra]; rfl
          rw [hpt, g1, if_neg (by decide)]
          by_cases h5 : e = 5
          · skip
            refine V_seq ?_; refine V_seq ?_; refine V_region (id := 3) ?_; refine vo_step (ok_move rfl rfl rfl) rfl ?_; refine vo_step (ok_move rfl rfl rfl) rfl ?_; refine vo_step (ok_lenS L rfl rfl rfl rfl) rfl ?_; refine vo_step (ok_lss rfl rfl rfl rfl (decide_eq_false (by omega))) rfl ?_; refine vo_nil ?_; refine N_seq ?_; refine V_false rfl ?_; refine V_exit ?_; refine X_then ?_; refine X_then ?_; refine X_here ?_; refine N_seq ?_; refine V_seq ?_; refine V_seq ?_; refine V_region (id := 8) ?_; refine vo_step (ok_move rfl rfl rfl) rfl ?_; refine vo_step (ok_neq rfl rfl rfl rfl (decide_eq_false (by omega))) rfl ?_; refine vo_nil ?_; refine N_seq ?_; refine V_false rfl ?_; refine V_skip ?_; refine N_seq ?_; refine V_seq ?_; refine V_region (id := 10) ?_; refine vo_step (ok_move rfl rfl rfl) rfl ?_; refine vo_step (ok_move rfl rfl rfl) rfl ?_; refine vo_step (ok_sliceS L (kl := .i64) (pl := 0) 0 a.size rfl rfl rfl rfl rfl ⟨rfl, rfl⟩ (by omega) (by omega) x1) rfl ?_; refine vo_step (ok_callx L rfl rfl (blt_lt rfl) rfl rfl rfl (fun u H hH _ _ => rparse1_ret' hra za hH)) rfl ?_; refine vo_step (ok_move rfl rfl rfl) rfl ?_; refine vo_step (ok_extract rfl rfl rfl rfl) rfl ?_; refine vo_step (ok_extract rfl rfl rfl rfl) rfl ?_; refine vo_step (ok_extract rfl rfl rfl rfl) rfl ?_; refine vo_step (ok_extract rfl rfl rfl rfl) rfl ?_; refine vo_step (ok_alloc L rfl rfl rfl rfl) rfl ?_; refine vo_step (ok_store L rfl rfl rfl rfl rfl rfl rfl rfl) rfl ?_; refine vo_step (ok_assign rfl rfl rfl) rfl ?_; refine vo_step (ok_assign rfl rfl rfl) rfl ?_; refine vo_step (ok_assign rfl rfl rfl) rfl ?_; refine vo_nil ?_; refine N_seq ?_; refine V_seq ?_; refine V_seq ?_; refine V_region (id := 11) ?_; refine vo_step (ok_move rfl rfl rfl) rfl ?_; refine vo_step (ok_neq rfl rfl rfl rfl (decide_eq_false (by omega))) rfl ?_; refine vo_step (ok_move rfl rfl rfl) rfl ?_; refine vo_step (ok_skip rfl (blt_lt rfl) rfl) rfl ?_; refine vo_step (ok_skip rfl (blt_lt rfl) rfl) rfl ?_; refine vo_step (ok_pick rfl rfl rfl rfl) rfl ?_; refine vo_nil ?_; refine N_seq ?_; refine V_false rfl ?_; refine V_skip ?_; refine N_seq ?_; refine V_seq ?_; refine V_seq ?_; refine V_region (id := 13) ?_; refine vo_step (ok_move rfl rfl rfl) rfl ?_; refine vo_step (ok_neq rfl rfl rfl rfl (decide_eq_true (by omega))) rfl ?_; refine vo_nil ?_; refine N_seq ?_; refine V_true rfl ?_; refine V_seq ?_; refine V_region (id := 14) ?_; refine vo_step (ok_build (cs := [_, _, _, _, _, _]) rfl rfl pl81 rfl rfl) rfl ?_; refine vo_step (ok_move rfl rfl rfl) rfl ?_; refine vo_step (ok_store L rfl rfl rfl rfl rfl rfl rfl rfl) rfl ?_; refine vo_step (ok_assign rfl rfl rfl) rfl ?_; refine vo_nil ?_; refine N_seq ?_
            refine V_ret L (rs := [.cell 2 81, .tmp 3]) rfl (fun _ _ h => h) Since.refl fun u H hH hle => ?_
            refine ⟨_, src_own rfl, rfl, ?_⟩
            rw [h5]; rfl
          · refine V_seq ?_; refine V_seq ?_; refine V_region (id := 3) ?_; refine vo_step (ok_move rfl rfl rfl) rfl ?_; refine vo_step (ok_move rfl rfl rfl) rfl ?_; refine vo_step (ok_lenS L rfl rfl rfl rfl) rfl ?_; refine vo_step (ok_lss rfl rfl rfl rfl (decide_eq_false (by omega))) rfl ?_; refine vo_nil ?_; refine N_seq ?_; refine V_false rfl ?_; refine V_exit ?_; refine X_then ?_; refine X_then ?_; refine X_here ?_; refine N_seq ?_; refine V_seq ?_; refine V_seq ?_; refine V_region (id := 8) ?_; refine vo_step (ok_move rfl rfl rfl) rfl ?_; refine vo_step (ok_neq rfl rfl rfl rfl (decide_eq_false (by omega))) rfl ?_; refine vo_nil ?_; refine N_seq ?_; refine V_false rfl ?_; refine V_skip ?_; refine N_seq ?_; refine V_seq ?_; refine V_region (id := 10) ?_; refine vo_step (ok_move rfl rfl rfl) rfl ?_; refine vo_step (ok_move rfl rfl rfl) rfl ?_; refine vo_step (ok_sliceS L (kl := .i64) (pl := 0) 0 a.size rfl rfl rfl rfl rfl ⟨rfl, rfl⟩ (by omega) (by omega) x1) rfl ?_; refine vo_step (ok_callx L rfl rfl (blt_lt rfl) rfl rfl rfl (fun u H hH _ _ => rparse1_ret' hra za hH)) rfl ?_; refine vo_step (ok_move rfl rfl rfl) rfl ?_; refine vo_step (ok_extract rfl rfl rfl rfl) rfl ?_; refine vo_step (ok_extract rfl rfl rfl rfl) rfl ?_; refine vo_step (ok_extract rfl rfl rfl rfl) rfl ?_; refine vo_step (ok_extract rfl rfl rfl rfl) rfl ?_; refine vo_step (ok_alloc L rfl rfl rfl rfl) rfl ?_; refine vo_step (ok_store L rfl rfl rfl rfl rfl rfl rfl rfl) rfl ?_; refine vo_step (ok_assign rfl rfl rfl) rfl ?_; refine vo_step (ok_assign rfl rfl rfl) rfl ?_; refine vo_step (ok_assign rfl rfl rfl) rfl ?_; refine vo_nil ?_; refine N_seq ?_; refine V_seq ?_; refine V_seq ?_; refine V_region (id := 11) ?_; refine vo_step (ok_move rfl rfl rfl) rfl ?_; refine vo_step (ok_neq rfl rfl rfl rfl (decide_eq_true (by omega))) rfl ?_; refine vo_step (ok_move rfl rfl rfl) rfl ?_; refine vo_step (ok_move rfl rfl rfl) rfl ?_; refine vo_step (ok_not rfl rfl rfl rfl) rfl ?_; refine vo_step (ok_pick rfl rfl rfl rfl) rfl ?_; refine vo_nil ?_; refine N_seq ?_; refine V_true rfl ?_; refine V_region (id := 12) ?_; refine vo_step (ok_assign rfl rfl rfl) rfl ?_; refine vo_nil ?_; refine N_seq ?_; refine V_seq ?_; refine V_seq ?_; refine V_region (id := 13) ?_; refine vo_step (ok_move rfl rfl rfl) rfl ?_; refine vo_step (ok_neq rfl rfl rfl rfl (decide_eq_true (by omega))) rfl ?_; refine vo_nil ?_; refine N_seq ?_; refine V_true rfl ?_; refine V_seq ?_; refine V_region (id := 14) ?_; refine vo_step (ok_build (cs := [_, _, _, _, _, _]) rfl rfl pl81 rfl rfl) rfl ?_; refine vo_step (ok_move rfl rfl rfl) rfl ?_; refine vo_step (ok_store L rfl rfl rfl rfl rfl rfl rfl rfl) rfl ?_; refine vo_step (ok_assign rfl rfl rfl) rfl ?_; refine vo_nil ?_; refine N_seq ?_
            refine V_ret L (rs := [.cell 2 81, .tmp 3]) rfl (fun _ _ h => h) Since.refl fun u H hH hle => ?_
            exact ⟨_, src_own rfl, rfl, rfl⟩
        · by_cases h0 : e = 0
          · have g1 : pgA a = (o1, o2, rel, 0) := by rw [pg_rp, hra]; dsimp only; rw [if_neg (by decide), if_pos h0]
            by_cases h02 : e2 = 0
            · have g2 : psA b = (p1, p2, rel2, 0) := by rw [ps_rp, hrb]; dsimp only; rw [if_pos h02]
              rw [hpt, g1, g2, if_pos rfl, if_pos rfl]
              refine V_seq ?_; refine V_seq ?_; refine V_region (id := 3) ?_; refine vo_step (ok_move rfl rfl rfl) rfl ?_; refine vo_step (ok_move rfl rfl rfl) rfl ?_; refine vo_step (ok_lenS L rfl rfl rfl rfl) rfl ?_; refine vo_step (ok_lss rfl rfl rfl rfl (decide_eq_false (by omega))) rfl ?_; refine vo_nil ?_; refine N_seq ?_; refine V_false rfl ?_; refine V_exit ?_; refine X_then ?_; refine X_then ?_; refine X_here ?_; refine N_seq ?_; refine V_seq ?_; refine V_seq ?_; refine V_region (id := 8) ?_; refine vo_step (ok_move rfl rfl rfl) rfl ?_; refine vo_step (ok_neq rfl rfl rfl rfl (decide_eq_false (by omega))) rfl ?_; refine vo_nil ?_; refine N_seq ?_; refine V_false rfl ?_; refine V_skip ?_; refine N_seq ?_; refine V_seq ?_; refine V_region (id := 10) ?_; refine vo_step (ok_move rfl rfl rfl) rfl ?_; refine vo_step (ok_move rfl rfl rfl) rfl ?_; refine vo_step (ok_sliceS L (kl := .i64) (pl := 0) 0 a.size rfl rfl rfl rfl rfl ⟨rfl, rfl⟩ (by omega) (by omega) x1) rfl ?_; refine vo_step (ok_callx L rfl rfl (blt_lt rfl) rfl rfl rfl (fun u H hH _ _ => rparse1_ret' hra za hH)) rfl ?_; refine vo_step (ok_move rfl rfl rfl) rfl ?_; refine vo_step (ok_extract rfl rfl rfl rfl) rfl ?_; refine vo_step (ok_extract rfl rfl rfl rfl) rfl ?_; refine vo_step (ok_extract rfl rfl rfl rfl) rfl ?_; refine vo_step (ok_extract rfl rfl rfl rfl) rfl ?_; refine vo_step (ok_alloc L rfl rfl rfl rfl) rfl ?_; refine vo_step (ok_store L rfl rfl rfl rfl rfl rfl rfl rfl) rfl ?_; refine vo_step (ok_assign rfl rfl rfl) rfl ?_; refine vo_step (ok_assign rfl rfl rfl) rfl ?_; refine vo_step (ok_assign rfl rfl rfl) rfl ?_; refine vo_nil ?_; refine N_seq ?_; refine V_seq ?_; refine V_seq ?_; refine V_region (id := 11) ?_; refine vo_step (ok_move rfl rfl rfl) rfl ?_; refine vo_step (ok_neq rfl rfl rfl rfl (decide_eq_true (by omega))) rfl ?_; refine vo_step (ok_move rfl rfl rfl) rfl ?_; refine vo_step (ok_move rfl rfl rfl) rfl ?_; refine vo_step (ok_not rfl rfl rfl rfl) rfl ?_; refine vo_step (ok_pick rfl rfl rfl rfl) rfl ?_; refine vo_nil ?_; refine N_seq ?_; refine V_false rfl ?_; refine V_skip ?_; refine N_seq ?_; refine V_seq ?_; refine V_seq ?_; refine V_region (id := 13) ?_; refine vo_step (ok_move rfl rfl rfl) rfl ?_; refine vo_step (ok_neq rfl rfl rfl rfl (decide_eq_false (by omega))) rfl ?_; refine vo_nil ?_; refine N_seq ?_; refine V_false rfl ?_; refine V_skip ?_; refine N_seq ?_; refine V_seq ?_; refine V_region (id := 15) ?_; refine vo_step (ok_move rfl rfl rfl) rfl ?_; refine vo_step (ok_move rfl rfl rfl) rfl ?_; refine vo_step (ok_add rfl rfl rfl rfl (by assumption)) rfl ?_; refine vo_step (ok_sliceS L (kh := .i64) (ph := 0) (a.size + 1) _ rfl rfl rfl rfl ⟨rfl, rfl⟩ rfl (by omega) (by omega) x2) rfl ?_; refine vo_step (ok_callx L rfl rfl (blt_lt rfl) rfl rfl rfl (fun u H hH _ _ => rparse1_ret' hrb zb hH)) rfl ?_; refine vo_step (ok_move rfl rfl rfl) rfl ?_; refine vo_step (ok_extract rfl rfl rfl rfl) rfl ?_; refine vo_step (ok_extract rfl rfl rfl rfl) rfl ?_; refine vo_step (ok_extract rfl rfl rfl rfl) rfl ?_; refine vo_step (ok_extract rfl rfl rfl rfl) rfl ?_; refine vo_step (ok_alloc L rfl rfl rfl rfl) rfl ?_; refine vo_step (ok_store L rfl rfl rfl rfl rfl rfl rfl rfl) rfl ?_; refine vo_step (ok_assign rfl rfl rfl) rfl ?_; refine vo_step (ok_assign rfl rfl rfl) rfl ?_; refine vo_step (ok_assign rfl rfl rfl) rfl ?_; refine vo_nil ?_; refine N_seq ?_; refine V_seq ?_; refine V_seq ?_; refine V_region (id := 16) ?_; refine vo_step (ok_move rfl rfl rfl) rfl ?_; refine vo_step (ok_neq rfl rfl rfl rfl (decide_eq_false (by omega))) rfl ?_; refine vo_nil ?_; refine N_seq ?_; refine V_false rfl ?_; refine V_skip ?_; refine N_seq ?_; refine V_seq ?_; refine V_region (id := 18) ?_; refine vo_step (ok_loadA L (vs := [_, _]) (src_own rfl) rfl rfl rfl rfl ⟨_, rfl⟩) rfl ?_; refine vo_step (ok_move rfl rfl rfl) rfl ?_; refine vo_step (ok_build (cs := [_, _, _]) rfl rfl pl44 rfl rfl) rfl ?_; refine vo_step (ok_loadA L (vs := [_, _]) (src_own rfl) rfl rfl rfl rfl ⟨_, rfl⟩) rfl ?_; refine vo_step (ok_move rfl rfl rfl) rfl ?_; refine vo_step (ok_build (cs := [_, _, _]) rfl rfl pl79 rfl rfl) rfl ?_; refine vo_step (ok_build (cs := [_, _, _, _, _, _]) rfl rfl pl81 rfl rfl) rfl ?_; refine vo_step (ok_store L rfl rfl rfl rfl rfl rfl rfl rfl) rfl ?_; refine vo_step (ok_assign rfl rfl rfl) rfl ?_; refine vo_nil ?_; refine N_seq ?_
              refine V_ret L (rs := [.cell 2 81, .tmp 3]) rfl (fun _ _ h => h) Since.refl fun u H hH hle => ?_
              exact ⟨_, src_own rfl, rfl, rfl⟩
            · have g2 : psA b = (sNil, sNil, sNil, e2) := by rw [ps_rp, hrb]; dsimp only; rw [if_neg h02]
              rw [hpt, g1, g2, if_pos rfl, if_neg h02]
              refine V_seq ?_; refine V_seq ?_; refine V_region (id := 3) ?_; refine vo_step (ok_move rfl rfl rfl) rfl ?_; refine vo_step (ok_move rfl rfl rfl) rfl ?_; refine vo_step (ok_lenS L rfl rfl rfl rfl) rfl ?_; refine vo_step (ok_lss rfl rfl rfl rfl (decide_eq_false (by omega))) rfl ?_; refine vo_nil ?_; refine N_seq ?_; refine V_false rfl ?_; refine V_exit ?_; refine X_then ?_; refine X_then ?_; refine X_here ?_; refine N_seq ?_; refine V_seq ?_; refine V_seq ?_; refine V_region (id := 8) ?_; refine vo_step (ok_move rfl rfl rfl) rfl ?_; refine vo_step (ok_neq rfl rfl rfl rfl (decide_eq_false (by omega))) rfl ?_; refine vo_nil ?_; refine N_seq ?_; refine V_false rfl ?_; refine V_skip ?_; refine N_seq ?_; refine V_seq ?_; refine V_region (id := 10) ?_; refine vo_step (ok_move rfl rfl rfl) rfl ?_; refine vo_step (ok_move rfl rfl rfl) rfl ?_; refine vo_step (ok_sliceS L (kl := .i64) (pl := 0) 0 a.size rfl rfl rfl rfl rfl ⟨rfl, rfl⟩ (by omega) (by omega) x1) rfl ?_; refine vo_step (ok_callx L rfl rfl (blt_lt rfl) rfl rfl rfl (fun u H hH _ _ => rparse1_ret' hra za hH)) rfl ?_; refine vo_step (ok_move rfl rfl rfl) rfl ?_; refine vo_step (ok_extract rfl rfl rfl rfl) rfl ?_; refine vo_step (ok_extract rfl rfl rfl rfl) rfl ?_; refine vo_step (ok_extract rfl rfl rfl rfl) rfl ?_; refine vo_step (ok_extract rfl rfl rfl rfl) rfl ?_; refine vo_step (ok_alloc L rfl rfl rfl rfl) rfl ?_; refine vo_step (ok_store L rfl rfl rfl rfl rfl rfl rfl rfl) rfl ?_; refine vo_step (ok_assign rfl rfl rfl) rfl ?_; refine vo_step (ok_assign rfl rfl rfl) rfl ?_; refine vo_step (ok_assign rfl rfl rfl) rfl ?_; refine vo_nil ?_; refine N_seq ?_; refine V_seq ?_; refine V_seq ?_; refine V_region (id := 11) ?_; refine vo_step (ok_move rfl rfl rfl) rfl ?_; refine vo_step (ok_neq rfl rfl rfl rfl (decide_eq_true (by omega))) rfl ?_; refine vo_step (ok_move rfl rfl rfl) rfl ?_; refine vo_step (ok_move rfl rfl rfl) rfl ?_; refine vo_step (ok_not rfl rfl rfl rfl) rfl ?_; refine vo_step (ok_pick rfl rfl rfl rfl) rfl ?_; refine vo_nil ?_; refine N_seq ?_; refine V_false rfl ?_; refine V_skip ?_; refine N_seq ?_; refine V_seq ?_; refine V_seq ?_; refine V_region (id := 13) ?_; refine vo_step (ok_move rfl rfl rfl) rfl ?_; refine vo_step (ok_neq rfl rfl rfl rfl (decide_eq_false (by omega))) rfl ?_; refine vo_nil ?_; refine N_seq ?_; refine V_false rfl ?_; refine V_skip ?_; refine N_seq ?_; refine V_seq ?_; refine V_region (id := 15) ?_; refine vo_step (ok_move rfl rfl rfl) rfl ?_; refine vo_step (ok_move rfl rfl rfl) rfl ?_; refine vo_step (ok_add rfl rfl rfl rfl (by assumption)) rfl ?_; refine vo_step (ok_sliceS L (kh := .i64) (ph := 0) (a.size + 1) _ rfl rfl rfl rfl ⟨rfl, rfl⟩ rfl (by omega) (by omega) x2) rfl ?_; refine vo_step (ok_callx L rfl rfl (blt_lt rfl) rfl rfl rfl (fun u H hH _ _ => rparse1_ret' hrb zb hH)) rfl ?_; refine vo_step (ok_move rfl rfl rfl) rfl ?_; refine vo_step (ok_extract rfl rfl rfl rfl) rfl ?_; refine vo_step (ok_extract rfl rfl rfl rfl) rfl ?_; refine vo_step (ok_extract rfl rfl rfl rfl) rfl ?_; refine vo_step (ok_extract rfl rfl rfl rfl) rfl ?_; refine vo_step (ok_alloc L rfl rfl rfl rfl) rfl ?_; refine vo_step (ok_store L rfl rfl rfl rfl rfl rfl rfl rfl) rfl ?_; refine vo_step (ok_assign rfl rfl rfl) rfl ?_; refine vo_step (ok_assign rfl rfl rfl) rfl ?_; refine vo_step (ok_assign rfl rfl rfl) rfl ?_; refine vo_nil ?_; refine N_seq ?_; refine V_seq ?_; refine V_seq ?_; refine V_region (id := 16) ?_; refine vo_step (ok_move rfl rfl rfl) rfl ?_; refine vo_step (ok_neq rfl rfl rfl rfl (decide_eq_true (by omega))) rfl ?_; refine vo_nil ?_; refine N_seq ?_; refine V_true rfl ?_; refine V_seq ?_; refine V_region (id := 17) ?_; refine vo_step (ok_build (cs := [_, _, _, _, _, _]) rfl rfl pl81 rfl rfl) rfl ?_; refine vo_step (ok_move rfl rfl rfl) rfl ?_; refine vo_step (ok_store L rfl rfl rfl rfl rfl rfl rfl rfl) rfl ?_; refine vo_step (ok_assign rfl rfl rfl) rfl ?_; refine vo_nil ?_; refine N_seq ?_
              refine V_ret L (rs := [.cell 2 81, .tmp 3]) rfl (fun _ _ h => h) Since.refl fun u H hH hle => ?_
              exact ⟨_, src_own rfl, rfl, rfl⟩
          · have g1 : pgA a = (sNil, sNil, sNil, e) := by rw [pg_rp, hra]; dsimp only; rw [if_neg (by decide), if_neg h0]
            rw [hpt, g1, if_neg h0]
            by_cases h5 : e = 5
            · refine V_seq ?_; refine V_seq ?_; refine V_region (id := 3) ?_; refine vo_step (ok_move rfl rfl rfl) rfl ?_; refine vo_step (ok_move rfl rfl rfl) rfl ?_; refine vo_step (ok_lenS L rfl rfl rfl rfl) rfl ?_; refine vo_step (ok_lss rfl rfl rfl rfl (decide_eq_false (by omega))) rfl ?_; refine vo_nil ?_; refine N_seq ?_; refine V_false rfl ?_; refine V_exit ?_; refine X_then ?_; refine X_then ?_; refine X_here ?_; refine N_seq ?_; refine V_seq ?_; refine V_seq ?_; refine V_region (id := 8) ?_; refine vo_step (ok_move rfl rfl rfl) rfl ?_; refine vo_step (ok_neq rfl rfl rfl rfl (decide_eq_false (by omega))) rfl ?_; refine vo_nil ?_; refine N_seq ?_; refine V_false rfl ?_; refine V_skip ?_; refine N_seq ?_; refine V_seq ?_; refine V_region (id := 10) ?_; refine vo_step (ok_move rfl rfl rfl) rfl ?_; refine vo_step (ok_move rfl rfl rfl) rfl ?_; refine vo_step (ok_sliceS L (kl := .i64) (pl := 0) 0 a.size rfl rfl rfl rfl rfl ⟨rfl, rfl⟩ (by omega) (by omega) x1) rfl ?_; refine vo_step (ok_callx L rfl rfl (blt_lt rfl) rfl rfl rfl (fun u H hH _ _ => rparse1_ret' hra za hH)) rfl ?_; refine vo_step (ok_move rfl rfl rfl) rfl ?_; refine vo_step (ok_extract rfl rfl rfl rfl) rfl ?_; refine vo_step (ok_extract rfl rfl rfl rfl) rfl ?_; refine vo_step (ok_extract rfl rfl rfl rfl) rfl ?_; refine vo_step (ok_extract rfl rfl rfl rfl) rfl ?_; refine vo_step (ok_alloc L rfl rfl rfl rfl) rfl ?_; refine vo_step (ok_store L rfl rfl rfl rfl rfl rfl rfl rfl) rfl ?_; refine vo_step (ok_assign rfl rfl rfl) rfl ?_; refine vo_step (ok_assign rfl rfl rfl) rfl ?_; refine vo_step (ok_assign rfl rfl rfl) rfl ?_; refine vo_nil ?_; refine N_seq ?_; refine V_seq ?_; refine V_seq ?_; refine V_region (id := 11) ?_; refine vo_step (ok_move rfl rfl rfl) rfl ?_; refine vo_step (ok_neq rfl rfl rfl rfl (decide_eq_false (by omega))) rfl ?_; refine vo_step (ok_move rfl rfl rfl) rfl ?_; refine vo_step (ok_skip rfl (blt_lt rfl) rfl) rfl ?_; refine vo_step (ok_skip rfl (blt_lt rfl) rfl) rfl ?_; refine vo_step (ok_pick rfl rfl rfl rfl) rfl ?_; refine vo_nil ?_; refine N_seq ?_; refine V_false rfl ?_; refine V_skip ?_; refine N_seq ?_; refine V_seq ?_; refine V_seq ?_; refine V_region (id := 13) ?_; refine vo_step (ok_move rfl rfl rfl) rfl ?_; refine vo_step (ok_neq rfl rfl rfl rfl (decide_eq_true (by omega))) rfl ?_; refine vo_nil ?_; refine N_seq ?_; refine V_true rfl ?_; refine V_seq ?_; refine V_region (id := 14) ?_; refine vo_step (ok_build (cs := [_, _, _, _, _, _]) rfl rfl pl81 rfl rfl) rfl ?_; refine vo_step (ok_move rfl rfl rfl) rfl ?_; refine vo_step (ok_store L rfl rfl rfl rfl rfl rfl rfl rfl) rfl ?_; refine vo_step (ok_assign rfl rfl rfl) rfl ?_; refine vo_nil ?_; refine N_seq ?_
              refine V_ret L (rs := [.cell 2 81, .tmp 3]) rfl (fun _ _ h => h) Since.refl fun u H hH hle => ?_
              exact ⟨_, src_own rfl, rfl, rfl⟩
            · refine V_seq ?_; refine V_seq ?_; refine V_region (id := 3) ?_; refine vo_step (ok_move rfl rfl rfl) rfl ?_; refine vo_step (ok_move rfl rfl rfl) rfl ?_; refine vo_step (ok_lenS L rfl rfl rfl rfl) rfl ?_; refine vo_step (ok_lss rfl rfl rfl rfl (decide_eq_false (by omega))) rfl ?_; refine vo_nil ?_; refine N_seq ?_; refine V_false rfl ?_; refine V_exit ?_; refine X_then ?_; refine X_then ?_; refine X_here ?_; refine N_seq ?_; refine V_seq ?_; refine V_seq ?_; refine V_region (id := 8) ?_; refine vo_step (ok_move rfl rfl rfl) rfl ?_; refine vo_step (ok_neq rfl rfl rfl rfl (decide_eq_false (by omega))) rfl ?_; refine vo_nil ?_; refine N_seq ?_; refine V_false rfl ?_; refine V_skip ?_; refine N_seq ?_; refine V_seq ?_; refine V_region (id := 10) ?_; refine vo_step (ok_move rfl rfl rfl) rfl ?_; refine vo_step (ok_move rfl rfl rfl) rfl ?_; refine vo_step (ok_sliceS L (kl := .i64) (pl := 0) 0 a.size rfl rfl rfl rfl rfl ⟨rfl, rfl⟩ (by omega) (by omega) x1) rfl ?_; refine vo_step (ok_callx L rfl rfl (blt_lt rfl) rfl rfl rfl (fun u H hH _ _ => rparse1_ret' hra za hH)) rfl ?_; refine vo_step (ok_move rfl rfl rfl) rfl ?_; refine vo_step (ok_extract rfl rfl rfl rfl) rfl ?_; refine vo_step (ok_extract rfl rfl rfl rfl) rfl ?_; refine vo_step (ok_extract rfl rfl rfl rfl) rfl ?_; refine vo_step (ok_extract rfl rfl rfl rfl) rfl ?_; refine vo_step (ok_alloc L rfl rfl rfl rfl) rfl ?_; refine vo_step (ok_store L rfl rfl rfl rfl rfl rfl rfl rfl) rfl ?_; refine vo_step (ok_assign rfl rfl rfl) rfl ?_; refine vo_step (ok_assign rfl rfl rfl) rfl ?_; refine vo_step (ok_assign rfl rfl rfl) rfl ?_; refine vo_nil ?_; refine N_seq ?_; refine V_seq ?_; refine V_seq ?_; refine V_region (id := 11) ?_; refine vo_step (ok_move rfl rfl rfl) rfl ?_; refine vo_step (ok_neq rfl rfl rfl rfl (decide_eq_true (by omega))) rfl ?_; refine vo_step (ok_move rfl rfl rfl) rfl ?_; refine vo_step (ok_move rfl rfl rfl) rfl ?_; refine vo_step (ok_not rfl rfl rfl rfl) rfl ?_; refine vo_step (ok_pick rfl rfl rfl rfl) rfl ?_; refine vo_nil ?_; refine N_seq ?_; refine V_false rfl ?_; refine V_skip ?_; refine N_seq ?_; refine V_seq ?_; refine V_seq ?_; refine V_region (id := 13) ?_; refine vo_step (ok_move rfl rfl rfl) rfl ?_; refine vo_step (ok_neq rfl rfl rfl rfl (decide_eq_true (by omega))) rfl ?_; refine vo_nil ?_; refine N_seq ?_; refine V_true rfl ?_; refine V_seq ?_; refine V_region (id := 14) ?_; refine vo_step (ok_build (cs := [_, _, _, _, _, _]) rfl rfl pl81 rfl rfl) rfl ?_; refine vo_step (ok_move rfl rfl rfl) rfl ?_; refine vo_step (ok_store L rfl rfl rfl rfl rfl rfl rfl rfl) rfl ?_; refine vo_step (ok_assign rfl rfl rfl) rfl ?_; refine vo_nil ?_; refine N_seq ?_
              refine V_ret L (rs := [.cell 2 81, .tmp 3]) rfl (fun _ _ h => h) Since.refl fun u H hH hle => ?_
              exact ⟨_, src_own rfl, rfl, rfl⟩
    · have hpt : ptA s = ((((⟨#[]⟩, ⟨#[]⟩), ⟨#[]⟩), ((⟨#[]⟩, ⟨#[]⟩), ⟨#[]⟩)), 5) := by
        unfold ptA
        rw [if_neg]
        rintro ⟨hc1, hc2⟩
        rcases split_b s 64 with h64 | ⟨a, b, rfl, ha⟩
        · rw [cutA_no h64] at hc1; cases hc1
        · rw [cutA_mid ha] at hc2
          by_cases hb : noB b 64
          · apply h1
            rw [hn, mid_list, List.count_append, List.count_cons_self, List.count_eq_zero_of_not_mem ha, List.count_eq_zero_of_not_mem hb]
          · rw [show hasA b 64 = true from hasA_yes hb] at hc2
            cases hc2
      rw [hpt]
      refine V_seq ?_; refine V_seq ?_; refine V_region (id := 3) ?_; refine vo_step (ok_move rfl rfl rfl) rfl ?_; refine vo_step (ok_move rfl rfl rfl) rfl ?_; refine vo_step (ok_lenS L rfl rfl rfl rfl) rfl ?_; refine vo_step (ok_lss rfl rfl rfl rfl (decide_eq_false (by omega))) rfl ?_; refine vo_nil ?_; refine N_seq ?_; refine V_false rfl ?_; refine V_exit ?_; refine X_then ?_; refine X_then ?_; refine X_here ?_; refine N_seq ?_; refine V_seq ?_; refine V_seq ?_; refine V_region (id := 8) ?_; refine vo_step (ok_move rfl rfl rfl) rfl ?_; refine vo_step (ok_neq rfl rfl rfl rfl (decide_eq_true (by omega))) rfl ?_; refine vo_nil ?_; refine N_seq ?_; refine V_true rfl ?_; refine V_seq ?_; refine V_region (id := 9) ?_; refine vo_step (ok_build (cs := [_, _, _, _, _, _]) rfl rfl pl81 rfl rfl) rfl ?_; refine vo_step (ok_store L rfl rfl rfl rfl rfl rfl rfl rfl) rfl ?_; refine vo_step (ok_assign rfl rfl rfl) rfl ?_; refine vo_nil ?_; refine N_seq ?_
      refine V_ret L (rs := [.cell 2 81, .tmp 3]) rfl (fun _ _ h => h) Since.refl fun u H hH hle => ?_
      exact ⟨_, src_own rfl, rfl, rfl⟩
end Go.V.L2
/- The goals and tuples of the statements (chapters 2, 23): plain words. -/
namespace Go.V
open Go.Proofs Go.RowKit
def spaceS (n : Nat) : ByteArray := match n % 3 with
  | 0 => ⟨#[100, 111, 99]⟩
  | 1 => ⟨#[102, 111, 108, 100, 101, 114]⟩
  | _ => ⟨#[103, 114, 111, 117, 112]⟩
def idS (n : Nat) : ByteArray := match n % 5 with
  | 0 => ⟨#[97]⟩
  | 1 => ⟨#[98]⟩
  | 2 => ⟨#[99, 49]⟩
  | 3 => ⟨#[100]⟩
  | _ => ⟨#[114, 111, 111, 116]⟩
def relS (n : Nat) : ByteArray := match n % 4 with
  | 0 => ⟨#[118, 105, 101, 119, 101, 114]⟩
  | 1 => ⟨#[101, 100, 105, 116, 111, 114]⟩
  | 2 => ⟨#[109, 101, 109, 98, 101, 114]⟩
  | _ => ⟨#[112, 97, 114, 101, 110, 116]⟩
theorem spaceS_ok (n : Nat) : chk (spaceS n) = 0 ∧ (spaceS n).size ≤ 16 := by
  unfold spaceS
  split <;> decide +kernel
theorem idS_ok (n : Nat) : chk (idS n) = 0 ∧ (idS n).size ≤ 16 := by
  unfold idS
  split <;> decide +kernel
theorem relS_ok (n : Nat) : chk (relS n) = 0 ∧ (relS n).size ≤ 16 := by
  unfold relS
  split <;> decide +kernel
/-- A goal of sixty. -/
def goalS (n : Nat) : (ByteArray × ByteArray) × ByteArray := ((spaceS n, idS (n / 3)), relS (n / 15))
theorem goalS_ok (n : Nat) : allE [(goalS n).1.1, (goalS n).1.2, (goalS n).2] = 0 := by
  simp only [allE, goalS, (spaceS_ok _).1, (idS_ok _).1, (relS_ok _).1, if_pos]
theorem goalS_size (n : Nat) : (goalS n).1.1.size ≤ 16 ∧ (goalS n).1.2.size ≤ 16 ∧ (goalS n).2.size ≤ 16 := ⟨(spaceS_ok _).2, (idS_ok _).2, (relS_ok _).2⟩
end Go.V
/- The walks of the goals of the statements (chapters 2, 23). -/
namespace Go.V
open Go.Proofs Go.RowKit
theorem spaceS_mod (n : Nat) : spaceS (n % 3) = spaceS n := by unfold spaceS; rw [Nat.mod_mod]
theorem idS_mod (n : Nat) : idS (n % 5) = idS n := by unfold idS; rw [Nat.mod_mod]
attribute [local irreducible] V N X VO Par StepOK Has Ret RetL Src
theorem space_ret (n : Nat) {w : World} {B : Heap} (hB : B.Le (hp w)) : Ret Try.prog 67 [.int .i64 n] w B (fun v _ => v = .string (spaceS n)) := by
  unfold spaceS
  have e : Int.tmod (n : Int) 3 = ((n % 3 : Nat) : Int) := rfl
  refine V_enter Try.func67 rfl Try.ntmps67 (Nat.le_of_ble_eq_true rfl) hB ?_
  have hlt := Nat.mod_lt n (show 0 < 3 by decide)
  rcases (by omega : n % 3 = 0 ∨ n % 3 = 1 ∨ n % 3 = 2) with h | h | h
  · have e0 : Int.tmod (n : Int) 3 = 0 := by rw [e, h]; rfl
    rw [h]
    refine V_seq ?_; refine V_region (id := 0) ?_; refine vo_step (ok_assign rfl rfl rfl) rfl ?_; refine vo_nil ?_; refine N_seq ?_; refine V_seq ?_; refine V_region (id := 1) ?_; refine vo_step (ok_buildSlice L rfl rfl rfl rfl rfl rfl rfl rfl rfl) rfl ?_; refine vo_step (ok_move rfl rfl rfl) rfl ?_; refine vo_step (ok_rem rfl rfl rfl rfl (by omega) (by assumption)) rfl ?_; refine vo_step (ok_indexSl L 0 rfl rfl rfl rfl rfl rfl rfl (by omega)) rfl ?_; refine vo_step (ok_load1 L (src_at rfl) rfl rfl rfl rfl) rfl ?_; refine vo_step (ok_assign rfl rfl rfl) rfl ?_; refine vo_nil ?_; refine N_seq ?_
    refine V_ret L (rs := [.tmp 2]) rfl (fun _ _ h => h) Since.refl fun u H hH hle => ?_
    rfl
  · have e0 : Int.tmod (n : Int) 3 = 1 := by rw [e, h]; rfl
    rw [h]
    refine V_seq ?_; refine V_region (id := 0) ?_; refine vo_step (ok_assign rfl rfl rfl) rfl ?_; refine vo_nil ?_; refine N_seq ?_; refine V_seq ?_; refine V_region (id := 1) ?_; refine vo_step (ok_buildSlice L rfl rfl rfl rfl rfl rfl rfl rfl rfl) rfl ?_; refine vo_step (ok_move rfl rfl rfl) rfl ?_; refine vo_step (ok_rem rfl rfl rfl rfl (by omega) (by assumption)) rfl ?_; refine vo_step (ok_indexSl L 1 rfl rfl rfl rfl rfl rfl rfl (by omega)) rfl ?_; refine vo_step (ok_load1 L (src_at rfl) rfl rfl rfl rfl) rfl ?_; refine vo_step (ok_assign rfl rfl rfl) rfl ?_; refine vo_nil ?_; refine N_seq ?_
    refine V_ret L (rs := [.tmp 2]) rfl (fun _ _ h => h) Since.refl fun u H hH hle => ?_
    rfl
  · have e0 : Int.tmod (n : Int) 3 = 2 := by rw [e, h]; rfl
    rw [h]
    refine V_seq ?_; refine V_region (id := 0) ?_; refine vo_step (ok_assign rfl rfl rfl) rfl ?_; refine vo_nil ?_; refine N_seq ?_; refine V_seq ?_; refine V_region (id := 1) ?_; refine vo_step (ok_buildSlice L rfl rfl rfl rfl rfl rfl rfl rfl rfl) rfl ?_; refine vo_step (ok_move rfl rfl rfl) rfl ?_; refine vo_step (ok_rem rfl rfl rfl rfl (by omega) (by assumption)) rfl ?_; refine vo_step (ok_indexSl L 2 rfl rfl rfl rfl rfl rfl rfl (by omega)) rfl ?_; refine vo_step (ok_load1 L (src_at rfl) rfl rfl rfl rfl) rfl ?_; refine vo_step (ok_assign rfl rfl rfl) rfl ?_; refine vo_nil ?_; refine N_seq ?_
    refine V_ret L (rs := [.tmp 2]) rfl (fun _ _ h => h) Since.refl fun u H hH hle => ?_
    rfl
theorem id_ret (n : Nat) {w : World} {B : Heap} (hB : B.Le (hp w)) : Ret Try.prog 68 [.int .i64 n] w B (fun v _ => v = .string (idS n)) := by
  unfold idS
  have e : Int.tmod (n : Int) 5 = ((n % 5 : Nat) : Int) := rfl
  refine V_enter Try.func68 rfl Try.ntmps68 (Nat.le_of_ble_eq_true rfl) hB ?_
  have hlt := Nat.mod_lt n (show 0 < 5 by decide)
  rcases (by omega : n % 5 = 0 ∨ n % 5 = 1 ∨ n % 5 = 2 ∨ n % 5 = 3 ∨ n % 5 = 4) with h | h | h | h | h
  · have e0 : Int.tmod (n : Int) 5 = 0 := by rw [e, h]; rfl
    rw [h]
    refine V_seq ?_; refine V_region (id := 0) ?_; refine vo_step (ok_assign rfl rfl rfl) rfl ?_; refine vo_nil ?_; refine N_seq ?_; refine V_seq ?_; refine V_region (id := 1) ?_; refine vo_step (ok_buildSlice L rfl rfl rfl rfl rfl rfl rfl rfl rfl) rfl ?_; refine vo_step (ok_move rfl rfl rfl) rfl ?_; refine vo_step (ok_rem rfl rfl rfl rfl (by omega) (by assumption)) rfl ?_; refine vo_step (ok_indexSl L 0 rfl rfl rfl rfl rfl rfl rfl (by omega)) rfl ?_; refine vo_step (ok_load1 L (src_at rfl) rfl rfl rfl rfl) rfl ?_; refine vo_step (ok_assign rfl rfl rfl) rfl ?_; refine vo_nil ?_; refine N_seq ?_
    refine V_ret L (rs := [.tmp 2]) rfl (fun _ _ h => h) Since.refl fun u H hH hle => ?_
    rfl
  · have e0 : Int.tmod (n : Int) 5 = 1 := by rw [e, h]; rfl
    rw [h]
    refine V_seq ?_; refine V_region (id := 0) ?_; refine vo_step (ok_assign rfl rfl rfl) rfl ?_; refine vo_nil ?_; refine N_seq ?_; refine V_seq ?_; refine V_region (id := 1) ?_; refine vo_step (ok_buildSlice L rfl rfl rfl rfl rfl rfl rfl rfl rfl) rfl ?_; refine vo_step (ok_move rfl rfl rfl) rfl ?_; refine vo_step (ok_rem rfl rfl rfl rfl (by omega) (by assumption)) rfl ?_; refine vo_step (ok_indexSl L 1 rfl rfl rfl rfl rfl rfl rfl (by omega)) rfl ?_; refine vo_step (ok_load1 L (src_at rfl) rfl rfl rfl rfl) rfl ?_; refine vo_step (ok_assign rfl rfl rfl) rfl ?_; refine vo_nil ?_; refine N_seq ?_
    refine V_ret L (rs := [.tmp 2]) rfl (fun _ _ h => h) Since.refl fun u H hH hle => ?_
    rfl
  · have e0 : Int.tmod (n : Int) 5 = 2 := by rw [e, h]; rfl
    rw [h]
    refine V_seq ?_; refine V_region (id := 0) ?_; refine vo_step (ok_assign rfl rfl rfl) rfl ?_; refine vo_nil ?_; refine N_seq ?_; refine V_seq ?_; refine V_region (id := 1) ?_; refine vo_step (ok_buildSlice L rfl rfl rfl rfl rfl rfl rfl rfl rfl) rfl ?_; refine vo_step (ok_move rfl rfl rfl) rfl ?_; refine vo_step (ok_rem rfl rfl rfl rfl (by omega) (by assumption)) rfl ?_; refine vo_step (ok_indexSl L 2 rfl rfl rfl rfl rfl rfl rfl (by omega)) rfl ?_; refine vo_step (ok_load1 L (src_at rfl) rfl rfl rfl rfl) rfl ?_; refine vo_step (ok_assign rfl rfl rfl) rfl ?_; refine vo_nil ?_; refine N_seq ?_
    refine V_ret L (rs := [.tmp 2]) rfl (fun _ _ h => h) Since.refl fun u H hH hle => ?_
    rfl
  · have e0 : Int.tmod (n : Int) 5 = 3 := by rw [e, h]; rfl
    rw [h]
    refine V_seq ?_; refine V_region (id := 0) ?_; refine vo_step (ok_assign rfl rfl rfl) rfl ?_; refine vo_nil ?_; refine N_seq ?_; refine V_seq ?_; refine V_region (id := 1) ?_; refine vo_step (ok_buildSlice L rfl rfl rfl rfl rfl rfl rfl rfl rfl) rfl ?_; refine vo_step (ok_move rfl rfl rfl) rfl ?_; refine vo_step (ok_rem rfl rfl rfl rfl (by omega) (by assumption)) rfl ?_; refine vo_step (ok_indexSl L 3 rfl rfl rfl rfl rfl rfl rfl (by omega)) rfl ?_; refine vo_step (ok_load1 L (src_at rfl) rfl rfl rfl rfl) rfl ?_; refine vo_step (ok_assign rfl rfl rfl) rfl ?_; refine vo_nil ?_; refine N_seq ?_
    refine V_ret L (rs := [.tmp 2]) rfl (fun _ _ h => h) Since.refl fun u H hH hle => ?_
    rfl
  · have e0 : Int.tmod (n : Int) 5 = 4 := by rw [e, h]; rfl
    rw [h]
    refine V_seq ?_; refine V_region (id := 0) ?_; refine vo_step (ok_assign rfl rfl rfl) rfl ?_; refine vo_nil ?_; refine N_seq ?_; refine V_seq ?_; refine V_region (id := 1) ?_; refine vo_step (ok_buildSlice L rfl rfl rfl rfl rfl rfl rfl rfl rfl) rfl ?_; refine vo_step (ok_move rfl rfl rfl) rfl ?_; refine vo_step (ok_rem rfl rfl rfl rfl (by omega) (by assumption)) rfl ?_; refine vo_step (ok_indexSl L 4 rfl rfl rfl rfl rfl rfl rfl (by omega)) rfl ?_; refine vo_step (ok_load1 L (src_at rfl) rfl rfl rfl rfl) rfl ?_; refine vo_step (ok_assign rfl rfl rfl) rfl ?_; refine vo_nil ?_; refine N_seq ?_
    refine V_ret L (rs := [.tmp 2]) rfl (fun _ _ h => h) Since.refl fun u H hH hle => ?_
    rfl
theorem rel_ret (n : Nat) {w : World} {B : Heap} (hB : B.Le (hp w)) : Ret Try.prog 69 [.int .i64 n] w B (fun v _ => v = .string (relS n)) := by
  unfold relS
  have e : Int.tmod (n : Int) 4 = ((n % 4 : Nat) : Int) := rfl
  refine V_enter Try.func69 rfl Try.ntmps69 (Nat.le_of_ble_eq_true rfl) hB ?_
  have hlt := Nat.mod_lt n (show 0 < 4 by decide)
  rcases (by omega : n % 4 = 0 ∨ n % 4 = 1 ∨ n % 4 = 2 ∨ n % 4 = 3) with h | h | h | h
  · have e0 : Int.tmod (n : Int) 4 = 0 := by rw [e, h]; rfl
    rw [h]
    refine V_seq ?_; refine V_region (id := 0) ?_; refine vo_step (ok_assign rfl rfl rfl) rfl ?_; refine vo_nil ?_; refine N_seq ?_; refine V_seq ?_; refine V_region (id := 1) ?_; refine vo_step (ok_buildSlice L rfl rfl rfl rfl rfl rfl rfl rfl rfl) rfl ?_; refine vo_step (ok_move rfl rfl rfl) rfl ?_; refine vo_step (ok_rem rfl rfl rfl rfl (by omega) (by assumption)) rfl ?_; refine vo_step (ok_indexSl L 0 rfl rfl rfl rfl rfl rfl rfl (by omega)) rfl ?_; refine vo_step (ok_load1 L (src_at rfl) rfl rfl rfl rfl) rfl ?_; refine vo_step (ok_assign rfl rfl rfl) rfl ?_; refine vo_nil ?_; refine N_seq ?_
    refine V_ret L (rs := [.tmp 2]) rfl (fun _ _ h => h) Since.refl fun u H hH hle => ?_
    rfl
  · have e0 : Int.tmod (n : Int) 4 = 1 := by rw [e, h]; rfl
    rw [h]
    refine V_seq ?_; refine V_region (id := 0) ?_; refine vo_step (ok_assign rfl rfl rfl) rfl ?_; refine vo_nil ?_; refine N_seq ?_; refine V_seq ?_; refine V_region (id := 1) ?_; refine vo_step (ok_buildSlice L rfl rfl rfl rfl rfl rfl rfl rfl rfl) rfl ?_; refine vo_step (ok_move rfl rfl rfl) rfl ?_; refine vo_step (ok_rem rfl rfl rfl rfl (by omega) (by assumption)) rfl ?_; refine vo_step (ok_indexSl L 1 rfl rfl rfl rfl rfl rfl rfl (by omega)) rfl ?_; refine vo_step (ok_load1 L (src_at rfl) rfl rfl rfl rfl) rfl ?_; refine vo_step (ok_assign rfl rfl rfl) rfl ?_; refine vo_nil ?_; refine N_seq ?_
    refine V_ret L (rs := [.tmp 2]) rfl (fun _ _ h => h) Since.refl fun u H hH hle => ?_
    rfl
  · have e0 : Int.tmod (n : Int) 4 = 2 := by rw [e, h]; rfl
    rw [h]
    refine V_seq ?_; refine V_region (id := 0) ?_; refine vo_step (ok_assign rfl rfl rfl) rfl ?_; refine vo_nil ?_; refine N_seq ?_; refine V_seq ?_; refine V_region (id := 1) ?_; refine vo_step (ok_buildSlice L rfl rfl rfl rfl rfl rfl rfl rfl rfl) rfl ?_; refine vo_step (ok_move rfl rfl rfl) rfl ?_; refine vo_step (ok_rem rfl rfl rfl rfl (by omega) (by assumption)) rfl ?_; refine vo_step (ok_indexSl L 2 rfl rfl rfl rfl rfl rfl rfl (by omega)) rfl ?_; refine vo_step (ok_load1 L (src_at rfl) rfl rfl rfl rfl) rfl ?_; refine vo_step (ok_assign rfl rfl rfl) rfl ?_; refine vo_nil ?_; refine N_seq ?_
    refine V_ret L (rs := [.tmp 2]) rfl (fun _ _ h => h) Since.refl fun u H hH hle => ?_
    rfl
  · have e0 : Int.tmod (n : Int) 4 = 3 := by rw [e, h]; rfl
    rw [h]
    refine V_seq ?_; refine V_region (id := 0) ?_; refine vo_step (ok_assign rfl rfl rfl) rfl ?_; refine vo_nil ?_; refine N_seq ?_; refine V_seq ?_; refine V_region (id := 1) ?_; refine vo_step (ok_buildSlice L rfl rfl rfl rfl rfl rfl rfl rfl rfl) rfl ?_; refine vo_step (ok_move rfl rfl rfl) rfl ?_; refine vo_step (ok_rem rfl rfl rfl rfl (by omega) (by assumption)) rfl ?_; refine vo_step (ok_indexSl L 3 rfl rfl rfl rfl rfl rfl rfl (by omega)) rfl ?_; refine vo_step (ok_load1 L (src_at rfl) rfl rfl rfl rfl) rfl ?_; refine vo_step (ok_assign rfl rfl rfl) rfl ?_; refine vo_nil ?_; refine N_seq ?_
    refine V_ret L (rs := [.tmp 2]) rfl (fun _ _ h => h) Since.refl fun u H hH hle => ?_
    rfl
theorem one23_ret (n : Nat) (hn : n ≤ 255) {w : World} {B : Heap} (hB : B.Le (hp w)) : Ret Try.prog 33 [.int .u8 n] w B (fun v _ => v = .agg #[.string (goalS (n % 60)).1.1, .string (goalS (n % 60)).1.2, .string (goalS (n % 60)).2]) := by
  have e : Int.tmod (n : Int) 60 = ((n % 60 : Nat) : Int) := rfl
  have hlt := Nat.mod_lt n (show 0 < 60 by decide)
  generalize n % 60 = m at e hlt
  have e3 : Int.tmod (m : Int) 3 = ((m % 3 : Nat) : Int) := rfl
  have d3 : IntKind.i64.wrap ((m : Int).tdiv 3) = ((m / 3 : Nat) : Int) := wrap_i64 (by rw [show (m : Int).tdiv 3 = ((m / 3 : Nat) : Int) from rfl]; omega) (by rw [show (m : Int).tdiv 3 = ((m / 3 : Nat) : Int) from rfl]; omega)
  have e5 : Int.tmod ((m / 3 : Nat) : Int) 5 = ((m / 3 % 5 : Nat) : Int) := rfl
  have d15 : IntKind.i64.wrap ((m : Int).tdiv 15) = ((m / 15 : Nat) : Int) := wrap_i64 (by rw [show (m : Int).tdiv 15 = ((m / 15 : Nat) : Int) from rfl]; omega) (by rw [show (m : Int).tdiv 15 = ((m / 15 : Nat) : Int) from rfl]; omega)
  unfold goalS
  rw [← spaceS_mod m, ← idS_mod (m / 3)]
  refine V_enter Try.func33 rfl Try.ntmps33 (Nat.le_of_ble_eq_true rfl) hB ?_
  refine V_seq ?_; refine V_region (id := 0) ?_; refine vo_step (ok_alloc L rfl rfl rfl rfl) rfl ?_; refine vo_nil ?_; refine N_seq ?_; refine V_seq ?_; refine V_region (id := 1) ?_; refine vo_step (ok_move rfl rfl rfl) rfl ?_; refine vo_step (ok_rem rfl rfl rfl rfl (by omega) (by assumption)) rfl ?_; refine vo_step (ok_conv rfl rfl rfl cv5_3.1 cv5_3.2 (wrap_i64 (by omega) (by omega))) rfl ?_; refine vo_step (ok_assign rfl rfl rfl) rfl ?_; refine vo_nil ?_; refine N_seq ?_; refine V_seq ?_; refine V_region (id := 2) ?_; refine vo_step (ok_move rfl rfl rfl) rfl ?_; refine vo_step (ok_rem rfl rfl rfl rfl (by omega) (by assumption)) rfl ?_; refine vo_step (ok_callx L rfl rfl (blt_lt rfl) rfl rfl rfl (fun u H hH _ _ => space_ret _ hH)) rfl ?_; refine vo_step (ok_move rfl rfl rfl) rfl ?_; refine vo_step (ok_quo rfl rfl rfl rfl (by omega) (by assumption)) rfl ?_; refine vo_step (ok_rem rfl rfl rfl rfl (by omega) (by assumption)) rfl ?_; refine vo_step (ok_callx L rfl rfl (blt_lt rfl) rfl rfl rfl (fun u H hH _ _ => id_ret _ hH)) rfl ?_; refine vo_step (ok_build (cs := [_, _]) rfl rfl pl42 rfl rfl) rfl ?_; refine vo_step (ok_move rfl rfl rfl) rfl ?_; refine vo_step (ok_quo rfl rfl rfl rfl (by omega) (by assumption)) rfl ?_; refine vo_step (ok_callx L rfl rfl (blt_lt rfl) rfl rfl rfl (fun u H hH _ _ => rel_ret _ hH)) rfl ?_; refine vo_step (ok_build (cs := [_, _, _]) rfl rfl pl44 rfl rfl) rfl ?_; refine vo_step (ok_store L rfl rfl rfl rfl rfl rfl rfl rfl) rfl ?_; refine vo_nil ?_; refine N_seq ?_
  refine V_ret L (rs := [.cell 2 44]) rfl (fun _ _ h => h) Since.refl fun u H hH hle => ?_
  refine resK_cellA (src_own rfl) rfl rfl ?_
  rfl
end Go.V
/- The walks of the statements' helpers on tuples (chapter 2): what is handed in. -/
namespace Go.V.L2
open Go.Proofs Go.RowKit Go.V
/-- The subject of seventy-five. -/
def subS (s : Nat) : Str3 := ((spaceS s, idS (s / 3)), if 15 ≤ s then relS (s / 15 - 1) else ⟨#[]⟩)
def oneT (a b : Nat) : U := (goalS (a % 60), subS (b % 75))
/-- Pairs of numbers as they are handed in. -/
abbrev ty2 : TypeId := 75
def pcs (p : Nat × Nat) : List Value := [.int .u8 p.1, .int .u8 p.2]
theorem pcs_len (p : Nat × Nat) : (pcs p).length = 2 := rfl
abbrev PS2 (ps : List (Nat × Nat)) (fu : Bool) : Value → Heap → Prop := SlV ty2 2 (ps.flatMap pcs) ps.length fu
theorem ps_at {ps : List (Nat × Nat)} {j : Nat} {a b : Nat} (h : ps[j]? = some (a, b)) : ((ps.flatMap pcs).drop (j * 2)).take 2 = [.int .u8 a, .int .u8 b] := flatMap_at pcs_len ps j _ h
def tl (ps : List (Nat × Nat)) : List U := (ps.take 20).map fun p => oneT p.1 p.2
theorem tl_length (ps : List (Nat × Nat)) : (tl ps).length = min 20 ps.length := by simp [tl]
theorem tl_get {ps : List (Nat × Nat)} {i a b : Nat} (h : ps[i]? = some (a, b)) (hi : i < 20) : (tl ps)[i]? = some (oneT a b) := by
  unfold tl
  rw [List.getElem?_map, List.getElem?_take_of_lt hi, h]; rfl
theorem subS_size (s : Nat) : (subS s).1.1.size ≤ 16 ∧ (subS s).1.2.size ≤ 16 ∧ (subS s).2.size ≤ 16 := by
  refine ⟨(spaceS_ok _).2, (idS_ok _).2, ?_⟩
  unfold subS
  dsimp only
  split
  · exact (relS_ok _).2
  · decide
theorem oneT_size (a b : Nat) : TZ (oneT a b) := by
  have h1 := goalS_size (a % 60)
  have h2 := subS_size (b % 75)
  unfold TZ oneT
  dsimp only
  refine ⟨⟨?_, ?_, ?_⟩, ?_, ?_, ?_⟩ <;> omega
theorem oneT_ok (a b : Nat) : tE (oneT a b) = 0 := by
  unfold tE oneT
  dsimp only
  rw [if_pos (goalS_ok _)]
  unfold subS subjE
  dsimp only
  by_cases h : 15 ≤ b % 75
  · rw [if_pos h]
    split
    · simp only [allE, (spaceS_ok _).1, (idS_ok _).1, if_pos]
    · simp only [allE, (spaceS_ok _).1, (idS_ok _).1, (relS_ok _).1, if_pos]
  · rw [if_neg h, if_pos rfl]
    simp only [allE, (spaceS_ok _).1, (idS_ok _).1, if_pos]
theorem tl_mem {ps : List (Nat × Nat)} {t : U} (h : t ∈ tl ps) : TZ t ∧ tE t = 0 := by
  obtain ⟨p, _, rfl⟩ := List.mem_map.1 h
  exact ⟨oneT_size _ _, oneT_ok _ _⟩
attribute [local irreducible] V N X VO Par StepOK Has Ret RetL Src
set_option maxHeartbeats 1000000 in
theorem one02_ret (a b : Nat) (ha : a ≤ 255) (hb : b ≤ 255) {w : World} {B : Heap} (hB : B.Le (hp w)) : Ret Try.prog 36 [.agg #[.int .u8 a, .int .u8 b]] w B (fun v _ => v = uv (oneT a b)) := by
  have e60 : Int.tmod (a : Int) 60 = ((a % 60 : Nat) : Int) := rfl
  have e75 : Int.tmod (b : Int) 75 = ((b % 75 : Nat) : Int) := rfl
  have hlt := Nat.mod_lt a (show 0 < 60 by decide)
  have hlt2 := Nat.mod_lt b (show 0 < 75 by decide)
  unfold oneT
  generalize a % 60 = m at e60 hlt
  generalize b % 75 = s at e75 hlt2
  have q1 : (m : Int).tdiv 3 = ((m / 3 : Nat) : Int) := rfl
  have q2 : (m : Int).tdiv 15 = ((m / 15 : Nat) : Int) := rfl
  have q3 : (s : Int).tdiv 3 = ((s / 3 : Nat) : Int) := rfl
  have q4 : (s : Int).tdiv 15 = ((s / 15 : Nat) : Int) := rfl
  have d1 : IntKind.i64.wrap ((m : Int).tdiv 3) = ((m / 3 : Nat) : Int) := wrap_i64 (by omega) (by omega)
  have d2 : IntKind.i64.wrap ((m : Int).tdiv 15) = ((m / 15 : Nat) : Int) := wrap_i64 (by omega) (by omega)
  have d3 : IntKind.i64.wrap ((s : Int).tdiv 3) = ((s / 3 : Nat) : Int) := wrap_i64 (by omega) (by omega)
  have d4 : IntKind.i64.wrap ((s : Int).tdiv 15) = ((s / 15 : Nat) : Int) := wrap_i64 (by omega) (by omega)
  unfold goalS subS
  refine V_enter Try.func36 rfl Try.ntmps36 (Nat.le_of_ble_eq_true rfl) hB ?_
  refine V_seq ?_; refine V_region (id := 0) ?_; refine vo_step (ok_box rfl rfl rfl rfl) rfl ?_; refine vo_step (ok_alloc L rfl rfl rfl rfl) rfl ?_; refine vo_nil ?_; refine N_seq ?_; refine V_seq ?_; refine V_regionD (id := 1) [] mixed (by kernel_rfl) ?_; refine par_step (ok_indexArS L _ rfl rfl rfl rfl ar75 rfl rfl (by first | omega | decide)) rfl ?_; refine par_step (ok_load1 L (src_at rfl) rfl rfl rfl rfl) rfl ?_; refine par_step (ok_rem rfl rfl rfl rfl (by omega) (by assumption)) rfl ?_; refine par_step (ok_conv rfl rfl rfl cv5_3.1 cv5_3.2 (wrap_i64 (by omega) (by omega))) rfl ?_; refine par_step (ok_indexArS L _ rfl rfl rfl rfl ar75 rfl rfl (by first | omega | decide)) rfl ?_; refine par_step (ok_load1 L (src_at rfl) rfl rfl rfl rfl) rfl ?_; refine par_step (ok_rem rfl rfl rfl rfl (by omega) (by assumption)) rfl ?_; refine par_step (ok_conv rfl rfl rfl cv5_3.1 cv5_3.2 (wrap_i64 (by omega) (by omega))) rfl ?_; refine par_step (ok_assign rfl rfl rfl) rfl ?_; refine par_step (ok_assign rfl rfl rfl) rfl ?_; refine par_nil ?_; refine N_seq ?_; refine V_seq ?_; refine V_region (id := 2) ?_; refine vo_step (ok_move rfl rfl rfl) rfl ?_; refine vo_step (ok_callx L rfl rfl (blt_lt rfl) rfl rfl rfl (fun u H hH _ _ => space_ret _ hH)) rfl ?_; refine vo_step (ok_move rfl rfl rfl) rfl ?_; refine vo_step (ok_quo rfl rfl rfl rfl (by omega) (by assumption)) rfl ?_; refine vo_step (ok_callx L rfl rfl (blt_lt rfl) rfl rfl rfl (fun u H hH _ _ => id_ret _ hH)) rfl ?_; refine vo_step (ok_build (cs := [_, _]) rfl rfl pl42 rfl rfl) rfl ?_; refine vo_step (ok_move rfl rfl rfl) rfl ?_; refine vo_step (ok_quo rfl rfl rfl rfl (by omega) (by assumption)) rfl ?_; refine vo_step (ok_callx L rfl rfl (blt_lt rfl) rfl rfl rfl (fun u H hH _ _ => rel_ret _ hH)) rfl ?_; refine vo_step (ok_build (cs := [_, _, _]) rfl rfl pl44 rfl rfl) rfl ?_; refine vo_step (ok_move rfl rfl rfl) rfl ?_; refine vo_step (ok_callx L rfl rfl (blt_lt rfl) rfl rfl rfl (fun u H hH _ _ => space_ret _ hH)) rfl ?_; refine vo_step (ok_move rfl rfl rfl) rfl ?_; refine vo_step (ok_quo rfl rfl rfl rfl (by omega) (by assumption)) rfl ?_; refine vo_step (ok_callx L rfl rfl (blt_lt rfl) rfl rfl rfl (fun u H hH _ _ => id_ret _ hH)) rfl ?_; refine vo_step (ok_build (cs := [_, _]) rfl rfl pl42 rfl rfl) rfl ?_; refine vo_step (ok_build (cs := [_, _, _]) rfl rfl pl79 rfl rfl) rfl ?_; refine vo_step (ok_build (cs := [_, _, _, _, _, _]) rfl rfl pl81 rfl rfl) rfl ?_; refine vo_step (ok_alloc L rfl rfl rfl rfl) rfl ?_; refine vo_step (ok_store L rfl rfl rfl rfl rfl rfl rfl rfl) rfl ?_; refine vo_nil ?_; refine N_seq ?_; refine V_seq ?_; refine V_seq ?_
  by_cases h : 15 ≤ s
  · rw [if_pos h]
    have hs1 : IntKind.i64.wrap (((s / 15 : Nat) : Int) - 1) = ((s / 15 - 1 : Nat) : Int) := (wrap_i64 (by omega) (by omega)).trans (by omega)
    refine V_box 5 rfl fun b5 hb5 => ?_
    refine V_region (id := 3) ?_; refine vo_step (ok_move rfl rfl rfl) rfl ?_; refine vo_step (ok_geq rfl rfl rfl rfl (decide_eq_true (by omega))) rfl ?_; refine vo_nil ?_; refine N_seq ?_; refine V_true rfl ?_; refine V_region (id := 4) ?_; refine vo_step (ok_move rfl rfl rfl) rfl ?_; refine vo_step (ok_quo rfl rfl rfl rfl (by omega) (by assumption)) rfl ?_; refine vo_step (ok_sub rfl rfl rfl rfl (by assumption)) rfl ?_; refine vo_step (ok_callx L rfl rfl (blt_lt rfl) rfl rfl rfl (fun u H hH _ _ => rel_ret _ hH)) rfl ?_; refine vo_step (ok_fieldP L rfl rfl rfl rfl) rfl ?_; refine vo_step (ok_fieldP L rfl rfl rfl rfl) rfl ?_; refine box_store L (O1 := []) rfl rfl rfl rfl rfl rfl rfl rfl rfl ?_; refine vo_nil ?_; refine N_seq ?_; refine V_seq ?_; refine V_region (id := 5) ?_; refine vo_step (ok_loadA L (vs := [_, _, _, _, _, _]) (src_box rfl (List.Mem.head _)) rfl rfl rfl rfl ⟨_, rfl⟩) rfl ?_; refine vo_step (ok_store L rfl rfl rfl rfl rfl rfl rfl rfl) rfl ?_; refine vo_nil ?_; refine N_seq ?_
    refine V_ret L (rs := [.cell 2 81]) rfl (fun _ _ h => h) Since.refl fun u H hH hle => ?_
    refine resK_cellA (src_own rfl) rfl rfl ?_
    rfl
  · rw [if_neg h]
    refine V_region (id := 3) ?_; refine vo_step (ok_move rfl rfl rfl) rfl ?_; refine vo_step (ok_geq rfl rfl rfl rfl (decide_eq_false (by omega))) rfl ?_; refine vo_nil ?_; refine N_seq ?_; refine V_false rfl ?_; refine V_skip ?_; refine N_seq ?_; refine V_seq ?_; refine V_region (id := 5) ?_; refine vo_step (ok_loadA L (vs := [_, _, _, _, _, _]) (src_own rfl) rfl rfl rfl rfl ⟨_, rfl⟩) rfl ?_; refine vo_step (ok_store L rfl rfl rfl rfl rfl rfl rfl rfl) rfl ?_; refine vo_nil ?_; refine N_seq ?_
    refine V_ret L (rs := [.cell 2 81]) rfl (fun _ _ h => h) Since.refl fun u H hH hle => ?_
    refine resK_cellA (src_own rfl) rfl rfl ?_
    rfl
set_option maxHeartbeats 1000000 in
theorem tof_ret {ps : List (Nat × Nat)} {fu : Bool} (hps : ∀ p ∈ ps, p.1 ≤ 255 ∧ p.2 ≤ 255) (hlen : ps.length ≤ 9223372036854775807) {sv : Value} {w : World} {B : Heap} (hB : B.Le (hp w)) (hv : PS2 ps fu sv B) :
    Ret Try.prog 35 [.agg #[sv]] w B (US (tl ps) false) := by
  refine V_enter Try.func35 rfl Try.ntmps35 (Nat.le_of_ble_eq_true rfl) hB ?_
  refine V_seq ?_; refine V_region (id := 0) ?_; refine vo_step (ok_box rfl rfl rfl rfl) rfl ?_; refine vo_step (ok_assign rfl rfl rfl) rfl ?_; refine vo_nil ?_; refine N_seq ?_; refine V_seq ?_; refine V_region (id := 1) ?_; refine vo_step (ok_assign rfl rfl rfl) rfl ?_; refine vo_nil ?_; refine N_seq ?_; refine V_seq ?_; refine V_seq ?_
  refine V_nilR 3 tyU 6 rfl ?_
  refine V_region (id := 2) ?_; refine vo_step (ok_assign rfl rfl rfl) rfl ?_; refine vo_nil ?_; refine N_seq ?_; refine V_block ?_
  have hll := tl_length ps
  refine V_loop (fun i : Nat => [(1, .sat (At [sv] 74 0)), (3, .own (SlR tyU 6 ((tl ps).take i).length (((tl ps).take i).flatMap ucs))), (4, .is (.int .i64 i))])
    (fun i => i ≤ (tl ps).length) (fun i => (tl ps).length - i) 0 (Nat.zero_le _) ⟨rfl, rfl, rfl, trivial⟩ ?_
  rintro i hi
  have hli := List.length_take (i := i) (l := tl ps)
  by_cases h1 : i < ps.length
  · by_cases h2 : i < 20
    · obtain ⟨⟨a, b⟩, hn⟩ := get_some h1
      have hc := ps_at hn
      have hab := hps _ (List.mem_of_getElem? hn)
      have hg := tl_get hn h2
      generalize hgg : oneT a b = t at hg
      refine V_seq ?_; refine V_seq ?_; refine V_region (id := 3) ?_; refine vo_step (ok_move rfl rfl rfl) rfl ?_; refine vo_step (ok_fieldAt L rfl rfl rfl rfl) rfl ?_; refine vo_step (ok_load1 L (src_at rfl) rfl rfl rfl rfl) rfl ?_; refine vo_seen 7 (PS2 ps fu) rfl SlV.mono hv ?_; refine vo_step (ok_lenV L rfl rfl rfl rfl) rfl ?_; refine vo_step (ok_lss rfl rfl rfl rfl (decide_eq_true (by omega))) rfl ?_; refine vo_step (ok_move rfl rfl rfl) rfl ?_; refine vo_step (ok_move rfl rfl rfl) rfl ?_; refine vo_step (ok_lss rfl rfl rfl rfl (decide_eq_true (by omega))) rfl ?_; refine vo_step (ok_pick rfl rfl rfl rfl) rfl ?_; refine vo_nil ?_; refine N_seq ?_; refine V_true rfl ?_; refine V_skip ?_; refine N_seq ?_; refine V_seq ?_; refine V_block ?_; refine V_region (id := 5) ?_; refine vo_step2 (ok_moveO (.inl rfl) rfl rfl rfl rfl) ?_; refine vo_step (ok_fieldAt L rfl rfl rfl rfl) rfl ?_; refine vo_step (ok_load1 L (src_at rfl) rfl rfl rfl rfl) rfl ?_; refine vo_seen 18 (PS2 ps fu) rfl SlV.mono hv ?_; refine vo_step (ok_move rfl rfl rfl) rfl ?_; refine vo_step (ok_indexV L _ rfl rfl rfl rfl rfl rfl rfl (by first | omega | decide) (by assumption)) rfl ?_; refine vo_step (ok_loadPA L (vs := [_, _]) rfl rfl rfl rfl rfl ⟨_, rfl⟩) rfl ?_; refine vo_step (ok_callx (r := uv t) L rfl rfl (blt_lt rfl) rfl rfl rfl (fun u H hH _ _ => hgg ▸ one02_ret a b hab.1 hab.2 hH)) rfl ?_; refine vo_step (ok_buildSlice L rfl rfl rfl rfl rfl rfl rfl rfl rfl) rfl ?_; refine vo_step2 (ok_append L rfl rfl rfl (apd_B rfl) rfl el81 rfl rfl (by omega) (by omega)) ?_; refine vo_step2 (ok_moveO (.inr rfl) rfl rfl rfl rfl) ?_; refine vo_nil ?_; refine N_block ?_; refine N_seq ?_; refine V_region (id := 4) ?_; refine vo_step (ok_move rfl rfl rfl) rfl ?_; refine vo_step (ok_add rfl rfl rfl rfl (wrap_i64 (by omega) (by omega))) rfl ?_; refine vo_step (ok_assign rfl rfl rfl) rfl ?_; refine vo_nil ?_
      exact N_round (x := i) (i + 1) (by omega) (by omega) ⟨rfl, by rw [take_s hg]; exact ups_snoc rfl, rfl, trivial⟩
    · obtain rfl : i = (tl ps).length := by omega
      rw [List.take_length]
      refine V_seq ?_; refine V_seq ?_; refine V_region (id := 3) ?_; refine vo_step (ok_move rfl rfl rfl) rfl ?_; refine vo_step (ok_fieldAt L rfl rfl rfl rfl) rfl ?_; refine vo_step (ok_load1 L (src_at rfl) rfl rfl rfl rfl) rfl ?_; refine vo_seen 7 (PS2 ps fu) rfl SlV.mono hv ?_; refine vo_step (ok_lenV L rfl rfl rfl rfl) rfl ?_; refine vo_step (ok_lss rfl rfl rfl rfl (decide_eq_true (by omega))) rfl ?_; refine vo_step (ok_move rfl rfl rfl) rfl ?_; refine vo_step (ok_move rfl rfl rfl) rfl ?_; refine vo_step (ok_lss rfl rfl rfl rfl (decide_eq_false (by omega))) rfl ?_; refine vo_step (ok_pick rfl rfl rfl rfl) rfl ?_; refine vo_nil ?_; refine N_seq ?_; refine V_false rfl ?_; refine V_exit ?_; refine X_then ?_; refine X_then ?_; refine X_here ?_; refine N_seq ?_; refine V_seq ?_; refine V_region (id := 6) ?_; refine vo_step2 (ok_moveO (.inl rfl) rfl rfl rfl rfl) ?_; refine vo_step2 (ok_moveO (.inr rfl) rfl rfl rfl rfl) ?_; refine vo_nil ?_; refine N_seq ?_
      refine V_pubR 2 rfl ?_
      refine V_ret L (rs := [.tmp 2]) rfl (fun _ _ h => h) Since.refl fun u H hH hle => ?_
      exact fun v hv => hv
  · obtain rfl : i = (tl ps).length := by omega
    rw [List.take_length]
    refine V_seq ?_; refine V_seq ?_; refine V_region (id := 3) ?_; refine vo_step (ok_move rfl rfl rfl) rfl ?_; refine vo_step (ok_fieldAt L rfl rfl rfl rfl) rfl ?_; refine vo_step (ok_load1 L (src_at rfl) rfl rfl rfl rfl) rfl ?_; refine vo_seen 7 (PS2 ps fu) rfl SlV.mono hv ?_; refine vo_step (ok_lenV L rfl rfl rfl rfl) rfl ?_; refine vo_step (ok_lss rfl rfl rfl rfl (decide_eq_false (by omega))) rfl ?_; refine vo_step (ok_move rfl rfl rfl) rfl ?_; refine vo_step (ok_skip rfl (blt_lt rfl) rfl) rfl ?_; refine vo_step (ok_skip rfl (blt_lt rfl) rfl) rfl ?_; refine vo_step (ok_pick rfl rfl rfl rfl) rfl ?_; refine vo_nil ?_; refine N_seq ?_; refine V_false rfl ?_; refine V_exit ?_; refine X_then ?_; refine X_then ?_; refine X_here ?_; refine N_seq ?_; refine V_seq ?_; refine V_region (id := 6) ?_; refine vo_step2 (ok_moveO (.inl rfl) rfl rfl rfl rfl) ?_; refine vo_step2 (ok_moveO (.inr rfl) rfl rfl rfl rfl) ?_; refine vo_nil ?_; refine N_seq ?_
    refine V_pubR 2 rfl ?_
    refine V_ret L (rs := [.tmp 2]) rfl (fun _ _ h => h) Since.refl fun u H hH hle => ?_
    exact fun v hv => hv
end Go.V.L2
/- The examples of chapter 2. -/
namespace Go.V.L2
open Go.Proofs Go.RowKit Go.V
abbrev tP : U := (((⟨#[100, 111, 99]⟩, ⟨#[97]⟩), ⟨#[118, 105, 101, 119, 101, 114]⟩), ((⟨#[103, 114, 111, 117, 112]⟩, ⟨#[101, 110, 103]⟩), ⟨#[109, 101, 109, 98, 101, 114]⟩))
abbrev tA : U := (((⟨#[97]⟩, ⟨#[120]⟩), ⟨#[114]⟩), ((⟨#[117]⟩, ⟨#[97]⟩), ⟨#[]⟩))
abbrev tB : U := (((⟨#[97]⟩, ⟨#[120]⟩), ⟨#[114]⟩), ((⟨#[117]⟩, ⟨#[98]⟩), ⟨#[]⟩))
abbrev tC : U := (((⟨#[98]⟩, ⟨#[120]⟩), ⟨#[114]⟩), ((⟨#[117]⟩, ⟨#[97]⟩), ⟨#[]⟩))
abbrev tD : U := (((⟨#[99]⟩, ⟨#[120]⟩), ⟨#[114]⟩), ((⟨#[117]⟩, ⟨#[97]⟩), ⟨#[]⟩))
abbrev tN : U := (((⟨#[]⟩, ⟨#[]⟩), ⟨#[]⟩), ((⟨#[]⟩, ⟨#[]⟩), ⟨#[]⟩))
attribute [local irreducible] V N X VO Par StepOK Has Ret RetL RetO RetT Src
theorem tparse_ret' {s : ByteArray} {t : U} {e : Int} (hr : ptA s = (t, e)) (hs : s.size ≤ 1000000) {w : World} {B : Heap} (hB : B.Le (hp w)) (hM : GlobM B) :
    Ret Try.prog 51 [.string s] w B (fun v _ => v = .tuple #[uv t, .int .i64 e]) := tparse_ret hr hs hB hM
theorem rtparse_ret' {s : ByteArray} {t : U} {e : Int} (hr : ptA s = (t, e)) (hs : s.size ≤ 1000000) {w : World} {B : Heap} (hB : B.Le (hp w)) :
    Ret Try.prog 52 [.string s] w B (fun v _ => v = .tuple #[uv t, .int .i64 e]) := rtparse_ret hr hs hB
theorem find_ret' {l : List U} {t : U} {fu : Bool} {i : Nat} {b : Bool} (hr : findR l t = (i, b)) (hz : l.length ≤ 100000) {v : Value} {w : World} {B : Heap} (hB : B.Le (hp w)) (hv : US l fu v B) :
    Ret Try.prog 37 [v, uv t] w B (fun v _ => v = .tuple #[.int .i64 i, .bool b]) := find_ret hr hz hB hv
theorem read_ret {s : ByteArray} {t : U} {e : Int} (hr : ptA s = (t, e)) (hs : s.size ≤ 1000000) {w : World} {B : Heap} (hB : B.Le (hp w)) :
    Ret Try.prog 50 [.string s] w B (fun v _ => v = uv t) := by
  refine V_enter Try.func50 rfl Try.ntmps50 (Nat.le_of_ble_eq_true rfl) hB ?_
  refine V_seq ?_; refine V_region (id := 0) ?_; refine vo_step (ok_alloc L rfl rfl rfl rfl) rfl ?_; refine vo_nil ?_; refine N_seq ?_; refine V_seq ?_; refine V_region (id := 1) ?_; refine vo_step (ok_move rfl rfl rfl) rfl ?_; refine vo_step (ok_callx L rfl rfl (blt_lt rfl) rfl rfl rfl (fun u H hH _ _ => rtparse_ret' hr hs hH)) rfl ?_; refine vo_step (ok_move rfl rfl rfl) rfl ?_; refine vo_step (ok_extract rfl rfl rfl rfl) rfl ?_; refine vo_step (ok_extract rfl rfl rfl rfl) rfl ?_; refine vo_step (ok_alloc L rfl rfl rfl rfl) rfl ?_; refine vo_step (ok_store L rfl rfl rfl rfl rfl rfl rfl rfl) rfl ?_; refine vo_step (ok_assign rfl rfl rfl) rfl ?_; refine vo_nil ?_; refine N_seq ?_; refine V_seq ?_; refine V_region (id := 2) ?_; refine vo_step (ok_loadA L (vs := [_, _, _, _, _, _]) (src_own rfl) rfl rfl rfl rfl ⟨_, rfl⟩) rfl ?_; refine vo_step (ok_store L rfl rfl rfl rfl rfl rfl rfl rfl) rfl ?_; refine vo_nil ?_; refine N_seq ?_
  refine V_ret L (rs := [.cell 2 81]) rfl (fun _ _ h => h) Since.refl fun u H hH hle => ?_
  refine resK_cellA (src_own rfl) rfl rfl ?_
  rfl
set_option maxHeartbeats 8000000 in
set_option maxRecDepth 10000 in
theorem lives02_ret {w : World} {B : Heap} (hB : B.Le (hp w)) (hM : GlobM B) : Ret Try.prog 40 [] w B (fun v _ => v = .bool true) := by
  have p0 : ptA ⟨#[100, 111, 99, 58, 97, 35, 118, 105, 101, 119, 101, 114, 64, 103, 114, 111, 117, 112, 58, 101, 110, 103, 35, 109, 101, 109, 98, 101, 114]⟩ = (tP, 0) := by decide +kernel
  have q0 : ptA ⟨#[100, 111, 99, 58, 97, 35, 118, 105, 101, 119, 101, 114]⟩ = (tN, 5) := by decide +kernel
  have q1 : ptA ⟨#[100, 111, 99, 58, 97, 64, 117, 115, 101, 114, 58, 98]⟩ = (tN, 5) := by decide +kernel
  have q2 : ptA ⟨#[100, 111, 99, 58, 97, 35, 118, 64, 64, 117, 58, 98]⟩ = (tN, 5) := by decide +kernel
  have q3 : ptA ⟨#[100, 111, 99, 58, 97, 35, 118, 64, 85, 58, 98]⟩ = (tN, 6) := by decide +kernel
  have pA : ptA ⟨#[97, 58, 120, 35, 114, 64, 117, 58, 97]⟩ = (tA, 0) := by decide +kernel
  have pB : ptA ⟨#[97, 58, 120, 35, 114, 64, 117, 58, 98]⟩ = (tB, 0) := by decide +kernel
  have pC : ptA ⟨#[98, 58, 120, 35, 114, 64, 117, 58, 97]⟩ = (tC, 0) := by decide +kernel
  have pD : ptA ⟨#[99, 58, 120, 35, 114, 64, 117, 58, 97]⟩ = (tD, 0) := by decide +kernel
  have zP : TZ tP := by decide +kernel
  have xP : tT tP = ⟨#[100, 111, 99, 58, 97, 35, 118, 105, 101, 119, 101, 114, 64, 103, 114, 111, 117, 112, 58, 101, 110, 103, 35, 109, 101, 109, 98, 101, 114]⟩ := by decide +kernel
  have so : sortS cmpT [] [tC, tB, tA, tC] = [tA, tB, tC] := by decide +kernel
  have f1 : findR [tA, tB, tC] tB = (1, true) := by decide +kernel
  have f2 : findR [tA, tB, tC] tD = (3, false) := by decide +kernel
  have un : mrgR fU [tC, tB] [] = ([], 18) := by decide +kernel
  refine V_enter Try.func40 rfl Try.ntmps40 (Nat.le_of_ble_eq_true rfl) hB ?_
  refine V_seq ?_; refine V_region (id := 0) ?_; refine vo_step (ok_assign rfl rfl rfl) rfl ?_; refine vo_nil ?_; refine N_seq ?_; refine V_seq ?_; refine V_region (id := 1) ?_; refine vo_step (ok_callx L rfl rfl (blt_lt rfl) rfl rfl rfl (fun u H hH hle _ => tparse_ret' p0 (by decide) hH (hM.mono hle))) rfl ?_; refine vo_step (ok_move rfl rfl rfl) rfl ?_; refine vo_step (ok_extract rfl rfl rfl rfl) rfl ?_; refine vo_step (ok_extract rfl rfl rfl rfl) rfl ?_; refine vo_step (ok_alloc L rfl rfl rfl rfl) rfl ?_; refine vo_step (ok_store L rfl rfl rfl rfl rfl rfl rfl rfl) rfl ?_; refine vo_step (ok_assign rfl rfl rfl) rfl ?_; refine vo_nil ?_; refine N_seq ?_; refine V_seq ?_; refine V_region (id := 2) ?_; refine vo_step (ok_buildSlice L rfl rfl rfl rfl rfl rfl rfl rfl rfl) rfl ?_; refine vo_step (ok_assigns' rfl rfl rfl) rfl ?_; refine vo_nil ?_; refine N_seq ?_; refine V_seq ?_; refine V_region (id := 3) ?_; refine vo_step (ok_buildSlice L rfl rfl rfl rfl rfl rfl rfl rfl rfl) rfl ?_; refine vo_step (ok_assigns' rfl rfl rfl) rfl ?_; refine vo_nil ?_; refine N_seq ?_; refine V_seq ?_; refine V_seq ?_; refine V_region (id := 4) ?_; refine vo_step (ok_assign rfl rfl rfl) rfl ?_; refine vo_nil ?_; refine N_seq ?_; refine V_block ?_
  refine V_loop (fun i : Nat => [(1, .own (Cell (ucs tP) tyU)), (2, .is (.int .i64 0)), (3, .sat (SlB [.string ⟨#[100, 111, 99, 58, 97, 35, 118, 105, 101, 119, 101, 114]⟩, .string ⟨#[100, 111, 99, 58, 97, 64, 117, 115, 101, 114, 58, 98]⟩, .string ⟨#[100, 111, 99, 58, 97, 35, 118, 64, 64, 117, 58, 98]⟩, .string ⟨#[100, 111, 99, 58, 97, 35, 118, 64, 85, 58, 98]⟩] 9 4)), (4, .sat (SlB [.int .i64 5, .int .i64 5, .int .i64 5, .int .i64 6] 38 4)), (5, .is (.int .i64 i))])
    (fun i => i ≤ 4) (fun i => 4 - i) 0 (Nat.zero_le _) ⟨rfl, rfl, rfl, rfl, rfl, trivial⟩ ?_
  rintro i hi
  rcases i with _ | _ | _ | _ | i
  · refine V_seq ?_; refine V_seq ?_; refine V_region (id := 5) ?_; refine vo_step (ok_move rfl rfl rfl) rfl ?_; refine vo_step (ok_lss rfl rfl rfl rfl (decide_eq_true (by omega))) rfl ?_; refine vo_nil ?_; refine N_seq ?_; refine V_true rfl ?_; refine V_skip ?_; refine N_seq ?_; refine V_seq ?_; refine V_block ?_; refine V_seq ?_; refine V_region (id := 7) ?_; refine vo_step (ok_moves' rfl rfl rfl) rfl ?_; refine vo_step (ok_move rfl rfl rfl) rfl ?_; refine vo_step (ok_indexSl L 0 rfl rfl rfl rfl rfl rfl rfl (by omega)) rfl ?_; refine vo_step (ok_load1 L (src_at rfl) rfl rfl rfl rfl) rfl ?_; refine vo_step (ok_callx L rfl rfl (blt_lt rfl) rfl rfl rfl (fun u H hH hle _ => tparse_ret' q0 (by decide) hH (hM.mono hle))) rfl ?_; refine vo_step (ok_move rfl rfl rfl) rfl ?_; refine vo_step (ok_extract rfl rfl rfl rfl) rfl ?_; refine vo_step (ok_extract rfl rfl rfl rfl) rfl ?_; refine vo_step (ok_alloc L rfl rfl rfl rfl) rfl ?_; refine vo_step (ok_store L rfl rfl rfl rfl rfl rfl rfl rfl) rfl ?_; refine vo_step (ok_assign rfl rfl rfl) rfl ?_; refine vo_nil ?_; refine N_seq ?_; refine V_seq ?_; refine V_region (id := 8) ?_; refine vo_step (ok_move rfl rfl rfl) rfl ?_; refine vo_step (ok_moves' rfl rfl rfl) rfl ?_; refine vo_step (ok_move rfl rfl rfl) rfl ?_; refine vo_step (ok_indexSl L 0 rfl rfl rfl rfl rfl rfl rfl (by omega)) rfl ?_; refine vo_step (ok_load1 L (src_at rfl) rfl rfl rfl rfl) rfl ?_; refine vo_step (ok_neq rfl rfl rfl rfl (decide_eq_false (by omega))) rfl ?_; refine vo_nil ?_; refine N_seq ?_; refine V_false rfl ?_; refine V_skip ?_; refine N_block ?_; refine N_seq ?_; refine V_region (id := 6) ?_; refine vo_step (ok_move rfl rfl rfl) rfl ?_; refine vo_step (ok_add rfl rfl rfl rfl (wrap_i64 (by omega) (by omega))) rfl ?_; refine vo_step (ok_assign rfl rfl rfl) rfl ?_; refine vo_nil ?_
    exact N_round (x := 0) 1 (by decide) (by decide) ⟨rfl, rfl, rfl, rfl, rfl, trivial⟩
  · refine V_seq ?_; refine V_seq ?_; refine V_region (id := 5) ?_; refine vo_step (ok_move rfl rfl rfl) rfl ?_; refine vo_step (ok_lss rfl rfl rfl rfl (decide_eq_true (by omega))) rfl ?_; refine vo_nil ?_; refine N_seq ?_; refine V_true rfl ?_; refine V_skip ?_; refine N_seq ?_; refine V_seq ?_; refine V_block ?_; refine V_seq ?_; refine V_region (id := 7) ?_; refine vo_step (ok_moves' rfl rfl rfl) rfl ?_; refine vo_step (ok_move rfl rfl rfl) rfl ?_; refine vo_step (ok_indexSl L _ rfl rfl rfl rfl rfl rfl rfl (by omega)) rfl ?_; refine vo_step (ok_load1 L (src_at rfl) rfl rfl rfl rfl) rfl ?_; refine vo_step (ok_callx L rfl rfl (blt_lt rfl) rfl rfl rfl (fun u H hH hle _ => tparse_ret' q1 (by decide) hH (hM.mono hle))) rfl ?_; refine vo_step (ok_move rfl rfl rfl) rfl ?_; refine vo_step (ok_extract rfl rfl rfl rfl) rfl ?_; refine vo_step (ok_extract rfl rfl rfl rfl) rfl ?_; refine vo_step (ok_alloc L rfl rfl rfl rfl) rfl ?_; refine vo_step (ok_store L rfl rfl rfl rfl rfl rfl rfl rfl) rfl ?_; refine vo_step (ok_assign rfl rfl rfl) rfl ?_; refine vo_nil ?_; refine N_seq ?_; refine V_seq ?_; refine V_region (id := 8) ?_; refine vo_step (ok_move rfl rfl rfl) rfl ?_; refine vo_step (ok_moves' rfl rfl rfl) rfl ?_; refine vo_step (ok_move rfl rfl rfl) rfl ?_; refine vo_step (ok_indexSl L _ rfl rfl rfl rfl rfl rfl rfl (by omega)) rfl ?_; refine vo_step (ok_load1 L (src_at rfl) rfl rfl rfl rfl) rfl ?_; refine vo_step (ok_neq rfl rfl rfl rfl (decide_eq_false (by omega))) rfl ?_; refine vo_nil ?_; refine N_seq ?_; refine V_false rfl ?_; refine V_skip ?_; refine N_block ?_; refine N_seq ?_; refine V_region (id := 6) ?_; refine vo_step (ok_move rfl rfl rfl) rfl ?_; refine vo_step (ok_add rfl rfl rfl rfl (wrap_i64 (by omega) (by omega))) rfl ?_; refine vo_step (ok_assign rfl rfl rfl) rfl ?_; refine vo_nil ?_
    exact N_round (x := 1) 2 (by decide) (by decide) ⟨rfl, rfl, rfl, rfl, rfl, trivial⟩
  · refine V_seq ?_; refine V_seq ?_; refine V_region (id := 5) ?_; refine vo_step (ok_move rfl rfl rfl) rfl ?_; refine vo_step (ok_lss rfl rfl rfl rfl (decide_eq_true (by omega))) rfl ?_; refine vo_nil ?_; refine N_seq ?_; refine V_true rfl ?_; refine V_skip ?_; refine N_seq ?_; refine V_seq ?_; refine V_block ?_; refine V_seq ?_; refine V_region (id := 7) ?_; refine vo_step (ok_moves' rfl rfl rfl) rfl ?_; refine vo_step (ok_move rfl rfl rfl) rfl ?_; refine vo_step (ok_indexSl L _ rfl rfl rfl rfl rfl rfl rfl (by omega)) rfl ?_; refine vo_step (ok_load1 L (src_at rfl) rfl rfl rfl rfl) rfl ?_; refine vo_step (ok_callx L rfl rfl (blt_lt rfl) rfl rfl rfl (fun u H hH hle _ => tparse_ret' q2 (by decide) hH (hM.mono hle))) rfl ?_; refine vo_step (ok_move rfl rfl rfl) rfl ?_; refine vo_step (ok_extract rfl rfl rfl rfl) rfl ?_; refine vo_step (ok_extract rfl rfl rfl rfl) rfl ?_; refine vo_step (ok_alloc L rfl rfl rfl rfl) rfl ?_; refine vo_step (ok_store L rfl rfl rfl rfl rfl rfl rfl rfl) rfl ?_; refine vo_step (ok_assign rfl rfl rfl) rfl ?_; refine vo_nil ?_; refine N_seq ?_; refine V_seq ?_; refine V_region (id := 8) ?_; refine vo_step (ok_move rfl rfl rfl) rfl ?_; refine vo_step (ok_moves' rfl rfl rfl) rfl ?_; refine vo_step (ok_move rfl rfl rfl) rfl ?_; refine vo_step (ok_indexSl L _ rfl rfl rfl rfl rfl rfl rfl (by omega)) rfl ?_; refine vo_step (ok_load1 L (src_at rfl) rfl rfl rfl rfl) rfl ?_; refine vo_step (ok_neq rfl rfl rfl rfl (decide_eq_false (by omega))) rfl ?_; refine vo_nil ?_; refine N_seq ?_; refine V_false rfl ?_; refine V_skip ?_; refine N_block ?_; refine N_seq ?_; refine V_region (id := 6) ?_; refine vo_step (ok_move rfl rfl rfl) rfl ?_; refine vo_step (ok_add rfl rfl rfl rfl (wrap_i64 (by omega) (by omega))) rfl ?_; refine vo_step (ok_assign rfl rfl rfl) rfl ?_; refine vo_nil ?_
    exact N_round (x := 2) 3 (by decide) (by decide) ⟨rfl, rfl, rfl, rfl, rfl, trivial⟩
  · refine V_seq ?_; refine V_seq ?_; refine V_region (id := 5) ?_; refine vo_step (ok_move rfl rfl rfl) rfl ?_; refine vo_step (ok_lss rfl rfl rfl rfl (decide_eq_true (by omega))) rfl ?_; refine vo_nil ?_; refine N_seq ?_; refine V_true rfl ?_; refine V_skip ?_; refine N_seq ?_; refine V_seq ?_; refine V_block ?_; refine V_seq ?_; refine V_region (id := 7) ?_; refine vo_step (ok_moves' rfl rfl rfl) rfl ?_; refine vo_step (ok_move rfl rfl rfl) rfl ?_; refine vo_step (ok_indexSl L _ rfl rfl rfl rfl rfl rfl rfl (by omega)) rfl ?_; refine vo_step (ok_load1 L (src_at rfl) rfl rfl rfl rfl) rfl ?_; refine vo_step (ok_callx L rfl rfl (blt_lt rfl) rfl rfl rfl (fun u H hH hle _ => tparse_ret' q3 (by decide) hH (hM.mono hle))) rfl ?_; refine vo_step (ok_move rfl rfl rfl) rfl ?_; refine vo_step (ok_extract rfl rfl rfl rfl) rfl ?_; refine vo_step (ok_extract rfl rfl rfl rfl) rfl ?_; refine vo_step (ok_alloc L rfl rfl rfl rfl) rfl ?_; refine vo_step (ok_store L rfl rfl rfl rfl rfl rfl rfl rfl) rfl ?_; refine vo_step (ok_assign rfl rfl rfl) rfl ?_; refine vo_nil ?_; refine N_seq ?_; refine V_seq ?_; refine V_region (id := 8) ?_; refine vo_step (ok_move rfl rfl rfl) rfl ?_; refine vo_step (ok_moves' rfl rfl rfl) rfl ?_; refine vo_step (ok_move rfl rfl rfl) rfl ?_; refine vo_step (ok_indexSl L _ rfl rfl rfl rfl rfl rfl rfl (by omega)) rfl ?_; refine vo_step (ok_load1 L (src_at rfl) rfl rfl rfl rfl) rfl ?_; refine vo_step (ok_neq rfl rfl rfl rfl (decide_eq_false (by omega))) rfl ?_; refine vo_nil ?_; refine N_seq ?_; refine V_false rfl ?_; refine V_skip ?_; refine N_block ?_; refine N_seq ?_; refine V_region (id := 6) ?_; refine vo_step (ok_move rfl rfl rfl) rfl ?_; refine vo_step (ok_add rfl rfl rfl rfl (wrap_i64 (by omega) (by omega))) rfl ?_; refine vo_step (ok_assign rfl rfl rfl) rfl ?_; refine vo_nil ?_
    exact N_round (x := 3) 4 (by decide) (by decide) ⟨rfl, rfl, rfl, rfl, rfl, trivial⟩
  · obtain rfl : i = 0 := by omega
    refine V_seq ?_; refine V_seq ?_; refine V_region (id := 5) ?_; refine vo_step (ok_move rfl rfl rfl) rfl ?_; refine vo_step (ok_lss rfl rfl rfl rfl (decide_eq_false (by omega))) rfl ?_; refine vo_nil ?_; refine N_seq ?_; refine V_false rfl ?_; refine V_exit ?_; refine X_then ?_; refine X_then ?_; refine X_here ?_; refine N_seq ?_; refine V_seq ?_; refine V_region (id := 10) ?_; refine vo_step (ok_callx L rfl rfl (blt_lt rfl) rfl rfl rfl (fun u H hH _ _ => read_ret pA (by decide) hH)) rfl ?_; refine vo_step (ok_callx L rfl rfl (blt_lt rfl) rfl rfl rfl (fun u H hH _ _ => read_ret pB (by decide) hH)) rfl ?_; refine vo_step (ok_callx L rfl rfl (blt_lt rfl) rfl rfl rfl (fun u H hH _ _ => read_ret pC (by decide) hH)) rfl ?_; refine vo_step (ok_alloc L rfl rfl rfl rfl) rfl ?_; refine vo_step (ok_alloc L rfl rfl rfl rfl) rfl ?_; refine vo_step (ok_alloc L rfl rfl rfl rfl) rfl ?_; refine vo_step (ok_store L rfl rfl rfl rfl rfl rfl rfl rfl) rfl ?_; refine vo_step (ok_store L rfl rfl rfl rfl rfl rfl rfl rfl) rfl ?_; refine vo_step (ok_store L rfl rfl rfl rfl rfl rfl rfl rfl) rfl ?_; refine vo_nil ?_; refine N_seq ?_; refine V_seq ?_; refine V_region (id := 11) ?_; refine vo_step (ok_loadA L (vs := [_, _, _, _, _, _]) (src_own rfl) rfl rfl rfl rfl ⟨_, rfl⟩) rfl ?_; refine vo_step (ok_loadA L (vs := [_, _, _, _, _, _]) (src_own rfl) rfl rfl rfl rfl ⟨_, rfl⟩) rfl ?_; refine vo_step (ok_loadA L (vs := [_, _, _, _, _, _]) (src_own rfl) rfl rfl rfl rfl ⟨_, rfl⟩) rfl ?_; refine vo_step (ok_loadA L (vs := [_, _, _, _, _, _]) (src_own rfl) rfl rfl rfl rfl ⟨_, rfl⟩) rfl ?_; refine vo_step (ok_buildSlice L rfl rfl rfl rfl rfl rfl rfl rfl rfl) rfl ?_; refine vo_step (ok_call (φ := US [tA, tB, tC] true) L rfl rfl (blt_lt rfl) rfl rfl rfl SlV.mono (fun u H hH hle _ v hv => sorted_ret (l := [tC, tB, tA, tC]) so (by decide) hH (hv.toV rfl))) rfl ?_; refine vo_step (ok_assigns' rfl rfl rfl) rfl ?_; refine vo_nil ?_; refine N_seq ?_; refine V_seq ?_; refine V_seq ?_; refine V_region (id := 12) ?_; refine vo_step (ok_move rfl rfl rfl) rfl ?_; refine vo_step (ok_neq rfl rfl rfl rfl (decide_eq_false (by omega))) rfl ?_; refine vo_step (ok_move rfl rfl rfl) rfl ?_; refine vo_step (ok_loadA L (vs := [_, _, _, _, _, _]) (src_own rfl) rfl rfl rfl rfl ⟨_, rfl⟩) rfl ?_; refine vo_step (ok_callx L rfl rfl (blt_lt rfl) rfl rfl rfl (fun u H hH _ _ => xP ▸ ttext_ret zP hH)) rfl ?_; refine vo_step (ok_sneq rfl rfl rfl rfl rfl) rfl ?_; refine vo_step (ok_pick rfl rfl rfl rfl) rfl ?_; refine vo_step (ok_move rfl rfl rfl) rfl ?_; refine vo_step (ok_moves' rfl rfl rfl) rfl ?_; refine vo_step (ok_loadA L (vs := [_, _, _, _, _, _]) (src_own rfl) rfl rfl rfl rfl ⟨_, rfl⟩) rfl ?_; refine vo_step (ok_loadA L (vs := [_, _, _, _, _, _]) (src_own rfl) rfl rfl rfl rfl ⟨_, rfl⟩) rfl ?_; refine vo_step (ok_loadA L (vs := [_, _, _, _, _, _]) (src_own rfl) rfl rfl rfl rfl ⟨_, rfl⟩) rfl ?_; refine vo_step (ok_buildSlice L rfl rfl rfl rfl rfl rfl rfl rfl rfl) rfl ?_; refine vo_step (ok_callx L rfl rfl (blt_lt rfl) rfl rfl rfl (fun u H hH _ _ v1 h1 v2 h2 => rtsame_ret (a := [tA, tB, tC]) (b := [tA, tB, tC]) (e := 1) (by decide) (by decide) (by decide +kernel) hH h1 (h2.toV rfl))) rfl ?_; refine vo_step (ok_eql rfl rfl rfl rfl (decide_eq_false (by omega))) rfl ?_; refine vo_step (ok_pick rfl rfl rfl rfl) rfl ?_; refine vo_nil ?_; refine N_seq ?_; refine V_false rfl ?_; refine V_skip ?_; refine N_seq ?_; refine V_seq ?_; refine V_region (id := 14) ?_; refine vo_step (ok_moves' rfl rfl rfl) rfl ?_; refine vo_step (ok_loadA L (vs := [_, _, _, _, _, _]) (src_own rfl) rfl rfl rfl rfl ⟨_, rfl⟩) rfl ?_; refine vo_step (ok_callx L rfl rfl (blt_lt rfl) rfl rfl rfl (fun u H hH _ _ v1 h1 => find_ret' f1 (by decide) hH h1)) rfl ?_; refine vo_step (ok_move rfl rfl rfl) rfl ?_; refine vo_step (ok_extract rfl rfl rfl rfl) rfl ?_; refine vo_step (ok_extract rfl rfl rfl rfl) rfl ?_; refine vo_step (ok_assign rfl rfl rfl) rfl ?_; refine vo_step (ok_assign rfl rfl rfl) rfl ?_; refine vo_nil ?_; refine N_seq ?_; refine V_seq ?_; refine V_region (id := 15) ?_; refine vo_step (ok_moves' rfl rfl rfl) rfl ?_; refine vo_step (ok_callx L rfl rfl (blt_lt rfl) rfl rfl rfl (fun u H hH _ _ => read_ret pD (by decide) hH)) rfl ?_; refine vo_step (ok_callx L rfl rfl (blt_lt rfl) rfl rfl rfl (fun u H hH _ _ v1 h1 => find_ret' f2 (by decide) hH h1)) rfl ?_; refine vo_step (ok_move rfl rfl rfl) rfl ?_; refine vo_step (ok_extract rfl rfl rfl rfl) rfl ?_; refine vo_step (ok_extract rfl rfl rfl rfl) rfl ?_; refine vo_step (ok_assign rfl rfl rfl) rfl ?_; refine vo_step (ok_assign rfl rfl rfl) rfl ?_; refine vo_nil ?_; refine N_seq ?_; refine V_seq ?_; refine V_region (id := 16) ?_; refine vo_step (ok_loadA L (vs := [_, _, _, _, _, _]) (src_own rfl) rfl rfl rfl rfl ⟨_, rfl⟩) rfl ?_; refine vo_step (ok_loadA L (vs := [_, _, _, _, _, _]) (src_own rfl) rfl rfl rfl rfl ⟨_, rfl⟩) rfl ?_; refine vo_step (ok_buildSlice L rfl rfl rfl rfl rfl rfl rfl rfl rfl) rfl ?_; refine vo_step (ok_call (φ := TupS [US [] true, fun v _ => v = .int .i64 18]) L rfl rfl (blt_lt rfl) rfl rfl rfl (tups2_mono SlV.mono) (fun u H hH hle _ v hv => union_ret (l := [tC, tB]) (m := []) (fb := true) un hH (hv.toV rfl) SlV.nil)) rfl ?_; refine vo_step (ok_moves' rfl rfl rfl) rfl ?_; refine vo_step (ok_extracts rfl rfl rfl rfl SlV.mono) rfl ?_; refine vo_step (ok_extractx rfl rfl rfl rfl) rfl ?_; refine vo_step (ok_assigns' rfl rfl rfl) rfl ?_; refine vo_step (ok_assign rfl rfl rfl) rfl ?_; refine vo_nil ?_; refine N_seq ?_; refine V_seq ?_; refine V_region (id := 17) ?_; refine vo_step (ok_move rfl rfl rfl) rfl ?_; refine vo_step (ok_eql rfl rfl rfl rfl (decide_eq_true (by omega))) rfl ?_; refine vo_step (ok_move rfl rfl rfl) rfl ?_; refine vo_step (ok_move rfl rfl rfl) rfl ?_; refine vo_step (ok_pick rfl rfl rfl rfl) rfl ?_; refine vo_step (ok_move rfl rfl rfl) rfl ?_; refine vo_step (ok_move rfl rfl rfl) rfl ?_; refine vo_step (ok_eql rfl rfl rfl rfl (decide_eq_true (by omega))) rfl ?_; refine vo_step (ok_pick rfl rfl rfl rfl) rfl ?_; refine vo_step (ok_move rfl rfl rfl) rfl ?_; refine vo_step (ok_move rfl rfl rfl) rfl ?_; refine vo_step (ok_not rfl rfl rfl rfl) rfl ?_; refine vo_step (ok_pick rfl rfl rfl rfl) rfl ?_; refine vo_step (ok_move rfl rfl rfl) rfl ?_; refine vo_step (ok_move rfl rfl rfl) rfl ?_; refine vo_step (ok_eql rfl rfl rfl rfl (decide_eq_true (by omega))) rfl ?_; refine vo_step (ok_pick rfl rfl rfl rfl) rfl ?_; refine vo_step (ok_assign rfl rfl rfl) rfl ?_; refine vo_nil ?_; refine N_seq ?_
    refine V_ret L (rs := [.tmp 0]) rfl (fun _ _ h => h) Since.refl fun u H hH hle => ?_
    rfl
end Go.V.L2
/- Four thousand tuples (chapter 2). Plain laws. -/
namespace Go.V.L2
open Go.Proofs Go.RowKit Go.V
abbrev d36 : ByteArray := ⟨#[48, 49, 50, 51, 52, 53, 54, 55, 56, 57, 97, 98, 99, 100, 101, 102, 103, 104, 105, 106, 107, 108, 109, 110, 111, 112, 113, 114, 115, 116, 117, 118, 119, 120, 121, 122]⟩
def dgt (k : Nat) : ByteArray := d36.extract k (k + 1)
def db (d : Nat) : UInt8 := if d < 10 then UInt8.ofNat (48 + d) else UInt8.ofNat (87 + d)
theorem dgt_eq : ∀ d, d < 36 → dgt d = ⟨#[db d]⟩ := by decide +kernel
theorem db_lt : ∀ d, d < 36 → ∀ e, e < 36 → d < e → (db d).toNat < (db e).toNat := by decide +kernel
theorem dgt_size (k : Nat) (h : k < 36) : (dgt k).size = 1 := by rw [dgt_eq k h]; rfl
/-- The tuple of a number. -/
def kt (i : Nat) : U := (((⟨#[97]⟩, ⟨#[98]⟩), ⟨#[99]⟩), ((⟨#[100]⟩, dgt (i / 1296) ++ dgt (i / 36 % 36) ++ dgt (i % 36)), ⟨#[]⟩))
def kl (n : Nat) : List U := (List.range n).map kt
theorem kt_eq {i : Nat} (h : i < 4097) : kt i = (((⟨#[97]⟩, ⟨#[98]⟩), ⟨#[99]⟩), ((⟨#[100]⟩, ⟨#[db (i / 1296), db (i / 36 % 36), db (i % 36)]⟩), ⟨#[]⟩)) := by
  unfold kt
  rw [dgt_eq _ (by omega), dgt_eq _ (by omega), dgt_eq _ (by omega)]
  rfl
theorem cmpB3 {a b c x y z : UInt8} (h : a.toNat < x.toNat ∨ (a = x ∧ b.toNat < y.toNat) ∨ (a = x ∧ b = y ∧ c.toNat < z.toNat)) : cmpB ⟨#[a, b, c]⟩ ⟨#[x, y, z]⟩ < 0 := by
  have lt : ∀ {p q : UInt8}, p.toNat < q.toNat → p < q := fun h => UInt8.lt_iff_toNat_lt.2 h
  unfold cmpB
  rcases h with h | ⟨rfl, h⟩ | ⟨rfl, rfl, h⟩
  · have := lt h
    simp [Lib.compareBytes, this]
  · have := lt h
    simp [Lib.compareBytes, this]
  · have := lt h
    simp [Lib.compareBytes, this]
theorem kt_lt {i j : Nat} (hj : j < 4097) (h : i < j) : cmpT (kt i) (kt j) < 0 := by
  rw [kt_eq (by omega), kt_eq hj]
  have key : cmpB ⟨#[db (i / 1296), db (i / 36 % 36), db (i % 36)]⟩ ⟨#[db (j / 1296), db (j / 36 % 36), db (j % 36)]⟩ < 0 := by
    refine cmpB3 ?_
    rcases Nat.lt_trichotomy (i / 1296) (j / 1296) with h1 | h1 | h1
    · exact .inl (db_lt _ (by omega) _ (by omega) h1)
    · rcases Nat.lt_trichotomy (i / 36 % 36) (j / 36 % 36) with h2 | h2 | h2
      · exact .inr (.inl ⟨by rw [h1], db_lt _ (by omega) _ (by omega) h2⟩)
      · exact .inr (.inr ⟨by rw [h1], by rw [h2], db_lt _ (by omega) _ (by omega) (by omega)⟩)
      · omega
    · omega
  generalize (⟨#[db (i / 1296), db (i / 36 % 36), db (i % 36)]⟩ : ByteArray) = x at key
  generalize (⟨#[db (j / 1296), db (j / 36 % 36), db (j % 36)]⟩ : ByteArray) = y at key
  have r := fun s => cmpB_ord.refl s
  unfold cmpT cmp3 lexC
  simp only [orL2, r, if_true]
  rw [if_neg (by omega)]
  exact key
theorem kl_zero : kl 0 = [] := rfl
theorem kl_length (n : Nat) : (kl n).length = n := by simp [kl]
theorem kl_succ (n : Nat) : kl (n + 1) = kl n ++ [kt n] := by simp [kl, List.range_succ]
theorem kl_get {n i : Nat} (h : i < n) : (kl n)[i]? = some (kt i) := by simp [kl, List.getElem?_range h]
theorem kl_take {n k : Nat} (h : k ≤ n) : (kl n).take k = kl k := by
  unfold kl
  rw [← List.map_take, List.take_range, Nat.min_eq_left h]
theorem kl_sst {n : Nat} (h : n ≤ 4097) : Sst cmpT (kl n) := by
  unfold kl Sst
  rw [List.pairwise_map]
  refine List.Pairwise.imp_of_mem (fun ha hb hlt => kt_lt ?_ hlt) List.pairwise_lt_range
  have := List.mem_range.1 hb; omega
theorem mrgS_nil {α : Type} {c : α → α → Int} {f : Bool → Bool → Bool} (hf : f true false = true) : ∀ (n : Nat) (l : List α), l.length ≤ n → mrgS c f n l [] = l
  | 0, l, h => by
    have : l = [] := List.eq_nil_of_length_eq_zero (by omega)
    subst this; rfl
  | n + 1, [], _ => rfl
  | n + 1, a :: l, h => by
    simp only [mrgS]
    rw [hf, if_pos rfl, mrgS_nil hf n l (by simpa using h)]
    rfl
theorem kl_union : mrgR fU (kl 4096) [] = (kl 4096, 0) := by
  rw [mrgR_ok (kl_sst (by decide)) Sst.nil (by rw [kl_length]; decide) (by decide), mrgS_nil rfl _ _ (by rw [List.length_nil, Nat.add_zero]; exact Nat.le_refl _)]
theorem kl_common : mrgR fC (kl 4097) [] = ([], 3) := by
  unfold mrgR
  rw [if_pos (.inl (by rw [kl_length]; decide))]
theorem kl_without (l : List U) : mrgR fW l (kl 4097) = ([], 3) := by
  unfold mrgR
  rw [if_pos (.inr (by rw [kl_length]; decide))]
theorem kl_find : findR (kl 4097) (kt 4096) = (4096, true) := by
  have hs := kl_sst (n := 4097) (by decide)
  have h1 : posS cmpT (kt 4096) (kl 4097) = 4096 := posS_at cmpT_ord hs (fun j x hj hx => by
    rw [kl_get (by omega)] at hx; cases hx
    exact kt_lt (by decide) hj) (fun j x hj hx => by
    have hj2 := get_lt hx
    rw [kl_length] at hj2
    obtain rfl : j = 4096 := by omega
    rw [kl_get (by decide)] at hx; cases hx
    exact cmpT_ord.irr _) (by rw [kl_length]; decide)
  have h2 : kt 4096 ∈ kl 4097 := List.mem_of_getElem? (kl_get (by decide))
  unfold findR
  rw [if_pos (show isB (kl 4097) = true from decide_eq_true hs), h1, decide_eq_true h2]
theorem us_take : ∀ (l : List U) (i : Nat), (l.flatMap ucs).take (i * 6) = (l.take i).flatMap ucs
  | l, 0 => by simp
  | [], i + 1 => by simp
  | x :: l, i + 1 => by
    rw [Nat.succ_mul, Nat.add_comm, List.flatMap_cons, List.take_succ_cons, List.flatMap_cons, show 6 + i * 6 = (ucs x).length + i * 6 from rfl, List.take_length_add_append, us_take l i]
/-! ### the texts of the order -/
def ts : List ByteArray := [⟨#[97, 58, 98, 35, 99, 64, 100, 58, 101]⟩, ⟨#[97, 58, 98, 35, 99, 64, 100, 58, 101, 35, 102]⟩, ⟨#[97, 58, 98, 35, 99, 64, 100, 58, 101, 35, 103]⟩, ⟨#[97, 58, 98, 35, 99, 64, 100, 58, 101, 97]⟩, ⟨#[97, 58, 98, 35, 99, 64, 100, 97, 58, 97]⟩, ⟨#[97, 58, 98, 35, 99, 97, 64, 97, 58, 97]⟩, ⟨#[97, 58, 98, 97, 35, 97, 64, 97, 58, 97]⟩, ⟨#[97, 97, 58, 97, 35, 97, 64, 97, 58, 97]⟩]
def wantI (i k : Nat) : Int := if i < k then -1 else if k < i then 1 else 0
theorem ts_all : ((List.range 8).all fun i => (List.range 8).all fun k => decide (cmpT (ptA (ts.getD i ⟨#[]⟩)).1 (ptA (ts.getD k ⟨#[]⟩)).1 = wantI i k)) = true := by decide +kernel
theorem ts_size : (ts.all fun s => decide (s.size ≤ 1000000)) = true := by decide +kernel
theorem ts_at {i : Nat} (h : i < 8) : ∃ s t e, ts[i]? = some s ∧ ptA s = (t, e) ∧ s.size ≤ 1000000 ∧ s = ts.getD i ⟨#[]⟩ := by
  have hl : ts.length = 8 := rfl
  obtain ⟨s, hs⟩ := get_some (l := ts) (show i < ts.length by omega)
  refine ⟨s, _, _, hs, rfl, by simpa using List.all_eq_true.1 ts_size s (List.mem_of_getElem? hs), ?_⟩
  rw [List.getD_eq_getElem?_getD, hs]; rfl
theorem ts_cmp {i k : Nat} {s s' : ByteArray} {t t' : U} {e e' : Int} (hi : i < 8) (hk : k < 8) (h1 : s = ts.getD i ⟨#[]⟩) (h2 : s' = ts.getD k ⟨#[]⟩) (p1 : ptA s = (t, e)) (p2 : ptA s' = (t', e')) : cmpT t t' = wantI i k := by
  have h := List.all_eq_true.1 (List.all_eq_true.1 ts_all i (List.mem_range.2 hi)) k (List.mem_range.2 hk)
  rw [← h1, ← h2, p1, p2] at h
  simpa using h
end Go.V.L2
/- The walk of TuplesKnown (chapter 2). -/
namespace Go.V.L2
open Go.Proofs Go.RowKit Go.V
attribute [local irreducible] V N X VO Par StepOK Has Ret RetL RetO RetT Src kl ts
set_option maxHeartbeats 8000000 in
set_option maxRecDepth 10000 in
theorem tuplesKnown_law {w : World} {B : Heap} (hB : B.Le (hp w)) (hM : GlobM B) :
    Ret Try.prog 11 [] w B (fun v _ => v = .bool true) := by
  have hts : ts.length = 8 := by unfold ts; rfl
  refine V_enter Try.func11 rfl Try.ntmps11 (Nat.le_of_ble_eq_true rfl) hB ?_
  refine V_seq ?_; refine V_region (id := 0) ?_; refine vo_step (ok_assign rfl rfl rfl) rfl ?_; refine vo_nil ?_; refine N_seq ?_; refine V_seq ?_; refine V_region (id := 1) ?_; refine vo_step (ok_buildSlice L rfl rfl rfl rfl rfl rfl rfl rfl rfl) rfl ?_; refine vo_step (ok_assigns' rfl rfl rfl) rfl ?_; refine vo_nil ?_; refine N_seq ?_; refine V_seq ?_; refine V_seq ?_; refine V_region (id := 2) ?_; refine vo_step (ok_assign rfl rfl rfl) rfl ?_; refine vo_nil ?_; refine N_seq ?_; refine V_block ?_
  refine V_imp 1 (SlB (ts.map Value.string) 9 8) rfl SlB.mono (fun _ _ h => by unfold ts; exact h) ?_
  refine V_loop (fun i : Nat => [(1, .sat (SlB (ts.map Value.string) 9 8)), (2, .is (.int .i64 i))]) (fun i => i ≤ 8) (fun i => 8 - i) 0 (Nat.zero_le _) ⟨rfl, rfl, trivial⟩ ?_
  rintro i hi
  by_cases hlt : i < 8
  · obtain ⟨s, t, e, g1, g2, g3, g4⟩ := ts_at hlt
    have hcs : (ts.map Value.string)[i * 1]? = some (.string s) := by simp [g1]
    refine V_seq ?_; refine V_seq ?_; refine V_region (id := 3) ?_; refine vo_step (ok_move rfl rfl rfl) rfl ?_; refine vo_step (ok_moves' rfl rfl rfl) rfl ?_; refine vo_step (ok_lenSl L rfl rfl rfl rfl) rfl ?_; refine vo_step (ok_lss rfl rfl rfl rfl (decide_eq_true (by omega))) rfl ?_; refine vo_nil ?_; refine N_seq ?_; refine V_true rfl ?_; refine V_skip ?_; refine N_seq ?_; refine V_seq ?_; refine V_block ?_; refine V_seq ?_; refine V_region (id := 5) ?_; refine vo_step (ok_assign rfl rfl rfl) rfl ?_; refine vo_nil ?_; refine N_seq ?_; refine V_block ?_
    refine V_loop (fun k : Nat => [(1, .sat (SlB (ts.map Value.string) 9 8)), (2, .is (.int .i64 i)), (3, .is (.int .i64 k))]) (fun k => k ≤ 8) (fun k => 8 - k) 0 (Nat.zero_le _) ⟨rfl, rfl, rfl, trivial⟩ ?_
    rintro k hk
    by_cases hkl : k < 8
    · obtain ⟨s', t', e', f1, f2, f3, f4⟩ := ts_at hkl
      have hck : (ts.map Value.string)[k * 1]? = some (.string s') := by simp [f1]
      have hcm := ts_cmp hlt hkl g4 f4 g2 f2
      clear g4 f4 g1 f1
      rcases Nat.lt_trichotomy i k with h | h | h
      · have hw : cmpT t t' = -1 := hcm.trans (if_pos h)
        refine V_seq ?_; refine V_seq ?_; refine V_region (id := 6) ?_; refine vo_step (ok_move rfl rfl rfl) rfl ?_; refine vo_step (ok_moves' rfl rfl rfl) rfl ?_; refine vo_step (ok_lenSl L rfl rfl rfl rfl) rfl ?_; refine vo_step (ok_lss rfl rfl rfl rfl (decide_eq_true (by omega))) rfl ?_; refine vo_nil ?_; refine N_seq ?_; refine V_true rfl ?_; refine V_skip ?_; refine N_seq ?_; refine V_seq ?_; refine V_block ?_; refine V_seq ?_; refine V_region (id := 8) ?_; refine vo_step (ok_assign rfl rfl rfl) rfl ?_; refine vo_nil ?_; refine N_seq ?_; refine V_seq ?_; refine V_seq ?_; refine V_region (id := 9) ?_; refine vo_step (ok_move rfl rfl rfl) rfl ?_; refine vo_step (ok_move rfl rfl rfl) rfl ?_; refine vo_step (ok_lss rfl rfl rfl rfl (decide_eq_true (by omega))) rfl ?_; refine vo_nil ?_; refine N_seq ?_; refine V_true rfl ?_; refine V_region (id := 10) ?_; refine vo_step (ok_assign rfl rfl rfl) rfl ?_; refine vo_nil ?_; refine N_seq ?_; refine V_seq ?_; refine V_seq ?_; refine V_region (id := 11) ?_; refine vo_step (ok_move rfl rfl rfl) rfl ?_; refine vo_step (ok_move rfl rfl rfl) rfl ?_; refine vo_step (ok_gtr rfl rfl rfl rfl (decide_eq_false (by omega))) rfl ?_; refine vo_nil ?_; refine N_seq ?_; refine V_false rfl ?_; refine V_skip ?_; refine N_seq ?_; refine V_seq ?_; refine V_regionD (id := 13) [] mixed (by kernel_rfl) ?_; refine par_step (ok_moves' rfl rfl rfl) rfl ?_; refine par_step (ok_move rfl rfl rfl) rfl ?_; refine par_step (ok_indexSl L _ rfl rfl rfl rfl rfl rfl rfl (by omega)) rfl ?_; refine par_step (ok_load1c L (src_at rfl) rfl rfl rfl (by assumption)) rfl ?_; refine par_step (ok_callx L rfl rfl (blt_lt rfl) rfl rfl rfl (fun u H hH _ _ => read_ret g2 g3 hH)) rfl ?_; refine par_step (ok_moves' rfl rfl rfl) rfl ?_; refine par_step (ok_move rfl rfl rfl) rfl ?_; refine par_step (ok_indexSl L _ rfl rfl rfl rfl rfl rfl rfl (by omega)) rfl ?_; refine par_step (ok_load1c L (src_at rfl) rfl rfl rfl (by assumption)) rfl ?_; refine par_step (ok_callx L rfl rfl (blt_lt rfl) rfl rfl rfl (fun u H hH _ _ => read_ret f2 f3 hH)) rfl ?_; refine par_step (ok_callx L rfl rfl (blt_lt rfl) rfl rfl rfl (fun u H hH _ _ => hw ▸ tcmp_ret hH)) rfl ?_; refine par_step (ok_move rfl rfl rfl) rfl ?_; refine par_step (ok_neq rfl rfl rfl rfl (decide_eq_false (by omega))) rfl ?_; refine par_nil ?_; refine N_seq ?_; refine V_false rfl ?_; refine V_skip ?_; refine N_block ?_; refine N_seq ?_; refine V_region (id := 7) ?_; refine vo_step (ok_move rfl rfl rfl) rfl ?_; refine vo_step (ok_add rfl rfl rfl rfl (wrap_i64 (by omega) (by omega))) rfl ?_; refine vo_step (ok_assign rfl rfl rfl) rfl ?_; refine vo_nil ?_
        exact N_round (x := k) (k + 1) hkl (by omega) ⟨rfl, rfl, rfl, trivial⟩
      · have hw : cmpT t t' = 0 := hcm.trans (by unfold wantI; rw [if_neg (by omega), if_neg (by omega)])
        refine V_seq ?_; refine V_seq ?_; refine V_region (id := 6) ?_; refine vo_step (ok_move rfl rfl rfl) rfl ?_; refine vo_step (ok_moves' rfl rfl rfl) rfl ?_; refine vo_step (ok_lenSl L rfl rfl rfl rfl) rfl ?_; refine vo_step (ok_lss rfl rfl rfl rfl (decide_eq_true (by omega))) rfl ?_; refine vo_nil ?_; refine N_seq ?_; refine V_true rfl ?_; refine V_skip ?_; refine N_seq ?_; refine V_seq ?_; refine V_block ?_; refine V_seq ?_; refine V_region (id := 8) ?_; refine vo_step (ok_assign rfl rfl rfl) rfl ?_; refine vo_nil ?_; refine N_seq ?_; refine V_seq ?_; refine V_seq ?_; refine V_region (id := 9) ?_; refine vo_step (ok_move rfl rfl rfl) rfl ?_; refine vo_step (ok_move rfl rfl rfl) rfl ?_; refine vo_step (ok_lss rfl rfl rfl rfl (decide_eq_false (by omega))) rfl ?_; refine vo_nil ?_; refine N_seq ?_; refine V_false rfl ?_; refine V_skip ?_; refine N_seq ?_; refine V_seq ?_; refine V_seq ?_; refine V_region (id := 11) ?_; refine vo_step (ok_move rfl rfl rfl) rfl ?_; refine vo_step (ok_move rfl rfl rfl) rfl ?_; refine vo_step (ok_gtr rfl rfl rfl rfl (decide_eq_false (by omega))) rfl ?_; refine vo_nil ?_; refine N_seq ?_; refine V_false rfl ?_; refine V_skip ?_; refine N_seq ?_; refine V_seq ?_; refine V_regionD (id := 13) [] mixed (by kernel_rfl) ?_; refine par_step (ok_moves' rfl rfl rfl) rfl ?_; refine par_step (ok_move rfl rfl rfl) rfl ?_; refine par_step (ok_indexSl L _ rfl rfl rfl rfl rfl rfl rfl (by omega)) rfl ?_; refine par_step (ok_load1c L (src_at rfl) rfl rfl rfl (by assumption)) rfl ?_; refine par_step (ok_callx L rfl rfl (blt_lt rfl) rfl rfl rfl (fun u H hH _ _ => read_ret g2 g3 hH)) rfl ?_; refine par_step (ok_moves' rfl rfl rfl) rfl ?_; refine par_step (ok_move rfl rfl rfl) rfl ?_; refine par_step (ok_indexSl L _ rfl rfl rfl rfl rfl rfl rfl (by omega)) rfl ?_; refine par_step (ok_load1c L (src_at rfl) rfl rfl rfl (by assumption)) rfl ?_; refine par_step (ok_callx L rfl rfl (blt_lt rfl) rfl rfl rfl (fun u H hH _ _ => read_ret f2 f3 hH)) rfl ?_; refine par_step (ok_callx L rfl rfl (blt_lt rfl) rfl rfl rfl (fun u H hH _ _ => hw ▸ tcmp_ret hH)) rfl ?_; refine par_step (ok_move rfl rfl rfl) rfl ?_; refine par_step (ok_neq rfl rfl rfl rfl (decide_eq_false (by omega))) rfl ?_; refine par_nil ?_; refine N_seq ?_; refine V_false rfl ?_; refine V_skip ?_; refine N_block ?_; refine N_seq ?_; refine V_region (id := 7) ?_; refine vo_step (ok_move rfl rfl rfl) rfl ?_; refine vo_step (ok_add rfl rfl rfl rfl (wrap_i64 (by omega) (by omega))) rfl ?_; refine vo_step (ok_assign rfl rfl rfl) rfl ?_; refine vo_nil ?_
        exact N_round (x := k) (k + 1) hkl (by omega) ⟨rfl, rfl, rfl, trivial⟩
      · have hw : cmpT t t' = 1 := hcm.trans (by unfold wantI; rw [if_neg (by omega), if_pos h])
        refine V_seq ?_; refine V_seq ?_; refine V_region (id := 6) ?_; refine vo_step (ok_move rfl rfl rfl) rfl ?_; refine vo_step (ok_moves' rfl rfl rfl) rfl ?_; refine vo_step (ok_lenSl L rfl rfl rfl rfl) rfl ?_; refine vo_step (ok_lss rfl rfl rfl rfl (decide_eq_true (by omega))) rfl ?_; refine vo_nil ?_; refine N_seq ?_; refine V_true rfl ?_; refine V_skip ?_; refine N_seq ?_; refine V_seq ?_; refine V_block ?_; refine V_seq ?_; refine V_region (id := 8) ?_; refine vo_step (ok_assign rfl rfl rfl) rfl ?_; refine vo_nil ?_; refine N_seq ?_; refine V_seq ?_; refine V_seq ?_; refine V_region (id := 9) ?_; refine vo_step (ok_move rfl rfl rfl) rfl ?_; refine vo_step (ok_move rfl rfl rfl) rfl ?_; refine vo_step (ok_lss rfl rfl rfl rfl (decide_eq_false (by omega))) rfl ?_; refine vo_nil ?_; refine N_seq ?_; refine V_false rfl ?_; refine V_skip ?_; refine N_seq ?_; refine V_seq ?_; refine V_seq ?_; refine V_region (id := 11) ?_; refine vo_step (ok_move rfl rfl rfl) rfl ?_; refine vo_step (ok_move rfl rfl rfl) rfl ?_; refine vo_step (ok_gtr rfl rfl rfl rfl (decide_eq_true (by omega))) rfl ?_; refine vo_nil ?_; refine N_seq ?_; refine V_true rfl ?_; refine V_region (id := 12) ?_; refine vo_step (ok_assign rfl rfl rfl) rfl ?_; refine vo_nil ?_; refine N_seq ?_; refine V_seq ?_; refine V_regionD (id := 13) [] mixed (by kernel_rfl) ?_; refine par_step (ok_moves' rfl rfl rfl) rfl ?_; refine par_step (ok_move rfl rfl rfl) rfl ?_; refine par_step (ok_indexSl L _ rfl rfl rfl rfl rfl rfl rfl (by omega)) rfl ?_; refine par_step (ok_load1c L (src_at rfl) rfl rfl rfl (by assumption)) rfl ?_; refine par_step (ok_callx L rfl rfl (blt_lt rfl) rfl rfl rfl (fun u H hH _ _ => read_ret g2 g3 hH)) rfl ?_; refine par_step (ok_moves' rfl rfl rfl) rfl ?_; refine par_step (ok_move rfl rfl rfl) rfl ?_; refine par_step (ok_indexSl L _ rfl rfl rfl rfl rfl rfl rfl (by omega)) rfl ?_; refine par_step (ok_load1c L (src_at rfl) rfl rfl rfl (by assumption)) rfl ?_; refine par_step (ok_callx L rfl rfl (blt_lt rfl) rfl rfl rfl (fun u H hH _ _ => read_ret f2 f3 hH)) rfl ?_; refine par_step (ok_callx L rfl rfl (blt_lt rfl) rfl rfl rfl (fun u H hH _ _ => hw ▸ tcmp_ret hH)) rfl ?_; refine par_step (ok_move rfl rfl rfl) rfl ?_; refine par_step (ok_neq rfl rfl rfl rfl (decide_eq_false (by omega))) rfl ?_; refine par_nil ?_; refine N_seq ?_; refine V_false rfl ?_; refine V_skip ?_; refine N_block ?_; refine N_seq ?_; refine V_region (id := 7) ?_; refine vo_step (ok_move rfl rfl rfl) rfl ?_; refine vo_step (ok_add rfl rfl rfl rfl (wrap_i64 (by omega) (by omega))) rfl ?_; refine vo_step (ok_assign rfl rfl rfl) rfl ?_; refine vo_nil ?_
        exact N_round (x := k) (k + 1) hkl (by omega) ⟨rfl, rfl, rfl, trivial⟩
    · obtain rfl : k = 8 := by omega
      refine V_seq ?_; refine V_seq ?_; refine V_region (id := 6) ?_; refine vo_step (ok_move rfl rfl rfl) rfl ?_; refine vo_step (ok_moves' rfl rfl rfl) rfl ?_; refine vo_step (ok_lenSl L rfl rfl rfl rfl) rfl ?_; refine vo_step (ok_lss rfl rfl rfl rfl (decide_eq_false (by omega))) rfl ?_; refine vo_nil ?_; refine N_seq ?_; refine V_false rfl ?_; refine V_exit ?_; refine X_then ?_; refine X_then ?_; refine X_here ?_; refine N_block ?_; refine N_seq ?_; refine V_region (id := 4) ?_; refine vo_step (ok_move rfl rfl rfl) rfl ?_; refine vo_step (ok_add rfl rfl rfl rfl (wrap_i64 (by omega) (by omega))) rfl ?_; refine vo_step (ok_assign rfl rfl rfl) rfl ?_; refine vo_nil ?_
      exact N_round (x := i) (i + 1) hlt (by omega) ⟨rfl, rfl, trivial⟩
  · obtain rfl : i = 8 := by omega
    clear hi hlt
    have pK : ptA ⟨#[97, 58, 98, 35, 99, 64, 100, 58, 101]⟩ = ((((⟨#[97]⟩, ⟨#[98]⟩), ⟨#[99]⟩), ((⟨#[100]⟩, ⟨#[101]⟩), ⟨#[]⟩)), 0) := by decide +kernel
    refine V_seq ?_; refine V_seq ?_; refine V_region (id := 3) ?_; refine vo_step (ok_move rfl rfl rfl) rfl ?_; refine vo_step (ok_moves' rfl rfl rfl) rfl ?_; refine vo_step (ok_lenSl L rfl rfl rfl rfl) rfl ?_; refine vo_step (ok_lss rfl rfl rfl rfl (decide_eq_false (by omega))) rfl ?_; refine vo_nil ?_; refine N_seq ?_; refine V_false rfl ?_; refine V_exit ?_; refine X_then ?_; refine X_then ?_; refine X_here ?_; refine N_seq ?_; refine V_seq ?_; refine V_region (id := 15) ?_; refine vo_step (ok_assign rfl rfl rfl) rfl ?_; refine vo_nil ?_; refine N_seq ?_; refine V_seq ?_; refine V_region (id := 16) ?_; refine vo_step (ok_assign rfl rfl rfl) rfl ?_; refine vo_nil ?_; refine N_seq ?_; refine V_seq ?_; refine V_seq ?_; refine V_region (id := 17) ?_; refine vo_step (ok_assign rfl rfl rfl) rfl ?_; refine vo_nil ?_; refine N_seq ?_; refine V_block ?_
    refine V_nilR 5 tyU 6 rfl ?_
    refine V_loop (fun i : Nat => [(5, .own (SlR tyU 6 (kl i).length ((kl i).flatMap ucs))), (6, .is (.string d36)), (7, .is (.int .i64 i))]) (fun i => i ≤ 4097) (fun i => 4097 - i) 0 (Nat.zero_le _) ⟨by show _ = some (Kn.own (SlR tyU 6 (kl 0).length ((kl 0).flatMap ucs))); rw [kl_zero]; rfl, rfl, rfl, trivial⟩ ?_
    rintro i hi
    have hki := kl_length i
    by_cases hlt : i < 4097
    · have q1296 : IntKind.i64.wrap ((i : Int).tdiv 1296) = ((i / 1296 : Nat) : Int) := wrap_i64 (by rw [show (i : Int).tdiv 1296 = ((i / 1296 : Nat) : Int) from rfl]; omega) (by rw [show (i : Int).tdiv 1296 = ((i / 1296 : Nat) : Int) from rfl]; omega)
      have q36 : IntKind.i64.wrap ((i : Int).tdiv 36) = ((i / 36 : Nat) : Int) := wrap_i64 (by rw [show (i : Int).tdiv 36 = ((i / 36 : Nat) : Int) from rfl]; omega) (by rw [show (i : Int).tdiv 36 = ((i / 36 : Nat) : Int) from rfl]; omega)
      have r36 : Int.tmod ((i / 36 : Nat) : Int) 36 = ((i / 36 % 36 : Nat) : Int) := rfl
      have r1 : Int.tmod (i : Int) 36 = ((i % 36 : Nat) : Int) := rfl
      have s1 := dgt_size (i / 1296) (by omega)
      have s2 := dgt_size (i / 36 % 36) (by omega)
      have s3 := dgt_size (i % 36) (by omega)
      have habc : d36.size = 36 := rfl
      have h1 : (dgt (i / 1296)).size + (dgt (i / 36 % 36)).size ≤ 9223372036854775807 := by omega
      have h2 : (dgt (i / 1296) ++ dgt (i / 36 % 36)).size + (dgt (i % 36)).size ≤ 9223372036854775807 := by rw [ByteArray.size_append]; omega
      unfold dgt at h1 h2
      have a1 : IntKind.i64.wrap (((i / 1296 : Nat) : Int) + 1) = ((i / 1296 + 1 : Nat) : Int) := wrap_i64 (by omega) (by omega)
      have a2 : IntKind.i64.wrap (((i / 36 % 36 : Nat) : Int) + 1) = ((i / 36 % 36 + 1 : Nat) : Int) := wrap_i64 (by omega) (by omega)
      have a3 : IntKind.i64.wrap (((i % 36 : Nat) : Int) + 1) = ((i % 36 + 1 : Nat) : Int) := wrap_i64 (by omega) (by omega)
      refine V_seq ?_; refine V_seq ?_; refine V_region (id := 18) ?_; refine vo_step (ok_move rfl rfl rfl) rfl ?_; refine vo_step (ok_lss rfl rfl rfl rfl (decide_eq_true (by omega))) rfl ?_; refine vo_nil ?_; refine N_seq ?_; refine V_true rfl ?_; refine V_skip ?_; refine N_seq ?_; refine V_seq ?_; refine V_block ?_; refine V_seq ?_; refine V_region (id := 20) ?_; refine vo_step (ok_callx L rfl rfl (blt_lt rfl) rfl rfl rfl (fun u H hH _ _ => read_ret pK (by decide) hH)) rfl ?_; refine vo_step (ok_alloc L rfl rfl rfl rfl) rfl ?_; refine vo_step (ok_store L rfl rfl rfl rfl rfl rfl rfl rfl) rfl ?_; refine vo_nil ?_; refine N_seq ?_; refine V_seq ?_
      refine V_hold 8 900 rfl fun b8 => ?_
      refine V_regionD (id := 21) [(100081, [900])] mixed (by kernel_rfl) ?_; refine par_step (ok_move rfl rfl rfl) rfl ?_; refine par_step (ok_move rfl rfl rfl) rfl ?_; refine par_step (ok_quo rfl rfl rfl rfl (by omega) (by assumption)) rfl ?_; refine par_step (ok_move rfl rfl rfl) rfl ?_; refine par_step (ok_quo rfl rfl rfl rfl (by omega) (by assumption)) rfl ?_; refine par_step (ok_add rfl rfl rfl rfl (by assumption)) rfl ?_; refine par_step (ok_sliceS L _ _ rfl rfl rfl rfl ⟨rfl, rfl⟩ ⟨rfl, rfl⟩ (by omega) (by omega) rfl) rfl ?_; refine par_step (ok_move rfl rfl rfl) rfl ?_; refine par_step (ok_move rfl rfl rfl) rfl ?_; refine par_step (ok_quo rfl rfl rfl rfl (by omega) (by assumption)) rfl ?_; refine par_step (ok_rem rfl rfl rfl rfl (by omega) (by assumption)) rfl ?_; refine par_step (ok_move rfl rfl rfl) rfl ?_; refine par_step (ok_quo rfl rfl rfl rfl (by omega) (by assumption)) rfl ?_; refine par_step (ok_rem rfl rfl rfl rfl (by omega) (by assumption)) rfl ?_; refine par_step (ok_add rfl rfl rfl rfl (by assumption)) rfl ?_; refine par_step (ok_sliceS L _ _ rfl rfl rfl rfl ⟨rfl, rfl⟩ ⟨rfl, rfl⟩ (by omega) (by omega) rfl) rfl ?_; refine par_step (ok_sadd rfl rfl rfl rfl (by assumption) rfl) rfl ?_; refine par_step (ok_move rfl rfl rfl) rfl ?_; refine par_step (ok_move rfl rfl rfl) rfl ?_; refine par_step (ok_rem rfl rfl rfl rfl (by omega) (by assumption)) rfl ?_; refine par_step (ok_move rfl rfl rfl) rfl ?_; refine par_step (ok_rem rfl rfl rfl rfl (by omega) (by assumption)) rfl ?_; refine par_step (ok_add rfl rfl rfl rfl (by assumption)) rfl ?_; refine par_step (ok_sliceS L _ _ rfl rfl rfl rfl ⟨rfl, rfl⟩ ⟨rfl, rfl⟩ (by omega) (by omega) rfl) rfl ?_; refine par_step (ok_sadd rfl rfl rfl rfl (by assumption) rfl) rfl ?_; refine par_step (ok_fieldP L rfl rfl rfl rfl) rfl ?_; refine par_step (ok_fieldP L rfl rfl rfl rfl) rfl ?_; refine par_step (ok_fieldP L rfl rfl rfl rfl) rfl ?_; refine par_stepS (ok_storeH L (q := 900) rfl rfl rfl rfl rfl rfl rfl rfl rfl) rfl ?_; refine par_nil ?_; refine N_seq ?_
      refine V_release 8 900 rfl rfl ?_
      refine V_region (id := 22) ?_; refine vo_step2 (ok_moveO (.inl rfl) rfl rfl rfl rfl) ?_; refine vo_step (ok_loadA L (vs := [_, _, _, _, _, _]) (src_own rfl) rfl rfl rfl rfl ⟨_, rfl⟩) rfl ?_; refine vo_step (ok_buildSlice L rfl rfl rfl rfl rfl rfl rfl rfl rfl) rfl ?_; refine vo_step2 (ok_append L rfl rfl rfl (apd_B rfl) rfl el81 rfl rfl (by omega) (by omega)) ?_; refine vo_step2 (ok_moveO (.inr rfl) rfl rfl rfl rfl) ?_; refine vo_nil ?_; refine N_block ?_; refine N_seq ?_; refine V_region (id := 19) ?_; refine vo_step (ok_move rfl rfl rfl) rfl ?_; refine vo_step (ok_add rfl rfl rfl rfl (wrap_i64 (by omega) (by omega))) rfl ?_; refine vo_step (ok_assign rfl rfl rfl) rfl ?_; refine vo_nil ?_
      exact N_round (x := i) (i + 1) hlt (by omega) ⟨by rw [kl_succ]; exact us_snoc rfl, rfl, rfl, trivial⟩
    · obtain rfl : i = 4097 := by omega
      clear hki hi hlt
      refine V_pubR 5 rfl ?_
      have k7 := kl_length 4097
      have k6 := kl_length 4096
      have hcut : (((kl 4097).flatMap ucs).drop (0 * 6)).take ((4096 - 0) * 6) = (kl 4096).flatMap ucs := by
        rw [Nat.zero_mul, List.drop_zero, show (4096 - 0) * 6 = 4096 * 6 from rfl, us_take, kl_take (by decide)]
      have hcv : ∀ {v : Value} {H : Heap}, SlV tyU 6 ((kl 4096).flatMap ucs) (4096 - 0) false v H → US (kl 4096) false v H := fun h => by
        unfold US
        rw [kl_length]
        exact h
      have hu := kl_union
      have hc := kl_common
      have hwo := kl_without [kt 1, kt 0]
      have hf := kl_find
      have c1 := us_at (kl_get (n := 4097) (i := 1) (by decide))
      have c0 := us_at (kl_get (n := 4097) (i := 0) (by decide))
      have c6 := us_at (kl_get (n := 4097) (i := 4096) (by decide))
      generalize kl 4097 = K at *
      generalize kl 4096 = J at *
      generalize kt 4096 = t6 at *
      generalize kt 1 = t1 at *
      generalize kt 0 = t0 at *
      refine V_seq ?_; refine V_seq ?_; refine V_region (id := 18) ?_; refine vo_step (ok_move rfl rfl rfl) rfl ?_; refine vo_step (ok_lss rfl rfl rfl rfl (decide_eq_false (by omega))) rfl ?_; refine vo_nil ?_; refine N_seq ?_; refine V_false rfl ?_; refine V_exit ?_; refine X_then ?_; refine X_then ?_; refine X_here ?_; refine N_seq ?_; refine V_seq ?_; refine V_region (id := 23) ?_; refine vo_step (ok_moves' rfl rfl rfl) rfl ?_; refine vo_step (ok_sliceV L (kl := .i64) (pl := 0) (km := .i64) (pm := 0) 0 4096 false rfl rfl rfl rfl rfl rfl ⟨rfl, rfl⟩ (fun h => by cases h) (by omega) (by omega) (by assumption)) rfl ?_; refine vo_step (ok_call (φ := TupS [US J true, fun v _ => v = .int .i64 0]) L rfl rfl (blt_lt rfl) rfl rfl rfl (tups2_mono SlV.mono) (fun u H hH hle _ v1 h1 => union_ret (fb := true) hu hH (hcv h1) SlV.nil)) rfl ?_; refine vo_step (ok_moves' rfl rfl rfl) rfl ?_; refine vo_step (ok_extracts rfl rfl rfl rfl SlV.mono) rfl ?_; refine vo_step (ok_extractx rfl rfl rfl rfl) rfl ?_; refine vo_step (ok_assigns' rfl rfl rfl) rfl ?_; refine vo_step (ok_assign rfl rfl rfl) rfl ?_; refine vo_nil ?_; refine N_seq ?_; refine V_seq ?_; refine V_region (id := 24) ?_; refine vo_step (ok_moves' rfl rfl rfl) rfl ?_; refine vo_step (ok_call (φ := TupS [US [] true, fun v _ => v = .int .i64 3]) L rfl rfl (blt_lt rfl) rfl rfl rfl (tups2_mono SlV.mono) (fun u H hH hle _ v1 h1 => common_ret (fb := true) hc hH h1 SlV.nil)) rfl ?_; refine vo_step (ok_moves' rfl rfl rfl) rfl ?_; refine vo_step (ok_extracts rfl rfl rfl rfl SlV.mono) rfl ?_; refine vo_step (ok_extractx rfl rfl rfl rfl) rfl ?_; refine vo_step (ok_assigns' rfl rfl rfl) rfl ?_; refine vo_step (ok_assign rfl rfl rfl) rfl ?_; refine vo_nil ?_; refine N_seq ?_; refine V_seq ?_; refine V_regionD (id := 25) [] mixed (by kernel_rfl) ?_; refine par_step (ok_moves' rfl rfl rfl) rfl ?_; refine par_step (ok_indexV L 1 rfl rfl rfl rfl rfl rfl rfl (by first | omega | decide) (by assumption)) rfl ?_; refine par_step (ok_loadPA L (vs := [_, _, _, _, _, _]) rfl rfl rfl rfl rfl ⟨_, rfl⟩) rfl ?_; refine par_step (ok_moves' rfl rfl rfl) rfl ?_; refine par_step (ok_indexV L 0 rfl rfl rfl rfl rfl rfl rfl (by first | omega | decide) (by assumption)) rfl ?_; refine par_step (ok_loadPA L (vs := [_, _, _, _, _, _]) rfl rfl rfl rfl rfl ⟨_, rfl⟩) rfl ?_; refine par_step (ok_buildSlice L rfl rfl rfl rfl rfl rfl rfl rfl rfl) rfl ?_; refine par_step (ok_moves' rfl rfl rfl) rfl ?_; refine par_step (ok_call (φ := TupS [US [] true, fun v _ => v = .int .i64 3]) L rfl rfl (blt_lt rfl) rfl rfl rfl (tups2_mono SlV.mono) (fun u H hH hle _ v1 h1 v2 h2 => without_ret (l := [t1, t0]) hwo hH (h1.toV rfl) h2)) rfl ?_; refine par_step (ok_moves' rfl rfl rfl) rfl ?_; refine par_step (ok_extracts rfl rfl rfl rfl SlV.mono) rfl ?_; refine par_step (ok_extractx rfl rfl rfl rfl) rfl ?_; refine par_step (ok_assigns' rfl rfl rfl) rfl ?_; refine par_step (ok_assign rfl rfl rfl) rfl ?_; refine par_nil ?_; refine N_seq ?_; refine V_seq ?_; refine V_region (id := 26) ?_; refine vo_step (ok_moves' rfl rfl rfl) rfl ?_; refine vo_step (ok_moves' rfl rfl rfl) rfl ?_; refine vo_step (ok_indexV L 4096 rfl rfl rfl rfl rfl rfl rfl (by first | omega | decide) (by assumption)) rfl ?_; refine vo_step (ok_loadPA L (vs := [_, _, _, _, _, _]) rfl rfl rfl rfl rfl ⟨_, rfl⟩) rfl ?_; refine vo_step (ok_callx L rfl rfl (blt_lt rfl) rfl rfl rfl (fun u H hH _ _ v1 h1 => find_ret' hf (by omega) hH h1)) rfl ?_; refine vo_step (ok_move rfl rfl rfl) rfl ?_; refine vo_step (ok_extract rfl rfl rfl rfl) rfl ?_; refine vo_step (ok_extract rfl rfl rfl rfl) rfl ?_; refine vo_step (ok_assign rfl rfl rfl) rfl ?_; refine vo_step (ok_assign rfl rfl rfl) rfl ?_; refine vo_nil ?_; refine N_seq ?_; refine V_seq ?_; refine V_region (id := 27) ?_; refine vo_step (ok_move rfl rfl rfl) rfl ?_; refine vo_step (ok_eql rfl rfl rfl rfl (decide_eq_true (by omega))) rfl ?_; refine vo_step (ok_move rfl rfl rfl) rfl ?_; refine vo_step (ok_moves' rfl rfl rfl) rfl ?_; refine vo_step (ok_lenV L rfl rfl rfl rfl) rfl ?_; refine vo_step (ok_eql rfl rfl rfl rfl (decide_eq_true (by omega))) rfl ?_; refine vo_step (ok_pick rfl rfl rfl rfl) rfl ?_; refine vo_step (ok_move rfl rfl rfl) rfl ?_; refine vo_step (ok_move rfl rfl rfl) rfl ?_; refine vo_step (ok_eql rfl rfl rfl rfl (decide_eq_true (by omega))) rfl ?_; refine vo_step (ok_pick rfl rfl rfl rfl) rfl ?_; refine vo_step (ok_move rfl rfl rfl) rfl ?_; refine vo_step (ok_move rfl rfl rfl) rfl ?_; refine vo_step (ok_eql rfl rfl rfl rfl (decide_eq_true (by omega))) rfl ?_; refine vo_step (ok_pick rfl rfl rfl rfl) rfl ?_; refine vo_step (ok_move rfl rfl rfl) rfl ?_; refine vo_step (ok_move rfl rfl rfl) rfl ?_; refine vo_step (ok_eql rfl rfl rfl rfl (decide_eq_true (by omega))) rfl ?_; refine vo_step (ok_pick rfl rfl rfl rfl) rfl ?_; refine vo_step (ok_move rfl rfl rfl) rfl ?_; refine vo_step (ok_move rfl rfl rfl) rfl ?_; refine vo_step (ok_pick rfl rfl rfl rfl) rfl ?_; refine vo_step (ok_move rfl rfl rfl) rfl ?_; refine vo_step (ok_callx L rfl rfl (blt_lt rfl) rfl rfl rfl (fun u H hH hle _ => lives02_ret hH (hM.mono hle))) rfl ?_; refine vo_step (ok_pick rfl rfl rfl rfl) rfl ?_; refine vo_step (ok_assign rfl rfl rfl) rfl ?_; refine vo_nil ?_; refine N_seq ?_
      refine V_ret L (rs := [.tmp 0]) rfl (fun _ _ h => h) Since.refl fun u H hH hle => ?_
      rfl
end Go.V.L2
/- What is passed is opened: flat values (strings, numbers, truth values, structs and arrays of such) by a list of their leaves. -/
namespace Go.V
open Go.RowKit
inductive LeafK where
  | s
  | b
  | i (k : IntKind)
def LeafOK : LeafK → Value → Prop
  | .s, v => ∃ a : ByteArray, v = .string a ∧ a.size ≤ maxLen
  | .b, v => ∃ c, v = .bool c
  | .i k, v => ∃ n, v = .int k n ∧ (Lit.int k n).wf = true
def LeafsOK : List LeafK → List Value → Prop
  | [], [] => True
  | l :: ls, v :: vs => LeafOK l v ∧ LeafsOK ls vs
  | _, _ => False
theorem LeafsOK.append : ∀ {a b : List LeafK} {x y : List Value}, LeafsOK a x → LeafsOK b y → LeafsOK (a ++ b) (x ++ y)
  | [], _, [], _, _, h => h
  | [], _, _ :: _, _, h, _ => h.elim
  | _ :: _, _, [], _, h, _ => h.elim
  | _ :: _, _, _ :: _, _, h, k => ⟨h.1, LeafsOK.append h.2 k⟩
theorem LeafsOK.length : ∀ {a : List LeafK} {x : List Value}, LeafsOK a x → x.length = a.length
  | [], [], _ => rfl
  | [], _ :: _, h => h.elim
  | _ :: _, [], h => h.elim
  | _ :: _, _ :: _, h => by simp [LeafsOK.length h.2]
theorem leaf_s {ls : List LeafK} {vs : List Value} (h : LeafsOK (.s :: ls) vs) : ∃ a r, vs = .string a :: r ∧ a.size ≤ maxLen ∧ LeafsOK ls r := by
  cases vs with
  | nil => exact h.elim
  | cons v vs => obtain ⟨⟨a, rfl, ha⟩, h⟩ := h; exact ⟨a, vs, rfl, ha, h⟩
theorem leaf_i {k : IntKind} {ls : List LeafK} {vs : List Value} (h : LeafsOK (.i k :: ls) vs) : ∃ n r, vs = .int k n :: r ∧ (Lit.int k n).wf = true ∧ LeafsOK ls r := by
  cases vs with
  | nil => exact h.elim
  | cons v vs => obtain ⟨⟨a, rfl, ha⟩, h⟩ := h; exact ⟨a, vs, rfl, ha, h⟩
theorem leaf_b {ls : List LeafK} {vs : List Value} (h : LeafsOK (.b :: ls) vs) : ∃ c r, vs = .bool c :: r ∧ LeafsOK ls r := by
  cases vs with
  | nil => exact h.elim
  | cons v vs => obtain ⟨⟨a, rfl⟩, h⟩ := h; exact ⟨a, vs, rfl, h⟩
theorem leaf_nil {vs : List Value} (h : LeafsOK [] vs) : vs = [] := by
  cases vs with
  | nil => rfl
  | cons _ _ => exact h.elim
def leafF (P : Program) (rec : TypeId → Option (List LeafK)) : List Field → Nat → Option (List LeafK)
  | [], _ => some []
  | f :: fs, off => match rec f.type with
    | some ls => if f.offset = off ∧ P.cellsOf f.type = ls.length then
        match leafF P rec fs (off + ls.length) with
        | some r => some (ls ++ r)
        | none => none
      else none
    | none => none
def repL (ls : List LeafK) : Nat → List LeafK
  | 0 => []
  | n + 1 => ls ++ repL ls n
def leafI (P : Program) : Nat → TypeId → Option (List LeafK)
  | 0, _ => none
  | d + 1, t => match P.underlying t with
    | some .string => some [.s]
    | some (.int k) => some [.i k]
    | some .bool => some [.b]
    | some (.struct fs) => match leafF P (leafI P d) fs.toList 0 with
      | some ls => if P.cellsOf t = ls.length then some ls else none
      | none => none
    | some (.array n e) => match leafI P d e with
      | some ls => if P.cellsOf e = ls.length ∧ P.cellsOf t = (repL ls n).length then some (repL ls n) else none
      | none => none
    | _ => none
theorem mapM_all {α β : Type} {f : α → Option β} : ∀ {l : List α} {ys : List β}, l.mapM f = some ys → ∃ g : List β, g = ys ∧ (∀ x ∈ l, ∃ y, f x = some y ∧ y ∈ ys) ∧ (∀ y ∈ ys, ∃ x ∈ l, f x = some y)
  | [], ys, h => by
    simp at h; subst h
    exact ⟨_, rfl, by simp, by simp⟩
  | x :: l, ys, h => by
    rw [List.mapM_cons] at h
    cases hx : f x with
    | none => rw [hx] at h; cases h
    | some y =>
      rw [hx] at h
      cases hl : l.mapM f with
      | none => rw [hl] at h; cases h
      | some zs =>
        rw [hl] at h
        cases h
        obtain ⟨_, _, h1, h2⟩ := mapM_all hl
        refine ⟨_, rfl, fun z hz => ?_, fun z hz => ?_⟩
        · rcases List.mem_cons.1 hz with rfl | hz
          · exact ⟨y, hx, List.mem_cons_self ..⟩
          · obtain ⟨w, hw, hm⟩ := h1 z hz; exact ⟨w, hw, List.mem_cons_of_mem _ hm⟩
        · rcases List.mem_cons.1 hz with rfl | hz
          · exact ⟨x, List.mem_cons_self .., hx⟩
          · obtain ⟨w, hw, hm⟩ := h2 z hz; exact ⟨w, List.mem_cons_of_mem _ hw, hm⟩
theorem take_split (cs : List Value) (off m r : Nat) : (cs.drop off).take (m + r) = (cs.drop off).take m ++ (cs.drop (off + m)).take r := by
  rw [List.take_add, List.drop_drop]
section
variable {P : Program} {H : Type} {enc : TypeId × Value → H} {W : World} {sp : Nat → Bool} {held : Bool} {base : Nat}
theorem leaf_of_trod : ∀ (d : Nat) {t : TypeId} {ls : List LeafK}, leafI P d t = some ls → ∀ {fuel : Nat} {cs : List Value} {x : DataW H × List MemPlace},
    DataW.trod enc P W base sp held fuel t cs = some x → LeafsOK ls cs ∧ x.2 = []
  | 0, _, _, h, _, _, _, _ => by cases h
  | d + 1, t, ls, h, fuel, cs, x, hx => by
    have ih := @leaf_of_trod d
    cases fuel with
    | zero => simp [DataW.trod] at hx
    | succ fuel =>
      rw [leafI] at h
      unfold DataW.trod at hx
      cases hu : P.underlying t with
      | none => rw [hu] at h; cases h
      | some ds =>
        rw [hu] at h hx
        cases ds <;> first | (cases h; done) | skip
        · cases h
          match cs, hx with
          | [.bool b], hx => cases hx; exact ⟨⟨⟨b, rfl⟩, trivial⟩, rfl⟩
        · rename_i k
          cases h
          match cs, hx with
          | [.int k' m], hx =>
            simp only at hx
            split at hx
            · rename_i hk
              obtain ⟨rfl, hw⟩ := hk
              cases hx; exact ⟨⟨⟨m, rfl, hw⟩, trivial⟩, rfl⟩
            · cases hx
        · cases h
          match cs, hx with
          | [.string s], hx =>
            simp only at hx
            split at hx
            · rename_i hs; cases hx; exact ⟨⟨⟨s, rfl, hs⟩, trivial⟩, rfl⟩
            · cases hx
        · rename_i n e
          simp only at h hx
          split at h
          · rename_i l1 hl1
            split at h
            · rename_i hc
              cases h
              split at hx
              · rename_i hlen
                obtain ⟨xs, hxs, rfl⟩ := Option.map_eq_some_iff.1 hx
                obtain ⟨_, _, hall, hback⟩ := mapM_all hxs
                have each : ∀ i, i < n → LeafsOK l1 ((cs.drop (i * P.cellsOf e)).take (P.cellsOf e)) := fun i hi => by
                  obtain ⟨y, hy, _⟩ := hall i (List.mem_range.2 hi)
                  exact (ih hl1 hy).1
                have gen : ∀ m k, k + m = n → LeafsOK (repL l1 m) ((cs.drop (k * P.cellsOf e)).take (m * P.cellsOf e)) := by
                  intro m
                  induction m with
                  | zero => intro k _; simp [repL, LeafsOK]
                  | succ m ihm =>
                    intro k hk
                    rw [show (m + 1) * P.cellsOf e = P.cellsOf e + m * P.cellsOf e by rw [Nat.succ_mul]; omega, take_split]
                    refine LeafsOK.append (each k (by omega)) ?_
                    rw [show k * P.cellsOf e + P.cellsOf e = (k + 1) * P.cellsOf e by rw [Nat.succ_mul]]
                    exact ihm (k + 1) (by omega)
                refine ⟨?_, ?_⟩
                · have := gen n 0 (by omega)
                  have hrl : ∀ m, (repL l1 m).length = m * P.cellsOf e := by
                    intro m
                    induction m with
                    | zero => simp [repL]
                    | succ m ihm => simp only [repL, List.length_append, ihm, hc.1]; rw [Nat.succ_mul]; omega
                  rw [← hrl n, ← hc.2, ← hlen] at this
                  simpa using this
                · refine List.flatMap_eq_nil_iff.2 fun y hy => ?_
                  obtain ⟨i, _, hi⟩ := hback y hy
                  exact (ih hl1 hi).2
              · cases hx
            · cases h
          · cases h
        · rename_i fs
          simp only at h hx
          split at h
          · rename_i l1 hl1
            split at h
            · rename_i hc
              cases h
              split at hx
              · rename_i hlen
                obtain ⟨xs, hxs, rfl⟩ := Option.map_eq_some_iff.1 hx
                obtain ⟨_, _, hall, hback⟩ := mapM_all hxs
                have gen : ∀ (fl : List Field) (off : Nat) (ls : List LeafK), (∀ f ∈ fl, f ∈ fs.toList) → leafF P (leafI P d) fl off = some ls →
                    LeafsOK ls ((cs.drop off).take ls.length) ∧ ∀ f ∈ fl, ∃ l, leafI P d f.type = some l := by
                  intro fl
                  induction fl with
                  | nil => intro off ls _ h; cases h; simp [LeafsOK]
                  | cons f fl ihf =>
                    intro off ls hm h
                    simp only [leafF] at h
                    split at h
                    · rename_i l2 hl2
                      split at h
                      · rename_i hc2
                        obtain ⟨rfl, hc3⟩ := hc2
                        split at h
                        · rename_i r hr
                          cases h
                          obtain ⟨g1, g2⟩ := ihf _ _ (fun g hg => hm g (List.mem_cons_of_mem _ hg)) hr
                          refine ⟨?_, fun g hg => ?_⟩
                          · rw [List.length_append, take_split]
                            refine LeafsOK.append ?_ g1
                            obtain ⟨y, hy, _⟩ := hall f (hm f (List.mem_cons_self ..))
                            rw [← hc3]
                            exact (ih hl2 hy).1
                          · rcases List.mem_cons.1 hg with rfl | hg
                            · exact ⟨l2, hl2⟩
                            · exact g2 g hg
                        · cases h
                      · cases h
                    · cases h
                obtain ⟨g1, g2⟩ := gen fs.toList 0 _ (fun _ h => h) hl1
                refine ⟨?_, ?_⟩
                · rw [← hc, ← hlen] at g1; simpa using g1
                · refine List.flatMap_eq_nil_iff.2 fun y hy => ?_
                  obtain ⟨f, hf, hi⟩ := hback y hy
                  obtain ⟨l, hl⟩ := g2 f hf
                  exact (ih hl hi).2
              · cases hx
            · cases h
          · cases h
theorem open_agg {t : TypeId} {ls : List LeafK} {b0 : Nat} {v : Value} {dd : DataW H} {ps : List MemPlace} (h : leafI P 20 t = some ls) (ha : (match P.underlying t with | some (.struct _) | some (.array _ _) => true | _ => false) = true)
    (hval : Value.okWide P W .any b0 t v) (hd : DataW.Trod enc P W base sp held t v dd ps) : ∃ cs : List Value, v = .agg cs.toArray ∧ LeafsOK ls cs ∧ ps = [] := by
  obtain ⟨fuel, hf⟩ := hd
  have key : ∃ cs, v = .agg cs := by
    unfold Value.okWide at hval
    split at hval
    · obtain ⟨cs, hv, _⟩ := hval; exact ⟨cs, hv⟩
    · obtain ⟨cs, hv, _⟩ := hval; exact ⟨cs, hv⟩
    · rename_i h1 h2
      split at ha
      · rename_i fs hu; exact absurd hu (h1 fs)
      · rename_i m e hu; exact absurd hu (h2 m e)
      · cases ha
  obtain ⟨cs, rfl⟩ := key
  obtain ⟨h1, h2⟩ := leaf_of_trod 20 h hf
  exact ⟨cs.toList, by simp, h1, h2⟩
theorem open_one {t : TypeId} {k : IntKind} {b0 : Nat} {v : Value} {dd : DataW H} {ps : List MemPlace} (h : leafI P 20 t = some [.i k]) (hu : P.underlying t = some (.int k))
    (hval : Value.okWide P W .any b0 t v) (hd : DataW.Trod enc P W base sp held t v dd ps) : ∃ n, v = .int k n ∧ (Lit.int k n).wf = true ∧ ps = [] := by
  obtain ⟨fuel, hf⟩ := hd
  have h0 : Cell.ok P W .any b0 t v := by
    unfold Value.okWide at hval
    rw [hu] at hval
    unfold Cell.okWide at hval
    rw [hu] at hval
    exact hval
  unfold Cell.ok at h0
  rw [hu] at h0
  match v, h0 with
  | .int k' n, h0 =>
    obtain ⟨h1, h2⟩ := leaf_of_trod 20 h (by simpa [Value.cells] using hf)
    obtain ⟨n', r, g1, g2, g3⟩ := leaf_i h1
    cases g1
    exact ⟨n, rfl, g2, h2⟩
/-- What a slice of flat values reads as. -/
theorem open_sl {t e : TypeId} {ls : List LeafK} {b0 : Nat} {v : Value} {dd : DataW H} {ps : List MemPlace} (ht : P.underlying t = some (.slice e)) (hlf : leafI P 20 e = some ls) (hce : P.cellsOf e = ls.length)
    (hval : Value.okWide P W .any b0 t v) (hd : DataW.Trod enc P W 0 (fun _ => true) held t v dd ps) :
    ∃ cs : List (List Value), (∀ c ∈ cs, LeafsOK ls c) ∧ cs.length ≤ maxLen ∧ SlV e ls.length cs.flatten cs.length false v (hp W) := by
  obtain ⟨fuel, hf⟩ := hd
  have hv : v = .slice none 0 0 ∨ ∃ a len cap, v = .slice (some a) len cap ∧ len ≤ cap ∧ cap ≤ maxLen ∧ a.spot = none ∧ ∃ cs fr ty, W.heap[a.block]? = some (.cells cs ty fr) := by
    have h0 : Cell.ok P W .any b0 t v := by
      unfold Value.okWide at hval
      rw [ht] at hval
      unfold Cell.okWide at hval
      rw [ht] at hval
      exact hval
    unfold Cell.ok at h0
    rw [ht] at h0
    match v, h0 with
    | .slice none 0 0, _ => exact .inl rfl
    | .slice (some a) len cap, h0 =>
      obtain ⟨h1, h2, _, h3, row, cells, h4, _⟩ := h0
      have hm : IntKind.i64.max = 9223372036854775807 := by decide
      refine .inr ⟨a, len, cap, rfl, h1, by rw [hm] at h2; unfold maxLen; omega, h3, ?_⟩
      unfold World.shape? at h4
      split at h4
      · rename_i cs ty fr hh; exact ⟨_, _, _, hh⟩
      · cases h4
  rcases hv with rfl | ⟨a, len, cap, rfl, h1, h2, h3, cs, fr, ty, h4⟩
  · exact ⟨[], fun c h => (nomatch h), Nat.zero_le _, SlV.nil⟩
  · rcases Deep.open_slice ht (by simpa [Value.cells] using hf) with ⟨h, _⟩ | ⟨a', len', cap', m, nn, D, Pl, h5, _, _, _, hm, _, hx⟩
    · cases h
    · cases h5
      simp only [if_true] at hm
      rw [hm] at hx
      clear hm
      obtain ⟨C, hC⟩ := Deep.choose_lt (α := List Value) (n := cap) (p := fun i c => W.cells? 0 (a.add (i * P.cellsOf e)) (P.cellsOf e) = some c ∧ LeafsOK ls c) (fun i hi => by
        obtain ⟨c, g1, g2⟩ := hx i hi
        exact ⟨c, g1, (leaf_of_trod 20 hlf g2).1⟩)
      have hln : ∀ i, i < cap → (C i).length = ls.length := fun i hi => (hC i hi).2.length
      refine ⟨(List.range len).map C, fun c hc => ?_, by simp; omega, ?_⟩
      · obtain ⟨i, hi, rfl⟩ := List.mem_map.1 hc
        exact (hC i (by have := List.mem_range.1 hi; omega)).2
      · have hfl : ∀ k, k ≤ cap → ((List.range k).map C).flatten.length = k * ls.length := by
          intro k
          induction k with
          | zero => simp
          | succ k ih =>
            intro hk
            rw [List.range_succ, List.map_append, List.flatten_append, List.length_append, ih (by omega), Nat.succ_mul]
            simp [hln k (by omega)]
        refine ⟨by rw [hfl len h1, List.length_map, List.length_range], .inr ⟨a.block, a.off, cap, cs, ty, fr, ?_, h4, ?_, by simpa using h1, fun h => by cases h⟩⟩
        · obtain ⟨ab, ao, asp⟩ := a
          simp only at h3
          subst h3
          simp
        · rw [hfl len h1]
          have key : ∀ k, k ≤ cap → (cs.toList.drop a.off).take (k * ls.length) = ((List.range k).map C).flatten := by
            intro k
            induction k with
            | zero => simp
            | succ k ih =>
              intro hk
              rw [Nat.succ_mul, take_split, ih (by omega), List.range_succ, List.map_append, List.flatten_append]
              congr 1
              obtain ⟨_, g2, g3⟩ := World.cells?_some (hC k (by omega)).1
              simp only [List.map_cons, List.map_nil, List.flatten_cons, List.flatten_nil, List.append_nil]
              apply List.ext_getElem?
              intro j
              rcases Nat.lt_or_ge j ls.length with hj | hj
              · have := g3 j (by omega)
                rw [← this, List.getElem?_take_of_lt hj, List.getElem?_drop]
                obtain ⟨ab, ao, asp⟩ := a
                simp only at h3
                subst h3
                rw [addr_add, addr_add, cell_of_heap h4]
                simp only [hce]
                rw [Array.getElem?_toList]
              · rw [List.getElem?_eq_none (by rw [List.length_take]; omega), List.getElem?_eq_none (by rw [hln k (by omega)]; exact hj)]
          exact key len h1
end
end Go.V
namespace Go.Proofs.Ytpnmjelhnacmlaa.tuplesKnown
open Go.ChangeShapes Go.WideShapes Go.ChangeAt Go.ChangeMaps Go.RowKit Go.V
theorem own : ownKnob Try.prog.godebug = none := by kernel_rfl
theorem laidOut : laidOutB Try.prog = true := by kernel_rfl
set_option maxRecDepth 100000 in
theorem lifted (os : Os) (started : os.Started) (H : Type) (enc : TypeId × Value → H) :
    ReturnsInHanded {} Try.checked os 11 .any (Rows.tuplesKnownSpec.pre6 enc Try.prog Try.f11 Rows.tuplesKnownRow.domain false) (Rows.tuplesKnownSpec.post enc Try.prog Try.f11 false true false false) := by
  refine returnsInHanded_of_change_shaped (C := Try.checked) own started (by kernel_rfl) Try.func11
    (ChangeSpec.witness6 (enc := enc) (C := Try.checked) false ⟨#[], #[], []⟩ 8 (by kernel_rfl) (by kernel_rfl) (by kernel_rfl) (by kernel_rfl)) ?_
  intro W base args ds gs before hval0 hW hcnd _ hsh _
  have hval : ∀ (j : Nat) t v, Try.f11.params[j]? = some t → args[j]? = some v → Value.okWide Try.prog W .any base t v := hval0
  have hW' := hW
  obtain ⟨p, q, hA0, hV, rfl, hfz, hnd⟩ := hW
  have hA : DataW.TrodAll enc Try.prog W 0 (fun _ => true) true Try.f11.params.toList args.toList ds p := hA0
  rw [Try.params11] at hA hval
  obtain ⟨rfl, rfl, rfl⟩ := trodAll_none hA
  obtain ⟨rfl, rfl⟩ := trodVars_none hV
  clear hA0 hval0
  obtain ⟨m0, hm0⟩ := Try.laysM145.s1_3 W hsh
  have hglob := GlobM.of_cell hm0
  have hplc := hW'.lt
  simp only [List.append_nil] at hW'
  have hlaw := Go.V.L2.tuplesKnown_law (w := W) (Heap.Le.refl _) hglob
  unfold Ret at hlaw
  refine hlaw.mono fun e W' hp => ?_
  obtain ⟨v, rfl, H', g, rfl⟩ := hp
  exact ⟨_, rfl, _, _, _, [], [], [], hW', trodAll_cons_mk (shut_bool Try.underlying4 _) trodAll_mk0, trodAll_mk0, rfl, g.below.frame _, fun h => by cases h⟩
theorem proved : Rows.TuplesKnownSaid :=
  OpenClaim.holds_of_wide 11 Try.f11 rfl rfl rfl rfl rfl rfl rfl ⟨rfl, rfl, rfl, rfl, rfl⟩ rfl rfl rfl rfl rfl (by kernel_rfl) Try.func11 (by kernel_rfl)
    (of_decide_eq_true (by kernel_rfl)) (by unfold Func.isWrapper; first | (rw [if_pos (by decide +kernel)]; kernel_rfl) | (rw [if_neg (by decide +kernel)]; exact ⟨rfl, rfl⟩))
    (fun os started H enc _ => lifted os started H enc)
#print axioms proved
end Go.Proofs.Ytpnmjelhnacmlaa.tuplesKnown
