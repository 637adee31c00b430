/- The walks of the definition of names: texts are read. -/
import Derived.Test.YtpnmjelhnacmlaaNamF
import Derived.Test.YtpnmjelhnacmlaaNamP
namespace Go.V
open Go.Proofs Go.RowKit
/-- Where a byte is. -/
def fi (c : UInt8) : List UInt8 → Nat
  | [] => 0
  | x :: l => if x = c then 0 else fi c l + 1
theorem fi_no {c : UInt8} : ∀ {l : List UInt8}, c ∉ l → fi c l = l.length
  | [], _ => rfl
  | x :: l, h => by
    rw [fi, if_neg fun e => h (by rw [e]; exact List.mem_cons_self ..), fi_no fun e => h (List.mem_cons_of_mem _ e), List.length_cons]
theorem fi_app {c : UInt8} {q : List UInt8} : ∀ {p : List UInt8}, c ∉ p → fi c (p ++ q) = p.length + fi c q
  | [], _ => by simp
  | x :: p, h => by
    rw [List.cons_append, fi, if_neg fun e => h (by rw [e]; exact List.mem_cons_self ..), fi_app fun e => h (List.mem_cons_of_mem _ e), List.length_cons]; omega
theorem fi_lt {c : UInt8} {q : List UInt8} : ∀ {p : List UInt8}, c ∈ p → fi c (p ++ q) < p.length
  | x :: p, h => by
    rw [List.cons_append, fi]
    split
    · simp
    · rename_i hx
      have := fi_lt (q := q) ((List.mem_cons.1 h).resolve_left fun e => hx e.symm)
      simp only [List.length_cons]; omega
/-- A string that has a byte. -/
theorem split_b (s : ByteArray) (c : UInt8) : noB s c ∨ ∃ a b, s = a ++ ⟨#[c]⟩ ++ b ∧ noB a c := by
  by_cases h : c ∈ s.data.toList
  · obtain ⟨p, q, e, hp⟩ := List.eq_append_cons_of_mem h
    refine .inr ⟨⟨p.toArray⟩, ⟨q.toArray⟩, ba_ext' ?_, by unfold noB; simpa using hp⟩
    rw [list_app, list_app, e]
    simp
  · exact .inl h
theorem ext_mid (p q r : ByteArray) (i j : Nat) (hi : i = p.size) (hj : j = p.size + q.size) : (p ++ q ++ r).extract i j = q := by
  subst hi hj
  apply ba_ext'
  rw [ByteArray.data_extract, Array.toList_extract, List.extract, list_app, list_app]
  have h1 : p.data.toList.length = p.size := len_toList p
  have h2 : q.data.toList.length = q.size := len_toList q
  rw [List.append_assoc, ← h1, List.drop_left, List.take_left' (by omega)]
theorem hasA_yes {a : ByteArray} {c : UInt8} (h : ¬ noB a c) : hasA a c = true := by
  rcases split_b a c with h1 | ⟨p, q, rfl, hp⟩
  · exact absurd h1 h
  · unfold hasA
    have e : (p ++ ⟨#[c]⟩ ++ q).data.toList = p.data.toList ++ c :: q.data.toList := by rw [list_app, list_app]; simp
    rw [e, indexByte_mid _ _ _ hp]
    simp
/-- What the definition reads. -/
def rp1 (s : ByteArray) : ByteArray × ByteArray × ByteArray × Bool × Int :=
  match partsA s with
  | none => (sNil, sNil, sNil, false, 5)
  | some (x, y, z, d) => (x, y, z, d, if d = true then allE [x, y, z] else allE [x, y])
theorem mid_list (a b : ByteArray) (c : UInt8) : (a ++ ⟨#[c]⟩ ++ b).data.toList = a.data.toList ++ c :: b.data.toList := by rw [list_app, list_app]; simp
theorem mid_size (a b : ByteArray) (c : UInt8) : (a ++ ⟨#[c]⟩ ++ b).size = a.size + 1 + b.size := by rw [ByteArray.size_append, ByteArray.size_append]; rfl
theorem count_pos {s : ByteArray} {c : UInt8} (h : ¬ noB s c) : 0 < s.data.toList.count c := List.count_pos_iff.2 (Classical.not_not.1 h)
attribute [local irreducible] V N X VO Par StepOK Has Ret RetL Src
set_option maxHeartbeats 1000000 in
theorem place_ret {s : ByteArray} {c : UInt8} {a n : Nat} (ha : fi c s.data.toList = a) (hn : s.data.toList.count c = n) (hs : s.size ≤ 1000000) {w : World} {B : Heap} (hB : B.Le (hp w)) :
    Ret Try.prog 117 [.string s, .int .u8 c.toNat] w B (fun v _ => v = .tuple #[.int .i64 a, .int .i64 n]) := by
  subst ha hn
  have hlen := len_toList s
  refine V_enter Try.func117 rfl Try.ntmps117 (Nat.le_of_ble_eq_true rfl) hB ?_
  refine V_seq ?_; refine V_region (id := 0) ?_; refine vo_step (ok_assign rfl rfl rfl) rfl ?_; refine vo_step (ok_assign rfl rfl rfl) rfl ?_; refine vo_nil ?_; refine N_seq ?_; refine V_seq ?_; refine V_region (id := 1) ?_; refine vo_step (ok_move rfl rfl rfl) rfl ?_; refine vo_step (ok_lenS L rfl rfl rfl rfl) rfl ?_; refine vo_step (ok_assign rfl rfl rfl) rfl ?_; refine vo_step (ok_assign rfl rfl rfl) rfl ?_; refine vo_nil ?_; refine N_seq ?_; refine V_seq ?_; refine V_seq ?_; refine V_region (id := 2) ?_; refine vo_step (ok_move rfl rfl rfl) rfl ?_; refine vo_step (ok_lenS L rfl rfl rfl rfl) rfl ?_; refine vo_step (ok_sub rfl rfl rfl rfl (wrap_i64 (by omega) (by omega))) rfl ?_; refine vo_step (ok_assign rfl rfl rfl) rfl ?_; refine vo_nil ?_; refine N_seq ?_; refine V_block ?_
  refine V_loop (fun x : Nat × Nat × Nat × Int => [(0, .is (.string s)), (1, .is (.int .u8 c.toNat)), (6, .is (.int .i64 x.2.1)), (7, .is (.int .i64 x.2.2.1)), (8, .is (.int .i64 x.2.2.2))])
    (fun x => x.1 ≤ s.size ∧ x.2.1 = x.1 + fi c (s.data.toList.drop x.1) ∧ x.2.2.1 = (s.data.toList.drop x.1).count c ∧ x.2.2.2 = (x.1 : Int) - 1 ∧ x.2.2.1 ≤ s.size - x.1) (fun x => x.1) (s.size, s.size, 0, (s.size : Int) - 1)
    ⟨Nat.le_refl _, by rw [List.drop_eq_nil_of_le (by omega)]; rfl, by rw [List.drop_eq_nil_of_le (by omega)]; rfl, rfl, Nat.zero_le _⟩ ⟨rfl, rfl, rfl, rfl, rfl, trivial⟩ ?_
  rintro ⟨i, a, n, z⟩ ⟨hi, ha, hn, hz, hb⟩
  dsimp only at hi ha hn hz hb ⊢
  cases i with
  | zero =>
    rw [List.drop_zero] at ha hn
    have hz0 : z < 0 := by omega
    obtain rfl : a = fi c s.data.toList := by omega
    subst hn
    refine V_seq ?_; refine V_seq ?_; refine V_region (id := 3) ?_; refine vo_step (ok_move rfl rfl rfl) rfl ?_; refine vo_step (ok_geq rfl rfl rfl rfl (decide_eq_false (by omega))) rfl ?_; refine vo_nil ?_; refine N_seq ?_; refine V_false rfl ?_; refine V_exit ?_; refine X_then ?_; refine X_then ?_; refine X_here ?_; refine N_seq ?_; refine V_seq ?_; refine V_region (id := 8) ?_; refine vo_step (ok_move rfl rfl rfl) rfl ?_; refine vo_step (ok_move rfl rfl rfl) rfl ?_; refine vo_step (ok_assign rfl rfl rfl) rfl ?_; refine vo_step (ok_assign rfl rfl rfl) rfl ?_; refine vo_nil ?_; refine N_seq ?_
    refine V_ret L (rs := [.tmp 4, .tmp 5]) rfl (fun _ _ h => h) Since.refl fun u H hH hle => ?_
    rfl
  | succ k =>
    obtain rfl : z = (k : Int) := by omega
    obtain ⟨x, hc⟩ := getElem?_lt (show k < s.size by omega)
    have hd : s.data.toList[k]? = some x := by
      have : s.data[k]? = some x := hc
      simpa using this
    have hdr : s.data.toList.drop k = x :: s.data.toList.drop (k + 1) := by
      have h1 : k < s.data.toList.length := by omega
      rw [List.drop_eq_getElem_cons h1]
      rw [List.getElem?_eq_getElem h1] at hd
      rw [Option.some.inj hd]
    by_cases hx : x = c
    · subst hx
      refine V_seq ?_; refine V_seq ?_; refine V_region (id := 3) ?_; refine vo_step (ok_move rfl rfl rfl) rfl ?_; refine vo_step (ok_geq rfl rfl rfl rfl (decide_eq_true (by omega))) rfl ?_; refine vo_nil ?_; refine N_seq ?_; refine V_true rfl ?_; refine V_skip ?_; refine N_seq ?_; refine V_seq ?_; refine V_block ?_; refine V_seq ?_; refine V_region (id := 5) ?_; refine vo_step (ok_move rfl rfl rfl) rfl ?_; refine vo_step (ok_move rfl rfl rfl) rfl ?_; refine vo_step (ok_indexS L rfl rfl rfl rfl rfl (by assumption)) rfl ?_; refine vo_step (ok_move rfl rfl rfl) rfl ?_; refine vo_step (ok_eql rfl rfl rfl rfl (decide_eq_true (by omega))) rfl ?_; refine vo_nil ?_; refine N_seq ?_; refine V_true rfl ?_; refine V_seq ?_; refine V_region (id := 6) ?_; refine vo_step (ok_move rfl rfl rfl) rfl ?_; refine vo_step (ok_assign rfl rfl rfl) rfl ?_; refine vo_nil ?_; refine N_seq ?_; refine V_region (id := 7) ?_; refine vo_step (ok_move rfl rfl rfl) rfl ?_; refine vo_step (ok_add rfl rfl rfl rfl (wrap_i64 (by omega) (by omega))) rfl ?_; refine vo_step (ok_assign rfl rfl rfl) rfl ?_; refine vo_nil ?_; refine N_block ?_; refine N_seq ?_; refine V_region (id := 4) ?_; refine vo_step (ok_move rfl rfl rfl) rfl ?_; refine vo_step (ok_sub rfl rfl rfl rfl (wrap_i64 (by omega) (by omega))) rfl ?_; refine vo_step (ok_assign rfl rfl rfl) rfl ?_; refine vo_nil ?_
      exact N_round (x := (k + 1, a, n, (k : Int))) (k, k, n + 1, (k : Int) - 1) ⟨by dsimp only; omega, by dsimp only; rw [hdr, fi, if_pos rfl]; rfl, by dsimp only; rw [hdr, List.count_cons_self, hn], rfl, by dsimp only; omega⟩ (by dsimp only; omega) ⟨rfl, rfl, rfl, rfl, rfl, trivial⟩
    · have hxc : (x.toNat : Int) ≠ (c.toNat : Int) := fun e => hx (UInt8.toNat_inj.1 (by omega))
      refine V_seq ?_; refine V_seq ?_; refine V_region (id := 3) ?_; refine vo_step (ok_move rfl rfl rfl) rfl ?_; refine vo_step (ok_geq rfl rfl rfl rfl (decide_eq_true (by omega))) rfl ?_; refine vo_nil ?_; refine N_seq ?_; refine V_true rfl ?_; refine V_skip ?_; refine N_seq ?_; refine V_seq ?_; refine V_block ?_; refine V_seq ?_; refine V_region (id := 5) ?_; refine vo_step (ok_move rfl rfl rfl) rfl ?_; refine vo_step (ok_move rfl rfl rfl) rfl ?_; refine vo_step (ok_indexS L rfl rfl rfl rfl rfl (by assumption)) rfl ?_; refine vo_step (ok_move rfl rfl rfl) rfl ?_; refine vo_step (ok_eql rfl rfl rfl rfl (decide_eq_false (by omega))) rfl ?_; refine vo_nil ?_; refine N_seq ?_; refine V_false rfl ?_; refine V_skip ?_; refine N_block ?_; refine N_seq ?_; refine V_region (id := 4) ?_; refine vo_step (ok_move rfl rfl rfl) rfl ?_; refine vo_step (ok_sub rfl rfl rfl rfl (wrap_i64 (by omega) (by omega))) rfl ?_; refine vo_step (ok_assign rfl rfl rfl) rfl ?_; refine vo_nil ?_
      exact N_round (x := (k + 1, a, n, (k : Int))) (k, a, n, (k : Int) - 1) ⟨by dsimp only; omega, by dsimp only; rw [hdr, fi, if_neg hx, ha]; omega, by dsimp only; rw [hdr, List.count_cons_of_ne hx, hn], rfl, by dsimp only; omega⟩ (by dsimp only; omega) ⟨rfl, rfl, rfl, rfl, rfl, trivial⟩
set_option maxHeartbeats 2000000 in
theorem rparse1_ret {s : ByteArray} {r : ByteArray × ByteArray × ByteArray × Bool × Int} (hr : rp1 s = r) (hs : s.size ≤ 1000000) {w : World} {B : Heap} (hB : B.Le (hp w)) :
    Ret Try.prog 87 [.string s] w B (fun v _ => v = .tuple #[.agg #[.string r.1, .string r.2.1], .string r.2.2.1, .bool r.2.2.2.1, .int .i64 r.2.2.2.2]) := by
  subst hr
  have bad : partsA s = none → ∀ {m k m2 k2 : Nat}, fi 58 s.data.toList = m → s.data.toList.count 58 = k → fi 35 s.data.toList = m2 → s.data.toList.count 35 = k2 → (k ≠ 1 ∨ 1 < k2 ∨ m2 < m) →
      Ret Try.prog 87 [.string s] w B (fun v _ => v = .tuple #[.agg #[.string (rp1 s).1, .string (rp1 s).2.1], .string (rp1 s).2.2.1, .bool (rp1 s).2.2.2.1, .int .i64 (rp1 s).2.2.2.2]) := by
    intro hp m k m2 k2 e1 e2 e3 e4 hor
    have hr1 : rp1 s = (sNil, sNil, sNil, false, 5) := by unfold rp1; rw [hp]
    rw [hr1]
    refine V_enter Try.func87 rfl Try.ntmps87 (Nat.le_of_ble_eq_true rfl) hB ?_
    by_cases c1 : k = 1
    · by_cases c2 : 1 < k2
      · refine V_seq ?_; refine V_region (id := 0) ?_; refine vo_step (ok_alloc L rfl rfl rfl rfl) rfl ?_; refine vo_step (ok_assign rfl rfl rfl) rfl ?_; refine vo_step (ok_assign rfl rfl rfl) rfl ?_; refine vo_step (ok_assign rfl rfl rfl) rfl ?_; refine vo_nil ?_; refine N_seq ?_; refine V_seq ?_; refine V_region (id := 1) ?_; refine vo_step (ok_move rfl rfl rfl) rfl ?_; refine vo_step (ok_callx L rfl rfl (blt_lt rfl) rfl rfl rfl (fun u H hH _ _ => place_ret (c := 58) e1 e2 hs hH)) rfl ?_; refine vo_step (ok_move rfl rfl rfl) rfl ?_; refine vo_step (ok_extract rfl rfl rfl rfl) rfl ?_; refine vo_step (ok_extract rfl rfl rfl rfl) rfl ?_; refine vo_step (ok_assign rfl rfl rfl) rfl ?_; refine vo_step (ok_assign rfl rfl rfl) rfl ?_; refine vo_nil ?_; refine N_seq ?_; refine V_seq ?_; refine V_region (id := 2) ?_; refine vo_step (ok_move rfl rfl rfl) rfl ?_; refine vo_step (ok_callx L rfl rfl (blt_lt rfl) rfl rfl rfl (fun u H hH _ _ => place_ret (c := 35) e3 e4 hs hH)) rfl ?_; refine vo_step (ok_move rfl rfl rfl) rfl ?_; refine vo_step (ok_extract rfl rfl rfl rfl) rfl ?_; refine vo_step (ok_extract rfl rfl rfl rfl) rfl ?_; refine vo_step (ok_assign rfl rfl rfl) rfl ?_; refine vo_step (ok_assign rfl rfl rfl) rfl ?_; refine vo_nil ?_; refine N_seq ?_; refine V_seq ?_; refine V_seq ?_; refine V_region (id := 3) ?_; refine vo_step (ok_move rfl rfl rfl) rfl ?_; refine vo_step (ok_neq rfl rfl rfl rfl (decide_eq_false (by omega))) rfl ?_; refine vo_step (ok_move rfl rfl rfl) rfl ?_; refine vo_step (ok_move rfl rfl rfl) rfl ?_; refine vo_step (ok_gtr rfl rfl rfl rfl (decide_eq_true (by omega))) rfl ?_; refine vo_step (ok_pick rfl rfl rfl rfl) rfl ?_; refine vo_step (ok_move rfl rfl rfl) rfl ?_; refine vo_step (ok_skip rfl (blt_lt rfl) rfl) rfl ?_; refine vo_step (ok_skip rfl (blt_lt rfl) rfl) rfl ?_; refine vo_step (ok_skip rfl (blt_lt rfl) rfl) rfl ?_; refine vo_step (ok_pick rfl rfl rfl rfl) rfl ?_; refine vo_nil ?_; refine N_seq ?_; refine V_true rfl ?_; refine V_seq ?_; refine V_region (id := 4) ?_; refine vo_step (ok_build (cs := [_, _]) rfl rfl pl42 rfl rfl) rfl ?_; refine vo_step (ok_store L rfl rfl rfl rfl rfl rfl rfl rfl) rfl ?_; refine vo_step (ok_assign rfl rfl rfl) rfl ?_; refine vo_step (ok_assign rfl rfl rfl) rfl ?_; refine vo_step (ok_assign rfl rfl rfl) rfl ?_; refine vo_nil ?_; refine N_seq ?_
        refine V_ret L (rs := [.cell 2 42, .tmp 3, .tmp 4, .tmp 5]) rfl (fun _ _ h => h) Since.refl fun u H hH hle => ?_
        exact ⟨_, src_own rfl, rfl, rfl⟩
      · have c3 : m2 < m := by omega
        refine V_seq ?_; refine V_region (id := 0) ?_; refine vo_step (ok_alloc L rfl rfl rfl rfl) rfl ?_; refine vo_step (ok_assign rfl rfl rfl) rfl ?_; refine vo_step (ok_assign rfl rfl rfl) rfl ?_; refine vo_step (ok_assign rfl rfl rfl) rfl ?_; refine vo_nil ?_; refine N_seq ?_; refine V_seq ?_; refine V_region (id := 1) ?_; refine vo_step (ok_move rfl rfl rfl) rfl ?_; refine vo_step (ok_callx L rfl rfl (blt_lt rfl) rfl rfl rfl (fun u H hH _ _ => place_ret (c := 58) e1 e2 hs hH)) rfl ?_; refine vo_step (ok_move rfl rfl rfl) rfl ?_; refine vo_step (ok_extract rfl rfl rfl rfl) rfl ?_; refine vo_step (ok_extract rfl rfl rfl rfl) rfl ?_; refine vo_step (ok_assign rfl rfl rfl) rfl ?_; refine vo_step (ok_assign rfl rfl rfl) rfl ?_; refine vo_nil ?_; refine N_seq ?_; refine V_seq ?_; refine V_region (id := 2) ?_; refine vo_step (ok_move rfl rfl rfl) rfl ?_; refine vo_step (ok_callx L rfl rfl (blt_lt rfl) rfl rfl rfl (fun u H hH _ _ => place_ret (c := 35) e3 e4 hs hH)) rfl ?_; refine vo_step (ok_move rfl rfl rfl) rfl ?_; refine vo_step (ok_extract rfl rfl rfl rfl) rfl ?_; refine vo_step (ok_extract rfl rfl rfl rfl) rfl ?_; refine vo_step (ok_assign rfl rfl rfl) rfl ?_; refine vo_step (ok_assign rfl rfl rfl) rfl ?_; refine vo_nil ?_; refine N_seq ?_; refine V_seq ?_; refine V_seq ?_; refine V_region (id := 3) ?_; refine vo_step (ok_move rfl rfl rfl) rfl ?_; refine vo_step (ok_neq rfl rfl rfl rfl (decide_eq_false (by omega))) rfl ?_; refine vo_step (ok_move rfl rfl rfl) rfl ?_; refine vo_step (ok_move rfl rfl rfl) rfl ?_; refine vo_step (ok_gtr rfl rfl rfl rfl (decide_eq_false (by omega))) rfl ?_; refine vo_step (ok_pick rfl rfl rfl rfl) rfl ?_; refine vo_step (ok_move rfl rfl rfl) rfl ?_; refine vo_step (ok_move rfl rfl rfl) rfl ?_; refine vo_step (ok_move rfl rfl rfl) rfl ?_; refine vo_step (ok_lss rfl rfl rfl rfl (decide_eq_true (by omega))) rfl ?_; refine vo_step (ok_pick rfl rfl rfl rfl) rfl ?_; refine vo_nil ?_; refine N_seq ?_; refine V_true rfl ?_; refine V_seq ?_; refine V_region (id := 4) ?_; refine vo_step (ok_build (cs := [_, _]) rfl rfl pl42 rfl rfl) rfl ?_; refine vo_step (ok_store L rfl rfl rfl rfl rfl rfl rfl rfl) rfl ?_; refine vo_step (ok_assign rfl rfl rfl) rfl ?_; refine vo_step (ok_assign rfl rfl rfl) rfl ?_; refine vo_step (ok_assign rfl rfl rfl) rfl ?_; refine vo_nil ?_; refine N_seq ?_
        refine V_ret L (rs := [.cell 2 42, .tmp 3, .tmp 4, .tmp 5]) rfl (fun _ _ h => h) Since.refl fun u H hH hle => ?_
        exact ⟨_, src_own rfl, rfl, rfl⟩
    · refine V_seq ?_; refine V_region (id := 0) ?_; refine vo_step (ok_alloc L rfl rfl rfl rfl) rfl ?_; refine vo_step (ok_assign rfl rfl rfl) rfl ?_; refine vo_step (ok_assign rfl rfl rfl) rfl ?_; refine vo_step (ok_assign rfl rfl rfl) rfl ?_; refine vo_nil ?_; refine N_seq ?_; refine V_seq ?_; refine V_region (id := 1) ?_; refine vo_step (ok_move rfl rfl rfl) rfl ?_; refine vo_step (ok_callx L rfl rfl (blt_lt rfl) rfl rfl rfl (fun u H hH _ _ => place_ret (c := 58) e1 e2 hs hH)) rfl ?_; refine vo_step (ok_move rfl rfl rfl) rfl ?_; refine vo_step (ok_extract rfl rfl rfl rfl) rfl ?_; refine vo_step (ok_extract rfl rfl rfl rfl) rfl ?_; refine vo_step (ok_assign rfl rfl rfl) rfl ?_; refine vo_step (ok_assign rfl rfl rfl) rfl ?_; refine vo_nil ?_; refine N_seq ?_; refine V_seq ?_; refine V_region (id := 2) ?_; refine vo_step (ok_move rfl rfl rfl) rfl ?_; refine vo_step (ok_callx L rfl rfl (blt_lt rfl) rfl rfl rfl (fun u H hH _ _ => place_ret (c := 35) e3 e4 hs hH)) rfl ?_; refine vo_step (ok_move rfl rfl rfl) rfl ?_; refine vo_step (ok_extract rfl rfl rfl rfl) rfl ?_; refine vo_step (ok_extract rfl rfl rfl rfl) rfl ?_; refine vo_step (ok_assign rfl rfl rfl) rfl ?_; refine vo_step (ok_assign rfl rfl rfl) rfl ?_; refine vo_nil ?_; refine N_seq ?_; refine V_seq ?_; refine V_seq ?_; refine V_region (id := 3) ?_; refine vo_step (ok_move rfl rfl rfl) rfl ?_; refine vo_step (ok_neq rfl rfl rfl rfl (decide_eq_true (by omega))) rfl ?_; refine vo_step (ok_move rfl rfl rfl) rfl ?_; refine vo_step (ok_skip rfl (blt_lt rfl) rfl) rfl ?_; refine vo_step (ok_skip rfl (blt_lt rfl) rfl) rfl ?_; refine vo_step (ok_pick rfl rfl rfl rfl) rfl ?_; refine vo_step (ok_move rfl rfl rfl) rfl ?_; refine vo_step (ok_skip rfl (blt_lt rfl) rfl) rfl ?_; refine vo_step (ok_skip rfl (blt_lt rfl) rfl) rfl ?_; refine vo_step (ok_skip rfl (blt_lt rfl) rfl) rfl ?_; refine vo_step (ok_pick rfl rfl rfl rfl) rfl ?_; refine vo_nil ?_; refine N_seq ?_; refine V_true rfl ?_; refine V_seq ?_; refine V_region (id := 4) ?_; refine vo_step (ok_build (cs := [_, _]) rfl rfl pl42 rfl rfl) rfl ?_; refine vo_step (ok_store L rfl rfl rfl rfl rfl rfl rfl rfl) rfl ?_; refine vo_step (ok_assign rfl rfl rfl) rfl ?_; refine vo_step (ok_assign rfl rfl rfl) rfl ?_; refine vo_step (ok_assign rfl rfl rfl) rfl ?_; refine vo_nil ?_; refine N_seq ?_
      refine V_ret L (rs := [.cell 2 42, .tmp 3, .tmp 4, .tmp 5]) rfl (fun _ _ h => h) Since.refl fun u H hH hle => ?_
      exact ⟨_, src_own rfl, rfl, rfl⟩
  rcases split_b s 58 with h58 | ⟨a, b, rfl, ha⟩
  · refine bad ?_ rfl rfl rfl rfl (.inl ?_)
    · unfold partsA; rw [cutA_no h58]; simp
    · rw [List.count_eq_zero_of_not_mem h58]; decide
  · have hcut : cutA (a ++ ⟨#[58]⟩ ++ b) 58 = (a, b, true) := cutA_mid ha
    have hls := mid_list a b 58
    have hsz := mid_size a b 58
    by_cases hb : noB b 58
    · have hf1 : fi 58 (a ++ ⟨#[58]⟩ ++ b).data.toList = a.size := by rw [hls, fi_app ha, len_toList]; simp [fi]
      have hc1 : (a ++ ⟨#[58]⟩ ++ b).data.toList.count 58 = 1 := by rw [hls, List.count_append, List.count_cons_self, List.count_eq_zero_of_not_mem ha, List.count_eq_zero_of_not_mem hb]
      by_cases ha3 : noB a 35
      · have hf2 : fi 35 (a ++ ⟨#[58]⟩ ++ b).data.toList = a.size + 1 + fi 35 b.data.toList := by rw [hls, fi_app ha3, len_toList, fi, if_neg (by decide)]; omega
        have hc2 : (a ++ ⟨#[58]⟩ ++ b).data.toList.count 35 = b.data.toList.count 35 := by rw [hls, List.count_append, List.count_eq_zero_of_not_mem ha3, List.count_cons_of_ne (by decide)]; omega
        have hn1 := hasA_no ha3
        have hn2 := hasA_no hb
        have za : a.size ≤ 1099511627776 := by omega
        have zb : b.size ≤ 1099511627776 := by omega
        have hadd1 : IntKind.i64.wrap ((a.size : Int) + 1) = ((a.size + 1 : Nat) : Int) := wrap_i64 (by omega) (by omega) |>.trans (by omega)
        have x1 : (a ++ ⟨#[58]⟩ ++ b).extract 0 a.size = a := by
          have := ext_mid ⟨#[]⟩ a (⟨#[58]⟩ ++ b) 0 a.size rfl (by show _ = 0 + _; omega)
          conv => rhs; rw [← this]
          congr 1; apply ba_ext'; simp [list_app]
        rcases split_b b 35 with hb3 | ⟨c, e, rfl, hc3⟩
        · have hp : partsA (a ++ ⟨#[58]⟩ ++ b) = some (a, b, sNil, false) := by
            unfold partsA; rw [hcut]
            simp only [hn1, hn2, cntA_no hb3, cutA_no hb3]
            simp
          have hr1 : rp1 (a ++ ⟨#[58]⟩ ++ b) = (a, b, sNil, false, allE [a, b]) := by unfold rp1; rw [hp]; rfl
          rw [hr1]
          have hf3 : fi 35 (a ++ ⟨#[58]⟩ ++ b).data.toList = a.size + 1 + b.size := by rw [hf2, fi_no hb3, len_toList]
          have hc3 : (a ++ ⟨#[58]⟩ ++ b).data.toList.count 35 = 0 := by rw [hc2, List.count_eq_zero_of_not_mem hb3]
          have x2 : (a ++ ⟨#[58]⟩ ++ b).extract (a.size + 1) (a.size + 1 + b.size) = b := by
            have := ext_mid (a ++ ⟨#[58]⟩) b ⟨#[]⟩ (a.size + 1) (a.size + 1 + b.size) (by rw [ByteArray.size_append]; rfl) (by rw [ByteArray.size_append]; rfl)
            conv => rhs; rw [← this]
            congr 1; apply ba_ext'; simp [list_app]
          generalize a ++ ⟨#[58]⟩ ++ b = s at *
          refine V_enter Try.func87 rfl Try.ntmps87 (Nat.le_of_ble_eq_true rfl) hB ?_
          refine V_seq ?_; refine V_region (id := 0) ?_; refine vo_step (ok_alloc L rfl rfl rfl rfl) rfl ?_; refine vo_step (ok_assign rfl rfl rfl) rfl ?_; refine vo_step (ok_assign rfl rfl rfl) rfl ?_; refine vo_step (ok_assign rfl rfl rfl) rfl ?_; refine vo_nil ?_; refine N_seq ?_; refine V_seq ?_; refine V_region (id := 1) ?_; refine vo_step (ok_move rfl rfl rfl) rfl ?_; refine vo_step (ok_callx L rfl rfl (blt_lt rfl) rfl rfl rfl (fun u H hH _ _ => place_ret (c := 58) hf1 hc1 hs hH)) rfl ?_; refine vo_step (ok_move rfl rfl rfl) rfl ?_; refine vo_step (ok_extract rfl rfl rfl rfl) rfl ?_; refine vo_step (ok_extract rfl rfl rfl rfl) rfl ?_; refine vo_step (ok_assign rfl rfl rfl) rfl ?_; refine vo_step (ok_assign rfl rfl rfl) rfl ?_; refine vo_nil ?_; refine N_seq ?_; refine V_seq ?_; refine V_region (id := 2) ?_; refine vo_step (ok_move rfl rfl rfl) rfl ?_; refine vo_step (ok_callx L rfl rfl (blt_lt rfl) rfl rfl rfl (fun u H hH _ _ => place_ret (c := 35) hf3 hc3 hs hH)) rfl ?_; refine vo_step (ok_move rfl rfl rfl) rfl ?_; refine vo_step (ok_extract rfl rfl rfl rfl) rfl ?_; refine vo_step (ok_extract rfl rfl rfl rfl) rfl ?_; refine vo_step (ok_assign rfl rfl rfl) rfl ?_; refine vo_step (ok_assign rfl rfl rfl) rfl ?_; refine vo_nil ?_; refine N_seq ?_; refine V_seq ?_; refine V_seq ?_; refine V_region (id := 3) ?_; refine vo_step (ok_move rfl rfl rfl) rfl ?_; refine vo_step (ok_neq rfl rfl rfl rfl (decide_eq_false (by omega))) rfl ?_; refine vo_step (ok_move rfl rfl rfl) rfl ?_; refine vo_step (ok_move rfl rfl rfl) rfl ?_; refine vo_step (ok_gtr rfl rfl rfl rfl (decide_eq_false (by omega))) rfl ?_; refine vo_step (ok_pick rfl rfl rfl rfl) rfl ?_; refine vo_step (ok_move rfl rfl rfl) rfl ?_; refine vo_step (ok_move rfl rfl rfl) rfl ?_; refine vo_step (ok_move rfl rfl rfl) rfl ?_; refine vo_step (ok_lss rfl rfl rfl rfl (decide_eq_false (by omega))) rfl ?_; refine vo_step (ok_pick rfl rfl rfl rfl) rfl ?_; refine vo_nil ?_; refine N_seq ?_; refine V_false rfl ?_; refine V_skip ?_; refine N_seq ?_; refine V_seq ?_; refine V_regionD (id := 5) [] mixed (by kernel_rfl) ?_; refine par_step (ok_move rfl rfl rfl) rfl ?_; refine par_step (ok_move rfl rfl rfl) rfl ?_; refine par_step (ok_sliceS L (kl := .i64) (pl := 0) 0 a.size rfl rfl rfl rfl rfl ⟨rfl, rfl⟩ (by omega) (by omega) x1) rfl ?_; refine par_step (ok_move rfl rfl rfl) rfl ?_; refine par_step (ok_move rfl rfl rfl) rfl ?_; refine par_step (ok_add rfl rfl rfl rfl (by assumption)) rfl ?_; refine par_step (ok_move rfl rfl rfl) rfl ?_; refine par_step (ok_sliceS L (a.size + 1) (a.size + 1 + b.size) rfl rfl rfl rfl ⟨rfl, rfl⟩ ⟨rfl, rfl⟩ (by omega) (by omega) x2) rfl ?_; refine par_step (ok_build (cs := [_, _]) rfl rfl pl42 rfl rfl) rfl ?_; refine par_step (ok_alloc L rfl rfl rfl rfl) rfl ?_; refine par_step (ok_store L rfl rfl rfl rfl rfl rfl rfl rfl) rfl ?_; refine par_nil ?_; refine N_seq ?_; refine V_seq ?_; refine V_seq ?_; refine V_region (id := 6) ?_; refine vo_step (ok_move rfl rfl rfl) rfl ?_; refine vo_step (ok_eql rfl rfl rfl rfl (decide_eq_true (by omega))) rfl ?_; refine vo_nil ?_; refine N_seq ?_; refine V_true rfl ?_; refine V_seq ?_; refine V_regionD (id := 7) [] mixed (by kernel_rfl) ?_; refine par_step (ok_loadA L (vs := [_, _]) (src_own rfl) rfl rfl rfl rfl ⟨_, rfl⟩) rfl ?_; refine par_step (ok_loadA L (vs := [_, _]) (src_own rfl) rfl rfl rfl rfl ⟨_, rfl⟩) rfl ?_; refine par_step (ok_callx L rfl rfl (blt_lt rfl) rfl rfl rfl (fun u H hH _ _ => robject_ret (by first | assumption | decide) (by first | assumption | decide) hH)) rfl ?_; refine par_step (ok_store L rfl rfl rfl rfl rfl rfl rfl rfl) rfl ?_; refine par_step (ok_assign rfl rfl rfl) rfl ?_; refine par_step (ok_assign rfl rfl rfl) rfl ?_; refine par_step (ok_assign rfl rfl rfl) rfl ?_; refine par_nil ?_; refine N_seq ?_
          refine V_ret L (rs := [.cell 2 42, .tmp 3, .tmp 4, .tmp 5]) rfl (fun _ _ h => h) Since.refl fun u H hH hle => ?_
          exact ⟨_, src_own rfl, rfl, rfl⟩
        · have hls2 := mid_list c e 35
          have hsz2 := mid_size c e 35
          by_cases he3 : noB e 35
          · have hcn : (c ++ ⟨#[35]⟩ ++ e).data.toList.count 35 = 1 := by rw [hls2, List.count_append, List.count_cons_self, List.count_eq_zero_of_not_mem hc3, List.count_eq_zero_of_not_mem he3]
            have hp : partsA (a ++ ⟨#[58]⟩ ++ (c ++ ⟨#[35]⟩ ++ e)) = some (a, c, e, true) := by
              unfold partsA; rw [hcut]
              have h4 : cntA (c ++ ⟨#[35]⟩ ++ e) 35 = 1 := hcn
              simp only [hn1, hn2, h4, cutA_mid hc3]
              simp
            have hr1 : rp1 (a ++ ⟨#[58]⟩ ++ (c ++ ⟨#[35]⟩ ++ e)) = (a, c, e, true, allE [a, c, e]) := by unfold rp1; rw [hp]; rfl
            rw [hr1]
            have hf3 : fi 35 (a ++ ⟨#[58]⟩ ++ (c ++ ⟨#[35]⟩ ++ e)).data.toList = a.size + 1 + c.size := by rw [hf2, hls2, fi_app hc3, len_toList]; simp [fi]
            have hc4 : (a ++ ⟨#[58]⟩ ++ (c ++ ⟨#[35]⟩ ++ e)).data.toList.count 35 = 1 := by rw [hc2, hcn]
            have x2 : (a ++ ⟨#[58]⟩ ++ (c ++ ⟨#[35]⟩ ++ e)).extract (a.size + 1) (a.size + 1 + c.size) = c := by
              have := ext_mid (a ++ ⟨#[58]⟩) c (⟨#[35]⟩ ++ e) (a.size + 1) (a.size + 1 + c.size) (by rw [ByteArray.size_append]; rfl) (by rw [ByteArray.size_append]; rfl)
              conv => rhs; rw [← this]
              congr 1; apply ba_ext'; simp [list_app]
            have x3 : (a ++ ⟨#[58]⟩ ++ (c ++ ⟨#[35]⟩ ++ e)).extract (a.size + 1 + c.size + 1) (a ++ ⟨#[58]⟩ ++ (c ++ ⟨#[35]⟩ ++ e)).size = e := by
              have := ext_mid (a ++ ⟨#[58]⟩ ++ c ++ ⟨#[35]⟩) e ⟨#[]⟩ (a.size + 1 + c.size + 1) (a ++ ⟨#[58]⟩ ++ (c ++ ⟨#[35]⟩ ++ e)).size (by simp only [ByteArray.size_append]; rfl) (by simp only [ByteArray.size_append]; rw [show (⟨#[58]⟩ : ByteArray).size = 1 from rfl, show (⟨#[35]⟩ : ByteArray).size = 1 from rfl]; omega)
              conv => rhs; rw [← this]
              congr 1; apply ba_ext'; simp [list_app]
            have hsz3 : (a ++ ⟨#[58]⟩ ++ (c ++ ⟨#[35]⟩ ++ e)).size = a.size + 1 + (c.size + 1 + e.size) := by rw [hsz, hsz2]
            have zc : c.size ≤ 1099511627776 := by omega
            have ze : e.size ≤ 1099511627776 := by omega
            have hadd2 : IntKind.i64.wrap (((a.size + 1 + c.size : Nat) : Int) + 1) = ((a.size + 1 + c.size + 1 : Nat) : Int) := wrap_i64 (by omega) (by omega) |>.trans (by omega)
            have hmx := max3 a c e
            generalize a ++ ⟨#[58]⟩ ++ (c ++ ⟨#[35]⟩ ++ e) = s at *
            refine V_enter Try.func87 rfl Try.ntmps87 (Nat.le_of_ble_eq_true rfl) hB ?_
            refine V_seq ?_; refine V_region (id := 0) ?_; refine vo_step (ok_alloc L rfl rfl rfl rfl) rfl ?_; refine vo_step (ok_assign rfl rfl rfl) rfl ?_; refine vo_step (ok_assign rfl rfl rfl) rfl ?_; refine vo_step (ok_assign rfl rfl rfl) rfl ?_; refine vo_nil ?_; refine N_seq ?_; refine V_seq ?_; refine V_region (id := 1) ?_; refine vo_step (ok_move rfl rfl rfl) rfl ?_; refine vo_step (ok_callx L rfl rfl (blt_lt rfl) rfl rfl rfl (fun u H hH _ _ => place_ret (c := 58) hf1 hc1 hs hH)) rfl ?_; refine vo_step (ok_move rfl rfl rfl) rfl ?_; refine vo_step (ok_extract rfl rfl rfl rfl) rfl ?_; refine vo_step (ok_extract rfl rfl rfl rfl) rfl ?_; refine vo_step (ok_assign rfl rfl rfl) rfl ?_; refine vo_step (ok_assign rfl rfl rfl) rfl ?_; refine vo_nil ?_; refine N_seq ?_; refine V_seq ?_; refine V_region (id := 2) ?_; refine vo_step (ok_move rfl rfl rfl) rfl ?_; refine vo_step (ok_callx L rfl rfl (blt_lt rfl) rfl rfl rfl (fun u H hH _ _ => place_ret (c := 35) hf3 hc4 hs hH)) rfl ?_; refine vo_step (ok_move rfl rfl rfl) rfl ?_; refine vo_step (ok_extract rfl rfl rfl rfl) rfl ?_; refine vo_step (ok_extract rfl rfl rfl rfl) rfl ?_; refine vo_step (ok_assign rfl rfl rfl) rfl ?_; refine vo_step (ok_assign rfl rfl rfl) rfl ?_; refine vo_nil ?_; refine N_seq ?_; refine V_seq ?_; refine V_seq ?_; refine V_region (id := 3) ?_; refine vo_step (ok_move rfl rfl rfl) rfl ?_; refine vo_step (ok_neq rfl rfl rfl rfl (decide_eq_false (by omega))) rfl ?_; refine vo_step (ok_move rfl rfl rfl) rfl ?_; refine vo_step (ok_move rfl rfl rfl) rfl ?_; refine vo_step (ok_gtr rfl rfl rfl rfl (decide_eq_false (by omega))) rfl ?_; refine vo_step (ok_pick rfl rfl rfl rfl) rfl ?_; refine vo_step (ok_move rfl rfl rfl) rfl ?_; refine vo_step (ok_move rfl rfl rfl) rfl ?_; refine vo_step (ok_move rfl rfl rfl) rfl ?_; refine vo_step (ok_lss rfl rfl rfl rfl (decide_eq_false (by omega))) rfl ?_; refine vo_step (ok_pick rfl rfl rfl rfl) rfl ?_; refine vo_nil ?_; refine N_seq ?_; refine V_false rfl ?_; refine V_skip ?_; refine N_seq ?_; refine V_seq ?_; refine V_regionD (id := 5) [] mixed (by kernel_rfl) ?_; refine par_step (ok_move rfl rfl rfl) rfl ?_; refine par_step (ok_move rfl rfl rfl) rfl ?_; refine par_step (ok_sliceS L (kl := .i64) (pl := 0) 0 a.size rfl rfl rfl rfl rfl ⟨rfl, rfl⟩ (by omega) (by omega) x1) rfl ?_; refine par_step (ok_move rfl rfl rfl) rfl ?_; refine par_step (ok_move rfl rfl rfl) rfl ?_; refine par_step (ok_add rfl rfl rfl rfl (by assumption)) rfl ?_; refine par_step (ok_move rfl rfl rfl) rfl ?_; refine par_step (ok_sliceS L (a.size + 1) (a.size + 1 + c.size) rfl rfl rfl rfl ⟨rfl, rfl⟩ ⟨rfl, rfl⟩ (by omega) (by omega) x2) rfl ?_; refine par_step (ok_build (cs := [_, _]) rfl rfl pl42 rfl rfl) rfl ?_; refine par_step (ok_alloc L rfl rfl rfl rfl) rfl ?_; refine par_step (ok_store L rfl rfl rfl rfl rfl rfl rfl rfl) rfl ?_; refine par_nil ?_; refine N_seq ?_; refine V_seq ?_; refine V_seq ?_; refine V_region (id := 6) ?_; refine vo_step (ok_move rfl rfl rfl) rfl ?_; refine vo_step (ok_eql rfl rfl rfl rfl (decide_eq_false (by omega))) rfl ?_; refine vo_nil ?_; refine N_seq ?_; refine V_false rfl ?_; refine V_skip ?_; refine N_seq ?_; refine V_seq ?_; refine V_regionD (id := 8) [] mixed (by kernel_rfl) ?_; refine par_step (ok_loadA L (vs := [_, _]) (src_own rfl) rfl rfl rfl rfl ⟨_, rfl⟩) rfl ?_; refine par_step (ok_move rfl rfl rfl) rfl ?_; refine par_step (ok_move rfl rfl rfl) rfl ?_; refine par_step (ok_add rfl rfl rfl rfl (by assumption)) rfl ?_; refine par_step (ok_sliceS L (kh := .i64) (ph := 0) (a.size + 1 + c.size + 1) _ rfl rfl rfl rfl ⟨rfl, rfl⟩ rfl (by omega) (by omega) x3) rfl ?_; refine par_step (ok_loadA L (vs := [_, _]) (src_own rfl) rfl rfl rfl rfl ⟨_, rfl⟩) rfl ?_; refine par_step (ok_callx L rfl rfl (blt_lt rfl) rfl rfl rfl (fun u H hH _ _ => robject_ret (by first | assumption | decide) (by first | assumption | decide) hH)) rfl ?_; refine par_step (ok_move rfl rfl rfl) rfl ?_; refine par_step (ok_move rfl rfl rfl) rfl ?_; refine par_step (ok_add rfl rfl rfl rfl (by assumption)) rfl ?_; refine par_step (ok_sliceS L (kh := .i64) (ph := 0) (a.size + 1 + c.size + 1) _ rfl rfl rfl rfl ⟨rfl, rfl⟩ rfl (by omega) (by omega) x3) rfl ?_; refine par_step (ok_callx L rfl rfl (blt_lt rfl) rfl rfl rfl (fun u H hH _ _ => rcheck_ret (by first | omega | decide) hH)) rfl ?_; refine par_step (ok_max rfl rfl rfl rfl (by assumption)) rfl ?_; refine par_step (ok_store L rfl rfl rfl rfl rfl rfl rfl rfl) rfl ?_; refine par_step (ok_assign rfl rfl rfl) rfl ?_; refine par_step (ok_assign rfl rfl rfl) rfl ?_; refine par_step (ok_assign rfl rfl rfl) rfl ?_; refine par_nil ?_; refine N_seq ?_
            refine V_ret L (rs := [.cell 2 42, .tmp 3, .tmp 4, .tmp 5]) rfl (fun _ _ h => h) Since.refl fun u H hH hle => ?_
            exact ⟨_, src_own rfl, rfl, rfl⟩
          · have hcn : 1 < (c ++ ⟨#[35]⟩ ++ e).data.toList.count 35 := by have := count_pos he3; rw [hls2, List.count_append, List.count_cons_self]; omega
            refine bad ?_ rfl rfl rfl rfl (.inr (.inl (by rw [hc2]; exact hcn)))
            unfold partsA; rw [hcut]
            have h4 : ¬ cntA (c ++ ⟨#[35]⟩ ++ e) 35 ≤ 1 := by unfold cntA Lib.countByte; omega
            simp only [h4, and_false, if_false]
      · refine bad ?_ rfl rfl rfl rfl (.inr (.inr ?_))
        · unfold partsA; rw [hcut]
          simp only [hasA_yes ha3]
          simp
        · rw [hf1, hls, ← len_toList]
          exact fi_lt (Classical.not_not.1 ha3)
    · refine bad ?_ rfl rfl rfl rfl (.inl ?_)
      · unfold partsA; rw [hcut]
        simp only [hasA_yes hb]
        simp
      · have := count_pos hb
        rw [hls, List.count_append, List.count_cons_self]; omega
theorem rparse1_ret' {s x y z : ByteArray} {d : Bool} {e : Int} (hr : rp1 s = (x, y, z, d, e)) (hs : s.size ≤ 1000000) {w : World} {B : Heap} (hB : B.Le (hp w)) :
    Ret Try.prog 87 [.string s] w B (fun v _ => v = .tuple #[.agg #[.string x, .string y], .string z, .bool d, .int .i64 e]) := rparse1_ret hr hs hB
end Go.V
