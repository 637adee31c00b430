/- Texts on the way to FiltersText, part 3: one behind another. -/
import Derived.Test.YtelaiancfbaalaaFiltersTextM2
import Derived.Shelf.SlSortCmp.NoneTotal
set_option linter.unusedVariables false
set_option linter.unusedSimpArgs false
/- The walks of the definition of tuples (chapter 2): texts are read. -/
namespace Go.V.L2
open Go.Proofs Go.RowKit Go.V
theorem pg_rp (a : ByteArray) : pgA a = if (rp1 a).2.2.2.1 = false then (sNil, sNil, sNil, 5) else if (rp1 a).2.2.2.2 = 0 then ((rp1 a).1, (rp1 a).2.1, (rp1 a).2.2.1, 0) else (sNil, sNil, sNil, (rp1 a).2.2.2.2) := by
  unfold pgA rp1
  rcases partsA a with _ | ⟨x, y, z, d⟩
  · rfl
  · cases d
    · rfl
    · simp only [if_true]
theorem ps_rp (a : ByteArray) : psA a = if (rp1 a).2.2.2.2 = 0 then ((rp1 a).1, (rp1 a).2.1, (rp1 a).2.2.1, 0) else (sNil, sNil, sNil, (rp1 a).2.2.2.2) := by
  unfold psA rp1
  rcases partsA a with _ | ⟨x, y, z, d⟩
  · rfl
  · dsimp only
    cases d
    · simp
    · simp only [if_true, allE]
      rcases chk_cases x with h1 | h1 <;> rcases chk_cases y with h2 | h2 <;> rcases chk_cases z with h3 | h3 <;> simp [h1, h2, h3]
theorem at_of {l a b : List UInt8} {c : UInt8} {k : Nat} (e : l = a ++ c :: b) (ha : c ∉ a) (hb : c ∉ b) (hk : l[k]? = some c) : k = a.length := by
  subst e
  rcases Nat.lt_trichotomy k a.length with h | h | h
  · rw [List.getElem?_append_left h] at hk
    exact absurd (List.mem_of_getElem? hk) ha
  · exact h
  · rw [List.getElem?_append_right (by omega), show k - a.length = (k - a.length - 1) + 1 by omega, List.getElem?_cons_succ] at hk
    exact absurd (List.mem_of_getElem? hk) hb
attribute [local irreducible] V N X VO Par StepOK Has Ret RetL Src
set_option maxHeartbeats 4000000 in
theorem rtparse_ret {s : ByteArray} {r : U × Int} (hr : ptA s = r) (hs : s.size ≤ 1000000) {w : World} {B : Heap} (hB : B.Le (hp w)) :
    Ret Try.prog 69 [.string s] w B (fun v _ => v = .tuple #[uv r.1, .int .i64 r.2]) := by
  subst hr
  have hlen := len_toList s
  refine V_enter Try.func69 rfl Try.ntmps69 (Nat.le_of_ble_eq_true rfl) hB ?_
  refine V_seq ?_; refine V_region (id := 0) ?_; refine vo_step (ok_alloc L rfl rfl rfl rfl) rfl ?_; refine vo_step (ok_assign rfl rfl rfl) rfl ?_; refine vo_nil ?_; refine N_seq ?_; refine V_seq ?_; refine V_region (id := 1) ?_; refine vo_step (ok_assign rfl rfl rfl) rfl ?_; refine vo_step (ok_assign rfl rfl rfl) rfl ?_; refine vo_nil ?_; refine N_seq ?_; refine V_seq ?_; refine V_seq ?_; refine V_region (id := 2) ?_; refine vo_step (ok_assign rfl rfl rfl) rfl ?_; refine vo_nil ?_; refine N_seq ?_; refine V_block ?_
  refine V_loop (fun x : Nat × Nat × Nat => [(0, .is (.string s)), (2, .own (Cell [.string ⟨#[]⟩, .string ⟨#[]⟩, .string ⟨#[]⟩, .string ⟨#[]⟩, .string ⟨#[]⟩, .string ⟨#[]⟩] tyU)), (4, .is (.int .i64 x.2.1)), (5, .is (.int .i64 x.2.2)), (6, .is (.int .i64 x.1))])
    (fun x => x.1 ≤ s.size ∧ x.2.2 = (s.data.toList.take x.1).count 64 ∧ x.2.2 ≤ x.1 ∧ (x.2.2 = 1 → x.2.1 < s.size ∧ s.data.toList[x.2.1]? = some 64)) (fun x => s.size - x.1) (0, 0, 0)
    ⟨Nat.zero_le _, by simp, Nat.le_refl _, fun h => by cases h⟩ ⟨rfl, rfl, rfl, rfl, rfl, trivial⟩ ?_
  rintro ⟨i, k, n⟩ ⟨hi, hn, hni, hk⟩
  dsimp only at hi hn hni hk ⊢
  by_cases hlt : i < s.size
  · obtain ⟨x, hc⟩ := getElem?_lt hlt
    have hd : s.data.toList[i]? = some x := by
      have : s.data[i]? = some x := hc
      simpa using this
    have htk : s.data.toList.take (i + 1) = s.data.toList.take i ++ [x] := by rw [List.take_add_one, hd]; rfl
    by_cases hx : x = 64
    · subst hx
      refine V_seq ?_; refine V_seq ?_; refine V_region (id := 3) ?_; refine vo_step (ok_move rfl rfl rfl) rfl ?_; refine vo_step (ok_move rfl rfl rfl) rfl ?_; refine vo_step (ok_lenS L rfl rfl rfl rfl) rfl ?_; refine vo_step (ok_lss rfl rfl rfl rfl (decide_eq_true (by omega))) rfl ?_; refine vo_nil ?_; refine N_seq ?_; refine V_true rfl ?_; refine V_skip ?_; refine N_seq ?_; refine V_seq ?_; refine V_block ?_; refine V_seq ?_; refine V_region (id := 5) ?_; refine vo_step (ok_move rfl rfl rfl) rfl ?_; refine vo_step (ok_move rfl rfl rfl) rfl ?_; refine vo_step (ok_indexS L rfl rfl rfl rfl rfl (by assumption)) rfl ?_; refine vo_step (ok_eql rfl rfl rfl rfl rfl) rfl ?_; refine vo_nil ?_; refine N_seq ?_; refine V_true rfl ?_; refine V_seq ?_; refine V_region (id := 6) ?_; refine vo_step (ok_move rfl rfl rfl) rfl ?_; refine vo_step (ok_assign rfl rfl rfl) rfl ?_; refine vo_nil ?_; refine N_seq ?_; refine V_region (id := 7) ?_; refine vo_step (ok_move rfl rfl rfl) rfl ?_; refine vo_step (ok_add rfl rfl rfl rfl (wrap_i64 (by omega) (by omega))) rfl ?_; refine vo_step (ok_assign rfl rfl rfl) rfl ?_; refine vo_nil ?_; refine N_block ?_; refine N_seq ?_; refine V_region (id := 4) ?_; refine vo_step (ok_move rfl rfl rfl) rfl ?_; refine vo_step (ok_add rfl rfl rfl rfl (wrap_i64 (by omega) (by omega))) rfl ?_; refine vo_step (ok_assign rfl rfl rfl) rfl ?_; refine vo_nil ?_
      exact N_round (x := (i, k, n)) (i + 1, i, n + 1) ⟨hlt, by dsimp only; rw [htk, List.count_append, ← hn]; rfl, by dsimp only; omega, fun _ => ⟨hlt, hd⟩⟩ (by dsimp only; omega) ⟨rfl, rfl, rfl, rfl, rfl, trivial⟩
    · have hxc : (x.toNat : Int) ≠ 64 := fun e => hx (UInt8.toNat_inj.1 (by show x.toNat = 64; omega))
      refine V_seq ?_; refine V_seq ?_; refine V_region (id := 3) ?_; refine vo_step (ok_move rfl rfl rfl) rfl ?_; refine vo_step (ok_move rfl rfl rfl) rfl ?_; refine vo_step (ok_lenS L rfl rfl rfl rfl) rfl ?_; refine vo_step (ok_lss rfl rfl rfl rfl (decide_eq_true (by omega))) rfl ?_; refine vo_nil ?_; refine N_seq ?_; refine V_true rfl ?_; refine V_skip ?_; refine N_seq ?_; refine V_seq ?_; refine V_block ?_; refine V_seq ?_; refine V_region (id := 5) ?_; refine vo_step (ok_move rfl rfl rfl) rfl ?_; refine vo_step (ok_move rfl rfl rfl) rfl ?_; refine vo_step (ok_indexS L rfl rfl rfl rfl rfl (by assumption)) rfl ?_; refine vo_step (ok_eql rfl rfl rfl rfl (decide_eq_false (by omega))) rfl ?_; refine vo_nil ?_; refine N_seq ?_; refine V_false rfl ?_; refine V_skip ?_; refine N_block ?_; refine N_seq ?_; refine V_region (id := 4) ?_; refine vo_step (ok_move rfl rfl rfl) rfl ?_; refine vo_step (ok_add rfl rfl rfl rfl (wrap_i64 (by omega) (by omega))) rfl ?_; refine vo_step (ok_assign rfl rfl rfl) rfl ?_; refine vo_nil ?_
      exact N_round (x := (i, k, n)) (i + 1, k, n) ⟨hlt, by dsimp only; rw [htk, List.count_append, ← hn, List.count_cons_of_ne hx]; rfl, by dsimp only; omega, hk⟩ (by dsimp only; omega) ⟨rfl, rfl, rfl, rfl, rfl, trivial⟩
  · obtain rfl : i = s.size := by omega
    rw [List.take_of_length_le (by omega)] at hn
    by_cases h1 : n = 1
    · obtain ⟨hk1, hk2⟩ := hk h1
      rcases split_b s 64 with h64 | ⟨a, b, rfl, ha⟩
      · rw [List.count_eq_zero_of_not_mem h64] at hn; omega
      · have hls := mid_list a b 64
        have hsz := mid_size a b 64
        have hb : noB b 64 := fun hm => by
          have := List.count_pos_iff.2 hm
          rw [hls, List.count_append, List.count_cons_self] at hn
          omega
        obtain rfl : k = a.size := (at_of hls ha hb hk2).trans (len_toList a)
        have hcut : cutA (a ++ ⟨#[64]⟩ ++ b) 64 = (a, b, true) := cutA_mid ha
        have x1 : (a ++ ⟨#[64]⟩ ++ b).extract 0 a.size = a := by
          have := ext_mid ⟨#[]⟩ a (⟨#[64]⟩ ++ b) 0 a.size rfl (by show _ = 0 + _; omega)
          conv => rhs; rw [← this]
          congr 1; apply ba_ext'; simp [list_app]
        have x2 : (a ++ ⟨#[64]⟩ ++ b).extract (a.size + 1) (a ++ ⟨#[64]⟩ ++ b).size = b := by
          have := ext_mid (a ++ ⟨#[64]⟩) b ⟨#[]⟩ (a.size + 1) (a ++ ⟨#[64]⟩ ++ b).size (by rw [ByteArray.size_append]; rfl) (by rw [ByteArray.size_append])
          conv => rhs; rw [← this]
          congr 1; apply ba_ext'; simp [list_app]
        have za : a.size ≤ 1000000 := by omega
        have zb : b.size ≤ 1000000 := by omega
        have hadd : IntKind.i64.wrap ((a.size : Int) + 1) = ((a.size + 1 : Nat) : Int) := wrap_i64 (by omega) (by omega) |>.trans (by omega)
        have hpt : ptA (a ++ ⟨#[64]⟩ ++ b) = if (pgA a).2.2.2 = 0 then (if (psA b).2.2.2 = 0 then (((((pgA a).1, (pgA a).2.1), (pgA a).2.2.1), (((psA b).1, (psA b).2.1), (psA b).2.2.1)), 0) else ((((⟨#[]⟩, ⟨#[]⟩), ⟨#[]⟩), ((⟨#[]⟩, ⟨#[]⟩), ⟨#[]⟩)), (psA b).2.2.2)) else ((((⟨#[]⟩, ⟨#[]⟩), ⟨#[]⟩), ((⟨#[]⟩, ⟨#[]⟩), ⟨#[]⟩)), (pgA a).2.2.2) := by
          unfold ptA
          rw [hcut]
          dsimp only
          rw [if_pos ⟨rfl, hasA_no hb⟩]
        clear hk hk2 hn hcut
        generalize a ++ ⟨#[64]⟩ ++ b = s at *
        rcases hra : rp1 a with ⟨o1, o2, rel, has, e⟩
        rcases hrb : rp1 b with ⟨p1, p2, rel2, has2, e2⟩
        cases has
        · have g1 : pgA a = (sNil, sNil, sNil, 5) := by rw [pg_rp, hra]; rfl
          rw [hpt, g1, if_neg (by decide)]
          by_cases h5 : e = 5
          · skip
            refine V_seq ?_; refine V_seq ?_; refine V_region (id := 3) ?_; refine vo_step (ok_move rfl rfl rfl) rfl ?_; refine vo_step (ok_move rfl rfl rfl) rfl ?_; refine vo_step (ok_lenS L rfl rfl rfl rfl) rfl ?_; refine vo_step (ok_lss rfl rfl rfl rfl (decide_eq_false (by omega))) rfl ?_; refine vo_nil ?_; refine N_seq ?_; refine V_false rfl ?_; refine V_exit ?_; refine X_then ?_; refine X_then ?_; refine X_here ?_; refine N_seq ?_; refine V_seq ?_; refine V_seq ?_; refine V_region (id := 8) ?_; refine vo_step (ok_move rfl rfl rfl) rfl ?_; refine vo_step (ok_neq rfl rfl rfl rfl (decide_eq_false (by omega))) rfl ?_; refine vo_nil ?_; refine N_seq ?_; refine V_false rfl ?_; refine V_skip ?_; refine N_seq ?_; refine V_seq ?_; refine V_region (id := 10) ?_; refine vo_step (ok_move rfl rfl rfl) rfl ?_; refine vo_step (ok_move rfl rfl rfl) rfl ?_; refine vo_step (ok_sliceS L (kl := .i64) (pl := 0) 0 a.size rfl rfl rfl rfl rfl ⟨rfl, rfl⟩ (by omega) (by omega) x1) rfl ?_; refine vo_step (ok_callx L rfl rfl (blt_lt rfl) rfl rfl rfl (fun u H hH _ _ => rparse1_ret' hra za hH)) rfl ?_; refine vo_step (ok_move rfl rfl rfl) rfl ?_; refine vo_step (ok_extract rfl rfl rfl rfl) rfl ?_; refine vo_step (ok_extract rfl rfl rfl rfl) rfl ?_; refine vo_step (ok_extract rfl rfl rfl rfl) rfl ?_; refine vo_step (ok_extract rfl rfl rfl rfl) rfl ?_; refine vo_step (ok_alloc L rfl rfl rfl rfl) rfl ?_; refine vo_step (ok_store L rfl rfl rfl rfl rfl rfl rfl rfl) rfl ?_; refine vo_step (ok_assign rfl rfl rfl) rfl ?_; refine vo_step (ok_assign rfl rfl rfl) rfl ?_; refine vo_step (ok_assign rfl rfl rfl) rfl ?_; refine vo_nil ?_; refine N_seq ?_; refine V_seq ?_; refine V_seq ?_; refine V_region (id := 11) ?_; refine vo_step (ok_move rfl rfl rfl) rfl ?_; refine vo_step (ok_neq rfl rfl rfl rfl (decide_eq_false (by omega))) rfl ?_; refine vo_step (ok_move rfl rfl rfl) rfl ?_; refine vo_step (ok_skip rfl (blt_lt rfl) rfl) rfl ?_; refine vo_step (ok_skip rfl (blt_lt rfl) rfl) rfl ?_; refine vo_step (ok_pick rfl rfl rfl rfl) rfl ?_; refine vo_nil ?_; refine N_seq ?_; refine V_false rfl ?_; refine V_skip ?_; refine N_seq ?_; refine V_seq ?_; refine V_seq ?_; refine V_region (id := 13) ?_; refine vo_step (ok_move rfl rfl rfl) rfl ?_; refine vo_step (ok_neq rfl rfl rfl rfl (decide_eq_true (by omega))) rfl ?_; refine vo_nil ?_; refine N_seq ?_; refine V_true rfl ?_; refine V_seq ?_; refine V_region (id := 14) ?_; refine vo_step (ok_build (cs := [_, _, _, _, _, _]) rfl rfl pl51 rfl rfl) rfl ?_; refine vo_step (ok_move rfl rfl rfl) rfl ?_; refine vo_step (ok_store L rfl rfl rfl rfl rfl rfl rfl rfl) rfl ?_; refine vo_step (ok_assign rfl rfl rfl) rfl ?_; refine vo_nil ?_; refine N_seq ?_
            refine V_ret L (rs := [.cell 2 51, .tmp 3]) rfl (fun _ _ h => h) Since.refl fun u H hH hle => ?_
            refine ⟨_, src_own rfl, rfl, ?_⟩
            rw [h5]; rfl
          · refine V_seq ?_; refine V_seq ?_; refine V_region (id := 3) ?_; refine vo_step (ok_move rfl rfl rfl) rfl ?_; refine vo_step (ok_move rfl rfl rfl) rfl ?_; refine vo_step (ok_lenS L rfl rfl rfl rfl) rfl ?_; refine vo_step (ok_lss rfl rfl rfl rfl (decide_eq_false (by omega))) rfl ?_; refine vo_nil ?_; refine N_seq ?_; refine V_false rfl ?_; refine V_exit ?_; refine X_then ?_; refine X_then ?_; refine X_here ?_; refine N_seq ?_; refine V_seq ?_; refine V_seq ?_; refine V_region (id := 8) ?_; refine vo_step (ok_move rfl rfl rfl) rfl ?_; refine vo_step (ok_neq rfl rfl rfl rfl (decide_eq_false (by omega))) rfl ?_; refine vo_nil ?_; refine N_seq ?_; refine V_false rfl ?_; refine V_skip ?_; refine N_seq ?_; refine V_seq ?_; refine V_region (id := 10) ?_; refine vo_step (ok_move rfl rfl rfl) rfl ?_; refine vo_step (ok_move rfl rfl rfl) rfl ?_; refine vo_step (ok_sliceS L (kl := .i64) (pl := 0) 0 a.size rfl rfl rfl rfl rfl ⟨rfl, rfl⟩ (by omega) (by omega) x1) rfl ?_; refine vo_step (ok_callx L rfl rfl (blt_lt rfl) rfl rfl rfl (fun u H hH _ _ => rparse1_ret' hra za hH)) rfl ?_; refine vo_step (ok_move rfl rfl rfl) rfl ?_; refine vo_step (ok_extract rfl rfl rfl rfl) rfl ?_; refine vo_step (ok_extract rfl rfl rfl rfl) rfl ?_; refine vo_step (ok_extract rfl rfl rfl rfl) rfl ?_; refine vo_step (ok_extract rfl rfl rfl rfl) rfl ?_; refine vo_step (ok_alloc L rfl rfl rfl rfl) rfl ?_; refine vo_step (ok_store L rfl rfl rfl rfl rfl rfl rfl rfl) rfl ?_; refine vo_step (ok_assign rfl rfl rfl) rfl ?_; refine vo_step (ok_assign rfl rfl rfl) rfl ?_; refine vo_step (ok_assign rfl rfl rfl) rfl ?_; refine vo_nil ?_; refine N_seq ?_; refine V_seq ?_; refine V_seq ?_; refine V_region (id := 11) ?_; refine vo_step (ok_move rfl rfl rfl) rfl ?_; refine vo_step (ok_neq rfl rfl rfl rfl (decide_eq_true (by omega))) rfl ?_; refine vo_step (ok_move rfl rfl rfl) rfl ?_; refine vo_step (ok_move rfl rfl rfl) rfl ?_; refine vo_step (ok_not rfl rfl rfl rfl) rfl ?_; refine vo_step (ok_pick rfl rfl rfl rfl) rfl ?_; refine vo_nil ?_; refine N_seq ?_; refine V_true rfl ?_; refine V_region (id := 12) ?_; refine vo_step (ok_assign rfl rfl rfl) rfl ?_; refine vo_nil ?_; refine N_seq ?_; refine V_seq ?_; refine V_seq ?_; refine V_region (id := 13) ?_; refine vo_step (ok_move rfl rfl rfl) rfl ?_; refine vo_step (ok_neq rfl rfl rfl rfl (decide_eq_true (by omega))) rfl ?_; refine vo_nil ?_; refine N_seq ?_; refine V_true rfl ?_; refine V_seq ?_; refine V_region (id := 14) ?_; refine vo_step (ok_build (cs := [_, _, _, _, _, _]) rfl rfl pl51 rfl rfl) rfl ?_; refine vo_step (ok_move rfl rfl rfl) rfl ?_; refine vo_step (ok_store L rfl rfl rfl rfl rfl rfl rfl rfl) rfl ?_; refine vo_step (ok_assign rfl rfl rfl) rfl ?_; refine vo_nil ?_; refine N_seq ?_
            refine V_ret L (rs := [.cell 2 51, .tmp 3]) rfl (fun _ _ h => h) Since.refl fun u H hH hle => ?_
            exact ⟨_, src_own rfl, rfl, rfl⟩
        · by_cases h0 : e = 0
          · have g1 : pgA a = (o1, o2, rel, 0) := by rw [pg_rp, hra]; dsimp only; rw [if_neg (by decide), if_pos h0]
            by_cases h02 : e2 = 0
            · have g2 : psA b = (p1, p2, rel2, 0) := by rw [ps_rp, hrb]; dsimp only; rw [if_pos h02]
              rw [hpt, g1, g2, if_pos rfl, if_pos rfl]
              refine V_seq ?_; refine V_seq ?_; refine V_region (id := 3) ?_; refine vo_step (ok_move rfl rfl rfl) rfl ?_; refine vo_step (ok_move rfl rfl rfl) rfl ?_; refine vo_step (ok_lenS L rfl rfl rfl rfl) rfl ?_; refine vo_step (ok_lss rfl rfl rfl rfl (decide_eq_false (by omega))) rfl ?_; refine vo_nil ?_; refine N_seq ?_; refine V_false rfl ?_; refine V_exit ?_; refine X_then ?_; refine X_then ?_; refine X_here ?_; refine N_seq ?_; refine V_seq ?_; refine V_seq ?_; refine V_region (id := 8) ?_; refine vo_step (ok_move rfl rfl rfl) rfl ?_; refine vo_step (ok_neq rfl rfl rfl rfl (decide_eq_false (by omega))) rfl ?_; refine vo_nil ?_; refine N_seq ?_; refine V_false rfl ?_; refine V_skip ?_; refine N_seq ?_; refine V_seq ?_; refine V_region (id := 10) ?_; refine vo_step (ok_move rfl rfl rfl) rfl ?_; refine vo_step (ok_move rfl rfl rfl) rfl ?_; refine vo_step (ok_sliceS L (kl := .i64) (pl := 0) 0 a.size rfl rfl rfl rfl rfl ⟨rfl, rfl⟩ (by omega) (by omega) x1) rfl ?_; refine vo_step (ok_callx L rfl rfl (blt_lt rfl) rfl rfl rfl (fun u H hH _ _ => rparse1_ret' hra za hH)) rfl ?_; refine vo_step (ok_move rfl rfl rfl) rfl ?_; refine vo_step (ok_extract rfl rfl rfl rfl) rfl ?_; refine vo_step (ok_extract rfl rfl rfl rfl) rfl ?_; refine vo_step (ok_extract rfl rfl rfl rfl) rfl ?_; refine vo_step (ok_extract rfl rfl rfl rfl) rfl ?_; refine vo_step (ok_alloc L rfl rfl rfl rfl) rfl ?_; refine vo_step (ok_store L rfl rfl rfl rfl rfl rfl rfl rfl) rfl ?_; refine vo_step (ok_assign rfl rfl rfl) rfl ?_; refine vo_step (ok_assign rfl rfl rfl) rfl ?_; refine vo_step (ok_assign rfl rfl rfl) rfl ?_; refine vo_nil ?_; refine N_seq ?_; refine V_seq ?_; refine V_seq ?_; refine V_region (id := 11) ?_; refine vo_step (ok_move rfl rfl rfl) rfl ?_; refine vo_step (ok_neq rfl rfl rfl rfl (decide_eq_true (by omega))) rfl ?_; refine vo_step (ok_move rfl rfl rfl) rfl ?_; refine vo_step (ok_move rfl rfl rfl) rfl ?_; refine vo_step (ok_not rfl rfl rfl rfl) rfl ?_; refine vo_step (ok_pick rfl rfl rfl rfl) rfl ?_; refine vo_nil ?_; refine N_seq ?_; refine V_false rfl ?_; refine V_skip ?_; refine N_seq ?_; refine V_seq ?_; refine V_seq ?_; refine V_region (id := 13) ?_; refine vo_step (ok_move rfl rfl rfl) rfl ?_; refine vo_step (ok_neq rfl rfl rfl rfl (decide_eq_false (by omega))) rfl ?_; refine vo_nil ?_; refine N_seq ?_; refine V_false rfl ?_; refine V_skip ?_; refine N_seq ?_; refine V_seq ?_; refine V_region (id := 15) ?_; refine vo_step (ok_move rfl rfl rfl) rfl ?_; refine vo_step (ok_move rfl rfl rfl) rfl ?_; refine vo_step (ok_add rfl rfl rfl rfl (by assumption)) rfl ?_; refine vo_step (ok_sliceS L (kh := .i64) (ph := 0) (a.size + 1) _ rfl rfl rfl rfl ⟨rfl, rfl⟩ rfl (by omega) (by omega) x2) rfl ?_; refine vo_step (ok_callx L rfl rfl (blt_lt rfl) rfl rfl rfl (fun u H hH _ _ => rparse1_ret' hrb zb hH)) rfl ?_; refine vo_step (ok_move rfl rfl rfl) rfl ?_; refine vo_step (ok_extract rfl rfl rfl rfl) rfl ?_; refine vo_step (ok_extract rfl rfl rfl rfl) rfl ?_; refine vo_step (ok_extract rfl rfl rfl rfl) rfl ?_; refine vo_step (ok_extract rfl rfl rfl rfl) rfl ?_; refine vo_step (ok_alloc L rfl rfl rfl rfl) rfl ?_; refine vo_step (ok_store L rfl rfl rfl rfl rfl rfl rfl rfl) rfl ?_; refine vo_step (ok_assign rfl rfl rfl) rfl ?_; refine vo_step (ok_assign rfl rfl rfl) rfl ?_; refine vo_step (ok_assign rfl rfl rfl) rfl ?_; refine vo_nil ?_; refine N_seq ?_; refine V_seq ?_; refine V_seq ?_; refine V_region (id := 16) ?_; refine vo_step (ok_move rfl rfl rfl) rfl ?_; refine vo_step (ok_neq rfl rfl rfl rfl (decide_eq_false (by omega))) rfl ?_; refine vo_nil ?_; refine N_seq ?_; refine V_false rfl ?_; refine V_skip ?_; refine N_seq ?_; refine V_seq ?_; refine V_region (id := 18) ?_; refine vo_step (ok_loadA L (vs := [_, _]) (src_own rfl) rfl rfl rfl rfl ⟨_, rfl⟩) rfl ?_; refine vo_step (ok_move rfl rfl rfl) rfl ?_; refine vo_step (ok_build (cs := [_, _, _]) rfl rfl pl49 rfl rfl) rfl ?_; refine vo_step (ok_loadA L (vs := [_, _]) (src_own rfl) rfl rfl rfl rfl ⟨_, rfl⟩) rfl ?_; refine vo_step (ok_move rfl rfl rfl) rfl ?_; refine vo_step (ok_build (cs := [_, _, _]) rfl rfl pl34 rfl rfl) rfl ?_; refine vo_step (ok_build (cs := [_, _, _, _, _, _]) rfl rfl pl51 rfl rfl) rfl ?_; refine vo_step (ok_store L rfl rfl rfl rfl rfl rfl rfl rfl) rfl ?_; refine vo_step (ok_assign rfl rfl rfl) rfl ?_; refine vo_nil ?_; refine N_seq ?_
              refine V_ret L (rs := [.cell 2 51, .tmp 3]) rfl (fun _ _ h => h) Since.refl fun u H hH hle => ?_
              exact ⟨_, src_own rfl, rfl, rfl⟩
            · have g2 : psA b = (sNil, sNil, sNil, e2) := by rw [ps_rp, hrb]; dsimp only; rw [if_neg h02]
              rw [hpt, g1, g2, if_pos rfl, if_neg h02]
              refine V_seq ?_; refine V_seq ?_; refine V_region (id := 3) ?_; refine vo_step (ok_move rfl rfl rfl) rfl ?_; refine vo_step (ok_move rfl rfl rfl) rfl ?_; refine vo_step (ok_lenS L rfl rfl rfl rfl) rfl ?_; refine vo_step (ok_lss rfl rfl rfl rfl (decide_eq_false (by omega))) rfl ?_; refine vo_nil ?_; refine N_seq ?_; refine V_false rfl ?_; refine V_exit ?_; refine X_then ?_; refine X_then ?_; refine X_here ?_; refine N_seq ?_; refine V_seq ?_; refine V_seq ?_; refine V_region (id := 8) ?_; refine vo_step (ok_move rfl rfl rfl) rfl ?_; refine vo_step (ok_neq rfl rfl rfl rfl (decide_eq_false (by omega))) rfl ?_; refine vo_nil ?_; refine N_seq ?_; refine V_false rfl ?_; refine V_skip ?_; refine N_seq ?_; refine V_seq ?_; refine V_region (id := 10) ?_; refine vo_step (ok_move rfl rfl rfl) rfl ?_; refine vo_step (ok_move rfl rfl rfl) rfl ?_; refine vo_step (ok_sliceS L (kl := .i64) (pl := 0) 0 a.size rfl rfl rfl rfl rfl ⟨rfl, rfl⟩ (by omega) (by omega) x1) rfl ?_; refine vo_step (ok_callx L rfl rfl (blt_lt rfl) rfl rfl rfl (fun u H hH _ _ => rparse1_ret' hra za hH)) rfl ?_; refine vo_step (ok_move rfl rfl rfl) rfl ?_; refine vo_step (ok_extract rfl rfl rfl rfl) rfl ?_; refine vo_step (ok_extract rfl rfl rfl rfl) rfl ?_; refine vo_step (ok_extract rfl rfl rfl rfl) rfl ?_; refine vo_step (ok_extract rfl rfl rfl rfl) rfl ?_; refine vo_step (ok_alloc L rfl rfl rfl rfl) rfl ?_; refine vo_step (ok_store L rfl rfl rfl rfl rfl rfl rfl rfl) rfl ?_; refine vo_step (ok_assign rfl rfl rfl) rfl ?_; refine vo_step (ok_assign rfl rfl rfl) rfl ?_; refine vo_step (ok_assign rfl rfl rfl) rfl ?_; refine vo_nil ?_; refine N_seq ?_; refine V_seq ?_; refine V_seq ?_; refine V_region (id := 11) ?_; refine vo_step (ok_move rfl rfl rfl) rfl ?_; refine vo_step (ok_neq rfl rfl rfl rfl (decide_eq_true (by omega))) rfl ?_; refine vo_step (ok_move rfl rfl rfl) rfl ?_; refine vo_step (ok_move rfl rfl rfl) rfl ?_; refine vo_step (ok_not rfl rfl rfl rfl) rfl ?_; refine vo_step (ok_pick rfl rfl rfl rfl) rfl ?_; refine vo_nil ?_; refine N_seq ?_; refine V_false rfl ?_; refine V_skip ?_; refine N_seq ?_; refine V_seq ?_; refine V_seq ?_; refine V_region (id := 13) ?_; refine vo_step (ok_move rfl rfl rfl) rfl ?_; refine vo_step (ok_neq rfl rfl rfl rfl (decide_eq_false (by omega))) rfl ?_; refine vo_nil ?_; refine N_seq ?_; refine V_false rfl ?_; refine V_skip ?_; refine N_seq ?_; refine V_seq ?_; refine V_region (id := 15) ?_; refine vo_step (ok_move rfl rfl rfl) rfl ?_; refine vo_step (ok_move rfl rfl rfl) rfl ?_; refine vo_step (ok_add rfl rfl rfl rfl (by assumption)) rfl ?_; refine vo_step (ok_sliceS L (kh := .i64) (ph := 0) (a.size + 1) _ rfl rfl rfl rfl ⟨rfl, rfl⟩ rfl (by omega) (by omega) x2) rfl ?_; refine vo_step (ok_callx L rfl rfl (blt_lt rfl) rfl rfl rfl (fun u H hH _ _ => rparse1_ret' hrb zb hH)) rfl ?_; refine vo_step (ok_move rfl rfl rfl) rfl ?_; refine vo_step (ok_extract rfl rfl rfl rfl) rfl ?_; refine vo_step (ok_extract rfl rfl rfl rfl) rfl ?_; refine vo_step (ok_extract rfl rfl rfl rfl) rfl ?_; refine vo_step (ok_extract rfl rfl rfl rfl) rfl ?_; refine vo_step (ok_alloc L rfl rfl rfl rfl) rfl ?_; refine vo_step (ok_store L rfl rfl rfl rfl rfl rfl rfl rfl) rfl ?_; refine vo_step (ok_assign rfl rfl rfl) rfl ?_; refine vo_step (ok_assign rfl rfl rfl) rfl ?_; refine vo_step (ok_assign rfl rfl rfl) rfl ?_; refine vo_nil ?_; refine N_seq ?_; refine V_seq ?_; refine V_seq ?_; refine V_region (id := 16) ?_; refine vo_step (ok_move rfl rfl rfl) rfl ?_; refine vo_step (ok_neq rfl rfl rfl rfl (decide_eq_true (by omega))) rfl ?_; refine vo_nil ?_; refine N_seq ?_; refine V_true rfl ?_; refine V_seq ?_; refine V_region (id := 17) ?_; refine vo_step (ok_build (cs := [_, _, _, _, _, _]) rfl rfl pl51 rfl rfl) rfl ?_; refine vo_step (ok_move rfl rfl rfl) rfl ?_; refine vo_step (ok_store L rfl rfl rfl rfl rfl rfl rfl rfl) rfl ?_; refine vo_step (ok_assign rfl rfl rfl) rfl ?_; refine vo_nil ?_; refine N_seq ?_
              refine V_ret L (rs := [.cell 2 51, .tmp 3]) rfl (fun _ _ h => h) Since.refl fun u H hH hle => ?_
              exact ⟨_, src_own rfl, rfl, rfl⟩
          · have g1 : pgA a = (sNil, sNil, sNil, e) := by rw [pg_rp, hra]; dsimp only; rw [if_neg (by decide), if_neg h0]
            rw [hpt, g1, if_neg h0]
            by_cases h5 : e = 5
            · refine V_seq ?_; refine V_seq ?_; refine V_region (id := 3) ?_; refine vo_step (ok_move rfl rfl rfl) rfl ?_; refine vo_step (ok_move rfl rfl rfl) rfl ?_; refine vo_step (ok_lenS L rfl rfl rfl rfl) rfl ?_; refine vo_step (ok_lss rfl rfl rfl rfl (decide_eq_false (by omega))) rfl ?_; refine vo_nil ?_; refine N_seq ?_; refine V_false rfl ?_; refine V_exit ?_; refine X_then ?_; refine X_then ?_; refine X_here ?_; refine N_seq ?_; refine V_seq ?_; refine V_seq ?_; refine V_region (id := 8) ?_; refine vo_step (ok_move rfl rfl rfl) rfl ?_; refine vo_step (ok_neq rfl rfl rfl rfl (decide_eq_false (by omega))) rfl ?_; refine vo_nil ?_; refine N_seq ?_; refine V_false rfl ?_; refine V_skip ?_; refine N_seq ?_; refine V_seq ?_; refine V_region (id := 10) ?_; refine vo_step (ok_move rfl rfl rfl) rfl ?_; refine vo_step (ok_move rfl rfl rfl) rfl ?_; refine vo_step (ok_sliceS L (kl := .i64) (pl := 0) 0 a.size rfl rfl rfl rfl rfl ⟨rfl, rfl⟩ (by omega) (by omega) x1) rfl ?_; refine vo_step (ok_callx L rfl rfl (blt_lt rfl) rfl rfl rfl (fun u H hH _ _ => rparse1_ret' hra za hH)) rfl ?_; refine vo_step (ok_move rfl rfl rfl) rfl ?_; refine vo_step (ok_extract rfl rfl rfl rfl) rfl ?_; refine vo_step (ok_extract rfl rfl rfl rfl) rfl ?_; refine vo_step (ok_extract rfl rfl rfl rfl) rfl ?_; refine vo_step (ok_extract rfl rfl rfl rfl) rfl ?_; refine vo_step (ok_alloc L rfl rfl rfl rfl) rfl ?_; refine vo_step (ok_store L rfl rfl rfl rfl rfl rfl rfl rfl) rfl ?_; refine vo_step (ok_assign rfl rfl rfl) rfl ?_; refine vo_step (ok_assign rfl rfl rfl) rfl ?_; refine vo_step (ok_assign rfl rfl rfl) rfl ?_; refine vo_nil ?_; refine N_seq ?_; refine V_seq ?_; refine V_seq ?_; refine V_region (id := 11) ?_; refine vo_step (ok_move rfl rfl rfl) rfl ?_; refine vo_step (ok_neq rfl rfl rfl rfl (decide_eq_false (by omega))) rfl ?_; refine vo_step (ok_move rfl rfl rfl) rfl ?_; refine vo_step (ok_skip rfl (blt_lt rfl) rfl) rfl ?_; refine vo_step (ok_skip rfl (blt_lt rfl) rfl) rfl ?_; refine vo_step (ok_pick rfl rfl rfl rfl) rfl ?_; refine vo_nil ?_; refine N_seq ?_; refine V_false rfl ?_; refine V_skip ?_; refine N_seq ?_; refine V_seq ?_; refine V_seq ?_; refine V_region (id := 13) ?_; refine vo_step (ok_move rfl rfl rfl) rfl ?_; refine vo_step (ok_neq rfl rfl rfl rfl (decide_eq_true (by omega))) rfl ?_; refine vo_nil ?_; refine N_seq ?_; refine V_true rfl ?_; refine V_seq ?_; refine V_region (id := 14) ?_; refine vo_step (ok_build (cs := [_, _, _, _, _, _]) rfl rfl pl51 rfl rfl) rfl ?_; refine vo_step (ok_move rfl rfl rfl) rfl ?_; refine vo_step (ok_store L rfl rfl rfl rfl rfl rfl rfl rfl) rfl ?_; refine vo_step (ok_assign rfl rfl rfl) rfl ?_; refine vo_nil ?_; refine N_seq ?_
              refine V_ret L (rs := [.cell 2 51, .tmp 3]) rfl (fun _ _ h => h) Since.refl fun u H hH hle => ?_
              exact ⟨_, src_own rfl, rfl, rfl⟩
            · refine V_seq ?_; refine V_seq ?_; refine V_region (id := 3) ?_; refine vo_step (ok_move rfl rfl rfl) rfl ?_; refine vo_step (ok_move rfl rfl rfl) rfl ?_; refine vo_step (ok_lenS L rfl rfl rfl rfl) rfl ?_; refine vo_step (ok_lss rfl rfl rfl rfl (decide_eq_false (by omega))) rfl ?_; refine vo_nil ?_; refine N_seq ?_; refine V_false rfl ?_; refine V_exit ?_; refine X_then ?_; refine X_then ?_; refine X_here ?_; refine N_seq ?_; refine V_seq ?_; refine V_seq ?_; refine V_region (id := 8) ?_; refine vo_step (ok_move rfl rfl rfl) rfl ?_; refine vo_step (ok_neq rfl rfl rfl rfl (decide_eq_false (by omega))) rfl ?_; refine vo_nil ?_; refine N_seq ?_; refine V_false rfl ?_; refine V_skip ?_; refine N_seq ?_; refine V_seq ?_; refine V_region (id := 10) ?_; refine vo_step (ok_move rfl rfl rfl) rfl ?_; refine vo_step (ok_move rfl rfl rfl) rfl ?_; refine vo_step (ok_sliceS L (kl := .i64) (pl := 0) 0 a.size rfl rfl rfl rfl rfl ⟨rfl, rfl⟩ (by omega) (by omega) x1) rfl ?_; refine vo_step (ok_callx L rfl rfl (blt_lt rfl) rfl rfl rfl (fun u H hH _ _ => rparse1_ret' hra za hH)) rfl ?_; refine vo_step (ok_move rfl rfl rfl) rfl ?_; refine vo_step (ok_extract rfl rfl rfl rfl) rfl ?_; refine vo_step (ok_extract rfl rfl rfl rfl) rfl ?_; refine vo_step (ok_extract rfl rfl rfl rfl) rfl ?_; refine vo_step (ok_extract rfl rfl rfl rfl) rfl ?_; refine vo_step (ok_alloc L rfl rfl rfl rfl) rfl ?_; refine vo_step (ok_store L rfl rfl rfl rfl rfl rfl rfl rfl) rfl ?_; refine vo_step (ok_assign rfl rfl rfl) rfl ?_; refine vo_step (ok_assign rfl rfl rfl) rfl ?_; refine vo_step (ok_assign rfl rfl rfl) rfl ?_; refine vo_nil ?_; refine N_seq ?_; refine V_seq ?_; refine V_seq ?_; refine V_region (id := 11) ?_; refine vo_step (ok_move rfl rfl rfl) rfl ?_; refine vo_step (ok_neq rfl rfl rfl rfl (decide_eq_true (by omega))) rfl ?_; refine vo_step (ok_move rfl rfl rfl) rfl ?_; refine vo_step (ok_move rfl rfl rfl) rfl ?_; refine vo_step (ok_not rfl rfl rfl rfl) rfl ?_; refine vo_step (ok_pick rfl rfl rfl rfl) rfl ?_; refine vo_nil ?_; refine N_seq ?_; refine V_false rfl ?_; refine V_skip ?_; refine N_seq ?_; refine V_seq ?_; refine V_seq ?_; refine V_region (id := 13) ?_; refine vo_step (ok_move rfl rfl rfl) rfl ?_; refine vo_step (ok_neq rfl rfl rfl rfl (decide_eq_true (by omega))) rfl ?_; refine vo_nil ?_; refine N_seq ?_; refine V_true rfl ?_; refine V_seq ?_; refine V_region (id := 14) ?_; refine vo_step (ok_build (cs := [_, _, _, _, _, _]) rfl rfl pl51 rfl rfl) rfl ?_; refine vo_step (ok_move rfl rfl rfl) rfl ?_; refine vo_step (ok_store L rfl rfl rfl rfl rfl rfl rfl rfl) rfl ?_; refine vo_step (ok_assign rfl rfl rfl) rfl ?_; refine vo_nil ?_; refine N_seq ?_
              refine V_ret L (rs := [.cell 2 51, .tmp 3]) rfl (fun _ _ h => h) Since.refl fun u H hH hle => ?_
              exact ⟨_, src_own rfl, rfl, rfl⟩
    · have hpt : ptA s = ((((⟨#[]⟩, ⟨#[]⟩), ⟨#[]⟩), ((⟨#[]⟩, ⟨#[]⟩), ⟨#[]⟩)), 5) := by
        unfold ptA
        rw [if_neg]
        rintro ⟨hc1, hc2⟩
        rcases split_b s 64 with h64 | ⟨a, b, rfl, ha⟩
        · rw [cutA_no h64] at hc1; cases hc1
        · rw [cutA_mid ha] at hc2
          by_cases hb : noB b 64
          · apply h1
            rw [hn, mid_list, List.count_append, List.count_cons_self, List.count_eq_zero_of_not_mem ha, List.count_eq_zero_of_not_mem hb]
          · rw [show hasA b 64 = true from hasA_yes hb] at hc2
            cases hc2
      rw [hpt]
      refine V_seq ?_; refine V_seq ?_; refine V_region (id := 3) ?_; refine vo_step (ok_move rfl rfl rfl) rfl ?_; refine vo_step (ok_move rfl rfl rfl) rfl ?_; refine vo_step (ok_lenS L rfl rfl rfl rfl) rfl ?_; refine vo_step (ok_lss rfl rfl rfl rfl (decide_eq_false (by omega))) rfl ?_; refine vo_nil ?_; refine N_seq ?_; refine V_false rfl ?_; refine V_exit ?_; refine X_then ?_; refine X_then ?_; refine X_here ?_; refine N_seq ?_; refine V_seq ?_; refine V_seq ?_; refine V_region (id := 8) ?_; refine vo_step (ok_move rfl rfl rfl) rfl ?_; refine vo_step (ok_neq rfl rfl rfl rfl (decide_eq_true (by omega))) rfl ?_; refine vo_nil ?_; refine N_seq ?_; refine V_true rfl ?_; refine V_seq ?_; refine V_region (id := 9) ?_; refine vo_step (ok_build (cs := [_, _, _, _, _, _]) rfl rfl pl51 rfl rfl) rfl ?_; refine vo_step (ok_store L rfl rfl rfl rfl rfl rfl rfl rfl) rfl ?_; refine vo_step (ok_assign rfl rfl rfl) rfl ?_; refine vo_nil ?_; refine N_seq ?_
      refine V_ret L (rs := [.cell 2 51, .tmp 3]) rfl (fun _ _ h => h) Since.refl fun u H hH hle => ?_
      exact ⟨_, src_own rfl, rfl, rfl⟩
end Go.V.L2
/- The kit's floor of sorting: what a slot owns is sorted, by the library's contract. -/
namespace Go.V
open Go.Proofs Go.RowKit
section
variable {α : Type} [Inhabited α] {enc : α → List Value} {k : Nat}
end
section
variable {P : Program} {F : Fr} {B : Heap} {O : Boxes} {n : Nat} {ops : Array Oper} {κ : Kap} {ty : TypeId} {pos : String} {aft : Array Edge} {g : Option (Nat × Bool)}
end
end Go.V
/- Sorted lists once more: equal neighbours are taken out; where a thing is. Plain laws. -/
namespace Go.V
open Go.Proofs Go.RowKit
section
variable {α : Type} [DecidableEq α]
/-- Of equal neighbours one stays. -/
def dd : List α → List α
  | [] => []
  | [x] => [x]
  | x :: y :: l => if x = y then dd (y :: l) else x :: dd (y :: l)
variable {c : α → α → Int}
end
theorem at_get {α : Type} {l : List α} {i : Nat} {a : α} (h : l[i]? = some a) : l[i]'(get_lt h) = a := by
  have h1 := h
  rw [List.getElem?_eq_getElem (get_lt h)] at h1
  exact Option.some.inj h1
section
variable {α : Type} {c : α → α → Int}
end
end Go.V
/- Tuples (chapter 2): what was read has its text; texts of valid tuples are read again. Plain laws. -/
namespace Go.V.L2
open Go.Proofs Go.RowKit Go.V
theorem parts_text {s x y z : ByteArray} {d : Bool} (h : partsA s = some (x, y, z, d)) : (d = true → s = goalT x y z) ∧ (d = false → z = sNil ∧ s = objT x y) := by
  rcases split_b s 58 with h58 | ⟨a, b, rfl, ha⟩
  · unfold partsA at h
    rw [cutA_no h58] at h
    simp at h
  · unfold partsA at h
    rw [cutA_mid ha] at h
    split at h
    · rcases split_b b 35 with h35 | ⟨c, e, rfl, hc⟩
      · rw [cutA_no h35] at h
        simp at h
        obtain ⟨rfl, rfl, rfl, rfl⟩ := h
        exact ⟨fun e => (by cases e), fun _ => ⟨rfl, rfl⟩⟩
      · rw [cutA_mid hc] at h
        simp at h
        obtain ⟨rfl, rfl, rfl, rfl⟩ := h
        refine ⟨fun _ => ?_, fun e => by cases e⟩
        unfold goalT objT
        apply ba_ext'
        simp only [list_app, List.append_assoc]
    · cases h
theorem ps_text {s x y z : ByteArray} (h : psA s = (x, y, z, 0)) : s = subjT x y z ∧ subjE x y z = 0 := by
  unfold psA at h
  rcases hp : partsA s with _ | ⟨a, b, c, d⟩
  · rw [hp] at h; simp at h
  · rw [hp] at h
    simp only at h
    split at h
    · rename_i h0
      cases d
      · rw [if_neg (by decide)] at h
        simp at h
        obtain ⟨rfl, rfl, rfl⟩ := h
        obtain ⟨rfl, h1⟩ := (parts_text hp).2 rfl
        unfold subjT subjE
        rw [if_pos rfl, if_pos rfl]
        exact ⟨h1, h0⟩
      · rw [if_pos rfl] at h
        split at h
        · rename_i hc
          simp at h
          obtain ⟨rfl, rfl, rfl⟩ := h
          have hn : ¬ c = ⟨#[]⟩ := fun e => by subst e; rw [chk_nil] at hc; exact absurd hc (by decide)
          unfold subjT subjE
          rw [if_neg hn, if_neg hn]
          obtain ⟨h1, h2⟩ := allE2 h0
          exact ⟨(parts_text hp).1 rfl, allE3_of h1 h2 hc⟩
        · rename_i hc
          simp at h
          exact absurd h.2.2.2 hc
    · rename_i h0
      simp at h
      exact absurd h.2.2.2 h0
theorem noAt_chk {s : ByteArray} (h : chk s = 0) : noB s 64 := by
  unfold chk at h
  split at h
  · rename_i hc
    have := List.all_eq_true.1 hc.2.2
    exact fun hm => by have := this _ hm; revert this; decide
  · exact absurd h (by decide)
end Go.V.L2
/- Filters (chapter 3): plain laws. -/
namespace Go.V.L3
open Go.Proofs Go.RowKit Go.V Go.V.L2
/-- A filter: its space, ID and relation, its subject, and whether it has one. -/
abbrev FT := Str3 × Str3 × Bool
def fcs (f : FT) : List Value := [.string f.1.1.1, .string f.1.1.2, .string f.1.2, .string f.2.1.1.1, .string f.2.1.1.2, .string f.2.1.2, .bool f.2.2]
abbrev n3 : Str3 := ((⟨#[]⟩, ⟨#[]⟩), ⟨#[]⟩)
abbrev nF : FT := (n3, n3, false)
def tkF (x y : ByteArray) : Bool := decide (x = ⟨#[]⟩) || decide (x = y)
/-- Does a filter take a tuple? -/
def takesB (f : FT) (t : U) : Bool := tkF f.1.1.1 t.1.1.1 && tkF f.1.1.2 t.1.1.2 && tkF f.1.2 t.1.2 && (!f.2.2 || decide (f.2.1 = t.2))
def prefN (f : FT) : Nat := if f.1.1.1 = ⟨#[]⟩ then 0 else if f.1.1.2 = ⟨#[]⟩ then 1 else if f.1.2 = ⟨#[]⟩ then 2 else if f.2.2 = true then 4 else 3
def badF (x : ByteArray) : Bool := !decide (x = ⟨#[]⟩) && !decide (chk x = 0)
/-- The error of a filter. -/
def fE (f : FT) : Int := if f.2.2 = false ∧ ¬ f.2.1 = n3 then 5 else if (badF f.1.1.1 || badF f.1.1.2 || badF f.1.2) = true then 6 else if f.2.2 = true then subjE f.2.1.1.1 f.2.1.1.2 f.2.1.2 else 0
/-! ### orders that do not part everything -/
structure WOrd {α : Type} (c : α → α → Int) : Prop where
  refl : ∀ a, c a a = 0
  anti : ∀ a b, c b a = - c a b
  trans : ∀ a b d, c a b ≤ 0 → c b d ≤ 0 → c a d ≤ 0
theorem wOf {α : Type} {c : α → α → Int} (h : Ord3 c) : WOrd c := ⟨h.refl, h.anti, h.trans⟩
theorem WOrd.zero {α : Type} : WOrd (fun _ _ : α => (0 : Int)) := ⟨fun _ => rfl, fun _ _ => rfl, fun _ _ _ _ _ => Int.le_refl _⟩
theorem WOrd.lex {α β : Type} {c : α → α → Int} {e : β → β → Int} (h : WOrd c) (k : WOrd e) : WOrd (lexC c e) where
  refl a := by unfold lexC; rw [orL2, h.refl, if_pos rfl, k.refl]
  anti a b := by
    unfold lexC
    rw [orL2, orL2]
    have h1 := h.anti a.1 b.1
    have h2 := k.anti a.2 b.2
    by_cases e1 : c a.1 b.1 = 0
    · rw [if_pos e1, if_pos (by omega)]; exact h2
    · rw [if_neg e1, if_neg (by omega)]; exact h1
  trans a b d h1 h2 := by
    unfold lexC at *
    rw [orL2] at *
    have a1 := h.anti a.1 b.1
    have a2 := h.anti b.1 d.1
    have a3 := h.anti a.1 d.1
    have t1 := h.trans a.1 b.1 d.1
    have t2 := h.trans d.1 b.1 a.1
    have t3 := h.trans b.1 d.1 a.1
    have t4 := h.trans d.1 a.1 b.1
    have t5 := k.trans a.2 b.2 d.2
    by_cases e1 : c a.1 b.1 = 0
    · rw [if_pos e1] at h1
      by_cases e2 : c b.1 d.1 = 0
      · rw [if_pos e2] at h2
        rw [if_pos (by have := t1 (by omega) (by omega); have := t2 (by omega) (by omega); omega)]
        exact t5 h1 h2
      · rw [if_neg e2] at h2
        have e3 : c a.1 d.1 ≠ 0 := fun e => by have := t4 (by omega) (by omega); omega
        rw [if_neg e3]
        exact t1 (by omega) h2
    · rw [if_neg e1] at h1
      by_cases e2 : c b.1 d.1 = 0
      · rw [if_pos e2] at h2
        have e3 : c a.1 d.1 ≠ 0 := fun e => by have := t3 (by omega) (by omega); omega
        rw [if_neg e3]
        exact t1 h1 (by omega)
      · rw [if_neg e2] at h2
        have e3 : c a.1 d.1 ≠ 0 := fun e => by have := t4 (by omega) (by omega); omega
        rw [if_neg e3]
        exact t1 h1 h2
def upN {α : Type} (p : Prop) [Decidable p] (c : α → α → Int) : α → α → Int := fun a b => if p then c a b else 0
theorem upN_w {α : Type} {p : Prop} [Decidable p] {c : α → α → Int} (h : WOrd c) : WOrd (upN p c) := by
  by_cases hp : p
  · have : upN p c = c := by funext a b; exact if_pos hp
    rw [this]; exact h
  · have : upN p c = fun _ _ => 0 := by funext a b; exact if_neg hp
    rw [this]; exact WOrd.zero
/-- The order of tuples in the first n fields (4: the subject, too). -/
def cmpN (n : Nat) : U → U → Int := lexC (lexC (lexC (upN (1 ≤ n) cmpB) (upN (2 ≤ n) cmpB)) (upN (3 ≤ n) cmpB)) (upN (4 ≤ n) cmp3)
theorem cmpN_w (n : Nat) : WOrd (cmpN n) := (((upN_w (wOf cmpB_ord)).lex (upN_w (wOf cmpB_ord))).lex (upN_w (wOf cmpB_ord))).lex (upN_w (wOf cmp3_ord))
theorem cmpN_le {n : Nat} {t u : U} (h : cmpT t u < 0) : cmpN n t u ≤ 0 := by
  unfold cmpT cmp3 at h
  unfold cmpN
  unfold lexC at *
  simp only [orL2] at *
  unfold upN
  generalize cmpB t.1.1.1 u.1.1.1 = a at *
  generalize cmpB t.1.1.2 u.1.1.2 = b at *
  generalize cmpB t.1.2 u.1.2 = c at *
  have hd : cmp3 t.2 u.2 = if (if cmpB t.2.1.1 u.2.1.1 = 0 then cmpB t.2.1.2 u.2.1.2 else cmpB t.2.1.1 u.2.1.1) = 0 then cmpB t.2.2 u.2.2 else if cmpB t.2.1.1 u.2.1.1 = 0 then cmpB t.2.1.2 u.2.1.2 else cmpB t.2.1.1 u.2.1.1 := by
    unfold cmp3 lexC; simp only [orL2]
  rw [← hd] at h
  generalize cmp3 t.2 u.2 = d at *
  by_cases ha : a = 0 <;> by_cases hb : b = 0 <;> by_cases hc : c = 0 <;> by_cases n1 : 1 ≤ n <;> by_cases n2 : 2 ≤ n <;> by_cases n3' : 3 ≤ n <;> by_cases n4 : 4 ≤ n <;> simp_all <;> omega
/-- The least tuple that a filter's prefix lets in. -/
def leaF (f : FT) : U := ((((if 1 ≤ prefN f then f.1.1.1 else ⟨#[]⟩), (if 2 ≤ prefN f then f.1.1.2 else ⟨#[]⟩)), (if 3 ≤ prefN f then f.1.2 else ⟨#[]⟩)), if 4 ≤ prefN f then f.2.1 else n3)
/-- The order of a tuple and a filter, in what its prefix fixes. -/
def ordF (f : FT) (t : U) : Int := cmpN (prefN f) t (leaF f)
/-- A filter with only what its prefix fixes. -/
def firstF (f : FT) : FT := (((if 1 ≤ prefN f then f.1.1.1 else ⟨#[]⟩, if 2 ≤ prefN f then f.1.1.2 else ⟨#[]⟩), if 3 ≤ prefN f then f.1.2 else ⟨#[]⟩), (if 4 ≤ prefN f then f.2.1 else n3), decide (4 ≤ prefN f))
theorem prefN_cases (f : FT) : (prefN f = 0 ∧ f.1.1.1 = ⟨#[]⟩) ∨ (prefN f = 1 ∧ ¬ f.1.1.1 = ⟨#[]⟩ ∧ f.1.1.2 = ⟨#[]⟩) ∨ (prefN f = 2 ∧ ¬ f.1.1.1 = ⟨#[]⟩ ∧ ¬ f.1.1.2 = ⟨#[]⟩ ∧ f.1.2 = ⟨#[]⟩) ∨ (prefN f = 3 ∧ ¬ f.1.1.1 = ⟨#[]⟩ ∧ ¬ f.1.1.2 = ⟨#[]⟩ ∧ ¬ f.1.2 = ⟨#[]⟩ ∧ f.2.2 = false) ∨ (prefN f = 4 ∧ ¬ f.1.1.1 = ⟨#[]⟩ ∧ ¬ f.1.1.2 = ⟨#[]⟩ ∧ ¬ f.1.2 = ⟨#[]⟩ ∧ f.2.2 = true) := by
  unfold prefN
  by_cases h1 : f.1.1.1 = ⟨#[]⟩
  · rw [if_pos h1]; exact .inl ⟨rfl, h1⟩
  · rw [if_neg h1]
    by_cases h2 : f.1.1.2 = ⟨#[]⟩
    · rw [if_pos h2]; exact .inr (.inl ⟨rfl, h1, h2⟩)
    · rw [if_neg h2]
      by_cases h3 : f.1.2 = ⟨#[]⟩
      · rw [if_pos h3]; exact .inr (.inr (.inl ⟨rfl, h1, h2, h3⟩))
      · rw [if_neg h3]
        cases h4 : f.2.2
        · exact .inr (.inr (.inr (.inl ⟨rfl, h1, h2, h3, rfl⟩)))
        · exact .inr (.inr (.inr (.inr ⟨rfl, h1, h2, h3, rfl⟩)))
theorem cB0 {x y : ByteArray} : cmpB y x = 0 ↔ x = y := ⟨fun h => (cmpB_ord.eq _ _ h).symm, fun h => by subst h; exact cmpB_ord.refl _⟩
theorem c30 {x y : Str3} : cmp3 y x = 0 ↔ x = y := ⟨fun h => (cmp3_ord.eq _ _ h).symm, fun h => by subst h; exact cmp3_ord.refl _⟩
/-- What a prefix lets in is what is equal in its order. -/
theorem takes_first (f : FT) (t : U) : takesB (firstF f) t = true ↔ ordF f t = 0 := by
  unfold ordF cmpN lexC takesB firstF leaF upN tkF
  simp only [orL2]
  rcases prefN_cases f with ⟨h, h1⟩ | ⟨h, h1, h2⟩ | ⟨h, h1, h2, h3⟩ | ⟨h, h1, h2, h3, h4⟩ | ⟨h, h1, h2, h3, h4⟩
  · rw [h]; simp
  · rw [h]
    simp [h1, ← cB0]
    exact (Decidable.em _).symm
  · rw [h]
    simp [h1, h2, ← cB0]
    by_cases e : cmpB t.1.1.1 f.1.1.1 = 0 <;> simp [e]
    exact (Decidable.em _).symm
  · rw [h]
    simp [h1, h2, h3, ← cB0]
    by_cases e : cmpB t.1.1.1 f.1.1.1 = 0 <;> by_cases e2 : cmpB t.1.1.2 f.1.1.2 = 0 <;> simp [e, e2]
    exact (Decidable.em _).symm
  · rw [h]
    simp [h1, h2, h3, ← cB0, ← c30]
    by_cases e : cmpB t.1.1.1 f.1.1.1 = 0 <;> by_cases e2 : cmpB t.1.1.2 f.1.1.2 = 0 <;> by_cases e3 : cmpB t.1.2 f.1.2 = 0 <;> simp [e, e2, e3]
theorem ordF_lt {f : FT} {a b : U} (h : cmpT a b < 0) (hb : ordF f b < 0) : ordF f a < 0 := by
  unfold ordF at *
  have h1 := cmpN_le (n := prefN f) h
  have w := cmpN_w (prefN f)
  have h2 := w.trans a b (leaF f) h1 (by omega)
  have h3 := w.anti a (leaF f)
  have h4 := w.anti b (leaF f)
  have h5 := w.trans (leaF f) a b
  omega
theorem ordF_le {f : FT} {a b : U} (h : cmpT a b < 0) (hb : ordF f b ≤ 0) : ordF f a ≤ 0 := by
  unfold ordF at *
  exact (cmpN_w (prefN f)).trans a b (leaF f) (cmpN_le h) hb
/-- The span of a filter in a sorted list. -/
def spanF (f : FT) (l : List U) : Nat × Nat := ((l.takeWhile fun x => decide (ordF f x < 0)).length, (l.takeWhile fun x => decide (ordF f x ≤ 0)).length)
theorem tw_le {α : Type} (q : α → Bool) (l : List α) : (l.takeWhile q).length ≤ l.length := by
  induction l with
  | nil => simp
  | cons x l ih => rw [List.takeWhile_cons]; split <;> simp only [List.length_cons, List.length_nil] <;> omega
theorem tw_lt {α : Type} (q : α → Bool) : ∀ {l : List α} {j : Nat} {x : α}, j < (l.takeWhile q).length → l[j]? = some x → q x = true
  | [], j, x, hj, _ => by simp at hj
  | y :: l, j, x, hj, hx => by
    rw [List.takeWhile_cons] at hj
    split at hj
    · rename_i hy
      cases j with
      | zero => simp at hx; subst hx; exact hy
      | succ j => exact tw_lt q (l := l) (by simpa using hj) (by simpa using hx)
    · simp at hj
theorem tw_at {α : Type} (q : α → Bool) : ∀ {l : List α} {x : α}, l[(l.takeWhile q).length]? = some x → q x = false
  | [], x, hx => by simp at hx
  | y :: l, x, hx => by
    rw [List.takeWhile_cons] at hx
    split at hx
    · exact tw_at q (l := l) (by simpa using hx)
    · rename_i hy
      simp at hx
      subst hx
      simpa using hy
/-- Of a property that goes down a sorted list, the first ones are known by their number. -/
theorem tw_iff {q : U → Bool} {l : List U} (hs : Sst cmpT l) (hq : ∀ a b, cmpT a b < 0 → q b = true → q a = true) {j : Nat} {x : U} (hx : l[j]? = some x) : j < (l.takeWhile q).length ↔ q x = true := by
  constructor
  · exact fun h => tw_lt q h hx
  · intro h
    rcases Nat.lt_or_ge j (l.takeWhile q).length with h1 | h1
    · exact h1
    · have hj := get_lt hx
      obtain ⟨y, hy⟩ := get_some (show (l.takeWhile q).length < l.length by omega)
      have h2 := tw_at q hy
      rcases Nat.lt_or_ge (l.takeWhile q).length j with h3 | h3
      · have h4 := List.pairwise_iff_getElem.1 hs _ j (get_lt hy) hj h3
        rw [at_get hy, at_get hx] at h4
        rw [hq _ _ h4 h] at h2
        cases h2
      · have : j = (l.takeWhile q).length := by omega
        subst this
        rw [hy] at hx
        cases hx
        rw [h] at h2; cases h2
theorem span_from {f : FT} {l : List U} (hs : Sst cmpT l) {j : Nat} {x : U} (hx : l[j]? = some x) : j < (spanF f l).1 ↔ ordF f x < 0 := by
  have := tw_iff (q := fun x => decide (ordF f x < 0)) hs (fun a b h hb => by simp only [decide_eq_true_eq] at *; exact ordF_lt h hb) hx
  simpa [spanF] using this
theorem span_to {f : FT} {l : List U} (hs : Sst cmpT l) {j : Nat} {x : U} (hx : l[j]? = some x) : j < (spanF f l).2 ↔ ordF f x ≤ 0 := by
  have := tw_iff (q := fun x => decide (ordF f x ≤ 0)) hs (fun a b h hb => by simp only [decide_eq_true_eq] at *; exact ordF_le h hb) hx
  simpa [spanF] using this
theorem span_ord {f : FT} {l : List U} (hs : Sst cmpT l) : (spanF f l).1 ≤ (spanF f l).2 ∧ (spanF f l).2 ≤ l.length := by
  have h2 : (spanF f l).2 ≤ l.length := tw_le _ _
  refine ⟨?_, h2⟩
  rcases Nat.lt_or_ge (spanF f l).2 (spanF f l).1 with h | h
  · have h1 : (spanF f l).1 ≤ l.length := tw_le _ _
    obtain ⟨x, hx⟩ := get_some (show (spanF f l).2 < l.length by omega)
    have a1 := (span_from hs hx).1 h
    have a2 := (span_to (f := f) hs hx).2 (by omega)
    omega
  · exact h
end Go.V.L3
/- Filters (chapter 3): what is selected, and what both take. Plain laws. -/
namespace Go.V.L3
open Go.Proofs Go.RowKit Go.V Go.V.L2
theorem tkF_nil (y : ByteArray) : tkF ⟨#[]⟩ y = true := by simp [tkF]
theorem takes_sub {f : FT} {t : U} (h : takesB f t = true) : takesB (firstF f) t = true := by
  unfold takesB at h
  simp only [Bool.and_eq_true] at h
  obtain ⟨⟨⟨h1, h2⟩, h3⟩, h4⟩ := h
  unfold takesB firstF
  rcases prefN_cases f with ⟨e, _⟩ | ⟨e, _⟩ | ⟨e, _⟩ | ⟨e, _⟩ | ⟨e, _, _, _, e4⟩
  · rw [e]; simp [tkF_nil]
  · rw [e]; simp [tkF_nil, h1]
  · rw [e]; simp [tkF_nil, h1, h2]
  · rw [e]; simp [h1, h2, h3]
  · rw [e]
    rw [e4] at h4
    simp [h1, h2, h3]
    simpa using h4
/-- What is taken lies in the span. -/
theorem span_filter {f : FT} {l : List U} (hs : Sst cmpT l) : ((l.drop (spanF f l).1).take ((spanF f l).2 - (spanF f l).1)).filter (takesB f) = l.filter (takesB f) := by
  obtain ⟨h1, h2⟩ := span_ord (f := f) hs
  have no : ∀ (j : Nat) (x : U), l[j]? = some x → (j < (spanF f l).1 ∨ (spanF f l).2 ≤ j) → ¬ takesB f x = true := fun j x hx ho ht => by
    have e := (takes_first f x).1 (takes_sub ht)
    rcases ho with ho | ho
    · have := (span_from hs hx).1 ho; omega
    · have := (span_to (f := f) hs hx).2 (by omega); omega
  have e1 : (l.take (spanF f l).1).filter (takesB f) = [] := List.filter_eq_nil_iff.2 fun x hx => by
    obtain ⟨j, hj⟩ := List.getElem?_of_mem hx
    have hlt := get_lt hj
    rw [List.length_take] at hlt
    rw [List.getElem?_take_of_lt (by omega)] at hj
    exact no j x hj (.inl (by omega))
  have e2 : (l.drop (spanF f l).2).filter (takesB f) = [] := List.filter_eq_nil_iff.2 fun x hx => by
    obtain ⟨j, hj⟩ := List.getElem?_of_mem hx
    rw [List.getElem?_drop] at hj
    exact no _ x hj (.inr (by omega))
  have e3 : l = l.take (spanF f l).1 ++ ((l.drop (spanF f l).1).take ((spanF f l).2 - (spanF f l).1) ++ l.drop (spanF f l).2) := by
    have : l.drop (spanF f l).2 = (l.drop (spanF f l).1).drop ((spanF f l).2 - (spanF f l).1) := by rw [List.drop_drop]; congr 1; omega
    rw [this, List.take_append_drop, List.take_append_drop]
  conv => rhs; rw [e3]
  rw [List.filter_append, List.filter_append, e1, e2, List.nil_append, List.append_nil]
/-! ### what both take -/
def orB (x y : ByteArray) : ByteArray := if x = ⟨#[]⟩ then y else x
def cfB (x y : ByteArray) : Bool := !decide (x = ⟨#[]⟩) && !decide (y = ⟨#[]⟩) && !decide (x = y)
def clash (f g : FT) : Bool := cfB f.1.1.1 g.1.1.1 || cfB f.1.1.2 g.1.1.2 || cfB f.1.2 g.1.2 || (f.2.2 && g.2.2 && !decide (f.2.1 = g.2.1))
def mixF (f g : FT) : FT := (((orB f.1.1.1 g.1.1.1, orB f.1.1.2 g.1.1.2), orB f.1.2 g.1.2), (if g.2.2 = true then g.2.1 else f.2.1), f.2.2 || g.2.2)
def bothF (f g : FT) : FT × Bool × Int := if fE f = 0 then (if fE g = 0 then (if clash f g = true then (nF, false, 0) else (mixF f g, true, 0)) else (nF, false, fE g)) else (nF, false, fE f)
end Go.V.L3
/- The kit's floor of slices that are worked on in place: sorted, cut, cleared, handed on and back. -/
namespace Go.V
open Go.Proofs Go.RowKit
/-- What is returned is the caller's; it may be what was lent. -/
def OwnT (w : World) (C : Nat → Prop) (r : Res) (v : Value) (H : Heap) (u : World) : Prop := ∃ C' : Nat → Prop, r.P v H u C' ∧ ∀ k, C' k → (C k ∨ w.heap.size ≤ k) ∧ k < u.heap.size ∧ H k = none
def RetT (P : Program) (f : FuncId) (args : List Value) (w : World) (B : Heap) (C : Nat → Prop) (r : Res) : Prop := RetL P f args w B C (OwnT w C r)
section
variable {P : Program} {F : Fr} {B : Heap} {O : Boxes} {n : Nat} {ops : Array Oper} {κ : Kap} {d : Nat} {ty : TypeId} {pos : String} {aft : Array Edge} {g : Option (Nat × Bool)} {a : Act} {u : World} {H : Heap} {fp : Nat → Nat → Prop} {Q : Exit → Act → World → Prop}
theorem ok_shr {t t' : TypeId} {x y : Operand} {k k2 : IntKind} {p q r : Int} (hn : Nat.blt d n = true) (hg : gK ops κ ⟨some d, .binOp .shr t x y t', ty, pos, aft, g⟩ = some true) (hx : evK κ x = some (.int k p)) (hy : evK κ y = some (.int k2 q)) (h0 : 0 ≤ q) (hb : p.fdiv (2 ^ min q.toNat k.bits) = r) :
    StepOK P F B n ops O κ ⟨some d, .binOp .shr t x y t', ty, pos, aft, g⟩ d (.is (.int k r)) := ok_bin hn hg hx hy fun u => by subst hb; simp [eqGuard_shr, binOp_shr, Op.shift, Int.not_lt.2 h0]
end
end Go.V
/- The kit's floor of arrays that are values, and of function values that hold arguments. -/
namespace Go.V
open Go.Proofs Go.RowKit
section
variable {P : Program} {F : Fr} {B : Heap} {O : Boxes} {n : Nat} {ops : Array Oper} {κ : Kap} {d : Nat} {ty : TypeId} {pos : String} {aft : Array Edge} {g : Option (Nat × Bool)} {a : Act} {u : World} {H : Heap} {fp : Nat → Nat → Prop} {Q : Exit → Act → World → Prop}
theorem ext_list (cs : List Value) (i s : Nat) : cs.toArray.extract i (i + s) = ((cs.drop i).take s).toArray := by
  apply Array.ext'
  simp [List.extract]
/-- An element of an array that is a value. -/
theorem ok_indexAg (L : Tabs P) {x y : Operand} {tt e : TypeId} {s len : Nat} {k : IntKind} {p : Int} {cs ys : List Value} (j : Nat) (hn : Nat.blt d n = true) (hg : gK ops κ ⟨some d, .index tt x y, ty, pos, aft, g⟩ = some true)
    (hx : evK κ x = some (.agg cs.toArray)) (hy : evK κ y = some (.int k p)) (ht : arI P tt = some (len, e)) (hl : L.ld e = some (true, s)) (hj : p = j) (hi : j < len) (hys : (cs.drop (j * s)).take s = ys) :
    StepOK P F B n ops O κ ⟨some d, .index tt x y, ty, pos, aft, g⟩ d (.is (.agg ys.toArray)) :=
  ok_pure rfl (by simpa using hn) hg trivial fun a u H fp en => ⟨_, by
    have h1 := en.is_ x _ (by simp [Op.operands]) hx
    have h2 := en.is_ y _ (by simp [Op.operands]) hy
    subst hj hys
    have hu := arI_spec ht
    have hg := run_isAgg (Tabs.ld_spec hl) u
    simp only [execOp, h1, h2, Instr.index, Sem.run_bind, asIntOf, Sem.run_pure, Result.andThen_ok, run_underlying hu]
    rw [if_pos (by omega)]
    simp only [Int.toNat_natCast, part, Sem.run_bind, run_sizeOf (Tabs.ld_spec hl), Result.andThen_ok, hg, if_true, Sem.run_pure, ext_list], rfl⟩
theorem ok_indexAg1 (L : Tabs P) {x y : Operand} {tt e : TypeId} {s len : Nat} {k : IntKind} {p : Int} {cs : List Value} {v : Value} (j : Nat) (hn : Nat.blt d n = true) (hg : gK ops κ ⟨some d, .index tt x y, ty, pos, aft, g⟩ = some true)
    (hx : evK κ x = some (.agg cs.toArray)) (hy : evK κ y = some (.int k p)) (ht : arI P tt = some (len, e)) (hl : L.ld e = some (false, s)) (hj : p = j) (hi : j < len) (hys : cs[j * s]? = some v) :
    StepOK P F B n ops O κ ⟨some d, .index tt x y, ty, pos, aft, g⟩ d (.is v) :=
  ok_pure rfl (by simpa using hn) hg trivial fun a u H fp en => ⟨_, by
    have h1 := en.is_ x _ (by simp [Op.operands]) hx
    have h2 := en.is_ y _ (by simp [Op.operands]) hy
    subst hj
    have hu := arI_spec ht
    have hg := run_isAgg (Tabs.ld_spec hl) u
    simp only [execOp, h1, h2, Instr.index, Sem.run_bind, asIntOf, Sem.run_pure, Result.andThen_ok, run_underlying hu]
    rw [if_pos (by omega)]
    simp only [Int.toNat_natCast, part, Sem.run_bind, run_sizeOf (Tabs.ld_spec hl), Result.andThen_ok, hg, List.getElem?_toArray, hys, Sem.run_pure]
    rfl, rfl⟩
/-- A slice of an array of which the address is known. -/
theorem ok_sliceAr (L : Tabs P) {x : Operand} {tt e : TypeId} {s b off len : Nat} {lo hi : Option Operand} {kl kh : IntKind} {ag : Bool} (i j : Nat) {pl ph : Int} (hn : Nat.blt d n = true) (hg : gK ops κ ⟨some d, .slice tt x lo hi none, ty, pos, aft, g⟩ = some true)
    (hx : evK κ x = some (.pointer (some ⟨b, off, none⟩))) (ht : arI P tt = some (len, e)) (hl : L.ld e = some (ag, s))
    (hlo : match lo with | some y => evK κ y = some (.int kl pl) ∧ pl = i | none => i = 0) (hhi : match hi with | some y => evK κ y = some (.int kh ph) ∧ ph = j | none => j = len)
    (hij : i ≤ j) (hjc : j ≤ len) (hi0 : i < len) :
    StepOK P F B n ops O κ ⟨some d, .slice tt x lo hi none, ty, pos, aft, g⟩ d (.is (.slice (some ⟨b, off + i * s, none⟩) (j - i) (len - i))) :=
  ok_pure rfl (blt_lt hn) hg trivial fun a u H fp en => ⟨_, by
    have hu := arI_spec ht
    have h1 := en.is_ x _ (by simp [Op.operands]) hx
    have hrun : (Instr.sliceBounds false len len (lo.map a.eval) (hi.map a.eval) none).run P u = .ok (i, j, len) u := by
      cases hi with
      | none =>
        simp only at hhi
        subst hhi
        cases lo with
        | none => simp only at hlo; subst hlo; simp [Instr.sliceBounds]
        | some z =>
          obtain ⟨hz, rfl⟩ := hlo
          have h3 := en.is_ z _ (by simp [Op.operands]) hz
          simp [h3, Instr.sliceBounds, run_bound i kl _ _ hij]
      | some y =>
        obtain ⟨hy, rfl⟩ := hhi
        have h2 := en.is_ y _ (by simp [Op.operands]) hy
        cases lo with
        | none => simp only at hlo; subst hlo; simp [h2, Instr.sliceBounds, run_bound j kh len _ hjc]
        | some z =>
          obtain ⟨hz, rfl⟩ := hlo
          have h3 := en.is_ z _ (by simp [Op.operands]) hz
          simp [h2, h3, Instr.sliceBounds, run_bound j kh len _ hjc, run_bound i kl _ _ hij]
    simp only [execOp, h1, Instr.sliceAt, Instr.sureAddr, Sem.run_bind, run_underlying hu, Result.andThen_ok, Option.map_none, hrun, run_sizeOf (Tabs.ld_spec hl), Sem.run_pure]
    rw [if_neg (by omega)]
    simp [Addr.add], rfl⟩
theorem run_callF {f : Nat} (L : Tabs P) {o : Oper} {args : Array Operand} {at_ : Array TypeId} {fs cap : List Value} {fo : Operand} (hop : o.op = .call { callee := .value fo, args := args, argTypes := at_ }) (hfe : a.eval fo = .func (.func f) fs.toArray cap.toArray) (hfn : L.fn f = some ()) :
    (execOp a.eval o).run P u = .ok (.enter f ((fs ++ (args.toList.map a.eval ++ cap)).toArray)) u := by
  simp only [execOp, hop, resolve, hfe, Deferred.ofValue, Sem.run_bind, Sem.run_pure, Result.andThen_ok, invoke]
  rw [run_callFunc L hfn]
  simp
/-- A call of a function value that holds arguments. -/
theorem ok_callFx (L : Tabs P) {o : Oper} {f : Nat} {args : Array Operand} {at_ : Array TypeId} {fs cap : List Value} {r : Value} {fo : Operand}
    (hop : o.op = .call { callee := .value fo, args := args, argTypes := at_ }) (hd : o.dst = some d) (hn : d < n) (hg : gK ops κ o = some true)
    (hf : evK κ fo = some (.func (.func f) fs.toArray cap.toArray)) (hfn : L.fn f = some ())
    (h : ∀ u H, H.Le (hp u) → B.Le H → Args κ H args.toList [] (fun vs => Ret P f (fs ++ (vs ++ cap)) u H (fun v _ => v = r))) :
    StepOK P F B n ops O κ o d (.is r) := by
  rintro κ' a u hl ⟨H, fp, hh⟩
  unfold After
  rw [if_pos (wanted_gK hh hl hg)]
  have e := hh.env hl
  have hfe : a.eval fo = .func (.func f) fs.toArray cap.toArray := e.is_ fo _ (by simp [hop, Op.operands, Call.operands]) hf
  have hc := Args.use e args.toList [] (fun x hx => by simp [hop, Op.operands, Call.operands] at hx ⊢; exact .inr hx) (h u H e.sub e.base)
  simp only [List.reverse_nil, List.nil_append] at hc
  rw [run_callF L hop hfe hfn]
  simp only [Upon]
  refine Calls.mono hc fun e' u' hp => ?_
  obtain ⟨v, rfl, H', g, hv⟩ := hp
  refine ⟨v, rfl, ?_⟩
  simp only [hd]
  exact ⟨H', fp, (hh.grow g).put (k := .is r) hn trivial hv⟩
end
end Go.V
/- The walks of filters (chapter 3): fields, errors, what is taken, prefixes. -/
namespace Go.V.L3
open Go.Proofs Go.RowKit Go.V Go.V.L2
abbrev fv (f : FT) : Value := .agg #[.string f.1.1.1, .string f.1.1.2, .string f.1.2, .string f.2.1.1.1, .string f.2.1.1.2, .string f.2.1.2, .bool f.2.2]
abbrev tyF : TypeId := 36
/-- The fields of a filter, and those of a tuple. -/
abbrev fdv (f : FT) (t : U) : Value := .agg #[.string f.1.1.1, .string t.1.1.1, .string f.1.1.2, .string t.1.1.2, .string f.1.2, .string t.1.2]
def FZ (f : FT) : Prop := (f.1.1.1.size ≤ 1099511627776 ∧ f.1.1.2.size ≤ 1099511627776 ∧ f.1.2.size ≤ 1099511627776) ∧ f.2.1.1.1.size ≤ 1099511627776 ∧ f.2.1.1.2.size ≤ 1099511627776 ∧ f.2.1.2.size ≤ 1099511627776
instance (f : FT) : Decidable (FZ f) := inferInstanceAs (Decidable (_ ∧ _))
abbrev tNil : U := (n3, n3)
/-- Strings of a filter, as long as strings can be. -/
def FM (f : FT) : Prop := (f.1.1.1.size ≤ 9223372036854775807 ∧ f.1.1.2.size ≤ 9223372036854775807 ∧ f.1.2.size ≤ 9223372036854775807) ∧ f.2.1.1.1.size ≤ 9223372036854775807 ∧ f.2.1.1.2.size ≤ 9223372036854775807 ∧ f.2.1.2.size ≤ 9223372036854775807
attribute [local irreducible] V N X VO Par StepOK Has Ret RetL RetO RetT Src
theorem fields_ret {a b c d e g a' b' c' d' e' g' : ByteArray} {ex : Bool} {w : World} {B : Heap} (hB : B.Le (hp w)) :
    Ret Try.prog 52 [.agg #[.string a, .string b, .string c, .string d, .string e, .string g, .bool ex], .agg #[.string a', .string b', .string c', .string d', .string e', .string g']] w B (fun v _ => v = .agg #[.string a, .string a', .string b, .string b', .string c, .string c']) := by
  refine V_enter Try.func52 rfl Try.ntmps52 (Nat.le_of_ble_eq_true rfl) hB ?_
  refine V_seq ?_; refine V_region (id := 0) ?_; refine vo_step (ok_box rfl rfl rfl rfl) rfl ?_; refine vo_step (ok_box rfl rfl rfl rfl) rfl ?_; refine vo_step (ok_alloc L rfl rfl rfl rfl) rfl ?_; refine vo_nil ?_; refine N_seq ?_; refine V_seq ?_; refine V_region (id := 1) ?_; refine vo_step (ok_fieldAt L rfl rfl rfl rfl) rfl ?_; refine vo_step (ok_load1 L (src_at rfl) rfl rfl rfl rfl) rfl ?_; refine vo_step (ok_fieldAt L rfl rfl rfl rfl) rfl ?_; refine vo_step (ok_fieldAt L rfl rfl rfl rfl) rfl ?_; refine vo_step (ok_fieldAt L rfl rfl rfl rfl) rfl ?_; refine vo_step (ok_load1 L (src_at rfl) rfl rfl rfl rfl) rfl ?_; refine vo_step (ok_build (cs := [_, _]) rfl rfl pl98 rfl rfl) rfl ?_; refine vo_step (ok_fieldAt L rfl rfl rfl rfl) rfl ?_; refine vo_step (ok_load1 L (src_at rfl) rfl rfl rfl rfl) rfl ?_; refine vo_step (ok_fieldAt L rfl rfl rfl rfl) rfl ?_; refine vo_step (ok_fieldAt L rfl rfl rfl rfl) rfl ?_; refine vo_step (ok_fieldAt L rfl rfl rfl rfl) rfl ?_; refine vo_step (ok_load1 L (src_at rfl) rfl rfl rfl rfl) rfl ?_; refine vo_step (ok_build (cs := [_, _]) rfl rfl pl98 rfl rfl) rfl ?_; refine vo_step (ok_fieldAt L rfl rfl rfl rfl) rfl ?_; refine vo_step (ok_load1 L (src_at rfl) rfl rfl rfl rfl) rfl ?_; refine vo_step (ok_fieldAt L rfl rfl rfl rfl) rfl ?_; refine vo_step (ok_fieldAt L rfl rfl rfl rfl) rfl ?_; refine vo_step (ok_load1 L (src_at rfl) rfl rfl rfl rfl) rfl ?_; refine vo_step (ok_build (cs := [_, _]) rfl rfl pl98 rfl rfl) rfl ?_; refine vo_step (ok_build (cs := [_, _, _, _, _, _]) rfl rfl pl99 rfl rfl) rfl ?_; refine vo_step (ok_store L rfl rfl rfl rfl rfl rfl rfl rfl) rfl ?_; refine vo_nil ?_; refine N_seq ?_
  refine V_ret L (rs := [.cell 4 99]) rfl (fun _ _ h => h) Since.refl fun u H hH hle => ?_
  refine resK_cellA (src_own rfl) rfl rfl ?_
  rfl
-- printed by mkfilw.py
set_option maxHeartbeats 2000000 in
theorem takes_ret {f : FT} {t : U} {r : Bool} (hr : takesB f t = r) {w : World} {B : Heap} (hB : B.Le (hp w)) : Ret Try.prog 19 [fv f, uv t] w B (fun v _ => v = .bool r) := by
  subst hr
  refine V_enter Try.func19 rfl Try.ntmps19 (Nat.le_of_ble_eq_true rfl) hB ?_
  refine V_seq ?_; refine V_region (id := 0) ?_; refine vo_step (ok_box rfl rfl rfl rfl) rfl ?_; refine vo_step (ok_box rfl rfl rfl rfl) rfl ?_; refine vo_step (ok_assign rfl rfl rfl) rfl ?_; refine vo_nil ?_; refine N_seq ?_; refine V_seq ?_; refine V_seq ?_; refine V_region (id := 1) ?_; refine vo_step (ok_loadA L (vs := [_, _, _, _, _, _, _]) (src_at rfl) rfl rfl rfl rfl ⟨_, rfl⟩) rfl ?_; refine vo_step (ok_loadA L (vs := [_, _, _, _, _, _]) (src_at rfl) rfl rfl rfl rfl ⟨_, rfl⟩) rfl ?_; refine vo_step (ok_callx L rfl rfl (blt_lt rfl) rfl rfl rfl (fun u H hH _ _ => fields_ret hH)) rfl ?_; refine vo_step (ok_move rfl rfl rfl) rfl ?_; refine vo_nil ?_; refine N_seq ?_; refine V_block ?_
  refine V_loop (fun k : Nat => [(2, .sat (At (fcs f) tyF 0)), (3, .sat (At (ucs t) tyU 0)), (9, .is (fdv f t)), (10, .is (.int .i64 k))])
    (fun k => k ≤ 3 ∧ (0 < k → tkF f.1.1.1 t.1.1.1 = true) ∧ (1 < k → tkF f.1.1.2 t.1.1.2 = true) ∧ (2 < k → tkF f.1.2 t.1.2 = true)) (fun k => 3 - k) 0 ⟨Nat.zero_le _, fun h => (by omega), fun h => (by omega), fun h => (by omega)⟩ ⟨rfl, rfl, rfl, rfl, trivial⟩ ?_
  rintro k ⟨hk, i0, i1, i2⟩
  rcases k with _ | _ | _ | _ | k
  · refine V_seq ?_; refine V_region (id := 2) ?_; refine vo_step (ok_lss rfl rfl rfl rfl (decide_eq_true (by omega))) rfl ?_; refine vo_nil ?_; refine N_seq ?_; refine V_seq ?_; refine V_true rfl ?_; refine V_skip ?_; refine N_seq ?_; refine V_seq ?_; refine V_block ?_; refine V_seq ?_; refine V_region (id := 3) ?_; refine vo_step (ok_indexAg (ys := [_, _]) L _ rfl rfl rfl rfl ar99 rfl rfl (by first | omega | decide) rfl) rfl ?_; refine vo_step (ok_alloc L rfl rfl rfl rfl) rfl ?_; refine vo_step (ok_store L rfl rfl rfl rfl rfl rfl rfl rfl) rfl ?_; refine vo_nil ?_; refine N_seq ?_; refine V_seq ?_
    refine V_box 6 rfl fun b6 hb6 => ?_
    by_cases h1 : f.1.1.1 = ⟨#[]⟩
    · have h1' : ¬ f.1.1.1 ≠ ⟨#[]⟩ := fun h => h h1
      have ht : tkF f.1.1.1 t.1.1.1 = true := by unfold tkF; rw [decide_eq_true h1]; rfl
      refine V_region (id := 4) ?_; refine vo_step (ok_indexAr L _ rfl rfl rfl rfl ar98 rfl rfl (by first | omega | decide)) rfl ?_; refine vo_step (ok_load1 L (src_box rfl (List.Mem.head _)) rfl rfl rfl rfl) rfl ?_; refine vo_step (ok_sneq rfl rfl rfl rfl (decide_eq_false (by assumption))) rfl ?_; refine vo_step (ok_move rfl rfl rfl) rfl ?_; refine vo_step (ok_skip rfl (blt_lt rfl) rfl) rfl ?_; refine vo_step (ok_skip rfl (blt_lt rfl) rfl) rfl ?_; refine vo_step (ok_skip rfl (blt_lt rfl) rfl) rfl ?_; refine vo_step (ok_skip rfl (blt_lt rfl) rfl) rfl ?_; refine vo_step (ok_skip rfl (blt_lt rfl) rfl) rfl ?_; refine vo_step (ok_pick rfl rfl rfl rfl) rfl ?_; refine vo_nil ?_; refine N_seq ?_; refine V_false rfl ?_; refine V_skip ?_; refine N_block ?_; refine N_seq ?_
      refine V_drop (O' := []) (List.nil_sublist _) ?_
      refine V_region (id := 6) ?_; refine vo_step (ok_add rfl rfl rfl rfl (wrap_i64 (by omega) (by omega))) rfl ?_; refine vo_step (ok_move rfl rfl rfl) rfl ?_; refine vo_nil ?_
      exact N_round (x := 0) 1 ⟨by omega, fun _ => ht, fun h => (by omega), fun h => (by omega)⟩ (by decide) ⟨rfl, rfl, rfl, rfl, trivial⟩
    · have h1' : f.1.1.1 ≠ ⟨#[]⟩ := h1
      by_cases h2 : f.1.1.1 = t.1.1.1
      · have h2' : ¬ f.1.1.1 ≠ t.1.1.1 := fun h => h h2
        have ht : tkF f.1.1.1 t.1.1.1 = true := by unfold tkF; rw [decide_eq_true h2]; simp
        refine V_region (id := 4) ?_; refine vo_step (ok_indexAr L _ rfl rfl rfl rfl ar98 rfl rfl (by first | omega | decide)) rfl ?_; refine vo_step (ok_load1 L (src_box rfl (List.Mem.head _)) rfl rfl rfl rfl) rfl ?_; refine vo_step (ok_sneq rfl rfl rfl rfl (decide_eq_true (by assumption))) rfl ?_; refine vo_step (ok_move rfl rfl rfl) rfl ?_; refine vo_step (ok_indexAr L _ rfl rfl rfl rfl ar98 rfl rfl (by first | omega | decide)) rfl ?_; refine vo_step (ok_load1 L (src_box rfl (List.Mem.head _)) rfl rfl rfl rfl) rfl ?_; refine vo_step (ok_indexAr L _ rfl rfl rfl rfl ar98 rfl rfl (by first | omega | decide)) rfl ?_; refine vo_step (ok_load1 L (src_box rfl (List.Mem.head _)) rfl rfl rfl rfl) rfl ?_; refine vo_step (ok_sneq rfl rfl rfl rfl (decide_eq_false (by assumption))) rfl ?_; refine vo_step (ok_pick rfl rfl rfl rfl) rfl ?_; refine vo_nil ?_; refine N_seq ?_; refine V_false rfl ?_; refine V_skip ?_; refine N_block ?_; refine N_seq ?_
        refine V_drop (O' := []) (List.nil_sublist _) ?_
        refine V_region (id := 6) ?_; refine vo_step (ok_add rfl rfl rfl rfl (wrap_i64 (by omega) (by omega))) rfl ?_; refine vo_step (ok_move rfl rfl rfl) rfl ?_; refine vo_nil ?_
        exact N_round (x := 0) 1 ⟨by omega, fun _ => ht, fun h => (by omega), fun h => (by omega)⟩ (by decide) ⟨rfl, rfl, rfl, rfl, trivial⟩
      · have h2' : f.1.1.1 ≠ t.1.1.1 := h2
        have ht : takesB f t = false := by
          have : tkF f.1.1.1 t.1.1.1 = false := by unfold tkF; rw [decide_eq_false h1, decide_eq_false h2]; rfl
          unfold takesB; rw [this]; simp
        rw [ht]
        refine V_region (id := 4) ?_; refine vo_step (ok_indexAr L _ rfl rfl rfl rfl ar98 rfl rfl (by first | omega | decide)) rfl ?_; refine vo_step (ok_load1 L (src_box rfl (List.Mem.head _)) rfl rfl rfl rfl) rfl ?_; refine vo_step (ok_sneq rfl rfl rfl rfl (decide_eq_true (by assumption))) rfl ?_; refine vo_step (ok_move rfl rfl rfl) rfl ?_; refine vo_step (ok_indexAr L _ rfl rfl rfl rfl ar98 rfl rfl (by first | omega | decide)) rfl ?_; refine vo_step (ok_load1 L (src_box rfl (List.Mem.head _)) rfl rfl rfl rfl) rfl ?_; refine vo_step (ok_indexAr L _ rfl rfl rfl rfl ar98 rfl rfl (by first | omega | decide)) rfl ?_; refine vo_step (ok_load1 L (src_box rfl (List.Mem.head _)) rfl rfl rfl rfl) rfl ?_; refine vo_step (ok_sneq rfl rfl rfl rfl (decide_eq_true (by assumption))) rfl ?_; refine vo_step (ok_pick rfl rfl rfl rfl) rfl ?_; refine vo_nil ?_; refine N_seq ?_; refine V_true rfl ?_; refine V_seq ?_; refine V_region (id := 5) ?_; refine vo_step (ok_assign rfl rfl rfl) rfl ?_; refine vo_nil ?_; refine N_seq ?_
        refine V_ret L (rs := [.tmp 4]) rfl (fun _ _ h => h) Since.refl fun u H hH hle => ?_
        rfl
  · refine V_seq ?_; refine V_region (id := 2) ?_; refine vo_step (ok_lss rfl rfl rfl rfl (decide_eq_true (by omega))) rfl ?_; refine vo_nil ?_; refine N_seq ?_; refine V_seq ?_; refine V_true rfl ?_; refine V_skip ?_; refine N_seq ?_; refine V_seq ?_; refine V_block ?_; refine V_seq ?_; refine V_region (id := 3) ?_; refine vo_step (ok_indexAg (ys := [_, _]) L _ rfl rfl rfl rfl ar99 rfl rfl (by first | omega | decide) rfl) rfl ?_; refine vo_step (ok_alloc L rfl rfl rfl rfl) rfl ?_; refine vo_step (ok_store L rfl rfl rfl rfl rfl rfl rfl rfl) rfl ?_; refine vo_nil ?_; refine N_seq ?_; refine V_seq ?_
    refine V_box 6 rfl fun b6 hb6 => ?_
    by_cases h1 : f.1.1.2 = ⟨#[]⟩
    · have h1' : ¬ f.1.1.2 ≠ ⟨#[]⟩ := fun h => h h1
      have ht : tkF f.1.1.2 t.1.1.2 = true := by unfold tkF; rw [decide_eq_true h1]; rfl
      refine V_region (id := 4) ?_; refine vo_step (ok_indexAr L _ rfl rfl rfl rfl ar98 rfl rfl (by first | omega | decide)) rfl ?_; refine vo_step (ok_load1 L (src_box rfl (List.Mem.head _)) rfl rfl rfl rfl) rfl ?_; refine vo_step (ok_sneq rfl rfl rfl rfl (decide_eq_false (by assumption))) rfl ?_; refine vo_step (ok_move rfl rfl rfl) rfl ?_; refine vo_step (ok_skip rfl (blt_lt rfl) rfl) rfl ?_; refine vo_step (ok_skip rfl (blt_lt rfl) rfl) rfl ?_; refine vo_step (ok_skip rfl (blt_lt rfl) rfl) rfl ?_; refine vo_step (ok_skip rfl (blt_lt rfl) rfl) rfl ?_; refine vo_step (ok_skip rfl (blt_lt rfl) rfl) rfl ?_; refine vo_step (ok_pick rfl rfl rfl rfl) rfl ?_; refine vo_nil ?_; refine N_seq ?_; refine V_false rfl ?_; refine V_skip ?_; refine N_block ?_; refine N_seq ?_
      refine V_drop (O' := []) (List.nil_sublist _) ?_
      refine V_region (id := 6) ?_; refine vo_step (ok_add rfl rfl rfl rfl (wrap_i64 (by omega) (by omega))) rfl ?_; refine vo_step (ok_move rfl rfl rfl) rfl ?_; refine vo_nil ?_
      exact N_round (x := 1) 2 ⟨by omega, fun _ => i0 (by omega), fun _ => ht, fun h => (by omega)⟩ (by decide) ⟨rfl, rfl, rfl, rfl, trivial⟩
    · have h1' : f.1.1.2 ≠ ⟨#[]⟩ := h1
      by_cases h2 : f.1.1.2 = t.1.1.2
      · have h2' : ¬ f.1.1.2 ≠ t.1.1.2 := fun h => h h2
        have ht : tkF f.1.1.2 t.1.1.2 = true := by unfold tkF; rw [decide_eq_true h2]; simp
        refine V_region (id := 4) ?_; refine vo_step (ok_indexAr L _ rfl rfl rfl rfl ar98 rfl rfl (by first | omega | decide)) rfl ?_; refine vo_step (ok_load1 L (src_box rfl (List.Mem.head _)) rfl rfl rfl rfl) rfl ?_; refine vo_step (ok_sneq rfl rfl rfl rfl (decide_eq_true (by assumption))) rfl ?_; refine vo_step (ok_move rfl rfl rfl) rfl ?_; refine vo_step (ok_indexAr L _ rfl rfl rfl rfl ar98 rfl rfl (by first | omega | decide)) rfl ?_; refine vo_step (ok_load1 L (src_box rfl (List.Mem.head _)) rfl rfl rfl rfl) rfl ?_; refine vo_step (ok_indexAr L _ rfl rfl rfl rfl ar98 rfl rfl (by first | omega | decide)) rfl ?_; refine vo_step (ok_load1 L (src_box rfl (List.Mem.head _)) rfl rfl rfl rfl) rfl ?_; refine vo_step (ok_sneq rfl rfl rfl rfl (decide_eq_false (by assumption))) rfl ?_; refine vo_step (ok_pick rfl rfl rfl rfl) rfl ?_; refine vo_nil ?_; refine N_seq ?_; refine V_false rfl ?_; refine V_skip ?_; refine N_block ?_; refine N_seq ?_
        refine V_drop (O' := []) (List.nil_sublist _) ?_
        refine V_region (id := 6) ?_; refine vo_step (ok_add rfl rfl rfl rfl (wrap_i64 (by omega) (by omega))) rfl ?_; refine vo_step (ok_move rfl rfl rfl) rfl ?_; refine vo_nil ?_
        exact N_round (x := 1) 2 ⟨by omega, fun _ => i0 (by omega), fun _ => ht, fun h => (by omega)⟩ (by decide) ⟨rfl, rfl, rfl, rfl, trivial⟩
      · have h2' : f.1.1.2 ≠ t.1.1.2 := h2
        have ht : takesB f t = false := by
          have : tkF f.1.1.2 t.1.1.2 = false := by unfold tkF; rw [decide_eq_false h1, decide_eq_false h2]; rfl
          unfold takesB; rw [this]; simp
        rw [ht]
        refine V_region (id := 4) ?_; refine vo_step (ok_indexAr L _ rfl rfl rfl rfl ar98 rfl rfl (by first | omega | decide)) rfl ?_; refine vo_step (ok_load1 L (src_box rfl (List.Mem.head _)) rfl rfl rfl rfl) rfl ?_; refine vo_step (ok_sneq rfl rfl rfl rfl (decide_eq_true (by assumption))) rfl ?_; refine vo_step (ok_move rfl rfl rfl) rfl ?_; refine vo_step (ok_indexAr L _ rfl rfl rfl rfl ar98 rfl rfl (by first | omega | decide)) rfl ?_; refine vo_step (ok_load1 L (src_box rfl (List.Mem.head _)) rfl rfl rfl rfl) rfl ?_; refine vo_step (ok_indexAr L _ rfl rfl rfl rfl ar98 rfl rfl (by first | omega | decide)) rfl ?_; refine vo_step (ok_load1 L (src_box rfl (List.Mem.head _)) rfl rfl rfl rfl) rfl ?_; refine vo_step (ok_sneq rfl rfl rfl rfl (decide_eq_true (by assumption))) rfl ?_; refine vo_step (ok_pick rfl rfl rfl rfl) rfl ?_; refine vo_nil ?_; refine N_seq ?_; refine V_true rfl ?_; refine V_seq ?_; refine V_region (id := 5) ?_; refine vo_step (ok_assign rfl rfl rfl) rfl ?_; refine vo_nil ?_; refine N_seq ?_
        refine V_ret L (rs := [.tmp 4]) rfl (fun _ _ h => h) Since.refl fun u H hH hle => ?_
        rfl
  · refine V_seq ?_; refine V_region (id := 2) ?_; refine vo_step (ok_lss rfl rfl rfl rfl (decide_eq_true (by omega))) rfl ?_; refine vo_nil ?_; refine N_seq ?_; refine V_seq ?_; refine V_true rfl ?_; refine V_skip ?_; refine N_seq ?_; refine V_seq ?_; refine V_block ?_; refine V_seq ?_; refine V_region (id := 3) ?_; refine vo_step (ok_indexAg (ys := [_, _]) L _ rfl rfl rfl rfl ar99 rfl rfl (by first | omega | decide) rfl) rfl ?_; refine vo_step (ok_alloc L rfl rfl rfl rfl) rfl ?_; refine vo_step (ok_store L rfl rfl rfl rfl rfl rfl rfl rfl) rfl ?_; refine vo_nil ?_; refine N_seq ?_; refine V_seq ?_
    refine V_box 6 rfl fun b6 hb6 => ?_
    by_cases h1 : f.1.2 = ⟨#[]⟩
    · have h1' : ¬ f.1.2 ≠ ⟨#[]⟩ := fun h => h h1
      have ht : tkF f.1.2 t.1.2 = true := by unfold tkF; rw [decide_eq_true h1]; rfl
      refine V_region (id := 4) ?_; refine vo_step (ok_indexAr L _ rfl rfl rfl rfl ar98 rfl rfl (by first | omega | decide)) rfl ?_; refine vo_step (ok_load1 L (src_box rfl (List.Mem.head _)) rfl rfl rfl rfl) rfl ?_; refine vo_step (ok_sneq rfl rfl rfl rfl (decide_eq_false (by assumption))) rfl ?_; refine vo_step (ok_move rfl rfl rfl) rfl ?_; refine vo_step (ok_skip rfl (blt_lt rfl) rfl) rfl ?_; refine vo_step (ok_skip rfl (blt_lt rfl) rfl) rfl ?_; refine vo_step (ok_skip rfl (blt_lt rfl) rfl) rfl ?_; refine vo_step (ok_skip rfl (blt_lt rfl) rfl) rfl ?_; refine vo_step (ok_skip rfl (blt_lt rfl) rfl) rfl ?_; refine vo_step (ok_pick rfl rfl rfl rfl) rfl ?_; refine vo_nil ?_; refine N_seq ?_; refine V_false rfl ?_; refine V_skip ?_; refine N_block ?_; refine N_seq ?_
      refine V_drop (O' := []) (List.nil_sublist _) ?_
      refine V_region (id := 6) ?_; refine vo_step (ok_add rfl rfl rfl rfl (wrap_i64 (by omega) (by omega))) rfl ?_; refine vo_step (ok_move rfl rfl rfl) rfl ?_; refine vo_nil ?_
      exact N_round (x := 2) 3 ⟨by omega, fun _ => i0 (by omega), fun _ => i1 (by omega), fun _ => ht⟩ (by decide) ⟨rfl, rfl, rfl, rfl, trivial⟩
    · have h1' : f.1.2 ≠ ⟨#[]⟩ := h1
      by_cases h2 : f.1.2 = t.1.2
      · have h2' : ¬ f.1.2 ≠ t.1.2 := fun h => h h2
        have ht : tkF f.1.2 t.1.2 = true := by unfold tkF; rw [decide_eq_true h2]; simp
        refine V_region (id := 4) ?_; refine vo_step (ok_indexAr L _ rfl rfl rfl rfl ar98 rfl rfl (by first | omega | decide)) rfl ?_; refine vo_step (ok_load1 L (src_box rfl (List.Mem.head _)) rfl rfl rfl rfl) rfl ?_; refine vo_step (ok_sneq rfl rfl rfl rfl (decide_eq_true (by assumption))) rfl ?_; refine vo_step (ok_move rfl rfl rfl) rfl ?_; refine vo_step (ok_indexAr L _ rfl rfl rfl rfl ar98 rfl rfl (by first | omega | decide)) rfl ?_; refine vo_step (ok_load1 L (src_box rfl (List.Mem.head _)) rfl rfl rfl rfl) rfl ?_; refine vo_step (ok_indexAr L _ rfl rfl rfl rfl ar98 rfl rfl (by first | omega | decide)) rfl ?_; refine vo_step (ok_load1 L (src_box rfl (List.Mem.head _)) rfl rfl rfl rfl) rfl ?_; refine vo_step (ok_sneq rfl rfl rfl rfl (decide_eq_false (by assumption))) rfl ?_; refine vo_step (ok_pick rfl rfl rfl rfl) rfl ?_; refine vo_nil ?_; refine N_seq ?_; refine V_false rfl ?_; refine V_skip ?_; refine N_block ?_; refine N_seq ?_
        refine V_drop (O' := []) (List.nil_sublist _) ?_
        refine V_region (id := 6) ?_; refine vo_step (ok_add rfl rfl rfl rfl (wrap_i64 (by omega) (by omega))) rfl ?_; refine vo_step (ok_move rfl rfl rfl) rfl ?_; refine vo_nil ?_
        exact N_round (x := 2) 3 ⟨by omega, fun _ => i0 (by omega), fun _ => i1 (by omega), fun _ => ht⟩ (by decide) ⟨rfl, rfl, rfl, rfl, trivial⟩
      · have h2' : f.1.2 ≠ t.1.2 := h2
        have ht : takesB f t = false := by
          have : tkF f.1.2 t.1.2 = false := by unfold tkF; rw [decide_eq_false h1, decide_eq_false h2]; rfl
          unfold takesB; rw [this]; simp
        rw [ht]
        refine V_region (id := 4) ?_; refine vo_step (ok_indexAr L _ rfl rfl rfl rfl ar98 rfl rfl (by first | omega | decide)) rfl ?_; refine vo_step (ok_load1 L (src_box rfl (List.Mem.head _)) rfl rfl rfl rfl) rfl ?_; refine vo_step (ok_sneq rfl rfl rfl rfl (decide_eq_true (by assumption))) rfl ?_; refine vo_step (ok_move rfl rfl rfl) rfl ?_; refine vo_step (ok_indexAr L _ rfl rfl rfl rfl ar98 rfl rfl (by first | omega | decide)) rfl ?_; refine vo_step (ok_load1 L (src_box rfl (List.Mem.head _)) rfl rfl rfl rfl) rfl ?_; refine vo_step (ok_indexAr L _ rfl rfl rfl rfl ar98 rfl rfl (by first | omega | decide)) rfl ?_; refine vo_step (ok_load1 L (src_box rfl (List.Mem.head _)) rfl rfl rfl rfl) rfl ?_; refine vo_step (ok_sneq rfl rfl rfl rfl (decide_eq_true (by assumption))) rfl ?_; refine vo_step (ok_pick rfl rfl rfl rfl) rfl ?_; refine vo_nil ?_; refine N_seq ?_; refine V_true rfl ?_; refine V_seq ?_; refine V_region (id := 5) ?_; refine vo_step (ok_assign rfl rfl rfl) rfl ?_; refine vo_nil ?_; refine N_seq ?_
        refine V_ret L (rs := [.tmp 4]) rfl (fun _ _ h => h) Since.refl fun u H hH hle => ?_
        rfl
  · have e1 := i0 (by omega)
    have e2 := i1 (by omega)
    have e3 := i2 (by omega)
    have ht : takesB f t = (!f.2.2 || decide (f.2.1 = t.2)) := by unfold takesB; rw [e1, e2, e3]; rfl
    rw [ht]
    cases hx : f.2.2
    · refine V_seq ?_; refine V_region (id := 2) ?_; refine vo_step (ok_lss rfl rfl rfl rfl (decide_eq_false (by omega))) rfl ?_; refine vo_nil ?_; refine N_seq ?_; refine V_seq ?_; refine V_false rfl ?_; refine V_exit ?_; refine X_then ?_; refine X_then ?_; refine X_here ?_; refine N_seq ?_; refine V_seq ?_; refine V_region (id := 7) ?_; refine vo_step (ok_fieldAt L rfl rfl rfl rfl) rfl ?_; refine vo_step (ok_load1 L (src_at rfl) rfl rfl rfl rfl) rfl ?_; rw [hx]; refine vo_step (ok_not rfl rfl rfl rfl) rfl ?_; refine vo_step (ok_move rfl rfl rfl) rfl ?_; refine vo_step (ok_skip rfl (blt_lt rfl) rfl) rfl ?_; refine vo_step (ok_skip rfl (blt_lt rfl) rfl) rfl ?_; refine vo_step (ok_skip rfl (blt_lt rfl) rfl) rfl ?_; refine vo_step (ok_skip rfl (blt_lt rfl) rfl) rfl ?_; refine vo_step (ok_skip rfl (blt_lt rfl) rfl) rfl ?_; refine vo_step (ok_pick rfl rfl rfl rfl) rfl ?_; refine vo_step (ok_assign rfl rfl rfl) rfl ?_; refine vo_nil ?_; refine N_seq ?_
      refine V_ret L (rs := [.tmp 4]) rfl (fun _ _ h => h) Since.refl fun u H hH hle => ?_
      rfl
    · have hq := eq3 (g := f.2.1) (h := t.2) rfl
      refine V_seq ?_; refine V_region (id := 2) ?_; refine vo_step (ok_lss rfl rfl rfl rfl (decide_eq_false (by omega))) rfl ?_; refine vo_nil ?_; refine N_seq ?_; refine V_seq ?_; refine V_false rfl ?_; refine V_exit ?_; refine X_then ?_; refine X_then ?_; refine X_here ?_; refine N_seq ?_; refine V_seq ?_; refine V_region (id := 7) ?_; refine vo_step (ok_fieldAt L rfl rfl rfl rfl) rfl ?_; refine vo_step (ok_load1 L (src_at rfl) rfl rfl rfl rfl) rfl ?_; rw [hx]; refine vo_step (ok_not rfl rfl rfl rfl) rfl ?_; refine vo_step (ok_move rfl rfl rfl) rfl ?_; refine vo_step (ok_fieldAt L rfl rfl rfl rfl) rfl ?_; refine vo_step (ok_loadA L (vs := [_, _, _]) (src_at rfl) rfl rfl rfl rfl ⟨_, rfl⟩) rfl ?_; refine vo_step (ok_fieldAt L rfl rfl rfl rfl) rfl ?_; refine vo_step (ok_loadA L (vs := [_, _, _]) (src_at rfl) rfl rfl rfl rfl ⟨_, rfl⟩) rfl ?_; refine vo_step (ok_aeql rfl rfl rfl rfl eq34 (by assumption) rfl) rfl ?_; refine vo_step (ok_pick rfl rfl rfl rfl) rfl ?_; refine vo_step (ok_assign rfl rfl rfl) rfl ?_; refine vo_nil ?_; refine N_seq ?_
      refine V_ret L (rs := [.tmp 4]) rfl (fun _ _ h => h) Since.refl fun u H hH hle => ?_
      rfl
  · omega
theorem bad_nil {x : ByteArray} (h : x = ⟨#[]⟩) : badF x = false := by unfold badF; rw [decide_eq_true h]; rfl
theorem bad_ok {x : ByteArray} (h : chk x = 0) : badF x = false := by unfold badF; rw [decide_eq_true h]; simp
theorem bad_yes {x : ByteArray} (h : ¬ x = ⟨#[]⟩) (h2 : ¬ chk x = 0) : badF x = true := by unfold badF; rw [decide_eq_false h, decide_eq_false h2]; rfl
set_option maxHeartbeats 4000000 in
theorem fcheck_ret {f : FT} (hz : FM f) {r : Int} (hr : fE f = r) {w : World} {B : Heap} (hB : B.Le (hp w)) : Ret Try.prog 25 [fv f] w B (fun v _ => v = .int .i64 r) := by
  subst hr
  obtain ⟨f1, s1, ex⟩ := f
  obtain ⟨⟨z1, z2, z3⟩, z4, z5, z6⟩ := hz
  dsimp only at z1 z2 z3 z4 z5 z6
  refine V_enter Try.func25 rfl Try.ntmps25 (Nat.le_of_ble_eq_true rfl) hB ?_
  by_cases hx : ex = false ∧ ¬ s1 = n3
  · obtain ⟨rfl, hx2⟩ := hx
    have hq := eq3 (decide_eq_false hx2)
    have he : fE (f1, s1, false) = 5 := if_pos ⟨rfl, hx2⟩
    rw [he]
    refine V_seq ?_; refine V_region (id := 0) ?_; refine vo_step (ok_box rfl rfl rfl rfl) rfl ?_; refine vo_step (ok_assign rfl rfl rfl) rfl ?_; refine vo_nil ?_; refine N_seq ?_; refine V_seq ?_; refine V_seq ?_; refine V_region (id := 1) ?_; refine vo_step (ok_fieldAt L rfl rfl rfl rfl) rfl ?_; refine vo_step (ok_load1 L (src_at rfl) rfl rfl rfl rfl) rfl ?_; refine vo_step (ok_not rfl rfl rfl rfl) rfl ?_; refine vo_step (ok_move rfl rfl rfl) rfl ?_; refine vo_step (ok_fieldAt L rfl rfl rfl rfl) rfl ?_; refine vo_step (ok_loadA L (vs := [_, _, _]) (src_at rfl) rfl rfl rfl rfl ⟨_, rfl⟩) rfl ?_; refine vo_step (ok_build (cs := [_, _, _]) rfl rfl pl34 rfl rfl) rfl ?_; refine vo_step (ok_aneq rfl rfl rfl rfl eq34 (by assumption) rfl) rfl ?_; refine vo_step (ok_pick rfl rfl rfl rfl) rfl ?_; refine vo_nil ?_; refine N_seq ?_; refine V_true rfl ?_; refine V_seq ?_; refine V_region (id := 2) ?_; refine vo_step (ok_assign rfl rfl rfl) rfl ?_; refine vo_nil ?_; refine N_seq ?_
    refine V_ret L (rs := [.tmp 2]) rfl (fun _ _ h => h) Since.refl fun u H hH hle => ?_
    rfl
  · have he : fE (f1, s1, ex) = if (badF f1.1.1 || badF f1.1.2 || badF f1.2) = true then 6 else if ex = true then subjE s1.1.1 s1.1.2 s1.2 else 0 := if_neg hx
    rw [he]
    cases ex
    · have hs : s1 = n3 := Classical.not_not.1 fun h => hx ⟨rfl, h⟩
      have hq := eq3 (decide_eq_true hs)
      refine V_seq ?_; refine V_region (id := 0) ?_; refine vo_step (ok_box rfl rfl rfl rfl) rfl ?_; refine vo_step (ok_assign rfl rfl rfl) rfl ?_; refine vo_nil ?_; refine N_seq ?_; refine V_seq ?_; refine V_seq ?_; refine V_region (id := 1) ?_; refine vo_step (ok_fieldAt L rfl rfl rfl rfl) rfl ?_; refine vo_step (ok_load1 L (src_at rfl) rfl rfl rfl rfl) rfl ?_; refine vo_step (ok_not rfl rfl rfl rfl) rfl ?_; refine vo_step (ok_move rfl rfl rfl) rfl ?_; refine vo_step (ok_fieldAt L rfl rfl rfl rfl) rfl ?_; refine vo_step (ok_loadA L (vs := [_, _, _]) (src_at rfl) rfl rfl rfl rfl ⟨_, rfl⟩) rfl ?_; refine vo_step (ok_build (cs := [_, _, _]) rfl rfl pl34 rfl rfl) rfl ?_; refine vo_step (ok_aneq rfl rfl rfl rfl eq34 (by assumption) rfl) rfl ?_; refine vo_step (ok_pick rfl rfl rfl rfl) rfl ?_; refine vo_nil ?_; refine N_seq ?_; refine V_false rfl ?_; refine V_skip ?_; refine N_seq ?_; refine V_seq ?_; refine V_seq ?_; refine V_region (id := 3) ?_; refine vo_step (ok_loadA L (vs := [_, _, _, _, _, _, _]) (src_at rfl) rfl rfl rfl rfl ⟨_, rfl⟩) rfl ?_; refine vo_step (ok_build (cs := [_, _, _, _, _, _]) rfl rfl pl51 rfl rfl) rfl ?_; refine vo_step (ok_callx L rfl rfl (blt_lt rfl) rfl rfl rfl (fun u H hH _ _ => fields_ret hH)) rfl ?_; refine vo_step (ok_move rfl rfl rfl) rfl ?_; refine vo_nil ?_; refine N_seq ?_; refine V_block ?_
      refine V_loop (fun k : Nat => [(1, .sat (At [.string f1.1.1, .string f1.1.2, .string f1.2, .string s1.1.1, .string s1.1.2, .string s1.2, .bool false] tyF 0)), (16, .is (.agg #[.string f1.1.1, .string ⟨#[]⟩, .string f1.1.2, .string ⟨#[]⟩, .string f1.2, .string ⟨#[]⟩])), (17, .is (.int .i64 k))])
        (fun k => k ≤ 3 ∧ (0 < k → badF f1.1.1 = false) ∧ (1 < k → badF f1.1.2 = false) ∧ (2 < k → badF f1.2 = false)) (fun k => 3 - k) 0 ⟨Nat.zero_le _, fun h => (by omega), fun h => (by omega), fun h => (by omega)⟩ ⟨rfl, rfl, rfl, trivial⟩ ?_
      rintro k ⟨hk, i0, i1, i2⟩
      rcases k with _ | _ | _ | _ | k
      · refine V_seq ?_; refine V_region (id := 4) ?_; refine vo_step (ok_lss rfl rfl rfl rfl (decide_eq_true (by omega))) rfl ?_; refine vo_nil ?_; refine N_seq ?_; refine V_seq ?_; refine V_true rfl ?_; refine V_skip ?_; refine N_seq ?_; refine V_seq ?_; refine V_block ?_; refine V_seq ?_; refine V_region (id := 5) ?_; refine vo_step (ok_indexAg (ys := [_, _]) L _ rfl rfl rfl rfl ar99 rfl rfl (by first | omega | decide) rfl) rfl ?_; refine vo_step (ok_alloc L rfl rfl rfl rfl) rfl ?_; refine vo_step (ok_store L rfl rfl rfl rfl rfl rfl rfl rfl) rfl ?_; refine vo_nil ?_; refine N_seq ?_; refine V_seq ?_
        refine V_box 4 rfl fun b4 hb4 => ?_
        by_cases h1 : f1.1.1 = ⟨#[]⟩
        · have h1' : ¬ f1.1.1 ≠ ⟨#[]⟩ := fun h => h h1
          have ht := bad_nil h1
          refine V_region (id := 6) ?_; refine vo_step (ok_indexAr L _ rfl rfl rfl rfl ar98 rfl rfl (by first | omega | decide)) rfl ?_; refine vo_step (ok_load1 L (src_box rfl (List.Mem.head _)) rfl rfl rfl rfl) rfl ?_; refine vo_step (ok_sneq rfl rfl rfl rfl (decide_eq_false (by assumption))) rfl ?_; refine vo_step (ok_move rfl rfl rfl) rfl ?_; refine vo_step (ok_skip rfl (blt_lt rfl) rfl) rfl ?_; refine vo_step (ok_skip rfl (blt_lt rfl) rfl) rfl ?_; refine vo_step (ok_skip rfl (blt_lt rfl) rfl) rfl ?_; refine vo_step (ok_skip rfl (blt_lt rfl) rfl) rfl ?_; refine vo_step (ok_pick rfl rfl rfl rfl) rfl ?_; refine vo_nil ?_; refine N_seq ?_; refine V_false rfl ?_; refine V_skip ?_; refine N_block ?_; refine N_seq ?_
          refine V_drop (O' := []) (List.nil_sublist _) ?_
          refine V_region (id := 8) ?_; refine vo_step (ok_add rfl rfl rfl rfl (wrap_i64 (by omega) (by omega))) rfl ?_; refine vo_step (ok_move rfl rfl rfl) rfl ?_; refine vo_nil ?_
          exact N_round (x := 0) 1 ⟨by omega, fun _ => ht, fun h => (by omega), fun h => (by omega)⟩ (by decide) ⟨rfl, rfl, rfl, trivial⟩
        · have h1' : f1.1.1 ≠ ⟨#[]⟩ := h1
          by_cases h2 : chk f1.1.1 = 0
          · have ht := bad_ok h2
            refine V_region (id := 6) ?_; refine vo_step (ok_indexAr L _ rfl rfl rfl rfl ar98 rfl rfl (by first | omega | decide)) rfl ?_; refine vo_step (ok_load1 L (src_box rfl (List.Mem.head _)) rfl rfl rfl rfl) rfl ?_; refine vo_step (ok_sneq rfl rfl rfl rfl (decide_eq_true (by assumption))) rfl ?_; refine vo_step (ok_move rfl rfl rfl) rfl ?_; refine vo_step (ok_indexAr L _ rfl rfl rfl rfl ar98 rfl rfl (by first | omega | decide)) rfl ?_; refine vo_step (ok_load1 L (src_box rfl (List.Mem.head _)) rfl rfl rfl rfl) rfl ?_; refine vo_step (ok_callx L rfl rfl (blt_lt rfl) rfl rfl rfl (fun u H hH _ _ => check_ret _ (by omega) hH)) rfl ?_; refine vo_step (ok_neq rfl rfl rfl rfl (decide_eq_false (by omega))) rfl ?_; refine vo_step (ok_pick rfl rfl rfl rfl) rfl ?_; refine vo_nil ?_; refine N_seq ?_; refine V_false rfl ?_; refine V_skip ?_; refine N_block ?_; refine N_seq ?_
            refine V_drop (O' := []) (List.nil_sublist _) ?_
            refine V_region (id := 8) ?_; refine vo_step (ok_add rfl rfl rfl rfl (wrap_i64 (by omega) (by omega))) rfl ?_; refine vo_step (ok_move rfl rfl rfl) rfl ?_; refine vo_nil ?_
            exact N_round (x := 0) 1 ⟨by omega, fun _ => ht, fun h => (by omega), fun h => (by omega)⟩ (by decide) ⟨rfl, rfl, rfl, trivial⟩
          · have ht : (badF f1.1.1 || badF f1.1.2 || badF f1.2) = true := by rw [bad_yes h1 h2]; simp
            rw [if_pos ht]
            refine V_region (id := 6) ?_; refine vo_step (ok_indexAr L _ rfl rfl rfl rfl ar98 rfl rfl (by first | omega | decide)) rfl ?_; refine vo_step (ok_load1 L (src_box rfl (List.Mem.head _)) rfl rfl rfl rfl) rfl ?_; refine vo_step (ok_sneq rfl rfl rfl rfl (decide_eq_true (by assumption))) rfl ?_; refine vo_step (ok_move rfl rfl rfl) rfl ?_; refine vo_step (ok_indexAr L _ rfl rfl rfl rfl ar98 rfl rfl (by first | omega | decide)) rfl ?_; refine vo_step (ok_load1 L (src_box rfl (List.Mem.head _)) rfl rfl rfl rfl) rfl ?_; refine vo_step (ok_callx L rfl rfl (blt_lt rfl) rfl rfl rfl (fun u H hH _ _ => check_ret _ (by omega) hH)) rfl ?_; refine vo_step (ok_neq rfl rfl rfl rfl (decide_eq_true (by omega))) rfl ?_; refine vo_step (ok_pick rfl rfl rfl rfl) rfl ?_; refine vo_nil ?_; refine N_seq ?_; refine V_true rfl ?_; refine V_seq ?_; refine V_region (id := 7) ?_; refine vo_step (ok_assign rfl rfl rfl) rfl ?_; refine vo_nil ?_; refine N_seq ?_
            refine V_ret L (rs := [.tmp 2]) rfl (fun _ _ h => h) Since.refl fun u H hH hle => ?_
            rfl
      · refine V_seq ?_; refine V_region (id := 4) ?_; refine vo_step (ok_lss rfl rfl rfl rfl (decide_eq_true (by omega))) rfl ?_; refine vo_nil ?_; refine N_seq ?_; refine V_seq ?_; refine V_true rfl ?_; refine V_skip ?_; refine N_seq ?_; refine V_seq ?_; refine V_block ?_; refine V_seq ?_; refine V_region (id := 5) ?_; refine vo_step (ok_indexAg (ys := [_, _]) L _ rfl rfl rfl rfl ar99 rfl rfl (by first | omega | decide) rfl) rfl ?_; refine vo_step (ok_alloc L rfl rfl rfl rfl) rfl ?_; refine vo_step (ok_store L rfl rfl rfl rfl rfl rfl rfl rfl) rfl ?_; refine vo_nil ?_; refine N_seq ?_; refine V_seq ?_
        refine V_box 4 rfl fun b4 hb4 => ?_
        by_cases h1 : f1.1.2 = ⟨#[]⟩
        · have h1' : ¬ f1.1.2 ≠ ⟨#[]⟩ := fun h => h h1
          have ht := bad_nil h1
          refine V_region (id := 6) ?_; refine vo_step (ok_indexAr L _ rfl rfl rfl rfl ar98 rfl rfl (by first | omega | decide)) rfl ?_; refine vo_step (ok_load1 L (src_box rfl (List.Mem.head _)) rfl rfl rfl rfl) rfl ?_; refine vo_step (ok_sneq rfl rfl rfl rfl (decide_eq_false (by assumption))) rfl ?_; refine vo_step (ok_move rfl rfl rfl) rfl ?_; refine vo_step (ok_skip rfl (blt_lt rfl) rfl) rfl ?_; refine vo_step (ok_skip rfl (blt_lt rfl) rfl) rfl ?_; refine vo_step (ok_skip rfl (blt_lt rfl) rfl) rfl ?_; refine vo_step (ok_skip rfl (blt_lt rfl) rfl) rfl ?_; refine vo_step (ok_pick rfl rfl rfl rfl) rfl ?_; refine vo_nil ?_; refine N_seq ?_; refine V_false rfl ?_; refine V_skip ?_; refine N_block ?_; refine N_seq ?_
          refine V_drop (O' := []) (List.nil_sublist _) ?_
          refine V_region (id := 8) ?_; refine vo_step (ok_add rfl rfl rfl rfl (wrap_i64 (by omega) (by omega))) rfl ?_; refine vo_step (ok_move rfl rfl rfl) rfl ?_; refine vo_nil ?_
          exact N_round (x := 1) 2 ⟨by omega, fun _ => i0 (by omega), fun _ => ht, fun h => (by omega)⟩ (by decide) ⟨rfl, rfl, rfl, trivial⟩
        · have h1' : f1.1.2 ≠ ⟨#[]⟩ := h1
          by_cases h2 : chk f1.1.2 = 0
          · have ht := bad_ok h2
            refine V_region (id := 6) ?_; refine vo_step (ok_indexAr L _ rfl rfl rfl rfl ar98 rfl rfl (by first | omega | decide)) rfl ?_; refine vo_step (ok_load1 L (src_box rfl (List.Mem.head _)) rfl rfl rfl rfl) rfl ?_; refine vo_step (ok_sneq rfl rfl rfl rfl (decide_eq_true (by assumption))) rfl ?_; refine vo_step (ok_move rfl rfl rfl) rfl ?_; refine vo_step (ok_indexAr L _ rfl rfl rfl rfl ar98 rfl rfl (by first | omega | decide)) rfl ?_; refine vo_step (ok_load1 L (src_box rfl (List.Mem.head _)) rfl rfl rfl rfl) rfl ?_; refine vo_step (ok_callx L rfl rfl (blt_lt rfl) rfl rfl rfl (fun u H hH _ _ => check_ret _ (by omega) hH)) rfl ?_; refine vo_step (ok_neq rfl rfl rfl rfl (decide_eq_false (by omega))) rfl ?_; refine vo_step (ok_pick rfl rfl rfl rfl) rfl ?_; refine vo_nil ?_; refine N_seq ?_; refine V_false rfl ?_; refine V_skip ?_; refine N_block ?_; refine N_seq ?_
            refine V_drop (O' := []) (List.nil_sublist _) ?_
            refine V_region (id := 8) ?_; refine vo_step (ok_add rfl rfl rfl rfl (wrap_i64 (by omega) (by omega))) rfl ?_; refine vo_step (ok_move rfl rfl rfl) rfl ?_; refine vo_nil ?_
            exact N_round (x := 1) 2 ⟨by omega, fun _ => i0 (by omega), fun _ => ht, fun h => (by omega)⟩ (by decide) ⟨rfl, rfl, rfl, trivial⟩
          · have ht : (badF f1.1.1 || badF f1.1.2 || badF f1.2) = true := by rw [bad_yes h1 h2]; simp
            rw [if_pos ht]
            refine V_region (id := 6) ?_; refine vo_step (ok_indexAr L _ rfl rfl rfl rfl ar98 rfl rfl (by first | omega | decide)) rfl ?_; refine vo_step (ok_load1 L (src_box rfl (List.Mem.head _)) rfl rfl rfl rfl) rfl ?_; refine vo_step (ok_sneq rfl rfl rfl rfl (decide_eq_true (by assumption))) rfl ?_; refine vo_step (ok_move rfl rfl rfl) rfl ?_; refine vo_step (ok_indexAr L _ rfl rfl rfl rfl ar98 rfl rfl (by first | omega | decide)) rfl ?_; refine vo_step (ok_load1 L (src_box rfl (List.Mem.head _)) rfl rfl rfl rfl) rfl ?_; refine vo_step (ok_callx L rfl rfl (blt_lt rfl) rfl rfl rfl (fun u H hH _ _ => check_ret _ (by omega) hH)) rfl ?_; refine vo_step (ok_neq rfl rfl rfl rfl (decide_eq_true (by omega))) rfl ?_; refine vo_step (ok_pick rfl rfl rfl rfl) rfl ?_; refine vo_nil ?_; refine N_seq ?_; refine V_true rfl ?_; refine V_seq ?_; refine V_region (id := 7) ?_; refine vo_step (ok_assign rfl rfl rfl) rfl ?_; refine vo_nil ?_; refine N_seq ?_
            refine V_ret L (rs := [.tmp 2]) rfl (fun _ _ h => h) Since.refl fun u H hH hle => ?_
            rfl
      · refine V_seq ?_; refine V_region (id := 4) ?_; refine vo_step (ok_lss rfl rfl rfl rfl (decide_eq_true (by omega))) rfl ?_; refine vo_nil ?_; refine N_seq ?_; refine V_seq ?_; refine V_true rfl ?_; refine V_skip ?_; refine N_seq ?_; refine V_seq ?_; refine V_block ?_; refine V_seq ?_; refine V_region (id := 5) ?_; refine vo_step (ok_indexAg (ys := [_, _]) L _ rfl rfl rfl rfl ar99 rfl rfl (by first | omega | decide) rfl) rfl ?_; refine vo_step (ok_alloc L rfl rfl rfl rfl) rfl ?_; refine vo_step (ok_store L rfl rfl rfl rfl rfl rfl rfl rfl) rfl ?_; refine vo_nil ?_; refine N_seq ?_; refine V_seq ?_
        refine V_box 4 rfl fun b4 hb4 => ?_
        by_cases h1 : f1.2 = ⟨#[]⟩
        · have h1' : ¬ f1.2 ≠ ⟨#[]⟩ := fun h => h h1
          have ht := bad_nil h1
          refine V_region (id := 6) ?_; refine vo_step (ok_indexAr L _ rfl rfl rfl rfl ar98 rfl rfl (by first | omega | decide)) rfl ?_; refine vo_step (ok_load1 L (src_box rfl (List.Mem.head _)) rfl rfl rfl rfl) rfl ?_; refine vo_step (ok_sneq rfl rfl rfl rfl (decide_eq_false (by assumption))) rfl ?_; refine vo_step (ok_move rfl rfl rfl) rfl ?_; refine vo_step (ok_skip rfl (blt_lt rfl) rfl) rfl ?_; refine vo_step (ok_skip rfl (blt_lt rfl) rfl) rfl ?_; refine vo_step (ok_skip rfl (blt_lt rfl) rfl) rfl ?_; refine vo_step (ok_skip rfl (blt_lt rfl) rfl) rfl ?_; refine vo_step (ok_pick rfl rfl rfl rfl) rfl ?_; refine vo_nil ?_; refine N_seq ?_; refine V_false rfl ?_; refine V_skip ?_; refine N_block ?_; refine N_seq ?_
          refine V_drop (O' := []) (List.nil_sublist _) ?_
          refine V_region (id := 8) ?_; refine vo_step (ok_add rfl rfl rfl rfl (wrap_i64 (by omega) (by omega))) rfl ?_; refine vo_step (ok_move rfl rfl rfl) rfl ?_; refine vo_nil ?_
          exact N_round (x := 2) 3 ⟨by omega, fun _ => i0 (by omega), fun _ => i1 (by omega), fun _ => ht⟩ (by decide) ⟨rfl, rfl, rfl, trivial⟩
        · have h1' : f1.2 ≠ ⟨#[]⟩ := h1
          by_cases h2 : chk f1.2 = 0
          · have ht := bad_ok h2
            refine V_region (id := 6) ?_; refine vo_step (ok_indexAr L _ rfl rfl rfl rfl ar98 rfl rfl (by first | omega | decide)) rfl ?_; refine vo_step (ok_load1 L (src_box rfl (List.Mem.head _)) rfl rfl rfl rfl) rfl ?_; refine vo_step (ok_sneq rfl rfl rfl rfl (decide_eq_true (by assumption))) rfl ?_; refine vo_step (ok_move rfl rfl rfl) rfl ?_; refine vo_step (ok_indexAr L _ rfl rfl rfl rfl ar98 rfl rfl (by first | omega | decide)) rfl ?_; refine vo_step (ok_load1 L (src_box rfl (List.Mem.head _)) rfl rfl rfl rfl) rfl ?_; refine vo_step (ok_callx L rfl rfl (blt_lt rfl) rfl rfl rfl (fun u H hH _ _ => check_ret _ (by omega) hH)) rfl ?_; refine vo_step (ok_neq rfl rfl rfl rfl (decide_eq_false (by omega))) rfl ?_; refine vo_step (ok_pick rfl rfl rfl rfl) rfl ?_; refine vo_nil ?_; refine N_seq ?_; refine V_false rfl ?_; refine V_skip ?_; refine N_block ?_; refine N_seq ?_
            refine V_drop (O' := []) (List.nil_sublist _) ?_
            refine V_region (id := 8) ?_; refine vo_step (ok_add rfl rfl rfl rfl (wrap_i64 (by omega) (by omega))) rfl ?_; refine vo_step (ok_move rfl rfl rfl) rfl ?_; refine vo_nil ?_
            exact N_round (x := 2) 3 ⟨by omega, fun _ => i0 (by omega), fun _ => i1 (by omega), fun _ => ht⟩ (by decide) ⟨rfl, rfl, rfl, trivial⟩
          · have ht : (badF f1.1.1 || badF f1.1.2 || badF f1.2) = true := by rw [bad_yes h1 h2]; simp
            rw [if_pos ht]
            refine V_region (id := 6) ?_; refine vo_step (ok_indexAr L _ rfl rfl rfl rfl ar98 rfl rfl (by first | omega | decide)) rfl ?_; refine vo_step (ok_load1 L (src_box rfl (List.Mem.head _)) rfl rfl rfl rfl) rfl ?_; refine vo_step (ok_sneq rfl rfl rfl rfl (decide_eq_true (by assumption))) rfl ?_; refine vo_step (ok_move rfl rfl rfl) rfl ?_; refine vo_step (ok_indexAr L _ rfl rfl rfl rfl ar98 rfl rfl (by first | omega | decide)) rfl ?_; refine vo_step (ok_load1 L (src_box rfl (List.Mem.head _)) rfl rfl rfl rfl) rfl ?_; refine vo_step (ok_callx L rfl rfl (blt_lt rfl) rfl rfl rfl (fun u H hH _ _ => check_ret _ (by omega) hH)) rfl ?_; refine vo_step (ok_neq rfl rfl rfl rfl (decide_eq_true (by omega))) rfl ?_; refine vo_step (ok_pick rfl rfl rfl rfl) rfl ?_; refine vo_nil ?_; refine N_seq ?_; refine V_true rfl ?_; refine V_seq ?_; refine V_region (id := 7) ?_; refine vo_step (ok_assign rfl rfl rfl) rfl ?_; refine vo_nil ?_; refine N_seq ?_
            refine V_ret L (rs := [.tmp 2]) rfl (fun _ _ h => h) Since.refl fun u H hH hle => ?_
            rfl
      · have ht : ¬ (badF f1.1.1 || badF f1.1.2 || badF f1.2) = true := by rw [i0 (by omega), i1 (by omega), i2 (by omega)]; decide
        rw [if_neg ht, if_neg (by decide)]
        refine V_seq ?_; refine V_region (id := 4) ?_; refine vo_step (ok_lss rfl rfl rfl rfl (decide_eq_false (by omega))) rfl ?_; refine vo_nil ?_; refine N_seq ?_; refine V_seq ?_; refine V_false rfl ?_; refine V_exit ?_; refine X_then ?_; refine X_then ?_; refine X_here ?_; refine N_seq ?_; refine V_seq ?_; refine V_seq ?_; refine V_region (id := 9) ?_; refine vo_step (ok_fieldAt L rfl rfl rfl rfl) rfl ?_; refine vo_step (ok_load1 L (src_at rfl) rfl rfl rfl rfl) rfl ?_; refine vo_nil ?_; refine N_seq ?_; refine V_false rfl ?_; refine V_skip ?_; refine N_seq ?_; refine V_seq ?_; refine V_region (id := 11) ?_; refine vo_step (ok_assign rfl rfl rfl) rfl ?_; refine vo_nil ?_; refine N_seq ?_
        refine V_ret L (rs := [.tmp 2]) rfl (fun _ _ h => h) Since.refl fun u H hH hle => ?_
        rfl
      · omega
    · refine V_seq ?_; refine V_region (id := 0) ?_; refine vo_step (ok_box rfl rfl rfl rfl) rfl ?_; refine vo_step (ok_assign rfl rfl rfl) rfl ?_; refine vo_nil ?_; refine N_seq ?_; refine V_seq ?_; refine V_seq ?_; refine V_region (id := 1) ?_; refine vo_step (ok_fieldAt L rfl rfl rfl rfl) rfl ?_; refine vo_step (ok_load1 L (src_at rfl) rfl rfl rfl rfl) rfl ?_; refine vo_step (ok_not rfl rfl rfl rfl) rfl ?_; refine vo_step (ok_move rfl rfl rfl) rfl ?_; refine vo_step (ok_skip rfl (blt_lt rfl) rfl) rfl ?_; refine vo_step (ok_skip rfl (blt_lt rfl) rfl) rfl ?_; refine vo_step (ok_skip rfl (blt_lt rfl) rfl) rfl ?_; refine vo_step (ok_skip rfl (blt_lt rfl) rfl) rfl ?_; refine vo_step (ok_pick rfl rfl rfl rfl) rfl ?_; refine vo_nil ?_; refine N_seq ?_; refine V_false rfl ?_; refine V_skip ?_; refine N_seq ?_; refine V_seq ?_; refine V_seq ?_; refine V_region (id := 3) ?_; refine vo_step (ok_loadA L (vs := [_, _, _, _, _, _, _]) (src_at rfl) rfl rfl rfl rfl ⟨_, rfl⟩) rfl ?_; refine vo_step (ok_build (cs := [_, _, _, _, _, _]) rfl rfl pl51 rfl rfl) rfl ?_; refine vo_step (ok_callx L rfl rfl (blt_lt rfl) rfl rfl rfl (fun u H hH _ _ => fields_ret hH)) rfl ?_; refine vo_step (ok_move rfl rfl rfl) rfl ?_; refine vo_nil ?_; refine N_seq ?_; refine V_block ?_
      refine V_loop (fun k : Nat => [(1, .sat (At [.string f1.1.1, .string f1.1.2, .string f1.2, .string s1.1.1, .string s1.1.2, .string s1.2, .bool true] tyF 0)), (16, .is (.agg #[.string f1.1.1, .string ⟨#[]⟩, .string f1.1.2, .string ⟨#[]⟩, .string f1.2, .string ⟨#[]⟩])), (17, .is (.int .i64 k))])
        (fun k => k ≤ 3 ∧ (0 < k → badF f1.1.1 = false) ∧ (1 < k → badF f1.1.2 = false) ∧ (2 < k → badF f1.2 = false)) (fun k => 3 - k) 0 ⟨Nat.zero_le _, fun h => (by omega), fun h => (by omega), fun h => (by omega)⟩ ⟨rfl, rfl, rfl, trivial⟩ ?_
      rintro k ⟨hk, i0, i1, i2⟩
      rcases k with _ | _ | _ | _ | k
      · refine V_seq ?_; refine V_region (id := 4) ?_; refine vo_step (ok_lss rfl rfl rfl rfl (decide_eq_true (by omega))) rfl ?_; refine vo_nil ?_; refine N_seq ?_; refine V_seq ?_; refine V_true rfl ?_; refine V_skip ?_; refine N_seq ?_; refine V_seq ?_; refine V_block ?_; refine V_seq ?_; refine V_region (id := 5) ?_; refine vo_step (ok_indexAg (ys := [_, _]) L _ rfl rfl rfl rfl ar99 rfl rfl (by first | omega | decide) rfl) rfl ?_; refine vo_step (ok_alloc L rfl rfl rfl rfl) rfl ?_; refine vo_step (ok_store L rfl rfl rfl rfl rfl rfl rfl rfl) rfl ?_; refine vo_nil ?_; refine N_seq ?_; refine V_seq ?_
        refine V_box 4 rfl fun b4 hb4 => ?_
        by_cases h1 : f1.1.1 = ⟨#[]⟩
        · have h1' : ¬ f1.1.1 ≠ ⟨#[]⟩ := fun h => h h1
          have ht := bad_nil h1
          refine V_region (id := 6) ?_; refine vo_step (ok_indexAr L _ rfl rfl rfl rfl ar98 rfl rfl (by first | omega | decide)) rfl ?_; refine vo_step (ok_load1 L (src_box rfl (List.Mem.head _)) rfl rfl rfl rfl) rfl ?_; refine vo_step (ok_sneq rfl rfl rfl rfl (decide_eq_false (by assumption))) rfl ?_; refine vo_step (ok_move rfl rfl rfl) rfl ?_; refine vo_step (ok_skip rfl (blt_lt rfl) rfl) rfl ?_; refine vo_step (ok_skip rfl (blt_lt rfl) rfl) rfl ?_; refine vo_step (ok_skip rfl (blt_lt rfl) rfl) rfl ?_; refine vo_step (ok_skip rfl (blt_lt rfl) rfl) rfl ?_; refine vo_step (ok_pick rfl rfl rfl rfl) rfl ?_; refine vo_nil ?_; refine N_seq ?_; refine V_false rfl ?_; refine V_skip ?_; refine N_block ?_; refine N_seq ?_
          refine V_drop (O' := []) (List.nil_sublist _) ?_
          refine V_region (id := 8) ?_; refine vo_step (ok_add rfl rfl rfl rfl (wrap_i64 (by omega) (by omega))) rfl ?_; refine vo_step (ok_move rfl rfl rfl) rfl ?_; refine vo_nil ?_
          exact N_round (x := 0) 1 ⟨by omega, fun _ => ht, fun h => (by omega), fun h => (by omega)⟩ (by decide) ⟨rfl, rfl, rfl, trivial⟩
        · have h1' : f1.1.1 ≠ ⟨#[]⟩ := h1
          by_cases h2 : chk f1.1.1 = 0
          · have ht := bad_ok h2
            refine V_region (id := 6) ?_; refine vo_step (ok_indexAr L _ rfl rfl rfl rfl ar98 rfl rfl (by first | omega | decide)) rfl ?_; refine vo_step (ok_load1 L (src_box rfl (List.Mem.head _)) rfl rfl rfl rfl) rfl ?_; refine vo_step (ok_sneq rfl rfl rfl rfl (decide_eq_true (by assumption))) rfl ?_; refine vo_step (ok_move rfl rfl rfl) rfl ?_; refine vo_step (ok_indexAr L _ rfl rfl rfl rfl ar98 rfl rfl (by first | omega | decide)) rfl ?_; refine vo_step (ok_load1 L (src_box rfl (List.Mem.head _)) rfl rfl rfl rfl) rfl ?_; refine vo_step (ok_callx L rfl rfl (blt_lt rfl) rfl rfl rfl (fun u H hH _ _ => check_ret _ (by omega) hH)) rfl ?_; refine vo_step (ok_neq rfl rfl rfl rfl (decide_eq_false (by omega))) rfl ?_; refine vo_step (ok_pick rfl rfl rfl rfl) rfl ?_; refine vo_nil ?_; refine N_seq ?_; refine V_false rfl ?_; refine V_skip ?_; refine N_block ?_; refine N_seq ?_
            refine V_drop (O' := []) (List.nil_sublist _) ?_
            refine V_region (id := 8) ?_; refine vo_step (ok_add rfl rfl rfl rfl (wrap_i64 (by omega) (by omega))) rfl ?_; refine vo_step (ok_move rfl rfl rfl) rfl ?_; refine vo_nil ?_
            exact N_round (x := 0) 1 ⟨by omega, fun _ => ht, fun h => (by omega), fun h => (by omega)⟩ (by decide) ⟨rfl, rfl, rfl, trivial⟩
          · have ht : (badF f1.1.1 || badF f1.1.2 || badF f1.2) = true := by rw [bad_yes h1 h2]; simp
            rw [if_pos ht]
            refine V_region (id := 6) ?_; refine vo_step (ok_indexAr L _ rfl rfl rfl rfl ar98 rfl rfl (by first | omega | decide)) rfl ?_; refine vo_step (ok_load1 L (src_box rfl (List.Mem.head _)) rfl rfl rfl rfl) rfl ?_; refine vo_step (ok_sneq rfl rfl rfl rfl (decide_eq_true (by assumption))) rfl ?_; refine vo_step (ok_move rfl rfl rfl) rfl ?_; refine vo_step (ok_indexAr L _ rfl rfl rfl rfl ar98 rfl rfl (by first | omega | decide)) rfl ?_; refine vo_step (ok_load1 L (src_box rfl (List.Mem.head _)) rfl rfl rfl rfl) rfl ?_; refine vo_step (ok_callx L rfl rfl (blt_lt rfl) rfl rfl rfl (fun u H hH _ _ => check_ret _ (by omega) hH)) rfl ?_; refine vo_step (ok_neq rfl rfl rfl rfl (decide_eq_true (by omega))) rfl ?_; refine vo_step (ok_pick rfl rfl rfl rfl) rfl ?_; refine vo_nil ?_; refine N_seq ?_; refine V_true rfl ?_; refine V_seq ?_; refine V_region (id := 7) ?_; refine vo_step (ok_assign rfl rfl rfl) rfl ?_; refine vo_nil ?_; refine N_seq ?_
            refine V_ret L (rs := [.tmp 2]) rfl (fun _ _ h => h) Since.refl fun u H hH hle => ?_
            rfl
      · refine V_seq ?_; refine V_region (id := 4) ?_; refine vo_step (ok_lss rfl rfl rfl rfl (decide_eq_true (by omega))) rfl ?_; refine vo_nil ?_; refine N_seq ?_; refine V_seq ?_; refine V_true rfl ?_; refine V_skip ?_; refine N_seq ?_; refine V_seq ?_; refine V_block ?_; refine V_seq ?_; refine V_region (id := 5) ?_; refine vo_step (ok_indexAg (ys := [_, _]) L _ rfl rfl rfl rfl ar99 rfl rfl (by first | omega | decide) rfl) rfl ?_; refine vo_step (ok_alloc L rfl rfl rfl rfl) rfl ?_; refine vo_step (ok_store L rfl rfl rfl rfl rfl rfl rfl rfl) rfl ?_; refine vo_nil ?_; refine N_seq ?_; refine V_seq ?_
        refine V_box 4 rfl fun b4 hb4 => ?_
        by_cases h1 : f1.1.2 = ⟨#[]⟩
        · have h1' : ¬ f1.1.2 ≠ ⟨#[]⟩ := fun h => h h1
          have ht := bad_nil h1
          refine V_region (id := 6) ?_; refine vo_step (ok_indexAr L _ rfl rfl rfl rfl ar98 rfl rfl (by first | omega | decide)) rfl ?_; refine vo_step (ok_load1 L (src_box rfl (List.Mem.head _)) rfl rfl rfl rfl) rfl ?_; refine vo_step (ok_sneq rfl rfl rfl rfl (decide_eq_false (by assumption))) rfl ?_; refine vo_step (ok_move rfl rfl rfl) rfl ?_; refine vo_step (ok_skip rfl (blt_lt rfl) rfl) rfl ?_; refine vo_step (ok_skip rfl (blt_lt rfl) rfl) rfl ?_; refine vo_step (ok_skip rfl (blt_lt rfl) rfl) rfl ?_; refine vo_step (ok_skip rfl (blt_lt rfl) rfl) rfl ?_; refine vo_step (ok_pick rfl rfl rfl rfl) rfl ?_; refine vo_nil ?_; refine N_seq ?_; refine V_false rfl ?_; refine V_skip ?_; refine N_block ?_; refine N_seq ?_
          refine V_drop (O' := []) (List.nil_sublist _) ?_
          refine V_region (id := 8) ?_; refine vo_step (ok_add rfl rfl rfl rfl (wrap_i64 (by omega) (by omega))) rfl ?_; refine vo_step (ok_move rfl rfl rfl) rfl ?_; refine vo_nil ?_
          exact N_round (x := 1) 2 ⟨by omega, fun _ => i0 (by omega), fun _ => ht, fun h => (by omega)⟩ (by decide) ⟨rfl, rfl, rfl, trivial⟩
        · have h1' : f1.1.2 ≠ ⟨#[]⟩ := h1
          by_cases h2 : chk f1.1.2 = 0
          · have ht := bad_ok h2
            refine V_region (id := 6) ?_; refine vo_step (ok_indexAr L _ rfl rfl rfl rfl ar98 rfl rfl (by first | omega | decide)) rfl ?_; refine vo_step (ok_load1 L (src_box rfl (List.Mem.head _)) rfl rfl rfl rfl) rfl ?_; refine vo_step (ok_sneq rfl rfl rfl rfl (decide_eq_true (by assumption))) rfl ?_; refine vo_step (ok_move rfl rfl rfl) rfl ?_; refine vo_step (ok_indexAr L _ rfl rfl rfl rfl ar98 rfl rfl (by first | omega | decide)) rfl ?_; refine vo_step (ok_load1 L (src_box rfl (List.Mem.head _)) rfl rfl rfl rfl) rfl ?_; refine vo_step (ok_callx L rfl rfl (blt_lt rfl) rfl rfl rfl (fun u H hH _ _ => check_ret _ (by omega) hH)) rfl ?_; refine vo_step (ok_neq rfl rfl rfl rfl (decide_eq_false (by omega))) rfl ?_; refine vo_step (ok_pick rfl rfl rfl rfl) rfl ?_; refine vo_nil ?_; refine N_seq ?_; refine V_false rfl ?_; refine V_skip ?_; refine N_block ?_; refine N_seq ?_
            refine V_drop (O' := []) (List.nil_sublist _) ?_
            refine V_region (id := 8) ?_; refine vo_step (ok_add rfl rfl rfl rfl (wrap_i64 (by omega) (by omega))) rfl ?_; refine vo_step (ok_move rfl rfl rfl) rfl ?_; refine vo_nil ?_
            exact N_round (x := 1) 2 ⟨by omega, fun _ => i0 (by omega), fun _ => ht, fun h => (by omega)⟩ (by decide) ⟨rfl, rfl, rfl, trivial⟩
          · have ht : (badF f1.1.1 || badF f1.1.2 || badF f1.2) = true := by rw [bad_yes h1 h2]; simp
            rw [if_pos ht]
            refine V_region (id := 6) ?_; refine vo_step (ok_indexAr L _ rfl rfl rfl rfl ar98 rfl rfl (by first | omega | decide)) rfl ?_; refine vo_step (ok_load1 L (src_box rfl (List.Mem.head _)) rfl rfl rfl rfl) rfl ?_; refine vo_step (ok_sneq rfl rfl rfl rfl (decide_eq_true (by assumption))) rfl ?_; refine vo_step (ok_move rfl rfl rfl) rfl ?_; refine vo_step (ok_indexAr L _ rfl rfl rfl rfl ar98 rfl rfl (by first | omega | decide)) rfl ?_; refine vo_step (ok_load1 L (src_box rfl (List.Mem.head _)) rfl rfl rfl rfl) rfl ?_; refine vo_step (ok_callx L rfl rfl (blt_lt rfl) rfl rfl rfl (fun u H hH _ _ => check_ret _ (by omega) hH)) rfl ?_; refine vo_step (ok_neq rfl rfl rfl rfl (decide_eq_true (by omega))) rfl ?_; refine vo_step (ok_pick rfl rfl rfl rfl) rfl ?_; refine vo_nil ?_; refine N_seq ?_; refine V_true rfl ?_; refine V_seq ?_; refine V_region (id := 7) ?_; refine vo_step (ok_assign rfl rfl rfl) rfl ?_; refine vo_nil ?_; refine N_seq ?_
            refine V_ret L (rs := [.tmp 2]) rfl (fun _ _ h => h) Since.refl fun u H hH hle => ?_
            rfl
      · refine V_seq ?_; refine V_region (id := 4) ?_; refine vo_step (ok_lss rfl rfl rfl rfl (decide_eq_true (by omega))) rfl ?_; refine vo_nil ?_; refine N_seq ?_; refine V_seq ?_; refine V_true rfl ?_; refine V_skip ?_; refine N_seq ?_; refine V_seq ?_; refine V_block ?_; refine V_seq ?_; refine V_region (id := 5) ?_; refine vo_step (ok_indexAg (ys := [_, _]) L _ rfl rfl rfl rfl ar99 rfl rfl (by first | omega | decide) rfl) rfl ?_; refine vo_step (ok_alloc L rfl rfl rfl rfl) rfl ?_; refine vo_step (ok_store L rfl rfl rfl rfl rfl rfl rfl rfl) rfl ?_; refine vo_nil ?_; refine N_seq ?_; refine V_seq ?_
        refine V_box 4 rfl fun b4 hb4 => ?_
        by_cases h1 : f1.2 = ⟨#[]⟩
        · have h1' : ¬ f1.2 ≠ ⟨#[]⟩ := fun h => h h1
          have ht := bad_nil h1
          refine V_region (id := 6) ?_; refine vo_step (ok_indexAr L _ rfl rfl rfl rfl ar98 rfl rfl (by first | omega | decide)) rfl ?_; refine vo_step (ok_load1 L (src_box rfl (List.Mem.head _)) rfl rfl rfl rfl) rfl ?_; refine vo_step (ok_sneq rfl rfl rfl rfl (decide_eq_false (by assumption))) rfl ?_; refine vo_step (ok_move rfl rfl rfl) rfl ?_; refine vo_step (ok_skip rfl (blt_lt rfl) rfl) rfl ?_; refine vo_step (ok_skip rfl (blt_lt rfl) rfl) rfl ?_; refine vo_step (ok_skip rfl (blt_lt rfl) rfl) rfl ?_; refine vo_step (ok_skip rfl (blt_lt rfl) rfl) rfl ?_; refine vo_step (ok_pick rfl rfl rfl rfl) rfl ?_; refine vo_nil ?_; refine N_seq ?_; refine V_false rfl ?_; refine V_skip ?_; refine N_block ?_; refine N_seq ?_
          refine V_drop (O' := []) (List.nil_sublist _) ?_
          refine V_region (id := 8) ?_; refine vo_step (ok_add rfl rfl rfl rfl (wrap_i64 (by omega) (by omega))) rfl ?_; refine vo_step (ok_move rfl rfl rfl) rfl ?_; refine vo_nil ?_
          exact N_round (x := 2) 3 ⟨by omega, fun _ => i0 (by omega), fun _ => i1 (by omega), fun _ => ht⟩ (by decide) ⟨rfl, rfl, rfl, trivial⟩
        · have h1' : f1.2 ≠ ⟨#[]⟩ := h1
          by_cases h2 : chk f1.2 = 0
          · have ht := bad_ok h2
            refine V_region (id := 6) ?_; refine vo_step (ok_indexAr L _ rfl rfl rfl rfl ar98 rfl rfl (by first | omega | decide)) rfl ?_; refine vo_step (ok_load1 L (src_box rfl (List.Mem.head _)) rfl rfl rfl rfl) rfl ?_; refine vo_step (ok_sneq rfl rfl rfl rfl (decide_eq_true (by assumption))) rfl ?_; refine vo_step (ok_move rfl rfl rfl) rfl ?_; refine vo_step (ok_indexAr L _ rfl rfl rfl rfl ar98 rfl rfl (by first | omega | decide)) rfl ?_; refine vo_step (ok_load1 L (src_box rfl (List.Mem.head _)) rfl rfl rfl rfl) rfl ?_; refine vo_step (ok_callx L rfl rfl (blt_lt rfl) rfl rfl rfl (fun u H hH _ _ => check_ret _ (by omega) hH)) rfl ?_; refine vo_step (ok_neq rfl rfl rfl rfl (decide_eq_false (by omega))) rfl ?_; refine vo_step (ok_pick rfl rfl rfl rfl) rfl ?_; refine vo_nil ?_; refine N_seq ?_; refine V_false rfl ?_; refine V_skip ?_; refine N_block ?_; refine N_seq ?_
            refine V_drop (O' := []) (List.nil_sublist _) ?_
            refine V_region (id := 8) ?_; refine vo_step (ok_add rfl rfl rfl rfl (wrap_i64 (by omega) (by omega))) rfl ?_; refine vo_step (ok_move rfl rfl rfl) rfl ?_; refine vo_nil ?_
            exact N_round (x := 2) 3 ⟨by omega, fun _ => i0 (by omega), fun _ => i1 (by omega), fun _ => ht⟩ (by decide) ⟨rfl, rfl, rfl, trivial⟩
          · have ht : (badF f1.1.1 || badF f1.1.2 || badF f1.2) = true := by rw [bad_yes h1 h2]; simp
            rw [if_pos ht]
            refine V_region (id := 6) ?_; refine vo_step (ok_indexAr L _ rfl rfl rfl rfl ar98 rfl rfl (by first | omega | decide)) rfl ?_; refine vo_step (ok_load1 L (src_box rfl (List.Mem.head _)) rfl rfl rfl rfl) rfl ?_; refine vo_step (ok_sneq rfl rfl rfl rfl (decide_eq_true (by assumption))) rfl ?_; refine vo_step (ok_move rfl rfl rfl) rfl ?_; refine vo_step (ok_indexAr L _ rfl rfl rfl rfl ar98 rfl rfl (by first | omega | decide)) rfl ?_; refine vo_step (ok_load1 L (src_box rfl (List.Mem.head _)) rfl rfl rfl rfl) rfl ?_; refine vo_step (ok_callx L rfl rfl (blt_lt rfl) rfl rfl rfl (fun u H hH _ _ => check_ret _ (by omega) hH)) rfl ?_; refine vo_step (ok_neq rfl rfl rfl rfl (decide_eq_true (by omega))) rfl ?_; refine vo_step (ok_pick rfl rfl rfl rfl) rfl ?_; refine vo_nil ?_; refine N_seq ?_; refine V_true rfl ?_; refine V_seq ?_; refine V_region (id := 7) ?_; refine vo_step (ok_assign rfl rfl rfl) rfl ?_; refine vo_nil ?_; refine N_seq ?_
            refine V_ret L (rs := [.tmp 2]) rfl (fun _ _ h => h) Since.refl fun u H hH hle => ?_
            rfl
      · have ht : ¬ (badF f1.1.1 || badF f1.1.2 || badF f1.2) = true := by rw [i0 (by omega), i1 (by omega), i2 (by omega)]; decide
        rw [if_neg ht, if_pos rfl]
        refine V_seq ?_; refine V_region (id := 4) ?_; refine vo_step (ok_lss rfl rfl rfl rfl (decide_eq_false (by omega))) rfl ?_; refine vo_nil ?_; refine N_seq ?_; refine V_seq ?_; refine V_false rfl ?_; refine V_exit ?_; refine X_then ?_; refine X_then ?_; refine X_here ?_; refine N_seq ?_; refine V_seq ?_; refine V_seq ?_; refine V_region (id := 9) ?_; refine vo_step (ok_fieldAt L rfl rfl rfl rfl) rfl ?_; refine vo_step (ok_load1 L (src_at rfl) rfl rfl rfl rfl) rfl ?_; refine vo_nil ?_; refine N_seq ?_; refine V_true rfl ?_; refine V_seq ?_; refine V_region (id := 10) ?_; refine vo_step (ok_fieldAt L rfl rfl rfl rfl) rfl ?_; refine vo_step (ok_loadA L (vs := [_, _, _]) (src_at rfl) rfl rfl rfl rfl ⟨_, rfl⟩) rfl ?_; refine vo_step (ok_callx L rfl rfl (blt_lt rfl) rfl rfl rfl (fun u H hH _ _ => subject_ret (by omega) (by omega) (by omega) hH)) rfl ?_; refine vo_step (ok_assign rfl rfl rfl) rfl ?_; refine vo_nil ?_; refine N_seq ?_
        refine V_ret L (rs := [.tmp 2]) rfl (fun _ _ h => h) Since.refl fun u H hH hle => ?_
        rfl
      · omega
set_option maxHeartbeats 2000000 in
theorem prefix_ret {f : FT} {r : Nat} (hr : prefN f = r) {w : World} {B : Heap} (hB : B.Le (hp w)) : Ret Try.prog 15 [fv f] w B (fun v _ => v = .int .i64 r) := by
  subst hr
  refine V_enter Try.func15 rfl Try.ntmps15 (Nat.le_of_ble_eq_true rfl) hB ?_
  refine V_seq ?_; refine V_region (id := 0) ?_; refine vo_step (ok_box rfl rfl rfl rfl) rfl ?_; refine vo_step (ok_assign rfl rfl rfl) rfl ?_; refine vo_nil ?_; refine N_seq ?_; refine V_seq ?_; refine V_region (id := 1) ?_; refine vo_step (ok_assign rfl rfl rfl) rfl ?_; refine vo_nil ?_; refine N_seq ?_; refine V_seq ?_; refine V_seq ?_; refine V_region (id := 2) ?_; refine vo_step (ok_loadA L (vs := [_, _, _, _, _, _, _]) (src_at rfl) rfl rfl rfl rfl ⟨_, rfl⟩) rfl ?_; refine vo_step (ok_build (cs := [_, _, _, _, _, _]) rfl rfl pl51 rfl rfl) rfl ?_; refine vo_step (ok_callx L rfl rfl (blt_lt rfl) rfl rfl rfl (fun u H hH _ _ => fields_ret hH)) rfl ?_; refine vo_step (ok_move rfl rfl rfl) rfl ?_; refine vo_nil ?_; refine N_seq ?_; refine V_block ?_
  refine V_loop (fun k : Nat => [(1, .sat (At (fcs f) tyF 0)), (3, .is (.int .i64 k)), (8, .is (.agg #[.string f.1.1.1, .string ⟨#[]⟩, .string f.1.1.2, .string ⟨#[]⟩, .string f.1.2, .string ⟨#[]⟩])), (9, .is (.int .i64 k))])
    (fun k => k ≤ 3 ∧ (0 < k → ¬ f.1.1.1 = ⟨#[]⟩) ∧ (1 < k → ¬ f.1.1.2 = ⟨#[]⟩) ∧ (2 < k → ¬ f.1.2 = ⟨#[]⟩)) (fun k => 3 - k) 0 ⟨Nat.zero_le _, fun h => (by omega), fun h => (by omega), fun h => (by omega)⟩ ⟨rfl, rfl, rfl, rfl, trivial⟩ ?_
  rintro k ⟨hk, i0, i1, i2⟩
  rcases k with _ | _ | _ | _ | k
  · refine V_seq ?_; refine V_region (id := 3) ?_; refine vo_step (ok_lss rfl rfl rfl rfl (decide_eq_true (by omega))) rfl ?_; refine vo_nil ?_; refine N_seq ?_; refine V_seq ?_; refine V_true rfl ?_; refine V_skip ?_; refine N_seq ?_; refine V_seq ?_; refine V_block ?_; refine V_seq ?_; refine V_region (id := 4) ?_; refine vo_step (ok_indexAg (ys := [_, _]) L _ rfl rfl rfl rfl ar99 rfl rfl (by first | omega | decide) rfl) rfl ?_; refine vo_step (ok_alloc L rfl rfl rfl rfl) rfl ?_; refine vo_step (ok_store L rfl rfl rfl rfl rfl rfl rfl rfl) rfl ?_; refine vo_nil ?_; refine N_seq ?_; refine V_seq ?_; refine V_seq ?_
    refine V_box 5 rfl fun b5 hb5 => ?_
    by_cases h1 : f.1.1.1 = ⟨#[]⟩
    · have hp : prefN f = 0 := by unfold prefN;  rw [if_pos h1]
      rw [hp]
      refine V_region (id := 5) ?_; refine vo_step (ok_indexAr L _ rfl rfl rfl rfl ar98 rfl rfl (by first | omega | decide)) rfl ?_; refine vo_step (ok_load1 L (src_box rfl (List.Mem.head _)) rfl rfl rfl rfl) rfl ?_; refine vo_step (ok_seql rfl rfl rfl rfl (decide_eq_true (by assumption))) rfl ?_; refine vo_nil ?_; refine N_seq ?_; refine V_true rfl ?_; refine V_seq ?_; refine V_region (id := 6) ?_; refine vo_step (ok_move rfl rfl rfl) rfl ?_; refine vo_step (ok_assign rfl rfl rfl) rfl ?_; refine vo_nil ?_; refine N_seq ?_
      refine V_ret L (rs := [.tmp 2]) rfl (fun _ _ h => h) Since.refl fun u H hH hle => ?_
      rfl
    · refine V_region (id := 5) ?_; refine vo_step (ok_indexAr L _ rfl rfl rfl rfl ar98 rfl rfl (by first | omega | decide)) rfl ?_; refine vo_step (ok_load1 L (src_box rfl (List.Mem.head _)) rfl rfl rfl rfl) rfl ?_; refine vo_step (ok_seql rfl rfl rfl rfl (decide_eq_false (by assumption))) rfl ?_; refine vo_nil ?_; refine N_seq ?_; refine V_false rfl ?_; refine V_skip ?_; refine N_seq ?_; refine V_region (id := 7) ?_; refine vo_step (ok_move rfl rfl rfl) rfl ?_; refine vo_step (ok_add rfl rfl rfl rfl (wrap_i64 (by omega) (by omega))) rfl ?_; refine vo_step (ok_assign rfl rfl rfl) rfl ?_; refine vo_nil ?_; refine N_block ?_; refine N_seq ?_
      refine V_drop (O' := []) (List.nil_sublist _) ?_
      refine V_region (id := 8) ?_; refine vo_step (ok_add rfl rfl rfl rfl (wrap_i64 (by omega) (by omega))) rfl ?_; refine vo_step (ok_move rfl rfl rfl) rfl ?_; refine vo_nil ?_
      exact N_round (x := 0) 1 ⟨by omega, fun _ => h1, fun h => (by omega), fun h => (by omega)⟩ (by decide) ⟨rfl, rfl, rfl, rfl, trivial⟩
  · refine V_seq ?_; refine V_region (id := 3) ?_; refine vo_step (ok_lss rfl rfl rfl rfl (decide_eq_true (by omega))) rfl ?_; refine vo_nil ?_; refine N_seq ?_; refine V_seq ?_; refine V_true rfl ?_; refine V_skip ?_; refine N_seq ?_; refine V_seq ?_; refine V_block ?_; refine V_seq ?_; refine V_region (id := 4) ?_; refine vo_step (ok_indexAg (ys := [_, _]) L _ rfl rfl rfl rfl ar99 rfl rfl (by first | omega | decide) rfl) rfl ?_; refine vo_step (ok_alloc L rfl rfl rfl rfl) rfl ?_; refine vo_step (ok_store L rfl rfl rfl rfl rfl rfl rfl rfl) rfl ?_; refine vo_nil ?_; refine N_seq ?_; refine V_seq ?_; refine V_seq ?_
    refine V_box 5 rfl fun b5 hb5 => ?_
    by_cases h1 : f.1.1.2 = ⟨#[]⟩
    · have hp : prefN f = 1 := by unfold prefN; rw [if_neg (i0 (by omega))]; rw [if_pos h1]
      rw [hp]
      refine V_region (id := 5) ?_; refine vo_step (ok_indexAr L _ rfl rfl rfl rfl ar98 rfl rfl (by first | omega | decide)) rfl ?_; refine vo_step (ok_load1 L (src_box rfl (List.Mem.head _)) rfl rfl rfl rfl) rfl ?_; refine vo_step (ok_seql rfl rfl rfl rfl (decide_eq_true (by assumption))) rfl ?_; refine vo_nil ?_; refine N_seq ?_; refine V_true rfl ?_; refine V_seq ?_; refine V_region (id := 6) ?_; refine vo_step (ok_move rfl rfl rfl) rfl ?_; refine vo_step (ok_assign rfl rfl rfl) rfl ?_; refine vo_nil ?_; refine N_seq ?_
      refine V_ret L (rs := [.tmp 2]) rfl (fun _ _ h => h) Since.refl fun u H hH hle => ?_
      rfl
    · refine V_region (id := 5) ?_; refine vo_step (ok_indexAr L _ rfl rfl rfl rfl ar98 rfl rfl (by first | omega | decide)) rfl ?_; refine vo_step (ok_load1 L (src_box rfl (List.Mem.head _)) rfl rfl rfl rfl) rfl ?_; refine vo_step (ok_seql rfl rfl rfl rfl (decide_eq_false (by assumption))) rfl ?_; refine vo_nil ?_; refine N_seq ?_; refine V_false rfl ?_; refine V_skip ?_; refine N_seq ?_; refine V_region (id := 7) ?_; refine vo_step (ok_move rfl rfl rfl) rfl ?_; refine vo_step (ok_add rfl rfl rfl rfl (wrap_i64 (by omega) (by omega))) rfl ?_; refine vo_step (ok_assign rfl rfl rfl) rfl ?_; refine vo_nil ?_; refine N_block ?_; refine N_seq ?_
      refine V_drop (O' := []) (List.nil_sublist _) ?_
      refine V_region (id := 8) ?_; refine vo_step (ok_add rfl rfl rfl rfl (wrap_i64 (by omega) (by omega))) rfl ?_; refine vo_step (ok_move rfl rfl rfl) rfl ?_; refine vo_nil ?_
      exact N_round (x := 1) 2 ⟨by omega, fun _ => i0 (by omega), fun _ => h1, fun h => (by omega)⟩ (by decide) ⟨rfl, rfl, rfl, rfl, trivial⟩
  · refine V_seq ?_; refine V_region (id := 3) ?_; refine vo_step (ok_lss rfl rfl rfl rfl (decide_eq_true (by omega))) rfl ?_; refine vo_nil ?_; refine N_seq ?_; refine V_seq ?_; refine V_true rfl ?_; refine V_skip ?_; refine N_seq ?_; refine V_seq ?_; refine V_block ?_; refine V_seq ?_; refine V_region (id := 4) ?_; refine vo_step (ok_indexAg (ys := [_, _]) L _ rfl rfl rfl rfl ar99 rfl rfl (by first | omega | decide) rfl) rfl ?_; refine vo_step (ok_alloc L rfl rfl rfl rfl) rfl ?_; refine vo_step (ok_store L rfl rfl rfl rfl rfl rfl rfl rfl) rfl ?_; refine vo_nil ?_; refine N_seq ?_; refine V_seq ?_; refine V_seq ?_
    refine V_box 5 rfl fun b5 hb5 => ?_
    by_cases h1 : f.1.2 = ⟨#[]⟩
    · have hp : prefN f = 2 := by unfold prefN; rw [if_neg (i0 (by omega))]; rw [if_neg (i1 (by omega))]; rw [if_pos h1]
      rw [hp]
      refine V_region (id := 5) ?_; refine vo_step (ok_indexAr L _ rfl rfl rfl rfl ar98 rfl rfl (by first | omega | decide)) rfl ?_; refine vo_step (ok_load1 L (src_box rfl (List.Mem.head _)) rfl rfl rfl rfl) rfl ?_; refine vo_step (ok_seql rfl rfl rfl rfl (decide_eq_true (by assumption))) rfl ?_; refine vo_nil ?_; refine N_seq ?_; refine V_true rfl ?_; refine V_seq ?_; refine V_region (id := 6) ?_; refine vo_step (ok_move rfl rfl rfl) rfl ?_; refine vo_step (ok_assign rfl rfl rfl) rfl ?_; refine vo_nil ?_; refine N_seq ?_
      refine V_ret L (rs := [.tmp 2]) rfl (fun _ _ h => h) Since.refl fun u H hH hle => ?_
      rfl
    · refine V_region (id := 5) ?_; refine vo_step (ok_indexAr L _ rfl rfl rfl rfl ar98 rfl rfl (by first | omega | decide)) rfl ?_; refine vo_step (ok_load1 L (src_box rfl (List.Mem.head _)) rfl rfl rfl rfl) rfl ?_; refine vo_step (ok_seql rfl rfl rfl rfl (decide_eq_false (by assumption))) rfl ?_; refine vo_nil ?_; refine N_seq ?_; refine V_false rfl ?_; refine V_skip ?_; refine N_seq ?_; refine V_region (id := 7) ?_; refine vo_step (ok_move rfl rfl rfl) rfl ?_; refine vo_step (ok_add rfl rfl rfl rfl (wrap_i64 (by omega) (by omega))) rfl ?_; refine vo_step (ok_assign rfl rfl rfl) rfl ?_; refine vo_nil ?_; refine N_block ?_; refine N_seq ?_
      refine V_drop (O' := []) (List.nil_sublist _) ?_
      refine V_region (id := 8) ?_; refine vo_step (ok_add rfl rfl rfl rfl (wrap_i64 (by omega) (by omega))) rfl ?_; refine vo_step (ok_move rfl rfl rfl) rfl ?_; refine vo_nil ?_
      exact N_round (x := 2) 3 ⟨by omega, fun _ => i0 (by omega), fun _ => i1 (by omega), fun _ => h1⟩ (by decide) ⟨rfl, rfl, rfl, rfl, trivial⟩
  · cases hxx : f.2.2
    · have hp : prefN f = 3 := by unfold prefN; rw [if_neg (i0 (by omega)), if_neg (i1 (by omega)), if_neg (i2 (by omega)), hxx]; rfl
      rw [hp]
      refine V_seq ?_; refine V_region (id := 3) ?_; refine vo_step (ok_lss rfl rfl rfl rfl (decide_eq_false (by omega))) rfl ?_; refine vo_nil ?_; refine N_seq ?_; refine V_seq ?_; refine V_false rfl ?_; refine V_exit ?_; refine X_then ?_; refine X_then ?_; refine X_here ?_; refine N_seq ?_; refine V_seq ?_; refine V_seq ?_; refine V_region (id := 9) ?_; refine vo_step (ok_fieldAt L rfl rfl rfl rfl) rfl ?_; refine vo_step (ok_load1 L (src_at rfl) rfl rfl rfl rfl) rfl ?_; rw [hxx]; refine vo_nil ?_; refine N_seq ?_; refine V_false rfl ?_; refine V_skip ?_; refine N_seq ?_; refine V_seq ?_; refine V_region (id := 11) ?_; refine vo_step (ok_move rfl rfl rfl) rfl ?_; refine vo_step (ok_assign rfl rfl rfl) rfl ?_; refine vo_nil ?_; refine N_seq ?_
      refine V_ret L (rs := [.tmp 2]) rfl (fun _ _ h => h) Since.refl fun u H hH hle => ?_
      rfl
    · have hp : prefN f = 4 := by unfold prefN; rw [if_neg (i0 (by omega)), if_neg (i1 (by omega)), if_neg (i2 (by omega)), hxx]; rfl
      rw [hp]
      refine V_seq ?_; refine V_region (id := 3) ?_; refine vo_step (ok_lss rfl rfl rfl rfl (decide_eq_false (by omega))) rfl ?_; refine vo_nil ?_; refine N_seq ?_; refine V_seq ?_; refine V_false rfl ?_; refine V_exit ?_; refine X_then ?_; refine X_then ?_; refine X_here ?_; refine N_seq ?_; refine V_seq ?_; refine V_seq ?_; refine V_region (id := 9) ?_; refine vo_step (ok_fieldAt L rfl rfl rfl rfl) rfl ?_; refine vo_step (ok_load1 L (src_at rfl) rfl rfl rfl rfl) rfl ?_; rw [hxx]; refine vo_nil ?_; refine N_seq ?_; refine V_true rfl ?_; refine V_region (id := 10) ?_; refine vo_step (ok_move rfl rfl rfl) rfl ?_; refine vo_step (ok_add rfl rfl rfl rfl (wrap_i64 (by omega) (by omega))) rfl ?_; refine vo_step (ok_assign rfl rfl rfl) rfl ?_; refine vo_nil ?_; refine N_seq ?_; refine V_seq ?_; refine V_region (id := 11) ?_; refine vo_step (ok_move rfl rfl rfl) rfl ?_; refine vo_step (ok_assign rfl rfl rfl) rfl ?_; refine vo_nil ?_; refine N_seq ?_
      refine V_ret L (rs := [.tmp 2]) rfl (fun _ _ h => h) Since.refl fun u H hH hle => ?_
      rfl
  · omega
end Go.V.L3
/- The walks of filters (chapter 3): orders, spans, what is selected. -/
namespace Go.V.L3
open Go.Proofs Go.RowKit Go.V Go.V.L2
theorem bl_cmp : ∀ (l m : List UInt8), Op.bytesLess l m = decide (Lib.compareBytes l m < 0)
  | [], [] => by simp [Op.bytesLess, Lib.compareBytes]
  | [], _ :: _ => by simp [Op.bytesLess, Lib.compareBytes]
  | _ :: _, [] => by simp [Op.bytesLess, Lib.compareBytes]
  | a :: l, b :: m => by
    have ih := bl_cmp l m
    simp only [Op.bytesLess, Lib.compareBytes, ih]
    by_cases h1 : a < b
    · simp [h1]
    · by_cases h2 : b < a
      · have : a ≠ b := fun e => by subst e; exact h1 h2
        simp [h1, h2, this]
      · have : a = b := by
          apply UInt8.toNat_inj.1
          have := mt UInt8.lt_iff_toNat_lt.2 h1
          have := mt UInt8.lt_iff_toNat_lt.2 h2
          omega
        simp [this]
theorem bLess_cmp (a b : ByteArray) : bLess a b = decide (cmpB a b < 0) := bl_cmp _ _
theorem cmpB_three (a b : ByteArray) : cmpB a b = -1 ∨ cmpB a b = 0 ∨ cmpB a b = 1 := by
  unfold cmpB
  generalize a.data.toList = l
  generalize b.data.toList = m
  induction l generalizing m with
  | nil => cases m <;> simp [Lib.compareBytes]
  | cons x l ih =>
    cases m with
    | nil => simp [Lib.compareBytes]
    | cons y m =>
      simp only [Lib.compareBytes]
      split
      · simp
      · split
        · simp
        · exact ih m
theorem ord_lt1 {f : FT} {t : U} (h : 1 ≤ prefN f) (h0 : ¬ cmpB t.1.1.1 f.1.1.1 = 0) : ordF f t = cmpB t.1.1.1 f.1.1.1 := by
  unfold ordF cmpN lexC upN leaF
  simp only [orL2]
  rw [if_pos h, if_pos h]
  simp [h0]
theorem ord_lt2 {f : FT} {t : U} (h : 2 ≤ prefN f) (h0 : cmpB t.1.1.1 f.1.1.1 = 0) (h1 : ¬ cmpB t.1.1.2 f.1.1.2 = 0) : ordF f t = cmpB t.1.1.2 f.1.1.2 := by
  have a1 : 1 ≤ prefN f := by omega
  unfold ordF cmpN lexC upN leaF
  simp only [orL2, if_pos h, if_pos a1]
  simp [h0, h1]
theorem ord_lt3 {f : FT} {t : U} (h : 3 ≤ prefN f) (h0 : cmpB t.1.1.1 f.1.1.1 = 0) (h1 : cmpB t.1.1.2 f.1.1.2 = 0) (h2 : ¬ cmpB t.1.2 f.1.2 = 0) : ordF f t = cmpB t.1.2 f.1.2 := by
  have a1 : 1 ≤ prefN f := by omega
  have a2 : 2 ≤ prefN f := by omega
  unfold ordF cmpN lexC upN leaF
  simp only [orL2, if_pos h, if_pos a1, if_pos a2]
  simp [h0, h1, h2]
theorem ord_4 {f : FT} {t : U} (h : 4 ≤ prefN f) (h0 : cmpB t.1.1.1 f.1.1.1 = 0) (h1 : cmpB t.1.1.2 f.1.1.2 = 0) (h2 : cmpB t.1.2 f.1.2 = 0) : ordF f t = cmp3 t.2 f.2.1 := by
  have a1 : 1 ≤ prefN f := by omega
  have a2 : 2 ≤ prefN f := by omega
  have a3 : 3 ≤ prefN f := by omega
  unfold ordF cmpN lexC upN leaF
  simp only [orL2, if_pos h, if_pos a1, if_pos a2, if_pos a3]
  simp [h0, h1, h2]
theorem ord_0 {f : FT} {t : U} (h : prefN f < 4) (h0 : 1 ≤ prefN f → cmpB t.1.1.1 f.1.1.1 = 0) (h1 : 2 ≤ prefN f → cmpB t.1.1.2 f.1.1.2 = 0) (h2 : 3 ≤ prefN f → cmpB t.1.2 f.1.2 = 0) : ordF f t = 0 := by
  have a4 : ¬ 4 ≤ prefN f := by omega
  unfold ordF cmpN lexC upN leaF
  simp only [orL2, if_neg a4]
  by_cases a1 : 1 ≤ prefN f <;> by_cases a2 : 2 ≤ prefN f <;> by_cases a3 : 3 ≤ prefN f <;> simp [a1, a2, a3, h0, h1, h2]
abbrev spV (lv : Value) (f : FT) : Value := .agg #[lv, .string f.1.1.1, .string f.1.1.2, .string f.1.2, .string f.2.1.1.1, .string f.2.1.1.2, .string f.2.1.2, .bool f.2.2, .int .i64 (prefN f)]
attribute [local irreducible] V N X VO Par StepOK Has Ret RetL RetO RetT Src
theorem nan_ret {a : ByteArray} {w : World} {B : Heap} (hB : B.Le (hp w)) : Ret Try.prog 128 [.string a] w B (fun v _ => v = .bool false) := by
  have h : ¬ a ≠ a := fun h => h rfl
  refine V_enter Try.func128 rfl Try.ntmps128 (Nat.le_of_ble_eq_true rfl) hB ?_
  refine V_seq ?_; refine V_region (id := 0) ?_; refine vo_step (ok_assign rfl rfl rfl) rfl ?_; refine vo_nil ?_; refine N_seq ?_; refine V_seq ?_; refine V_region (id := 1) ?_; refine vo_step (ok_move rfl rfl rfl) rfl ?_; refine vo_step (ok_move rfl rfl rfl) rfl ?_; refine vo_step (ok_sneq rfl rfl rfl rfl (decide_eq_false (by assumption))) rfl ?_; refine vo_step (ok_assign rfl rfl rfl) rfl ?_; refine vo_nil ?_; refine N_seq ?_
  refine V_ret L (rs := [.tmp 2]) rfl (fun _ _ h => h) Since.refl fun u H hH hle => ?_
  rfl
theorem cmpS_ret {a b : ByteArray} {w : World} {B : Heap} (hB : B.Le (hp w)) : Ret Try.prog 112 [.string a, .string b] w B (fun v _ => v = .int .i64 (cmpB a b)) := by
  have hl := bLess_cmp a b
  refine V_enter Try.func112 rfl Try.ntmps112 (Nat.le_of_ble_eq_true rfl) hB ?_
  by_cases h1 : cmpB a b < 0
  · rw [decide_eq_true h1] at hl
    have hr : cmpB a b = -1 := by have := cmpB_three a b; omega
    rw [hr]
    refine V_seq ?_; refine V_region (id := 0) ?_; refine vo_step (ok_assign rfl rfl rfl) rfl ?_; refine vo_nil ?_; refine N_seq ?_; refine V_seq ?_; refine V_region (id := 1) ?_; refine vo_step (ok_move rfl rfl rfl) rfl ?_; refine vo_step (ok_callx L rfl rfl (blt_lt rfl) rfl rfl rfl (fun u H hH _ _ => nan_ret hH)) rfl ?_; refine vo_step (ok_assign rfl rfl rfl) rfl ?_; refine vo_nil ?_; refine N_seq ?_; refine V_seq ?_; refine V_region (id := 2) ?_; refine vo_step (ok_move rfl rfl rfl) rfl ?_; refine vo_step (ok_callx L rfl rfl (blt_lt rfl) rfl rfl rfl (fun u H hH _ _ => nan_ret hH)) rfl ?_; refine vo_step (ok_assign rfl rfl rfl) rfl ?_; refine vo_nil ?_; refine N_seq ?_; refine V_seq ?_; refine V_seq ?_; refine V_region (id := 3) ?_; refine vo_step (ok_move rfl rfl rfl) rfl ?_; refine vo_nil ?_; refine N_seq ?_; refine V_false rfl ?_; refine V_skip ?_; refine N_seq ?_; refine V_seq ?_; refine V_seq ?_; refine V_region (id := 7) ?_; refine vo_step (ok_move rfl rfl rfl) rfl ?_; refine vo_nil ?_; refine N_seq ?_; refine V_false rfl ?_; refine V_skip ?_; refine N_seq ?_; refine V_seq ?_; refine V_seq ?_; refine V_region (id := 9) ?_; refine vo_step (ok_move rfl rfl rfl) rfl ?_; refine vo_step (ok_move rfl rfl rfl) rfl ?_; refine vo_step (ok_slss rfl rfl rfl rfl (by assumption)) rfl ?_; refine vo_nil ?_; refine N_seq ?_; refine V_true rfl ?_; refine V_seq ?_; refine V_region (id := 10) ?_; refine vo_step (ok_assign rfl rfl rfl) rfl ?_; refine vo_nil ?_; refine N_seq ?_
    refine V_ret L (rs := [.tmp 4]) rfl (fun _ _ h => h) Since.refl fun u H hH hle => ?_
    rfl
  · rw [decide_eq_false h1] at hl
    by_cases h2 : cmpB a b = 0
    · have e := cmpB_ord.eq _ _ h2
      have hg : (!(bLess a b || decide (a = b))) = false := by rw [hl, decide_eq_true e]; rfl
      rw [h2]
      refine V_seq ?_; refine V_region (id := 0) ?_; refine vo_step (ok_assign rfl rfl rfl) rfl ?_; refine vo_nil ?_; refine N_seq ?_; refine V_seq ?_; refine V_region (id := 1) ?_; refine vo_step (ok_move rfl rfl rfl) rfl ?_; refine vo_step (ok_callx L rfl rfl (blt_lt rfl) rfl rfl rfl (fun u H hH _ _ => nan_ret hH)) rfl ?_; refine vo_step (ok_assign rfl rfl rfl) rfl ?_; refine vo_nil ?_; refine N_seq ?_; refine V_seq ?_; refine V_region (id := 2) ?_; refine vo_step (ok_move rfl rfl rfl) rfl ?_; refine vo_step (ok_callx L rfl rfl (blt_lt rfl) rfl rfl rfl (fun u H hH _ _ => nan_ret hH)) rfl ?_; refine vo_step (ok_assign rfl rfl rfl) rfl ?_; refine vo_nil ?_; refine N_seq ?_; refine V_seq ?_; refine V_seq ?_; refine V_region (id := 3) ?_; refine vo_step (ok_move rfl rfl rfl) rfl ?_; refine vo_nil ?_; refine N_seq ?_; refine V_false rfl ?_; refine V_skip ?_; refine N_seq ?_; refine V_seq ?_; refine V_seq ?_; refine V_region (id := 7) ?_; refine vo_step (ok_move rfl rfl rfl) rfl ?_; refine vo_nil ?_; refine N_seq ?_; refine V_false rfl ?_; refine V_skip ?_; refine N_seq ?_; refine V_seq ?_; refine V_seq ?_; refine V_region (id := 9) ?_; refine vo_step (ok_move rfl rfl rfl) rfl ?_; refine vo_step (ok_move rfl rfl rfl) rfl ?_; refine vo_step (ok_slss rfl rfl rfl rfl (by assumption)) rfl ?_; refine vo_nil ?_; refine N_seq ?_; refine V_false rfl ?_; refine V_skip ?_; refine N_seq ?_; refine V_seq ?_; refine V_seq ?_; refine V_region (id := 11) ?_; refine vo_step (ok_move rfl rfl rfl) rfl ?_; refine vo_step (ok_move rfl rfl rfl) rfl ?_; refine vo_step (ok_sgtr rfl rfl rfl rfl (by assumption)) rfl ?_; refine vo_nil ?_; refine N_seq ?_; refine V_false rfl ?_; refine V_skip ?_; refine N_seq ?_; refine V_seq ?_; refine V_region (id := 13) ?_; refine vo_step (ok_assign rfl rfl rfl) rfl ?_; refine vo_nil ?_; refine N_seq ?_
      refine V_ret L (rs := [.tmp 4]) rfl (fun _ _ h => h) Since.refl fun u H hH hle => ?_
      rfl
    · have e : ¬ a = b := fun e => h2 (by subst e; exact cmpB_ord.refl _)
      have hg : (!(bLess a b || decide (a = b))) = true := by rw [hl, decide_eq_false e]; rfl
      have hr : cmpB a b = 1 := by have := cmpB_three a b; omega
      rw [hr]
      refine V_seq ?_; refine V_region (id := 0) ?_; refine vo_step (ok_assign rfl rfl rfl) rfl ?_; refine vo_nil ?_; refine N_seq ?_; refine V_seq ?_; refine V_region (id := 1) ?_; refine vo_step (ok_move rfl rfl rfl) rfl ?_; refine vo_step (ok_callx L rfl rfl (blt_lt rfl) rfl rfl rfl (fun u H hH _ _ => nan_ret hH)) rfl ?_; refine vo_step (ok_assign rfl rfl rfl) rfl ?_; refine vo_nil ?_; refine N_seq ?_; refine V_seq ?_; refine V_region (id := 2) ?_; refine vo_step (ok_move rfl rfl rfl) rfl ?_; refine vo_step (ok_callx L rfl rfl (blt_lt rfl) rfl rfl rfl (fun u H hH _ _ => nan_ret hH)) rfl ?_; refine vo_step (ok_assign rfl rfl rfl) rfl ?_; refine vo_nil ?_; refine N_seq ?_; refine V_seq ?_; refine V_seq ?_; refine V_region (id := 3) ?_; refine vo_step (ok_move rfl rfl rfl) rfl ?_; refine vo_nil ?_; refine N_seq ?_; refine V_false rfl ?_; refine V_skip ?_; refine N_seq ?_; refine V_seq ?_; refine V_seq ?_; refine V_region (id := 7) ?_; refine vo_step (ok_move rfl rfl rfl) rfl ?_; refine vo_nil ?_; refine N_seq ?_; refine V_false rfl ?_; refine V_skip ?_; refine N_seq ?_; refine V_seq ?_; refine V_seq ?_; refine V_region (id := 9) ?_; refine vo_step (ok_move rfl rfl rfl) rfl ?_; refine vo_step (ok_move rfl rfl rfl) rfl ?_; refine vo_step (ok_slss rfl rfl rfl rfl (by assumption)) rfl ?_; refine vo_nil ?_; refine N_seq ?_; refine V_false rfl ?_; refine V_skip ?_; refine N_seq ?_; refine V_seq ?_; refine V_seq ?_; refine V_region (id := 11) ?_; refine vo_step (ok_move rfl rfl rfl) rfl ?_; refine vo_step (ok_move rfl rfl rfl) rfl ?_; refine vo_step (ok_sgtr rfl rfl rfl rfl (by assumption)) rfl ?_; refine vo_nil ?_; refine N_seq ?_; refine V_true rfl ?_; refine V_seq ?_; refine V_region (id := 12) ?_; refine vo_step (ok_assign rfl rfl rfl) rfl ?_; refine vo_nil ?_; refine N_seq ?_
      refine V_ret L (rs := [.tmp 4]) rfl (fun _ _ h => h) Since.refl fun u H hH hle => ?_
      rfl
set_option maxHeartbeats 4000000 in
set_option maxRecDepth 20000 in
theorem order_ret {l : List U} {fu : Bool} {f : FT} {i : Nat} {t : U} (hi : l[i]? = some t) (hl : l.length ≤ 1000000) {lv : Value} {w : World} {B : Heap} (hB : B.Le (hp w)) (hv : US l fu lv B) :
    Ret Try.prog 89 [spV lv f, .int .i64 i] w B (fun v _ => v = .int .i64 (ordF f t)) := by
  have hit := get_lt hi
  have hc := us_at hi
  obtain ⟨p, hp⟩ : ∃ p, prefN f = p := ⟨_, rfl⟩
  have hp4 : p ≤ 4 := by rw [← hp]; rcases prefN_cases f with h | h | h | h | h <;> omega
  obtain ⟨m, hm⟩ : ∃ m : Nat, min p 3 = m := ⟨_, rfl⟩
  have hmm : (if (3 : Int) < (p : Int) then 3 else (p : Int)) = (m : Int) := by rw [← hm]; split <;> omega
  unfold spV
  rw [hp]
  refine V_enter Try.func89 rfl Try.ntmps89 (Nat.le_of_ble_eq_true rfl) hB ?_
  refine V_seq ?_; refine V_region (id := 0) ?_; refine vo_step (ok_box rfl rfl rfl rfl) rfl ?_; refine vo_step (ok_assign rfl rfl rfl) rfl ?_; refine vo_nil ?_; refine N_seq ?_; refine V_seq ?_; refine V_region (id := 1) ?_; refine vo_step (ok_fieldAt L rfl rfl rfl rfl) rfl ?_; refine vo_step (ok_load1 L (src_at rfl) rfl rfl rfl rfl) rfl ?_; refine vo_seen 11 (US l fu) rfl SlV.mono hv ?_; refine vo_step (ok_move rfl rfl rfl) rfl ?_; refine vo_step (ok_indexV L _ rfl rfl rfl rfl rfl rfl rfl (by first | omega | decide) (by assumption)) rfl ?_; refine vo_step (ok_loadPA L (vs := [_, _, _, _, _, _]) rfl rfl rfl rfl rfl ⟨_, rfl⟩) rfl ?_; refine vo_step (ok_alloc L rfl rfl rfl rfl) rfl ?_; refine vo_step (ok_store L rfl rfl rfl rfl rfl rfl rfl rfl) rfl ?_; refine vo_nil ?_; refine N_seq ?_; refine V_seq ?_; refine V_region (id := 2) ?_; refine vo_step (ok_fieldAt L rfl rfl rfl rfl) rfl ?_; refine vo_step (ok_loadA L (vs := [_, _, _, _, _, _, _]) (src_at rfl) rfl rfl rfl rfl ⟨_, rfl⟩) rfl ?_; refine vo_step (ok_loadA L (vs := [_, _, _, _, _, _]) (src_own rfl) rfl rfl rfl rfl ⟨_, rfl⟩) rfl ?_; refine vo_step (ok_callx L rfl rfl (blt_lt rfl) rfl rfl rfl (fun u H hH _ _ => fields_ret hH)) rfl ?_; refine vo_step (ok_alloc L rfl rfl rfl rfl) rfl ?_; refine vo_step (ok_store L rfl rfl rfl rfl rfl rfl rfl rfl) rfl ?_; refine vo_nil ?_; refine N_seq ?_; refine V_seq ?_; refine V_seq ?_
  refine V_hold 6 900 rfl fun b => ?_
  refine V_region (id := 3) ?_; refine vo_step (ok_fieldAt L rfl rfl rfl rfl) rfl ?_; refine vo_step (ok_load1 L (src_at rfl) rfl rfl rfl rfl) rfl ?_; refine vo_step (ok_min rfl rfl rfl rfl (by assumption)) rfl ?_; refine vo_step (ok_sliceAr L (kl := .i64) (pl := 0) 0 _ rfl rfl rfl ar99 rfl rfl ⟨rfl, rfl⟩ (by omega) (by omega) (by omega)) rfl ?_; refine vo_step (ok_lenL L rfl rfl rfl rfl) rfl ?_; refine vo_step (ok_move rfl rfl rfl) rfl ?_; refine vo_nil ?_; refine N_seq ?_; refine V_block ?_
  refine V_loop (fun k : Nat => [(2, .sat (At [lv, .string f.1.1.1, .string f.1.1.2, .string f.1.2, .string f.2.1.1.1, .string f.2.1.1.2, .string f.2.1.2, .bool f.2.2, .int .i64 p] 94 0)), (5, .own (Cell (ucs t) tyU)), (22, .is (.slice (some ⟨b, 0 + 0 * 2, none⟩) (m - 0) (3 - 0))), (23, .is (.int .i64 (m - 0 : Nat))), (24, .is (.int .i64 k)), (900, .own (HeldR b [.string f.1.1.1, .string t.1.1.1, .string f.1.1.2, .string t.1.1.2, .string f.1.2, .string t.1.2] 99))])
    (fun k => k ≤ m ∧ (0 < k → cmpB t.1.1.1 f.1.1.1 = 0) ∧ (1 < k → cmpB t.1.1.2 f.1.1.2 = 0) ∧ (2 < k → cmpB t.1.2 f.1.2 = 0)) (fun k => m - k) 0 ⟨Nat.zero_le _, fun h => (by omega), fun h => (by omega), fun h => (by omega)⟩ ⟨rfl, rfl, rfl, rfl, rfl, rfl, trivial⟩ ?_
  rintro k ⟨hk, i0, i1, i2⟩
  by_cases hkm : k < m
  · rcases k with _ | _ | _ | k
    · refine V_seq ?_; refine V_region (id := 4) ?_; refine vo_step (ok_lss rfl rfl rfl rfl (decide_eq_true (by omega))) rfl ?_; refine vo_nil ?_; refine N_seq ?_; refine V_seq ?_; refine V_true rfl ?_; refine V_skip ?_; refine N_seq ?_; refine V_seq ?_; refine V_block ?_; refine V_seq ?_; refine V_region (id := 5) ?_; refine vo_step (ok_indexAt L _ rfl rfl rfl rfl rfl rfl rfl (by omega)) rfl ?_; refine vo_stepR (ok_loadHA L (q := 900) (vs := [_, _]) rfl rfl rfl rfl rfl rfl ⟨_, rfl⟩) ?_; refine vo_step (ok_alloc L rfl rfl rfl rfl) rfl ?_; refine vo_step (ok_store L rfl rfl rfl rfl rfl rfl rfl rfl) rfl ?_; refine vo_nil ?_; refine N_seq ?_; refine V_seq ?_
      refine V_box 8 rfl fun b8 hb8 => ?_
      by_cases hz : cmpB t.1.1.1 f.1.1.1 = 0
      · refine V_region (id := 6) ?_; refine vo_step (ok_indexAr L _ rfl rfl rfl rfl ar98 rfl rfl (by first | omega | decide)) rfl ?_; refine vo_step (ok_load1 L (src_box rfl (List.Mem.head _)) rfl rfl rfl rfl) rfl ?_; refine vo_step (ok_indexAr L _ rfl rfl rfl rfl ar98 rfl rfl (by first | omega | decide)) rfl ?_; refine vo_step (ok_load1 L (src_box rfl (List.Mem.head _)) rfl rfl rfl rfl) rfl ?_; refine vo_step (ok_callx L rfl rfl (blt_lt rfl) rfl rfl rfl (fun u H hH _ _ => cmpS_ret hH)) rfl ?_; refine vo_step (ok_assign rfl rfl rfl) rfl ?_; refine vo_nil ?_; refine N_seq ?_; refine V_seq ?_; refine V_region (id := 7) ?_; refine vo_step (ok_move rfl rfl rfl) rfl ?_; refine vo_step (ok_neq rfl rfl rfl rfl (decide_eq_false (by omega))) rfl ?_; refine vo_nil ?_; refine N_seq ?_; refine V_false rfl ?_; refine V_skip ?_; refine N_block ?_; refine N_seq ?_
        refine V_drop (O' := []) (List.nil_sublist _) ?_
        refine V_region (id := 9) ?_; refine vo_step (ok_add rfl rfl rfl rfl (wrap_i64 (by omega) (by omega))) rfl ?_; refine vo_step (ok_move rfl rfl rfl) rfl ?_; refine vo_nil ?_
        exact N_round (x := 0) 1 ⟨hkm, fun _ => hz, fun h => (by omega), fun h => (by omega)⟩ (by omega) ⟨rfl, rfl, rfl, rfl, rfl, rfl, trivial⟩
      · have ho : ordF f t = cmpB t.1.1.1 f.1.1.1 := ord_lt1 (by omega)  hz
        rw [ho]
        refine V_region (id := 6) ?_; refine vo_step (ok_indexAr L _ rfl rfl rfl rfl ar98 rfl rfl (by first | omega | decide)) rfl ?_; refine vo_step (ok_load1 L (src_box rfl (List.Mem.head _)) rfl rfl rfl rfl) rfl ?_; refine vo_step (ok_indexAr L _ rfl rfl rfl rfl ar98 rfl rfl (by first | omega | decide)) rfl ?_; refine vo_step (ok_load1 L (src_box rfl (List.Mem.head _)) rfl rfl rfl rfl) rfl ?_; refine vo_step (ok_callx L rfl rfl (blt_lt rfl) rfl rfl rfl (fun u H hH _ _ => cmpS_ret hH)) rfl ?_; refine vo_step (ok_assign rfl rfl rfl) rfl ?_; refine vo_nil ?_; refine N_seq ?_; refine V_seq ?_; refine V_region (id := 7) ?_; refine vo_step (ok_move rfl rfl rfl) rfl ?_; refine vo_step (ok_neq rfl rfl rfl rfl (decide_eq_true (by omega))) rfl ?_; refine vo_nil ?_; refine N_seq ?_; refine V_true rfl ?_; refine V_seq ?_; refine V_region (id := 8) ?_; refine vo_step (ok_move rfl rfl rfl) rfl ?_; refine vo_step (ok_assign rfl rfl rfl) rfl ?_; refine vo_nil ?_; refine N_seq ?_
        refine V_ret L (rs := [.tmp 4]) rfl (fun _ _ h => h) Since.refl fun u H hH hle => ?_
        rfl
    · refine V_seq ?_; refine V_region (id := 4) ?_; refine vo_step (ok_lss rfl rfl rfl rfl (decide_eq_true (by omega))) rfl ?_; refine vo_nil ?_; refine N_seq ?_; refine V_seq ?_; refine V_true rfl ?_; refine V_skip ?_; refine N_seq ?_; refine V_seq ?_; refine V_block ?_; refine V_seq ?_; refine V_region (id := 5) ?_; refine vo_step (ok_indexAt L _ rfl rfl rfl rfl rfl rfl rfl (by omega)) rfl ?_; refine vo_stepR (ok_loadHA L (q := 900) (vs := [_, _]) rfl rfl rfl rfl rfl rfl ⟨_, rfl⟩) ?_; refine vo_step (ok_alloc L rfl rfl rfl rfl) rfl ?_; refine vo_step (ok_store L rfl rfl rfl rfl rfl rfl rfl rfl) rfl ?_; refine vo_nil ?_; refine N_seq ?_; refine V_seq ?_
      refine V_box 8 rfl fun b8 hb8 => ?_
      by_cases hz : cmpB t.1.1.2 f.1.1.2 = 0
      · refine V_region (id := 6) ?_; refine vo_step (ok_indexAr L _ rfl rfl rfl rfl ar98 rfl rfl (by first | omega | decide)) rfl ?_; refine vo_step (ok_load1 L (src_box rfl (List.Mem.head _)) rfl rfl rfl rfl) rfl ?_; refine vo_step (ok_indexAr L _ rfl rfl rfl rfl ar98 rfl rfl (by first | omega | decide)) rfl ?_; refine vo_step (ok_load1 L (src_box rfl (List.Mem.head _)) rfl rfl rfl rfl) rfl ?_; refine vo_step (ok_callx L rfl rfl (blt_lt rfl) rfl rfl rfl (fun u H hH _ _ => cmpS_ret hH)) rfl ?_; refine vo_step (ok_assign rfl rfl rfl) rfl ?_; refine vo_nil ?_; refine N_seq ?_; refine V_seq ?_; refine V_region (id := 7) ?_; refine vo_step (ok_move rfl rfl rfl) rfl ?_; refine vo_step (ok_neq rfl rfl rfl rfl (decide_eq_false (by omega))) rfl ?_; refine vo_nil ?_; refine N_seq ?_; refine V_false rfl ?_; refine V_skip ?_; refine N_block ?_; refine N_seq ?_
        refine V_drop (O' := []) (List.nil_sublist _) ?_
        refine V_region (id := 9) ?_; refine vo_step (ok_add rfl rfl rfl rfl (wrap_i64 (by omega) (by omega))) rfl ?_; refine vo_step (ok_move rfl rfl rfl) rfl ?_; refine vo_nil ?_
        exact N_round (x := 1) 2 ⟨hkm, fun _ => i0 (by omega), fun _ => hz, fun h => (by omega)⟩ (by omega) ⟨rfl, rfl, rfl, rfl, rfl, rfl, trivial⟩
      · have ho : ordF f t = cmpB t.1.1.2 f.1.1.2 := ord_lt2 (by omega) (i0 (by omega)) hz
        rw [ho]
        refine V_region (id := 6) ?_; refine vo_step (ok_indexAr L _ rfl rfl rfl rfl ar98 rfl rfl (by first | omega | decide)) rfl ?_; refine vo_step (ok_load1 L (src_box rfl (List.Mem.head _)) rfl rfl rfl rfl) rfl ?_; refine vo_step (ok_indexAr L _ rfl rfl rfl rfl ar98 rfl rfl (by first | omega | decide)) rfl ?_; refine vo_step (ok_load1 L (src_box rfl (List.Mem.head _)) rfl rfl rfl rfl) rfl ?_; refine vo_step (ok_callx L rfl rfl (blt_lt rfl) rfl rfl rfl (fun u H hH _ _ => cmpS_ret hH)) rfl ?_; refine vo_step (ok_assign rfl rfl rfl) rfl ?_; refine vo_nil ?_; refine N_seq ?_; refine V_seq ?_; refine V_region (id := 7) ?_; refine vo_step (ok_move rfl rfl rfl) rfl ?_; refine vo_step (ok_neq rfl rfl rfl rfl (decide_eq_true (by omega))) rfl ?_; refine vo_nil ?_; refine N_seq ?_; refine V_true rfl ?_; refine V_seq ?_; refine V_region (id := 8) ?_; refine vo_step (ok_move rfl rfl rfl) rfl ?_; refine vo_step (ok_assign rfl rfl rfl) rfl ?_; refine vo_nil ?_; refine N_seq ?_
        refine V_ret L (rs := [.tmp 4]) rfl (fun _ _ h => h) Since.refl fun u H hH hle => ?_
        rfl
    · refine V_seq ?_; refine V_region (id := 4) ?_; refine vo_step (ok_lss rfl rfl rfl rfl (decide_eq_true (by omega))) rfl ?_; refine vo_nil ?_; refine N_seq ?_; refine V_seq ?_; refine V_true rfl ?_; refine V_skip ?_; refine N_seq ?_; refine V_seq ?_; refine V_block ?_; refine V_seq ?_; refine V_region (id := 5) ?_; refine vo_step (ok_indexAt L _ rfl rfl rfl rfl rfl rfl rfl (by omega)) rfl ?_; refine vo_stepR (ok_loadHA L (q := 900) (vs := [_, _]) rfl rfl rfl rfl rfl rfl ⟨_, rfl⟩) ?_; refine vo_step (ok_alloc L rfl rfl rfl rfl) rfl ?_; refine vo_step (ok_store L rfl rfl rfl rfl rfl rfl rfl rfl) rfl ?_; refine vo_nil ?_; refine N_seq ?_; refine V_seq ?_
      refine V_box 8 rfl fun b8 hb8 => ?_
      by_cases hz : cmpB t.1.2 f.1.2 = 0
      · refine V_region (id := 6) ?_; refine vo_step (ok_indexAr L _ rfl rfl rfl rfl ar98 rfl rfl (by first | omega | decide)) rfl ?_; refine vo_step (ok_load1 L (src_box rfl (List.Mem.head _)) rfl rfl rfl rfl) rfl ?_; refine vo_step (ok_indexAr L _ rfl rfl rfl rfl ar98 rfl rfl (by first | omega | decide)) rfl ?_; refine vo_step (ok_load1 L (src_box rfl (List.Mem.head _)) rfl rfl rfl rfl) rfl ?_; refine vo_step (ok_callx L rfl rfl (blt_lt rfl) rfl rfl rfl (fun u H hH _ _ => cmpS_ret hH)) rfl ?_; refine vo_step (ok_assign rfl rfl rfl) rfl ?_; refine vo_nil ?_; refine N_seq ?_; refine V_seq ?_; refine V_region (id := 7) ?_; refine vo_step (ok_move rfl rfl rfl) rfl ?_; refine vo_step (ok_neq rfl rfl rfl rfl (decide_eq_false (by omega))) rfl ?_; refine vo_nil ?_; refine N_seq ?_; refine V_false rfl ?_; refine V_skip ?_; refine N_block ?_; refine N_seq ?_
        refine V_drop (O' := []) (List.nil_sublist _) ?_
        refine V_region (id := 9) ?_; refine vo_step (ok_add rfl rfl rfl rfl (wrap_i64 (by omega) (by omega))) rfl ?_; refine vo_step (ok_move rfl rfl rfl) rfl ?_; refine vo_nil ?_
        exact N_round (x := 2) 3 ⟨hkm, fun _ => i0 (by omega), fun _ => i1 (by omega), fun _ => hz⟩ (by omega) ⟨rfl, rfl, rfl, rfl, rfl, rfl, trivial⟩
      · have ho : ordF f t = cmpB t.1.2 f.1.2 := ord_lt3 (by omega) (i0 (by omega)) (i1 (by omega)) hz
        rw [ho]
        refine V_region (id := 6) ?_; refine vo_step (ok_indexAr L _ rfl rfl rfl rfl ar98 rfl rfl (by first | omega | decide)) rfl ?_; refine vo_step (ok_load1 L (src_box rfl (List.Mem.head _)) rfl rfl rfl rfl) rfl ?_; refine vo_step (ok_indexAr L _ rfl rfl rfl rfl ar98 rfl rfl (by first | omega | decide)) rfl ?_; refine vo_step (ok_load1 L (src_box rfl (List.Mem.head _)) rfl rfl rfl rfl) rfl ?_; refine vo_step (ok_callx L rfl rfl (blt_lt rfl) rfl rfl rfl (fun u H hH _ _ => cmpS_ret hH)) rfl ?_; refine vo_step (ok_assign rfl rfl rfl) rfl ?_; refine vo_nil ?_; refine N_seq ?_; refine V_seq ?_; refine V_region (id := 7) ?_; refine vo_step (ok_move rfl rfl rfl) rfl ?_; refine vo_step (ok_neq rfl rfl rfl rfl (decide_eq_true (by omega))) rfl ?_; refine vo_nil ?_; refine N_seq ?_; refine V_true rfl ?_; refine V_seq ?_; refine V_region (id := 8) ?_; refine vo_step (ok_move rfl rfl rfl) rfl ?_; refine vo_step (ok_assign rfl rfl rfl) rfl ?_; refine vo_nil ?_; refine N_seq ?_
        refine V_ret L (rs := [.tmp 4]) rfl (fun _ _ h => h) Since.refl fun u H hH hle => ?_
        rfl
    · omega
  · obtain rfl : k = m := by omega
    by_cases h4 : p < 4
    · have ho : ordF f t = 0 := ord_0 (by omega) (fun h => i0 (by omega)) (fun h => i1 (by omega)) (fun h => i2 (by omega))
      rw [ho]
      refine V_seq ?_; refine V_region (id := 4) ?_; refine vo_step (ok_lss rfl rfl rfl rfl (decide_eq_false (by omega))) rfl ?_; refine vo_nil ?_; refine N_seq ?_; refine V_seq ?_; refine V_false rfl ?_; refine V_exit ?_; refine X_then ?_; refine X_then ?_; refine X_here ?_; refine N_seq ?_; refine V_seq ?_; refine V_seq ?_; refine V_region (id := 10) ?_; refine vo_step (ok_fieldAt L rfl rfl rfl rfl) rfl ?_; refine vo_step (ok_load1 L (src_at rfl) rfl rfl rfl rfl) rfl ?_; refine vo_step (ok_lss rfl rfl rfl rfl (decide_eq_true (by omega))) rfl ?_; refine vo_nil ?_; refine N_seq ?_; refine V_true rfl ?_; refine V_seq ?_; refine V_region (id := 11) ?_; refine vo_step (ok_assign rfl rfl rfl) rfl ?_; refine vo_nil ?_; refine N_seq ?_
      refine V_ret L (rs := [.tmp 4]) rfl (fun _ _ h => h) Since.refl fun u H hH hle => ?_
      rfl
    · have ho : ordF f t = cmp3 t.2 f.2.1 := ord_4 (by omega) (i0 (by omega)) (i1 (by omega)) (i2 (by omega))
      rw [ho]
      refine V_box 5 rfl fun b5 hb5 => ?_
      refine V_seq ?_; refine V_region (id := 4) ?_; refine vo_step (ok_lss rfl rfl rfl rfl (decide_eq_false (by omega))) rfl ?_; refine vo_nil ?_; refine N_seq ?_; refine V_seq ?_; refine V_false rfl ?_; refine V_exit ?_; refine X_then ?_; refine X_then ?_; refine X_here ?_; refine N_seq ?_; refine V_seq ?_; refine V_seq ?_; refine V_region (id := 10) ?_; refine vo_step (ok_fieldAt L rfl rfl rfl rfl) rfl ?_; refine vo_step (ok_load1 L (src_at rfl) rfl rfl rfl rfl) rfl ?_; refine vo_step (ok_lss rfl rfl rfl rfl (decide_eq_false (by omega))) rfl ?_; refine vo_nil ?_; refine N_seq ?_; refine V_false rfl ?_; refine V_skip ?_; refine N_seq ?_; refine V_seq ?_; refine V_region (id := 12) ?_; refine vo_step (ok_fieldP L rfl rfl rfl rfl) rfl ?_; refine vo_step (ok_loadA L (vs := [_, _, _]) (src_box rfl (List.Mem.head _)) rfl rfl rfl rfl ⟨_, rfl⟩) rfl ?_; refine vo_step (ok_fieldAt L rfl rfl rfl rfl) rfl ?_; refine vo_step (ok_fieldAt L rfl rfl rfl rfl) rfl ?_; refine vo_step (ok_loadA L (vs := [_, _, _]) (src_at rfl) rfl rfl rfl rfl ⟨_, rfl⟩) rfl ?_; refine vo_step (ok_callx L rfl rfl (blt_lt rfl) rfl rfl rfl (fun u H hH _ _ => cmpU_ret hH)) rfl ?_; refine vo_step (ok_assign rfl rfl rfl) rfl ?_; refine vo_nil ?_; refine N_seq ?_
      refine V_ret L (rs := [.tmp 4]) rfl (fun _ _ h => h) Since.refl fun u H hH hle => ?_
      rfl
end Go.V.L3
/- The walks of filters (chapter 3): spans, what is selected. -/
namespace Go.V.L3
open Go.Proofs Go.RowKit Go.V Go.V.L2
/-- The span of a filter in a list, or the error. -/
def spanR (f : FT) (l : List U) : Nat × Nat × Int := if fE f = 0 then (if isB l = true then ((spanF f l).1, (spanF f l).2, 0) else (0, 0, 18)) else (0, 0, fE f)
def selR (f : FT) (l : List U) : List U × Int := if fE f = 0 then (if isB l = true then (l.filter (takesB f), 0) else ([], 18)) else ([], fE f)
theorem us_shape {l : List U} {fu : Bool} {v : Value} {H : Heap} (h : US l fu v H) : ∃ p c, v = .slice p l.length c := by
  obtain ⟨_, ⟨h0, rfl⟩ | ⟨b, off, cap, cs, ty0, fr, rfl, _⟩⟩ := h
  · exact ⟨none, 0, by rw [h0]⟩
  · exact ⟨_, _, rfl⟩
theorem us_sub {l : List U} {a b : Nat} (hb : b ≤ l.length) : ((l.flatMap ucs).drop (a * 6)).take ((b - a) * 6) = ((l.drop a).take (b - a)).flatMap ucs := by
  have h1 : ∀ (l : List U) (a : Nat), (l.flatMap ucs).drop (a * 6) = (l.drop a).flatMap ucs := by
    intro l
    induction l with
    | nil => intro a; simp
    | cons x l ih =>
      intro a
      cases a with
      | zero => simp
      | succ a =>
        rw [Nat.succ_mul, Nat.add_comm, List.flatMap_cons, List.drop_succ_cons, ← ih a, ← List.drop_drop]
        rfl
  have h2 : ∀ (l : List U) (a : Nat), (l.flatMap ucs).take (a * 6) = (l.take a).flatMap ucs := by
    intro l
    induction l with
    | nil => intro a; simp
    | cons x l ih =>
      intro a
      cases a with
      | zero => simp
      | succ a => rw [Nat.succ_mul, Nat.add_comm, List.flatMap_cons, List.take_succ_cons, List.flatMap_cons, show 6 + a * 6 = (ucs x).length + a * 6 from rfl, List.take_length_add_append, ih a]
  rw [h1, h2]
attribute [local irreducible] V N X VO Par StepOK Has Ret RetL RetO RetT Src
set_option maxHeartbeats 1000000 in
theorem from_ret {l : List U} {fu : Bool} {f : FT} {i : Nat} {t : U} (hi : l[i]? = some t) (hl : l.length ≤ 1000000) {r : Bool} (hr : decide (0 ≤ ordF f t) = r) {lv : Value} {w : World} {B : Heap} (hB : B.Le (hp w)) (hv : US l fu lv B) :
    Ret Try.prog 48 [spV lv f, .int .i64 i] w B (fun v _ => v = .bool r) := by
  subst hr
  refine V_enter Try.func48 rfl Try.ntmps48 (Nat.le_of_ble_eq_true rfl) hB ?_
  by_cases h : 0 ≤ ordF f t
  · rw [decide_eq_true h]
    refine V_seq ?_; refine V_region (id := 0) ?_; refine vo_step (ok_box rfl rfl rfl rfl) rfl ?_; refine vo_step (ok_assign rfl rfl rfl) rfl ?_; refine vo_nil ?_; refine N_seq ?_; refine V_seq ?_; refine V_region (id := 1) ?_; refine vo_step (ok_loadA L (vs := [_, _, _, _, _, _, _, _, _]) (src_at rfl) rfl rfl rfl rfl ⟨_, rfl⟩) rfl ?_; refine vo_step (ok_move rfl rfl rfl) rfl ?_; refine vo_step (ok_callx L rfl rfl (blt_lt rfl) rfl rfl rfl (fun u H hH hle _ => order_ret hi hl hH (hv.le hle))) rfl ?_; refine vo_step (ok_geq rfl rfl rfl rfl (decide_eq_true (by omega))) rfl ?_; refine vo_step (ok_assign rfl rfl rfl) rfl ?_; refine vo_nil ?_; refine N_seq ?_
    refine V_ret L (rs := [.tmp 4]) rfl (fun _ _ h => h) Since.refl fun u H hH hle => ?_
    rfl
  · rw [decide_eq_false h]
    refine V_seq ?_; refine V_region (id := 0) ?_; refine vo_step (ok_box rfl rfl rfl rfl) rfl ?_; refine vo_step (ok_assign rfl rfl rfl) rfl ?_; refine vo_nil ?_; refine N_seq ?_; refine V_seq ?_; refine V_region (id := 1) ?_; refine vo_step (ok_loadA L (vs := [_, _, _, _, _, _, _, _, _]) (src_at rfl) rfl rfl rfl rfl ⟨_, rfl⟩) rfl ?_; refine vo_step (ok_move rfl rfl rfl) rfl ?_; refine vo_step (ok_callx L rfl rfl (blt_lt rfl) rfl rfl rfl (fun u H hH hle _ => order_ret hi hl hH (hv.le hle))) rfl ?_; refine vo_step (ok_geq rfl rfl rfl rfl (decide_eq_false (by omega))) rfl ?_; refine vo_step (ok_assign rfl rfl rfl) rfl ?_; refine vo_nil ?_; refine N_seq ?_
    refine V_ret L (rs := [.tmp 4]) rfl (fun _ _ h => h) Since.refl fun u H hH hle => ?_
    rfl
set_option maxHeartbeats 1000000 in
theorem behind_ret {l : List U} {fu : Bool} {f : FT} {i : Nat} {t : U} (hi : l[i]? = some t) (hl : l.length ≤ 1000000) {r : Bool} (hr : decide (0 < ordF f t) = r) {lv : Value} {w : World} {B : Heap} (hB : B.Le (hp w)) (hv : US l fu lv B) :
    Ret Try.prog 49 [spV lv f, .int .i64 i] w B (fun v _ => v = .bool r) := by
  subst hr
  refine V_enter Try.func49 rfl Try.ntmps49 (Nat.le_of_ble_eq_true rfl) hB ?_
  by_cases h : 0 < ordF f t
  · rw [decide_eq_true h]
    refine V_seq ?_; refine V_region (id := 0) ?_; refine vo_step (ok_box rfl rfl rfl rfl) rfl ?_; refine vo_step (ok_assign rfl rfl rfl) rfl ?_; refine vo_nil ?_; refine N_seq ?_; refine V_seq ?_; refine V_region (id := 1) ?_; refine vo_step (ok_loadA L (vs := [_, _, _, _, _, _, _, _, _]) (src_at rfl) rfl rfl rfl rfl ⟨_, rfl⟩) rfl ?_; refine vo_step (ok_move rfl rfl rfl) rfl ?_; refine vo_step (ok_callx L rfl rfl (blt_lt rfl) rfl rfl rfl (fun u H hH hle _ => order_ret hi hl hH (hv.le hle))) rfl ?_; refine vo_step (ok_gtr rfl rfl rfl rfl (decide_eq_true (by omega))) rfl ?_; refine vo_step (ok_assign rfl rfl rfl) rfl ?_; refine vo_nil ?_; refine N_seq ?_
    refine V_ret L (rs := [.tmp 4]) rfl (fun _ _ h => h) Since.refl fun u H hH hle => ?_
    rfl
  · rw [decide_eq_false h]
    refine V_seq ?_; refine V_region (id := 0) ?_; refine vo_step (ok_box rfl rfl rfl rfl) rfl ?_; refine vo_step (ok_assign rfl rfl rfl) rfl ?_; refine vo_nil ?_; refine N_seq ?_; refine V_seq ?_; refine V_region (id := 1) ?_; refine vo_step (ok_loadA L (vs := [_, _, _, _, _, _, _, _, _]) (src_at rfl) rfl rfl rfl rfl ⟨_, rfl⟩) rfl ?_; refine vo_step (ok_move rfl rfl rfl) rfl ?_; refine vo_step (ok_callx L rfl rfl (blt_lt rfl) rfl rfl rfl (fun u H hH hle _ => order_ret hi hl hH (hv.le hle))) rfl ?_; refine vo_step (ok_gtr rfl rfl rfl rfl (decide_eq_false (by omega))) rfl ?_; refine vo_step (ok_assign rfl rfl rfl) rfl ?_; refine vo_nil ?_; refine N_seq ?_
    refine V_ret L (rs := [.tmp 4]) rfl (fun _ _ h => h) Since.refl fun u H hH hle => ?_
    rfl
set_option maxHeartbeats 1000000 in
theorem search_ret {n g : Nat} {fs : List Value} {q : Nat → Bool} {r : Nat} (hn : n ≤ 1000000) (hr : r ≤ n) (h0 : ∀ j, j < r → q j = false) (h1 : ∀ j, r ≤ j → j < n → q j = true) (hfn : L.fn g = some ()) {w : World} {B : Heap} (hB : B.Le (hp w))
    (hf : ∀ (u : World) (H : Heap), H.Le (hp u) → B.Le H → ∀ i : Nat, i < n → Ret Try.prog g (fs ++ [.int .i64 i]) u H (fun v _ => v = .bool (q i))) :
    Ret Try.prog 50 [.int .i64 n, .func (.func g) fs.toArray #[]] w B (fun v _ => v = .int .i64 r) := by
  refine V_enter Try.func50 rfl Try.ntmps50 (Nat.le_of_ble_eq_true rfl) hB ?_
  refine V_seq ?_; refine V_region (id := 0) ?_; refine vo_step (ok_assign rfl rfl rfl) rfl ?_; refine vo_nil ?_; refine N_seq ?_; refine V_seq ?_; refine V_region (id := 1) ?_; refine vo_step (ok_move rfl rfl rfl) rfl ?_; refine vo_step (ok_assign rfl rfl rfl) rfl ?_; refine vo_step (ok_assign rfl rfl rfl) rfl ?_; refine vo_nil ?_; refine N_seq ?_; refine V_seq ?_; refine V_block ?_
  refine V_loop (fun s : Nat × Nat => [(1, .is (.func (.func g) fs.toArray #[])), (5, .is (.int .i64 s.1)), (6, .is (.int .i64 s.2))])
    (fun s => s.1 ≤ r ∧ r ≤ s.2 ∧ s.2 ≤ n) (fun s => s.2 - s.1) (0, n) ⟨Nat.zero_le _, hr, Nat.le_refl _⟩ ⟨rfl, rfl, rfl, trivial⟩ ?_
  rintro ⟨i, j⟩ ⟨hir, hrj, hjn⟩
  dsimp only at hir hrj hjn ⊢
  by_cases hlt : i < j
  · obtain ⟨h, hh⟩ : ∃ h, h = (i + j) / 2 := ⟨_, rfl⟩
    have hsh : ((i : Int) + (j : Int)).fdiv (2 ^ min (1 : Int).toNat IntKind.u64.bits) = (h : Int) := by
      show ((i : Int) + (j : Int)).fdiv 2 = (h : Int)
      rw [Int.fdiv_eq_ediv_of_nonneg _ (by decide)]
      omega
    cases hq : q h
    · have hv : ∀ (u : World) (H : Heap), H.Le (hp u) → B.Le H → Ret Try.prog g (fs ++ [.int .i64 h]) u H (fun v _ => v = .bool false) := fun u H a b => by have := hf u H a b h (by omega); rwa [hq] at this
      have hhr : h < r := by
        rcases Nat.lt_or_ge h r with h2 | h2
        · exact h2
        · have := h1 h h2 (by omega); rw [hq] at this; cases this
      refine V_seq ?_; refine V_seq ?_; refine V_region (id := 2) ?_; refine vo_step (ok_move rfl rfl rfl) rfl ?_; refine vo_step (ok_move rfl rfl rfl) rfl ?_; refine vo_step (ok_lss rfl rfl rfl rfl (decide_eq_true (by omega))) rfl ?_; refine vo_nil ?_; refine N_seq ?_; refine V_true rfl ?_; refine V_skip ?_; refine N_seq ?_; refine V_block ?_; refine V_seq ?_; refine V_region (id := 3) ?_; refine vo_step (ok_move rfl rfl rfl) rfl ?_; refine vo_step (ok_move rfl rfl rfl) rfl ?_; refine vo_step (ok_add rfl rfl rfl rfl (wrap_i64 (by omega) (by omega))) rfl ?_; refine vo_step (ok_conv rfl rfl rfl cv3_141.1 cv3_141.2 (wrap_u64 (by omega) (by omega))) rfl ?_; refine vo_step (ok_shr rfl rfl rfl rfl (by omega) (by assumption)) rfl ?_; refine vo_step (ok_conv rfl rfl rfl cv141_3.1 cv141_3.2 (wrap_i64 (by omega) (by omega))) rfl ?_; refine vo_step (ok_assign rfl rfl rfl) rfl ?_; refine vo_nil ?_; refine N_seq ?_; refine V_seq ?_; refine V_region (id := 4) ?_; refine vo_step (ok_move rfl rfl rfl) rfl ?_; refine vo_step (ok_move rfl rfl rfl) rfl ?_; refine vo_step (ok_callFx (cap := []) L rfl rfl (blt_lt rfl) rfl rfl hfn (fun u H hH hle => hv u H hH hle)) rfl ?_; refine vo_step (ok_not rfl rfl rfl rfl) rfl ?_; refine vo_nil ?_; refine N_seq ?_; refine V_true rfl ?_; refine V_region (id := 5) ?_; refine vo_step (ok_move rfl rfl rfl) rfl ?_; refine vo_step (ok_add rfl rfl rfl rfl (wrap_i64 (by omega) (by omega))) rfl ?_; refine vo_step (ok_assign rfl rfl rfl) rfl ?_; refine vo_nil ?_; refine N_block ?_
      exact N_round (x := (i, j)) (h + 1, j) ⟨hhr, hrj, hjn⟩ (by dsimp only; omega) ⟨rfl, rfl, rfl, trivial⟩
    · have hv : ∀ (u : World) (H : Heap), H.Le (hp u) → B.Le H → Ret Try.prog g (fs ++ [.int .i64 h]) u H (fun v _ => v = .bool true) := fun u H a b => by have := hf u H a b h (by omega); rwa [hq] at this
      have hhr : r ≤ h := by
        rcases Nat.lt_or_ge h r with h2 | h2
        · have := h0 h h2; rw [hq] at this; cases this
        · exact h2
      refine V_seq ?_; refine V_seq ?_; refine V_region (id := 2) ?_; refine vo_step (ok_move rfl rfl rfl) rfl ?_; refine vo_step (ok_move rfl rfl rfl) rfl ?_; refine vo_step (ok_lss rfl rfl rfl rfl (decide_eq_true (by omega))) rfl ?_; refine vo_nil ?_; refine N_seq ?_; refine V_true rfl ?_; refine V_skip ?_; refine N_seq ?_; refine V_block ?_; refine V_seq ?_; refine V_region (id := 3) ?_; refine vo_step (ok_move rfl rfl rfl) rfl ?_; refine vo_step (ok_move rfl rfl rfl) rfl ?_; refine vo_step (ok_add rfl rfl rfl rfl (wrap_i64 (by omega) (by omega))) rfl ?_; refine vo_step (ok_conv rfl rfl rfl cv3_141.1 cv3_141.2 (wrap_u64 (by omega) (by omega))) rfl ?_; refine vo_step (ok_shr rfl rfl rfl rfl (by omega) (by assumption)) rfl ?_; refine vo_step (ok_conv rfl rfl rfl cv141_3.1 cv141_3.2 (wrap_i64 (by omega) (by omega))) rfl ?_; refine vo_step (ok_assign rfl rfl rfl) rfl ?_; refine vo_nil ?_; refine N_seq ?_; refine V_seq ?_; refine V_region (id := 4) ?_; refine vo_step (ok_move rfl rfl rfl) rfl ?_; refine vo_step (ok_move rfl rfl rfl) rfl ?_; refine vo_step (ok_callFx (cap := []) L rfl rfl (blt_lt rfl) rfl rfl hfn (fun u H hH hle => hv u H hH hle)) rfl ?_; refine vo_step (ok_not rfl rfl rfl rfl) rfl ?_; refine vo_nil ?_; refine N_seq ?_; refine V_false rfl ?_; refine V_region (id := 6) ?_; refine vo_step (ok_move rfl rfl rfl) rfl ?_; refine vo_step (ok_assign rfl rfl rfl) rfl ?_; refine vo_nil ?_; refine N_block ?_
      exact N_round (x := (i, j)) (i, h) ⟨hir, hhr, by dsimp only; omega⟩ (by dsimp only; omega) ⟨rfl, rfl, rfl, trivial⟩
  · obtain rfl : i = r := by omega
    refine V_seq ?_; refine V_seq ?_; refine V_region (id := 2) ?_; refine vo_step (ok_move rfl rfl rfl) rfl ?_; refine vo_step (ok_move rfl rfl rfl) rfl ?_; refine vo_step (ok_lss rfl rfl rfl rfl (decide_eq_false (by omega))) rfl ?_; refine vo_nil ?_; refine N_seq ?_; refine V_false rfl ?_; refine V_exit ?_; refine X_then ?_; refine X_then ?_; refine X_here ?_; refine N_seq ?_; refine V_seq ?_; refine V_region (id := 7) ?_; refine vo_step (ok_move rfl rfl rfl) rfl ?_; refine vo_step (ok_assign rfl rfl rfl) rfl ?_; refine vo_nil ?_; refine N_seq ?_
    refine V_ret L (rs := [.tmp 4]) rfl (fun _ _ h => h) Since.refl fun u H hH hle => ?_
    rfl
theorem clipU_ret {l : List U} {fu : Bool} {v : Value} {w : World} {B : Heap} (hB : B.Le (hp w)) (hv : US l fu v B) : Ret Try.prog 46 [v] w B (US l true) := by
  refine V_enter Try.func46 rfl Try.ntmps46 (Nat.le_of_ble_eq_true rfl) hB ?_
  refine V_seen 0 (US l fu) rfl SlV.mono hv ?_
  refine V_seq ?_; refine V_region (id := 0) ?_; refine vo_step (ok_assign rfl rfl rfl) rfl ?_; refine vo_nil ?_; refine N_seq ?_; refine V_seq ?_; refine V_region (id := 1) ?_; refine vo_step (ok_moves' rfl rfl rfl) rfl ?_; refine vo_step (ok_moves' rfl rfl rfl) rfl ?_; refine vo_step (ok_lenV L rfl rfl rfl rfl) rfl ?_; refine vo_step (ok_moves' rfl rfl rfl) rfl ?_; refine vo_step (ok_lenV L rfl rfl rfl rfl) rfl ?_; refine vo_step (ok_clipV L rfl rfl rfl rfl rfl rfl rfl) rfl ?_; refine vo_step (ok_assigns' rfl rfl rfl) rfl ?_; refine vo_nil ?_; refine N_seq ?_
  refine V_ret L (rs := [.tmp 2]) rfl (fun _ _ h => h) Since.refl fun u H hH hle => ?_
  exact fun v hv => hv
set_option maxHeartbeats 2000000 in
set_option maxRecDepth 20000 in
theorem span_ret {l : List U} {fu : Bool} {f : FT} (hz : FM f) (hl : l.length ≤ 1000000) {r : Nat × Nat × Int} (hr : spanR f l = r) {lv : Value} {w : World} {B : Heap} (hB : B.Le (hp w)) (hv : US l fu lv B) :
    Ret Try.prog 13 [lv, fv f] w B (fun v _ => v = .tuple #[.int .i64 r.1, .int .i64 r.2.1, .int .i64 r.2.2]) := by
  subst hr
  unfold spanR
  obtain ⟨pl0, cp, rfl⟩ := us_shape hv
  refine V_enter Try.func13 rfl Try.ntmps13 (Nat.le_of_ble_eq_true rfl) hB ?_
  by_cases hE : fE f = 0
  · rw [if_pos hE]
    cases h1 : isB l
    · rw [if_neg (by decide)]
      refine V_seq ?_; refine V_region (id := 0) ?_; refine vo_step (ok_box rfl rfl rfl rfl) rfl ?_; refine vo_step (ok_assign rfl rfl rfl) rfl ?_; refine vo_step (ok_assign rfl rfl rfl) rfl ?_; refine vo_step (ok_assign rfl rfl rfl) rfl ?_; refine vo_nil ?_; refine N_seq ?_; refine V_seq ?_; refine V_seq ?_; refine V_region (id := 1) ?_; refine vo_step (ok_loadA L (vs := [_, _, _, _, _, _, _]) (src_at rfl) rfl rfl rfl rfl ⟨_, rfl⟩) rfl ?_; refine vo_step (ok_callx L rfl rfl (blt_lt rfl) rfl rfl rfl (fun u H hH hle _ => fcheck_ret hz hE hH)) rfl ?_; refine vo_step (ok_assign rfl rfl rfl) rfl ?_; refine vo_nil ?_; refine N_seq ?_; refine V_seq ?_; refine V_region (id := 2) ?_; refine vo_step (ok_move rfl rfl rfl) rfl ?_; refine vo_step (ok_neq rfl rfl rfl rfl (decide_eq_false (by omega))) rfl ?_; refine vo_nil ?_; refine N_seq ?_; refine V_false rfl ?_; refine V_skip ?_; refine N_seq ?_; refine V_seq ?_; refine V_seq ?_; refine V_region (id := 4) ?_; refine vo_step (ok_move rfl rfl rfl) rfl ?_; refine vo_step (ok_callx L rfl rfl (blt_lt rfl) rfl rfl rfl (fun u H hH hle _ => tis_ret hl h1 hH (hv.le hle))) rfl ?_; refine vo_step (ok_not rfl rfl rfl rfl) rfl ?_; refine vo_nil ?_; refine N_seq ?_; refine V_true rfl ?_; refine V_seq ?_; refine V_region (id := 5) ?_; refine vo_step (ok_assign rfl rfl rfl) rfl ?_; refine vo_step (ok_assign rfl rfl rfl) rfl ?_; refine vo_step (ok_assign rfl rfl rfl) rfl ?_; refine vo_nil ?_; refine N_seq ?_
      refine V_ret L (rs := [.tmp 4, .tmp 5, .tmp 6]) rfl (fun _ _ h => h) Since.refl fun u H hH hle => ?_
      rfl
    · rw [if_pos rfl]
      have hs : Sst cmpT l := of_decide_eq_true h1
      obtain ⟨o1, o2⟩ := span_ord (f := f) hs
      have hq1 : ∀ j, j < (spanF f l).1 → decide (0 ≤ ordF f (l.getD j tNil)) = false := fun j hj => by
        obtain ⟨x, hx⟩ := get_some (show j < l.length by omega)
        rw [List.getD_eq_getElem?_getD, hx]
        have := (span_from hs hx).1 hj
        exact decide_eq_false (by show ¬ 0 ≤ ordF f x; omega)
      have hq2 : ∀ j, (spanF f l).1 ≤ j → j < l.length → decide (0 ≤ ordF f (l.getD j tNil)) = true := fun j hj hjl => by
        obtain ⟨x, hx⟩ := get_some hjl
        rw [List.getD_eq_getElem?_getD, hx]
        have := mt (span_from (f := f) hs hx).2 (by omega)
        exact decide_eq_true (by show 0 ≤ ordF f x; omega)
      have hq3 : ∀ j, j < (spanF f l).2 → decide (0 < ordF f (l.getD j tNil)) = false := fun j hj => by
        obtain ⟨x, hx⟩ := get_some (show j < l.length by omega)
        rw [List.getD_eq_getElem?_getD, hx]
        have := (span_to hs hx).1 hj
        exact decide_eq_false (by show ¬ 0 < ordF f x; omega)
      have hq4 : ∀ j, (spanF f l).2 ≤ j → j < l.length → decide (0 < ordF f (l.getD j tNil)) = true := fun j hj hjl => by
        obtain ⟨x, hx⟩ := get_some hjl
        rw [List.getD_eq_getElem?_getD, hx]
        have := mt (span_to (f := f) hs hx).2 (by omega)
        exact decide_eq_true (by show 0 < ordF f x; omega)
      have hf1 : ∀ (B2 : Heap), B.Le B2 → ∀ (u : World) (H : Heap), H.Le (hp u) → B2.Le H → ∀ i : Nat, i < l.length → Ret Try.prog 48 ([spV (.slice pl0 l.length cp) f] ++ [.int .i64 i]) u H (fun v _ => v = .bool (decide (0 ≤ ordF f (l.getD i tNil)))) := fun B2 h2 u H hH hle i hi => by
        obtain ⟨x, hx⟩ := get_some hi
        rw [List.getD_eq_getElem?_getD, hx]
        exact from_ret hx hl rfl hH (hv.le (h2.trans hle))
      have hf2 : ∀ (B2 : Heap), B.Le B2 → ∀ (u : World) (H : Heap), H.Le (hp u) → B2.Le H → ∀ i : Nat, i < l.length → Ret Try.prog 49 ([spV (.slice pl0 l.length cp) f] ++ [.int .i64 i]) u H (fun v _ => v = .bool (decide (0 < ordF f (l.getD i tNil)))) := fun B2 h2 u H hH hle i hi => by
        obtain ⟨x, hx⟩ := get_some hi
        rw [List.getD_eq_getElem?_getD, hx]
        exact behind_ret hx hl rfl hH (hv.le (h2.trans hle))
      refine V_seq ?_; refine V_region (id := 0) ?_; refine vo_step (ok_box rfl rfl rfl rfl) rfl ?_; refine vo_step (ok_assign rfl rfl rfl) rfl ?_; refine vo_step (ok_assign rfl rfl rfl) rfl ?_; refine vo_step (ok_assign rfl rfl rfl) rfl ?_; refine vo_nil ?_; refine N_seq ?_; refine V_seq ?_; refine V_seq ?_; refine V_region (id := 1) ?_; refine vo_step (ok_loadA L (vs := [_, _, _, _, _, _, _]) (src_at rfl) rfl rfl rfl rfl ⟨_, rfl⟩) rfl ?_; refine vo_step (ok_callx L rfl rfl (blt_lt rfl) rfl rfl rfl (fun u H hH hle _ => fcheck_ret hz hE hH)) rfl ?_; refine vo_step (ok_assign rfl rfl rfl) rfl ?_; refine vo_nil ?_; refine N_seq ?_; refine V_seq ?_; refine V_region (id := 2) ?_; refine vo_step (ok_move rfl rfl rfl) rfl ?_; refine vo_step (ok_neq rfl rfl rfl rfl (decide_eq_false (by omega))) rfl ?_; refine vo_nil ?_; refine N_seq ?_; refine V_false rfl ?_; refine V_skip ?_; refine N_seq ?_; refine V_seq ?_; refine V_seq ?_; refine V_region (id := 4) ?_; refine vo_step (ok_move rfl rfl rfl) rfl ?_; refine vo_step (ok_callx L rfl rfl (blt_lt rfl) rfl rfl rfl (fun u H hH hle _ => tis_ret hl h1 hH (hv.le hle))) rfl ?_; refine vo_step (ok_not rfl rfl rfl rfl) rfl ?_; refine vo_nil ?_; refine N_seq ?_; refine V_false rfl ?_; refine V_skip ?_; refine N_seq ?_; refine V_seq ?_; refine V_regionD (id := 6) [] mixed (by kernel_rfl) ?_; refine par_step (ok_move rfl rfl rfl) rfl ?_; refine par_step (ok_loadA L (vs := [_, _, _, _, _, _, _]) (src_at rfl) rfl rfl rfl rfl ⟨_, rfl⟩) rfl ?_; refine par_step (ok_loadA L (vs := [_, _, _, _, _, _, _]) (src_at rfl) rfl rfl rfl rfl ⟨_, rfl⟩) rfl ?_; refine par_step (ok_callx L rfl rfl (blt_lt rfl) rfl rfl rfl (fun u H hH hle _ => prefix_ret rfl hH)) rfl ?_; refine par_step (ok_build (cs := [_, _, _, _, _, _, _, _, _]) rfl rfl pl94 rfl rfl) rfl ?_; refine par_step (ok_alloc L rfl rfl rfl rfl) rfl ?_; refine par_step (ok_store L rfl rfl rfl rfl rfl rfl rfl rfl) rfl ?_; refine par_nil ?_; refine N_seq ?_; refine V_seq ?_; refine V_regionD (id := 7) [] mixed (by kernel_rfl) ?_; refine par_step (ok_loadA L (vs := [_, _, _, _, _, _, _, _, _]) (src_own rfl) rfl rfl rfl rfl ⟨_, rfl⟩) rfl ?_; refine par_step (ok_makeFunc rfl rfl rfl rfl) rfl ?_; refine par_step (ok_loadA L (vs := [_, _, _, _, _, _, _, _, _]) (src_own rfl) rfl rfl rfl rfl ⟨_, rfl⟩) rfl ?_; refine par_step (ok_makeFunc rfl rfl rfl rfl) rfl ?_; refine par_step (ok_assign rfl rfl rfl) rfl ?_; refine par_step (ok_assign rfl rfl rfl) rfl ?_; refine par_nil ?_; refine N_seq ?_; refine V_seq ?_; refine V_region (id := 8) ?_; refine vo_step (ok_move rfl rfl rfl) rfl ?_; refine vo_step (ok_lenL L rfl rfl rfl rfl) rfl ?_; refine vo_step (ok_move rfl rfl rfl) rfl ?_; refine vo_step (ok_callx (r := .int .i64 (spanF f l).1) L rfl rfl (blt_lt rfl) rfl rfl rfl (fun u H hH hle _ => search_ret (fs := [spV (.slice pl0 l.length cp) f]) (q := fun i => decide (0 ≤ ordF f (l.getD i tNil))) hl (by omega) hq1 hq2 rfl hH (hf1 H hle))) rfl ?_; refine vo_step (ok_move rfl rfl rfl) rfl ?_; refine vo_step (ok_lenL L rfl rfl rfl rfl) rfl ?_; refine vo_step (ok_move rfl rfl rfl) rfl ?_; refine vo_step (ok_callx (r := .int .i64 (spanF f l).2) L rfl rfl (blt_lt rfl) rfl rfl rfl (fun u H hH hle _ => search_ret (fs := [spV (.slice pl0 l.length cp) f]) (q := fun i => decide (0 < ordF f (l.getD i tNil))) hl o2 hq3 hq4 rfl hH (hf2 H hle))) rfl ?_; refine vo_step (ok_assign rfl rfl rfl) rfl ?_; refine vo_step (ok_assign rfl rfl rfl) rfl ?_; refine vo_step (ok_assign rfl rfl rfl) rfl ?_; refine vo_nil ?_; refine N_seq ?_
      refine V_ret L (rs := [.tmp 4, .tmp 5, .tmp 6]) rfl (fun _ _ h => h) Since.refl fun u H hH hle => ?_
      rfl
  · rw [if_neg hE]
    refine V_seq ?_; refine V_region (id := 0) ?_; refine vo_step (ok_box rfl rfl rfl rfl) rfl ?_; refine vo_step (ok_assign rfl rfl rfl) rfl ?_; refine vo_step (ok_assign rfl rfl rfl) rfl ?_; refine vo_step (ok_assign rfl rfl rfl) rfl ?_; refine vo_nil ?_; refine N_seq ?_; refine V_seq ?_; refine V_seq ?_; refine V_region (id := 1) ?_; refine vo_step (ok_loadA L (vs := [_, _, _, _, _, _, _]) (src_at rfl) rfl rfl rfl rfl ⟨_, rfl⟩) rfl ?_; refine vo_step (ok_callx L rfl rfl (blt_lt rfl) rfl rfl rfl (fun u H hH hle _ => fcheck_ret hz rfl hH)) rfl ?_; refine vo_step (ok_assign rfl rfl rfl) rfl ?_; refine vo_nil ?_; refine N_seq ?_; refine V_seq ?_; refine V_region (id := 2) ?_; refine vo_step (ok_move rfl rfl rfl) rfl ?_; refine vo_step (ok_neq rfl rfl rfl rfl (decide_eq_true (by omega))) rfl ?_; refine vo_nil ?_; refine N_seq ?_; refine V_true rfl ?_; refine V_seq ?_; refine V_region (id := 3) ?_; refine vo_step (ok_move rfl rfl rfl) rfl ?_; refine vo_step (ok_assign rfl rfl rfl) rfl ?_; refine vo_step (ok_assign rfl rfl rfl) rfl ?_; refine vo_step (ok_assign rfl rfl rfl) rfl ?_; refine vo_nil ?_; refine N_seq ?_
    refine V_ret L (rs := [.tmp 4, .tmp 5, .tmp 6]) rfl (fun _ _ h => h) Since.refl fun u H hH hle => ?_
    rfl
end Go.V.L3
/- The walks of filters (chapter 3): what is selected; both. -/
namespace Go.V.L3
open Go.Proofs Go.RowKit Go.V Go.V.L2
theorem LE2.mk {φ : Value → Heap → Prop} {a tv : Value} {H : Heap} (h : φ tv H) : TupS [φ, fun v _ => v = a] (.tuple #[tv, a]) H :=
  ⟨[tv, a], rfl, rfl, fun i ψ x hi hx => by
    rcases i with _ | _ | i
    · simp at hi hx; subst hi hx; exact h
    · simp at hi hx; subst hi hx; rfl
    · simp at hi⟩
theorem LE2.mono {φ : Value → Heap → Prop} {a : Value} (h : Kn.mono (.sat φ)) : Kn.mono (.sat (TupS [φ, fun v _ => v = a])) := TupS.mono fun ψ hψ => by
  rcases List.mem_cons.1 hψ with rfl | hψ
  · exact h
  · rw [List.mem_singleton] at hψ
    subst hψ
    exact fun _ _ _ h _ => h
theorem span_ret' {l : List U} {fu : Bool} {f : FT} (hz : FM f) (hl : l.length ≤ 1000000) {a b : Nat} {e : Int} (hr : spanR f l = (a, b, e)) {lv : Value} {w : World} {B : Heap} (hB : B.Le (hp w)) (hv : US l fu lv B) :
    Ret Try.prog 13 [lv, fv f] w B (fun v _ => v = .tuple #[.int .i64 a, .int .i64 b, .int .i64 e]) := span_ret hz hl hr hB hv
attribute [local irreducible] V N X VO Par StepOK Has Ret RetL RetO RetT Src
set_option maxHeartbeats 2000000 in
theorem select_ret {l : List U} {fu : Bool} {f : FT} (hz : FM f) (hl : l.length ≤ 100000) {x : List U} {e : Int} (hr : selR f l = (x, e)) {lv : Value} {w : World} {B : Heap} (hB : B.Le (hp w)) (hv : US l fu lv B) :
    Ret Try.prog 12 [lv, fv f] w B (TupS [US x true, fun v _ => v = .int .i64 e]) := by
  unfold selR at hr
  refine V_enter Try.func12 rfl Try.ntmps12 (Nat.le_of_ble_eq_true rfl) hB ?_
  refine V_seen 0 (US l fu) rfl SlV.mono hv ?_
  by_cases hE : fE f = 0
  · rw [if_pos hE] at hr
    cases h1 : isB l
    · rw [h1, if_neg (by decide)] at hr
      have hx : x = [] := (congrArg Prod.fst hr).symm
      have he : e = 18 := (congrArg Prod.snd hr).symm
      subst hx he
      have hs : spanR f l = (0, 0, 18) := by unfold spanR; rw [if_pos hE, h1, if_neg (by decide)]
      refine V_seq ?_; refine V_region (id := 0) ?_; refine vo_step (ok_box rfl rfl rfl rfl) rfl ?_; refine vo_step (ok_assign rfl rfl rfl) rfl ?_; refine vo_step (ok_assign rfl rfl rfl) rfl ?_; refine vo_nil ?_; refine N_seq ?_; refine V_seq ?_; refine V_region (id := 1) ?_; refine vo_step (ok_moves' rfl rfl rfl) rfl ?_; refine vo_step (ok_loadA L (vs := [_, _, _, _, _, _, _]) (src_at rfl) rfl rfl rfl rfl ⟨_, rfl⟩) rfl ?_; refine vo_step (ok_callx L rfl rfl (blt_lt rfl) rfl rfl rfl (fun u H hH _ _ v1 h1 => span_ret' hz (by omega) hs hH h1)) rfl ?_; refine vo_step (ok_move rfl rfl rfl) rfl ?_; refine vo_step (ok_extract rfl rfl rfl rfl) rfl ?_; refine vo_step (ok_extract rfl rfl rfl rfl) rfl ?_; refine vo_step (ok_extract rfl rfl rfl rfl) rfl ?_; refine vo_step (ok_assign rfl rfl rfl) rfl ?_; refine vo_step (ok_assign rfl rfl rfl) rfl ?_; refine vo_step (ok_assign rfl rfl rfl) rfl ?_; refine vo_nil ?_; refine N_seq ?_; refine V_seq ?_; refine V_seq ?_; refine V_region (id := 2) ?_; refine vo_step (ok_move rfl rfl rfl) rfl ?_; refine vo_step (ok_neq rfl rfl rfl rfl (decide_eq_true (by omega))) rfl ?_; refine vo_nil ?_; refine N_seq ?_; refine V_true rfl ?_; refine V_seq ?_; refine V_region (id := 3) ?_; refine vo_step (ok_move rfl rfl rfl) rfl ?_; refine vo_step (ok_assign rfl rfl rfl) rfl ?_; refine vo_step (ok_assign rfl rfl rfl) rfl ?_; refine vo_nil ?_; refine N_seq ?_
      refine V_ret L (rs := [.tmp 4, .tmp 5]) rfl (fun _ _ h => h) Since.refl fun u H hH hle => ?_
      exact LE2.mk SlV.nil
    · rw [h1, if_pos rfl] at hr
      have hx : l.filter (takesB f) = x := congrArg Prod.fst hr
      have he : e = 0 := (congrArg Prod.snd hr).symm
      subst he
      have hso : Sst cmpT l := of_decide_eq_true h1
      obtain ⟨o1, o2⟩ := span_ord (f := f) hso
      have hfl := span_filter (f := f) hso
      obtain ⟨a, ha⟩ : ∃ a, (spanF f l).1 = a := ⟨_, rfl⟩
      obtain ⟨b, hb⟩ : ∃ b, (spanF f l).2 = b := ⟨_, rfl⟩
      have hs : spanR f l = (a, b, 0) := by unfold spanR; rw [if_pos hE, h1, if_pos rfl, ha, hb]
      rw [ha, hb] at o1 hfl
      rw [hb] at o2
      rw [hx] at hfl
      have hcut := us_sub (l := l) (a := a) (b := b) o2
      have hlen : ((l.drop a).take (b - a)).length = b - a := by rw [List.length_take, List.length_drop]; omega
      generalize (l.drop a).take (b - a) = s at *
      refine V_seq ?_; refine V_region (id := 0) ?_; refine vo_step (ok_box rfl rfl rfl rfl) rfl ?_; refine vo_step (ok_assign rfl rfl rfl) rfl ?_; refine vo_step (ok_assign rfl rfl rfl) rfl ?_; refine vo_nil ?_; refine N_seq ?_; refine V_seq ?_; refine V_region (id := 1) ?_; refine vo_step (ok_moves' rfl rfl rfl) rfl ?_; refine vo_step (ok_loadA L (vs := [_, _, _, _, _, _, _]) (src_at rfl) rfl rfl rfl rfl ⟨_, rfl⟩) rfl ?_; refine vo_step (ok_callx L rfl rfl (blt_lt rfl) rfl rfl rfl (fun u H hH _ _ v1 h1 => span_ret' hz (by omega) hs hH h1)) rfl ?_; refine vo_step (ok_move rfl rfl rfl) rfl ?_; refine vo_step (ok_extract rfl rfl rfl rfl) rfl ?_; refine vo_step (ok_extract rfl rfl rfl rfl) rfl ?_; refine vo_step (ok_extract rfl rfl rfl rfl) rfl ?_; refine vo_step (ok_assign rfl rfl rfl) rfl ?_; refine vo_step (ok_assign rfl rfl rfl) rfl ?_; refine vo_step (ok_assign rfl rfl rfl) rfl ?_; refine vo_nil ?_; refine N_seq ?_; refine V_seq ?_; refine V_seq ?_; refine V_region (id := 2) ?_; refine vo_step (ok_move rfl rfl rfl) rfl ?_; refine vo_step (ok_neq rfl rfl rfl rfl (decide_eq_false (by omega))) rfl ?_; refine vo_nil ?_; refine N_seq ?_; refine V_false rfl ?_; refine V_skip ?_; refine N_seq ?_; refine V_seq ?_; refine V_region (id := 4) ?_; refine vo_step (ok_assign rfl rfl rfl) rfl ?_; refine vo_nil ?_; refine N_seq ?_; refine V_seq ?_; refine V_seq ?_
      refine V_nilR 9 tyU 6 rfl ?_
      refine V_region (id := 5) ?_; refine vo_step (ok_moves' rfl rfl rfl) rfl ?_; refine vo_step (ok_move rfl rfl rfl) rfl ?_; refine vo_step (ok_move rfl rfl rfl) rfl ?_; refine vo_step (ok_sliceV L (km := .i64) (pm := 0) _ _ false rfl rfl rfl rfl rfl ⟨rfl, rfl⟩ ⟨rfl, rfl⟩ (fun h => by cases h) (by omega) (by omega) (by assumption)) rfl ?_; refine vo_step (ok_lenV L rfl rfl rfl rfl) rfl ?_; refine vo_step (ok_move rfl rfl rfl) rfl ?_; refine vo_nil ?_; refine N_seq ?_; refine V_block ?_
      refine V_imp 25 (US s false) rfl SlV.mono (fun v H h => by unfold US; rw [hlen]; exact h) ?_
      refine V_loop (fun y : Nat × List U => [(3, .sat (At (fcs f) tyF 0)), (9, .own (SlR tyU 6 y.2.length (y.2.flatMap ucs))), (25, .sat (US s false)), (26, .is (.int .i64 (b - a : Nat))), (27, .is (.int .i64 y.1))])
        (fun y => y.1 ≤ s.length ∧ y.2 = (s.take y.1).filter (takesB f)) (fun y => s.length - y.1) (0, []) ⟨Nat.zero_le _, rfl⟩ ⟨rfl, rfl, rfl, rfl, rfl, trivial⟩ ?_
      rintro ⟨k, out⟩ ⟨hk, hout⟩
      dsimp only at hk hout ⊢
      have hol : out.length ≤ k := by rw [hout]; exact Nat.le_trans (List.length_filter_le ..) (by rw [List.length_take]; omega)
      by_cases hlt : k < s.length
      · obtain ⟨t, ht⟩ := get_some hlt
        have hc := us_at ht
        have htk : s.take (k + 1) = s.take k ++ [t] := take_s ht
        cases htt : takesB f t
        · have ho : out = (s.take (k + 1)).filter (takesB f) := by rw [htk, List.filter_append, ← hout]; simp [htt]
          refine V_seq ?_; refine V_region (id := 6) ?_; refine vo_step (ok_lss rfl rfl rfl rfl (decide_eq_true (by omega))) rfl ?_; refine vo_nil ?_; refine N_seq ?_; refine V_seq ?_; refine V_true rfl ?_; refine V_skip ?_; refine N_seq ?_; refine V_seq ?_; refine V_block ?_; refine V_seq ?_; refine V_region (id := 7) ?_; refine vo_step (ok_indexV L _ rfl rfl rfl rfl rfl rfl rfl (by first | omega | decide) (by assumption)) rfl ?_; refine vo_step (ok_loadPA L (vs := [_, _, _, _, _, _]) rfl rfl rfl rfl rfl ⟨_, rfl⟩) rfl ?_; refine vo_step (ok_alloc L rfl rfl rfl rfl) rfl ?_; refine vo_step (ok_store L rfl rfl rfl rfl rfl rfl rfl rfl) rfl ?_; refine vo_nil ?_; refine N_seq ?_; refine V_seq ?_; refine V_region (id := 8) ?_; refine vo_step (ok_loadA L (vs := [_, _, _, _, _, _, _]) (src_at rfl) rfl rfl rfl rfl ⟨_, rfl⟩) rfl ?_; refine vo_step (ok_loadA L (vs := [_, _, _, _, _, _]) (src_own rfl) rfl rfl rfl rfl ⟨_, rfl⟩) rfl ?_; refine vo_step (ok_callx L rfl rfl (blt_lt rfl) rfl rfl rfl (fun u H hH _ _ => takes_ret htt hH)) rfl ?_; refine vo_nil ?_; refine N_seq ?_; refine V_false rfl ?_; refine V_skip ?_; refine N_block ?_; refine N_seq ?_; refine V_region (id := 10) ?_; refine vo_step (ok_add rfl rfl rfl rfl (wrap_i64 (by omega) (by omega))) rfl ?_; refine vo_step (ok_move rfl rfl rfl) rfl ?_; refine vo_nil ?_
          exact N_round (x := (k, out)) (k + 1, out) ⟨hlt, ho⟩ (by dsimp only; omega) ⟨rfl, rfl, rfl, rfl, rfl, trivial⟩
        · have ho : out ++ [t] = (s.take (k + 1)).filter (takesB f) := by rw [htk, List.filter_append, ← hout]; simp [htt]
          refine V_seq ?_; refine V_region (id := 6) ?_; refine vo_step (ok_lss rfl rfl rfl rfl (decide_eq_true (by omega))) rfl ?_; refine vo_nil ?_; refine N_seq ?_; refine V_seq ?_; refine V_true rfl ?_; refine V_skip ?_; refine N_seq ?_; refine V_seq ?_; refine V_block ?_; refine V_seq ?_; refine V_region (id := 7) ?_; refine vo_step (ok_indexV L _ rfl rfl rfl rfl rfl rfl rfl (by first | omega | decide) (by assumption)) rfl ?_; refine vo_step (ok_loadPA L (vs := [_, _, _, _, _, _]) rfl rfl rfl rfl rfl ⟨_, rfl⟩) rfl ?_; refine vo_step (ok_alloc L rfl rfl rfl rfl) rfl ?_; refine vo_step (ok_store L rfl rfl rfl rfl rfl rfl rfl rfl) rfl ?_; refine vo_nil ?_; refine N_seq ?_; refine V_seq ?_; refine V_region (id := 8) ?_; refine vo_step (ok_loadA L (vs := [_, _, _, _, _, _, _]) (src_at rfl) rfl rfl rfl rfl ⟨_, rfl⟩) rfl ?_; refine vo_step (ok_loadA L (vs := [_, _, _, _, _, _]) (src_own rfl) rfl rfl rfl rfl ⟨_, rfl⟩) rfl ?_; refine vo_step (ok_callx L rfl rfl (blt_lt rfl) rfl rfl rfl (fun u H hH _ _ => takes_ret htt hH)) rfl ?_; refine vo_nil ?_; refine N_seq ?_; refine V_true rfl ?_; refine V_region (id := 9) ?_; refine vo_step2 (ok_moveO (.inl rfl) rfl rfl rfl rfl) ?_; refine vo_step (ok_loadA L (vs := [_, _, _, _, _, _]) (src_own rfl) rfl rfl rfl rfl ⟨_, rfl⟩) rfl ?_; refine vo_step (ok_buildSlice L rfl rfl rfl rfl rfl rfl rfl rfl rfl) rfl ?_; refine vo_step2 (ok_append L rfl rfl rfl (apd_B rfl) rfl el51 rfl rfl (by omega) (by omega)) ?_; refine vo_step2 (ok_moveO (.inr rfl) rfl rfl rfl rfl) ?_; refine vo_nil ?_; refine N_block ?_; refine N_seq ?_; refine V_region (id := 10) ?_; refine vo_step (ok_add rfl rfl rfl rfl (wrap_i64 (by omega) (by omega))) rfl ?_; refine vo_step (ok_move rfl rfl rfl) rfl ?_; refine vo_nil ?_
          exact N_round (x := (k, out)) (k + 1, out ++ [t]) ⟨hlt, ho⟩ (by dsimp only; omega) ⟨rfl, ups_snoc rfl, rfl, rfl, rfl, trivial⟩
      · obtain rfl : k = s.length := by omega
        rw [List.take_length, hfl] at hout
        subst hout
        refine V_pubR 9 rfl ?_
        refine V_seq ?_; refine V_region (id := 6) ?_; refine vo_step (ok_lss rfl rfl rfl rfl (decide_eq_false (by omega))) rfl ?_; refine vo_nil ?_; refine N_seq ?_; refine V_seq ?_; refine V_false rfl ?_; refine V_exit ?_; refine X_then ?_; refine X_then ?_; refine X_here ?_; refine N_seq ?_; refine V_seq ?_; refine V_region (id := 11) ?_; refine vo_step (ok_moves' rfl rfl rfl) rfl ?_; refine vo_step (ok_call (φ := US out true) L rfl rfl (blt_lt rfl) rfl rfl rfl SlV.mono (fun u H hH _ _ v1 h1 => clipU_ret hH h1)) rfl ?_; refine vo_step (ok_assigns' rfl rfl rfl) rfl ?_; refine vo_step (ok_assign rfl rfl rfl) rfl ?_; refine vo_nil ?_; refine N_seq ?_
        refine V_ret L (rs := [.tmp 4, .tmp 5]) rfl (fun _ _ h => h) Since.refl fun u H hH hle => ?_
        exact fun v hv => LE2.mk hv
  · rw [if_neg hE] at hr
    have hx : x = [] := (congrArg Prod.fst hr).symm
    have he : e = fE f := (congrArg Prod.snd hr).symm
    subst hx
    have hs : spanR f l = (0, 0, e) := by unfold spanR; rw [if_neg hE, he]
    have he0 : e ≠ 0 := by rw [he]; exact hE
    refine V_seq ?_; refine V_region (id := 0) ?_; refine vo_step (ok_box rfl rfl rfl rfl) rfl ?_; refine vo_step (ok_assign rfl rfl rfl) rfl ?_; refine vo_step (ok_assign rfl rfl rfl) rfl ?_; refine vo_nil ?_; refine N_seq ?_; refine V_seq ?_; refine V_region (id := 1) ?_; refine vo_step (ok_moves' rfl rfl rfl) rfl ?_; refine vo_step (ok_loadA L (vs := [_, _, _, _, _, _, _]) (src_at rfl) rfl rfl rfl rfl ⟨_, rfl⟩) rfl ?_; refine vo_step (ok_callx L rfl rfl (blt_lt rfl) rfl rfl rfl (fun u H hH _ _ v1 h1 => span_ret' hz (by omega) hs hH h1)) rfl ?_; refine vo_step (ok_move rfl rfl rfl) rfl ?_; refine vo_step (ok_extract rfl rfl rfl rfl) rfl ?_; refine vo_step (ok_extract rfl rfl rfl rfl) rfl ?_; refine vo_step (ok_extract rfl rfl rfl rfl) rfl ?_; refine vo_step (ok_assign rfl rfl rfl) rfl ?_; refine vo_step (ok_assign rfl rfl rfl) rfl ?_; refine vo_step (ok_assign rfl rfl rfl) rfl ?_; refine vo_nil ?_; refine N_seq ?_; refine V_seq ?_; refine V_seq ?_; refine V_region (id := 2) ?_; refine vo_step (ok_move rfl rfl rfl) rfl ?_; refine vo_step (ok_neq rfl rfl rfl rfl (decide_eq_true (by omega))) rfl ?_; refine vo_nil ?_; refine N_seq ?_; refine V_true rfl ?_; refine V_seq ?_; refine V_region (id := 3) ?_; refine vo_step (ok_move rfl rfl rfl) rfl ?_; refine vo_step (ok_assign rfl rfl rfl) rfl ?_; refine vo_step (ok_assign rfl rfl rfl) rfl ?_; refine vo_nil ?_; refine N_seq ?_
    refine V_ret L (rs := [.tmp 4, .tmp 5]) rfl (fun _ _ h => h) Since.refl fun u H hH hle => ?_
    exact LE2.mk SlV.nil
end Go.V.L3
