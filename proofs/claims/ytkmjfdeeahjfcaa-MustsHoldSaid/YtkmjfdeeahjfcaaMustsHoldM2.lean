/- Texts on the way to MustsHold, part 2: one behind another. -/
import Derived.Test.YtkmjfdeeahjfcaaMustsHoldM1
import Derived.Shelf.Small.Strs
import Derived.Test.YtkmjfdeeahjfcaaProg
import Derived.Lib.IndexMore
import Derived.Lib.IndexLaws
import Derived.Lib.IndexBytes
import Derived.Shelf.SlSortCmp.NoneTotal
set_option linter.unusedVariables false
set_option linter.unusedSimpArgs false
/- The walks of names.Check and its like. -/
namespace Go.V
open Go.Proofs Go.RowKit
attribute [local irreducible] V N X VO Par StepOK Has Ret RetL Src
set_option maxHeartbeats 400000 in
theorem check_ret (s : ByteArray) (hs : s.size ≤ 9223372036854775807) {w : World} {B : Heap} (hB : B.Le (hp w)) :
    Ret Try.prog 118 [.string s] w B (fun v _ => v = .int .i64 (chk s)) := by
  refine V_enter Try.func118 rfl Try.ntmps118 (Nat.le_of_ble_eq_true rfl) hB ?_
  by_cases h1 : 1 ≤ s.size
  · by_cases h2 : s.size ≤ 16
    · refine V_seq ?_; refine V_region (id := 0) ?_; refine vo_step (ok_assign rfl rfl rfl) rfl ?_; refine vo_nil ?_; refine N_seq ?_; refine V_seq ?_; refine V_seq ?_; refine V_region (id := 1) ?_; refine vo_step (ok_move rfl rfl rfl) rfl ?_; refine vo_step (ok_lenS L rfl rfl rfl rfl) rfl ?_; refine vo_step (ok_lss rfl rfl rfl rfl (decide_eq_false (by omega))) rfl ?_; refine vo_step (ok_move rfl rfl rfl) rfl ?_; refine vo_step (ok_move rfl rfl rfl) rfl ?_; refine vo_step (ok_lenS L rfl rfl rfl rfl) rfl ?_; refine vo_step (ok_gtr rfl rfl rfl rfl (decide_eq_false (by omega))) rfl ?_; refine vo_step (ok_pick rfl rfl rfl rfl) rfl ?_; refine vo_nil ?_; refine N_seq ?_; refine V_false rfl ?_; refine V_skip ?_; refine N_seq ?_; refine V_seq ?_; refine V_seq ?_; refine V_region (id := 3) ?_; refine vo_step (ok_move rfl rfl rfl) rfl ?_; refine vo_step (ok_lenS L rfl rfl rfl rfl) rfl ?_; refine vo_step (ok_move rfl rfl rfl) rfl ?_; refine vo_nil ?_; refine N_seq ?_; refine V_block ?_
      refine V_loop (fun k : Nat => [(0, .is (.string s)), (13, .is (.int .i64 s.size)), (14, .is (.int .i64 k))])
        (fun k => k ≤ s.size ∧ (s.data.toList.take k).all okB = true) (fun k => s.size - k) 0 ⟨Nat.zero_le _, by simp⟩ ⟨rfl, rfl, rfl, trivial⟩ ?_
      rintro k ⟨hk, hall⟩
      by_cases hlt : k < s.size
      · obtain ⟨c, hc⟩ := getElem?_lt hlt
        have hu := u8_lt c
        by_cases a1 : (c.toNat : Int) < 97
        · by_cases a2 : (c.toNat : Int) < 48
          · refine V_seq ?_; refine V_region (id := 4) ?_; refine vo_step (ok_lss rfl rfl rfl rfl (decide_eq_true (by omega))) rfl ?_; refine vo_nil ?_; refine N_seq ?_; refine V_seq ?_; refine V_true rfl ?_; refine V_skip ?_; refine N_seq ?_; refine V_seq ?_; refine V_block ?_; refine V_seq ?_; refine V_region (id := 5) ?_; refine vo_step (ok_move rfl rfl rfl) rfl ?_; refine vo_step (ok_assign rfl rfl rfl) rfl ?_; refine vo_nil ?_; refine N_seq ?_; refine V_seq ?_; refine V_region (id := 6) ?_; refine vo_step (ok_move rfl rfl rfl) rfl ?_; refine vo_step (ok_move rfl rfl rfl) rfl ?_; refine vo_step (ok_indexS L rfl rfl rfl rfl rfl (by assumption)) rfl ?_; refine vo_step (ok_lss rfl rfl rfl rfl (decide_eq_true (by omega))) rfl ?_; refine vo_step (ok_move rfl rfl rfl) rfl ?_; refine vo_step (ok_skip rfl (blt_lt rfl) rfl) rfl ?_; refine vo_step (ok_skip rfl (blt_lt rfl) rfl) rfl ?_; refine vo_step (ok_skip rfl (blt_lt rfl) rfl) rfl ?_; refine vo_step (ok_skip rfl (blt_lt rfl) rfl) rfl ?_; refine vo_step (ok_pick rfl rfl rfl rfl) rfl ?_; refine vo_step (ok_move rfl rfl rfl) rfl ?_; refine vo_step (ok_move rfl rfl rfl) rfl ?_; refine vo_step (ok_move rfl rfl rfl) rfl ?_; refine vo_step (ok_indexS L rfl rfl rfl rfl rfl (by assumption)) rfl ?_; refine vo_step (ok_lss rfl rfl rfl rfl (decide_eq_true (by omega))) rfl ?_; refine vo_step (ok_move rfl rfl rfl) rfl ?_; refine vo_step (ok_skip rfl (blt_lt rfl) rfl) rfl ?_; refine vo_step (ok_skip rfl (blt_lt rfl) rfl) rfl ?_; refine vo_step (ok_skip rfl (blt_lt rfl) rfl) rfl ?_; refine vo_step (ok_skip rfl (blt_lt rfl) rfl) rfl ?_; refine vo_step (ok_pick rfl rfl rfl rfl) rfl ?_; refine vo_step (ok_pick rfl rfl rfl rfl) rfl ?_; refine vo_nil ?_; refine N_seq ?_; refine V_true rfl ?_; refine V_seq ?_; refine V_region (id := 7) ?_; refine vo_step (ok_assign rfl rfl rfl) rfl ?_; refine vo_nil ?_; refine N_seq ?_
            refine V_ret L (rs := [.tmp 2]) rfl (fun _ _ h => h) Since.refl fun u H hH hle => ?_
            exact congrArg _ (chk_at hc (okB_1 a1 a2)).symm
          · by_cases a3 : 57 < (c.toNat : Int)
            · refine V_seq ?_; refine V_region (id := 4) ?_; refine vo_step (ok_lss rfl rfl rfl rfl (decide_eq_true (by omega))) rfl ?_; refine vo_nil ?_; refine N_seq ?_; refine V_seq ?_; refine V_true rfl ?_; refine V_skip ?_; refine N_seq ?_; refine V_seq ?_; refine V_block ?_; refine V_seq ?_; refine V_region (id := 5) ?_; refine vo_step (ok_move rfl rfl rfl) rfl ?_; refine vo_step (ok_assign rfl rfl rfl) rfl ?_; refine vo_nil ?_; refine N_seq ?_; refine V_seq ?_; refine V_region (id := 6) ?_; refine vo_step (ok_move rfl rfl rfl) rfl ?_; refine vo_step (ok_move rfl rfl rfl) rfl ?_; refine vo_step (ok_indexS L rfl rfl rfl rfl rfl (by assumption)) rfl ?_; refine vo_step (ok_lss rfl rfl rfl rfl (decide_eq_true (by omega))) rfl ?_; refine vo_step (ok_move rfl rfl rfl) rfl ?_; refine vo_step (ok_skip rfl (blt_lt rfl) rfl) rfl ?_; refine vo_step (ok_skip rfl (blt_lt rfl) rfl) rfl ?_; refine vo_step (ok_skip rfl (blt_lt rfl) rfl) rfl ?_; refine vo_step (ok_skip rfl (blt_lt rfl) rfl) rfl ?_; refine vo_step (ok_pick rfl rfl rfl rfl) rfl ?_; refine vo_step (ok_move rfl rfl rfl) rfl ?_; refine vo_step (ok_move rfl rfl rfl) rfl ?_; refine vo_step (ok_move rfl rfl rfl) rfl ?_; refine vo_step (ok_indexS L rfl rfl rfl rfl rfl (by assumption)) rfl ?_; refine vo_step (ok_lss rfl rfl rfl rfl (decide_eq_false (by omega))) rfl ?_; refine vo_step (ok_move rfl rfl rfl) rfl ?_; refine vo_step (ok_move rfl rfl rfl) rfl ?_; refine vo_step (ok_move rfl rfl rfl) rfl ?_; refine vo_step (ok_indexS L rfl rfl rfl rfl rfl (by assumption)) rfl ?_; refine vo_step (ok_gtr rfl rfl rfl rfl (decide_eq_true (by omega))) rfl ?_; refine vo_step (ok_pick rfl rfl rfl rfl) rfl ?_; refine vo_step (ok_pick rfl rfl rfl rfl) rfl ?_; refine vo_nil ?_; refine N_seq ?_; refine V_true rfl ?_; refine V_seq ?_; refine V_region (id := 7) ?_; refine vo_step (ok_assign rfl rfl rfl) rfl ?_; refine vo_nil ?_; refine N_seq ?_
              refine V_ret L (rs := [.tmp 2]) rfl (fun _ _ h => h) Since.refl fun u H hH hle => ?_
              exact congrArg _ (chk_at hc (okB_2 a1 a3)).symm
            · refine V_seq ?_; refine V_region (id := 4) ?_; refine vo_step (ok_lss rfl rfl rfl rfl (decide_eq_true (by omega))) rfl ?_; refine vo_nil ?_; refine N_seq ?_; refine V_seq ?_; refine V_true rfl ?_; refine V_skip ?_; refine N_seq ?_; refine V_seq ?_; refine V_block ?_; refine V_seq ?_; refine V_region (id := 5) ?_; refine vo_step (ok_move rfl rfl rfl) rfl ?_; refine vo_step (ok_assign rfl rfl rfl) rfl ?_; refine vo_nil ?_; refine N_seq ?_; refine V_seq ?_; refine V_region (id := 6) ?_; refine vo_step (ok_move rfl rfl rfl) rfl ?_; refine vo_step (ok_move rfl rfl rfl) rfl ?_; refine vo_step (ok_indexS L rfl rfl rfl rfl rfl (by assumption)) rfl ?_; refine vo_step (ok_lss rfl rfl rfl rfl (decide_eq_true (by omega))) rfl ?_; refine vo_step (ok_move rfl rfl rfl) rfl ?_; refine vo_step (ok_skip rfl (blt_lt rfl) rfl) rfl ?_; refine vo_step (ok_skip rfl (blt_lt rfl) rfl) rfl ?_; refine vo_step (ok_skip rfl (blt_lt rfl) rfl) rfl ?_; refine vo_step (ok_skip rfl (blt_lt rfl) rfl) rfl ?_; refine vo_step (ok_pick rfl rfl rfl rfl) rfl ?_; refine vo_step (ok_move rfl rfl rfl) rfl ?_; refine vo_step (ok_move rfl rfl rfl) rfl ?_; refine vo_step (ok_move rfl rfl rfl) rfl ?_; refine vo_step (ok_indexS L rfl rfl rfl rfl rfl (by assumption)) rfl ?_; refine vo_step (ok_lss rfl rfl rfl rfl (decide_eq_false (by omega))) rfl ?_; refine vo_step (ok_move rfl rfl rfl) rfl ?_; refine vo_step (ok_move rfl rfl rfl) rfl ?_; refine vo_step (ok_move rfl rfl rfl) rfl ?_; refine vo_step (ok_indexS L rfl rfl rfl rfl rfl (by assumption)) rfl ?_; refine vo_step (ok_gtr rfl rfl rfl rfl (decide_eq_false (by omega))) rfl ?_; refine vo_step (ok_pick rfl rfl rfl rfl) rfl ?_; refine vo_step (ok_pick rfl rfl rfl rfl) rfl ?_; refine vo_nil ?_; refine N_seq ?_; refine V_false rfl ?_; refine V_skip ?_; refine N_block ?_; refine N_seq ?_; refine V_region (id := 8) ?_; refine vo_step (ok_add rfl rfl rfl rfl (wrap_i64 (by omega) (by omega))) rfl ?_; refine vo_step (ok_move rfl rfl rfl) rfl ?_; refine vo_nil ?_
              refine N_round (k + 1) ⟨hlt, take_all hc (okB_5 a2 a3) hall⟩ (by omega) ⟨rfl, rfl, rfl, trivial⟩
        · by_cases a4 : 122 < (c.toNat : Int)
          · have a5 : 57 < (c.toNat : Int) := by omega
            refine V_seq ?_; refine V_region (id := 4) ?_; refine vo_step (ok_lss rfl rfl rfl rfl (decide_eq_true (by omega))) rfl ?_; refine vo_nil ?_; refine N_seq ?_; refine V_seq ?_; refine V_true rfl ?_; refine V_skip ?_; refine N_seq ?_; refine V_seq ?_; refine V_block ?_; refine V_seq ?_; refine V_region (id := 5) ?_; refine vo_step (ok_move rfl rfl rfl) rfl ?_; refine vo_step (ok_assign rfl rfl rfl) rfl ?_; refine vo_nil ?_; refine N_seq ?_; refine V_seq ?_; refine V_region (id := 6) ?_; refine vo_step (ok_move rfl rfl rfl) rfl ?_; refine vo_step (ok_move rfl rfl rfl) rfl ?_; refine vo_step (ok_indexS L rfl rfl rfl rfl rfl (by assumption)) rfl ?_; refine vo_step (ok_lss rfl rfl rfl rfl (decide_eq_false (by omega))) rfl ?_; refine vo_step (ok_move rfl rfl rfl) rfl ?_; refine vo_step (ok_move rfl rfl rfl) rfl ?_; refine vo_step (ok_move rfl rfl rfl) rfl ?_; refine vo_step (ok_indexS L rfl rfl rfl rfl rfl (by assumption)) rfl ?_; refine vo_step (ok_gtr rfl rfl rfl rfl (decide_eq_true (by omega))) rfl ?_; refine vo_step (ok_pick rfl rfl rfl rfl) rfl ?_; refine vo_step (ok_move rfl rfl rfl) rfl ?_; refine vo_step (ok_move rfl rfl rfl) rfl ?_; refine vo_step (ok_move rfl rfl rfl) rfl ?_; refine vo_step (ok_indexS L rfl rfl rfl rfl rfl (by assumption)) rfl ?_; refine vo_step (ok_lss rfl rfl rfl rfl (decide_eq_false (by omega))) rfl ?_; refine vo_step (ok_move rfl rfl rfl) rfl ?_; refine vo_step (ok_move rfl rfl rfl) rfl ?_; refine vo_step (ok_move rfl rfl rfl) rfl ?_; refine vo_step (ok_indexS L rfl rfl rfl rfl rfl (by assumption)) rfl ?_; refine vo_step (ok_gtr rfl rfl rfl rfl (decide_eq_true (by omega))) rfl ?_; refine vo_step (ok_pick rfl rfl rfl rfl) rfl ?_; refine vo_step (ok_pick rfl rfl rfl rfl) rfl ?_; refine vo_nil ?_; refine N_seq ?_; refine V_true rfl ?_; refine V_seq ?_; refine V_region (id := 7) ?_; refine vo_step (ok_assign rfl rfl rfl) rfl ?_; refine vo_nil ?_; refine N_seq ?_
            refine V_ret L (rs := [.tmp 2]) rfl (fun _ _ h => h) Since.refl fun u H hH hle => ?_
            exact congrArg _ (chk_at hc (okB_3 a4)).symm
          · refine V_seq ?_; refine V_region (id := 4) ?_; refine vo_step (ok_lss rfl rfl rfl rfl (decide_eq_true (by omega))) rfl ?_; refine vo_nil ?_; refine N_seq ?_; refine V_seq ?_; refine V_true rfl ?_; refine V_skip ?_; refine N_seq ?_; refine V_seq ?_; refine V_block ?_; refine V_seq ?_; refine V_region (id := 5) ?_; refine vo_step (ok_move rfl rfl rfl) rfl ?_; refine vo_step (ok_assign rfl rfl rfl) rfl ?_; refine vo_nil ?_; refine N_seq ?_; refine V_seq ?_; refine V_region (id := 6) ?_; refine vo_step (ok_move rfl rfl rfl) rfl ?_; refine vo_step (ok_move rfl rfl rfl) rfl ?_; refine vo_step (ok_indexS L rfl rfl rfl rfl rfl (by assumption)) rfl ?_; refine vo_step (ok_lss rfl rfl rfl rfl (decide_eq_false (by omega))) rfl ?_; refine vo_step (ok_move rfl rfl rfl) rfl ?_; refine vo_step (ok_move rfl rfl rfl) rfl ?_; refine vo_step (ok_move rfl rfl rfl) rfl ?_; refine vo_step (ok_indexS L rfl rfl rfl rfl rfl (by assumption)) rfl ?_; refine vo_step (ok_gtr rfl rfl rfl rfl (decide_eq_false (by omega))) rfl ?_; refine vo_step (ok_pick rfl rfl rfl rfl) rfl ?_; refine vo_step (ok_move rfl rfl rfl) rfl ?_; refine vo_step (ok_skip rfl (blt_lt rfl) rfl) rfl ?_; refine vo_step (ok_skip rfl (blt_lt rfl) rfl) rfl ?_; refine vo_step (ok_skip rfl (blt_lt rfl) rfl) rfl ?_; refine vo_step (ok_skip rfl (blt_lt rfl) rfl) rfl ?_; refine vo_step (ok_skip rfl (blt_lt rfl) rfl) rfl ?_; refine vo_step (ok_skip rfl (blt_lt rfl) rfl) rfl ?_; refine vo_step (ok_skip rfl (blt_lt rfl) rfl) rfl ?_; refine vo_step (ok_skip rfl (blt_lt rfl) rfl) rfl ?_; refine vo_step (ok_skip rfl (blt_lt rfl) rfl) rfl ?_; refine vo_step (ok_skip rfl (blt_lt rfl) rfl) rfl ?_; refine vo_step (ok_pick rfl rfl rfl rfl) rfl ?_; refine vo_nil ?_; refine N_seq ?_; refine V_false rfl ?_; refine V_skip ?_; refine N_block ?_; refine N_seq ?_; refine V_region (id := 8) ?_; refine vo_step (ok_add rfl rfl rfl rfl (wrap_i64 (by omega) (by omega))) rfl ?_; refine vo_step (ok_move rfl rfl rfl) rfl ?_; refine vo_nil ?_
            refine N_round (k + 1) ⟨hlt, take_all hc (okB_4 a1 a4) hall⟩ (by omega) ⟨rfl, rfl, rfl, trivial⟩
      · refine V_seq ?_; refine V_region (id := 4) ?_; refine vo_step (ok_lss rfl rfl rfl rfl (decide_eq_false (by omega))) rfl ?_; refine vo_nil ?_; refine N_seq ?_; refine V_seq ?_; refine V_false rfl ?_; refine V_exit ?_; refine X_then ?_; refine X_then ?_; refine X_here ?_; refine N_seq ?_; refine V_seq ?_; refine V_region (id := 9) ?_; refine vo_step (ok_assign rfl rfl rfl) rfl ?_; refine vo_nil ?_; refine N_seq ?_
        refine V_ret L (rs := [.tmp 2]) rfl (fun _ _ h => h) Since.refl fun u H hH hle => ?_
        exact congrArg _ (chk_all h1 h2 (all_take (by omega) hall)).symm
    · refine V_seq ?_; refine V_region (id := 0) ?_; refine vo_step (ok_assign rfl rfl rfl) rfl ?_; refine vo_nil ?_; refine N_seq ?_; refine V_seq ?_; refine V_seq ?_; refine V_region (id := 1) ?_; refine vo_step (ok_move rfl rfl rfl) rfl ?_; refine vo_step (ok_lenS L rfl rfl rfl rfl) rfl ?_; refine vo_step (ok_lss rfl rfl rfl rfl (decide_eq_false (by omega))) rfl ?_; refine vo_step (ok_move rfl rfl rfl) rfl ?_; refine vo_step (ok_move rfl rfl rfl) rfl ?_; refine vo_step (ok_lenS L rfl rfl rfl rfl) rfl ?_; refine vo_step (ok_gtr rfl rfl rfl rfl (decide_eq_true (by omega))) rfl ?_; refine vo_step (ok_pick rfl rfl rfl rfl) rfl ?_; refine vo_nil ?_; refine N_seq ?_; refine V_true rfl ?_; refine V_seq ?_; refine V_region (id := 2) ?_; refine vo_step (ok_assign rfl rfl rfl) rfl ?_; refine vo_nil ?_; refine N_seq ?_
      refine V_ret L (rs := [.tmp 2]) rfl (fun _ _ h => h) Since.refl fun u H hH hle => ?_
      exact congrArg _ (chk_bad (by omega)).symm
  · refine V_seq ?_; refine V_region (id := 0) ?_; refine vo_step (ok_assign rfl rfl rfl) rfl ?_; refine vo_nil ?_; refine N_seq ?_; refine V_seq ?_; refine V_seq ?_; refine V_region (id := 1) ?_; refine vo_step (ok_move rfl rfl rfl) rfl ?_; refine vo_step (ok_lenS L rfl rfl rfl rfl) rfl ?_; refine vo_step (ok_lss rfl rfl rfl rfl (decide_eq_true (by omega))) rfl ?_; refine vo_step (ok_move rfl rfl rfl) rfl ?_; refine vo_step (ok_skip rfl (blt_lt rfl) rfl) rfl ?_; refine vo_step (ok_skip rfl (blt_lt rfl) rfl) rfl ?_; refine vo_step (ok_skip rfl (blt_lt rfl) rfl) rfl ?_; refine vo_step (ok_pick rfl rfl rfl rfl) rfl ?_; refine vo_nil ?_; refine N_seq ?_; refine V_true rfl ?_; refine V_seq ?_; refine V_region (id := 2) ?_; refine vo_step (ok_assign rfl rfl rfl) rfl ?_; refine vo_nil ?_; refine N_seq ?_
    refine V_ret L (rs := [.tmp 2]) rfl (fun _ _ h => h) Since.refl fun u H hH hle => ?_
    exact congrArg _ (chk_bad (by omega)).symm
end Go.V
/- The walks of names: objects, goals, subjects: their errors and texts, their order. -/
namespace Go.V
open Go.Proofs Go.RowKit
attribute [local irreducible] V N X VO Par StepOK Has Ret RetL Src
def allE : List ByteArray → Int
  | [] => 0
  | s :: l => if chk s = 0 then allE l else chk s
theorem allE_snoc : ∀ (l : List ByteArray) (s : ByteArray), allE l = 0 → allE (l ++ [s]) = chk s
  | [], s, _ => by simp only [List.nil_append, allE]; split <;> simp_all
  | x :: l, s, h => by
    simp only [List.cons_append, allE] at h ⊢
    by_cases hx : chk x = 0
    · rw [if_pos hx] at h ⊢; exact allE_snoc l s h
    · rw [if_neg hx] at h; exact absurd h hx
theorem allE_bad : ∀ (l : List ByteArray) (k : Nat) (s : ByteArray), allE (l.take k) = 0 → l[k]? = some s → chk s ≠ 0 → allE l = chk s
  | [], k, s, _, h, _ => by simp at h
  | x :: l, 0, s, _, h, hc => by simp at h; subst h; simp [allE, hc]
  | x :: l, k + 1, s, ha, h, hc => by
    simp only [List.take_succ_cons, allE] at ha
    simp only [List.getElem?_cons_succ] at h
    by_cases hx : chk x = 0
    · rw [if_pos hx] at ha
      simp only [allE, if_pos hx]
      exact allE_bad l k s ha h hc
    · rw [if_neg hx] at ha; exact absurd ha hx
set_option maxHeartbeats 400000 in
theorem all_gen (l : List ByteArray) (hl : ∀ s ∈ l, s.size ≤ 9223372036854775807) (hlen : l.length ≤ 1000) {e : TypeId} {fu : Bool} {v : Value} {w : World} {B : Heap} (hB : B.Le (hp w)) (hv : SlV e 1 (l.map Value.string) l.length fu v B) :
    Ret Try.prog 103 [v] w B (fun v _ => v = .int .i64 (allE l)) := by
  refine V_enter Try.func103 rfl Try.ntmps103 (Nat.le_of_ble_eq_true rfl) hB ?_
  refine V_seen 0 (SlV e 1 (l.map Value.string) l.length fu) rfl SlV.mono hv ?_
  refine V_seq ?_; refine V_region (id := 0) ?_; refine vo_step (ok_assign rfl rfl rfl) rfl ?_; refine vo_nil ?_; refine N_seq ?_; refine V_seq ?_; refine V_seq ?_; refine V_region (id := 1) ?_; refine vo_step (ok_moves' rfl rfl rfl) rfl ?_; refine vo_step (ok_lenV L rfl rfl rfl rfl) rfl ?_; refine vo_step (ok_move rfl rfl rfl) rfl ?_; refine vo_nil ?_; refine N_seq ?_; refine V_block ?_
  refine V_loop (fun k : Nat => [(6, .sat (SlV e 1 (l.map Value.string) l.length fu)), (7, .is (.int .i64 l.length)), (8, .is (.int .i64 k))])
    (fun k => k ≤ l.length ∧ allE (l.take k) = 0) (fun k => l.length - k) 0 ⟨Nat.zero_le _, by simp [allE]⟩ ⟨rfl, rfl, rfl, trivial⟩ ?_
  rintro k ⟨hk, hall⟩
  by_cases hlt : k < l.length
  · have hs : l[k]? = some l[k] := List.getElem?_eq_getElem hlt
    generalize l[k] = s at hs
    have hsz : s.size ≤ 9223372036854775807 := hl s (List.mem_of_getElem? hs)
    have hc := str_at hs
    by_cases h0 : chk s = 0
    · refine V_seq ?_; refine V_region (id := 2) ?_; refine vo_step (ok_lss rfl rfl rfl rfl (decide_eq_true (by omega))) rfl ?_; refine vo_nil ?_; refine N_seq ?_; refine V_seq ?_; refine V_true rfl ?_; refine V_skip ?_; refine N_seq ?_; refine V_seq ?_; refine V_block ?_; refine V_seq ?_; refine V_region (id := 3) ?_; refine vo_step (ok_indexV L _ rfl rfl rfl rfl rfl rfl rfl (by first | omega | decide) (by assumption)) rfl ?_; refine vo_step (ok_loadP1 L rfl rfl rfl rfl rfl) rfl ?_; refine vo_step (ok_assign rfl rfl rfl) rfl ?_; refine vo_nil ?_; refine N_seq ?_; refine V_seq ?_; refine V_region (id := 4) ?_; refine vo_step (ok_move rfl rfl rfl) rfl ?_; refine vo_step (ok_callx L rfl rfl (blt_lt rfl) rfl rfl rfl (fun u H hH _ _ => check_ret _ (by first | omega | decide) hH)) rfl ?_; refine vo_step (ok_assign rfl rfl rfl) rfl ?_; refine vo_nil ?_; refine N_seq ?_; refine V_seq ?_; refine V_region (id := 5) ?_; refine vo_step (ok_move rfl rfl rfl) rfl ?_; refine vo_step (ok_neq rfl rfl rfl rfl (decide_eq_false (by omega))) rfl ?_; refine vo_nil ?_; refine N_seq ?_; refine V_false rfl ?_; refine V_skip ?_; refine N_block ?_; refine N_seq ?_; refine V_region (id := 7) ?_; refine vo_step (ok_add rfl rfl rfl rfl (wrap_i64 (by omega) (by omega))) rfl ?_; refine vo_step (ok_move rfl rfl rfl) rfl ?_; refine vo_nil ?_
      refine N_round (k + 1) ⟨hlt, ?_⟩ (by omega) ⟨rfl, rfl, rfl, trivial⟩
      rw [List.take_add_one, hs]
      show allE (l.take k ++ [s]) = 0
      rw [allE_snoc _ _ hall, h0]
    · refine V_seq ?_; refine V_region (id := 2) ?_; refine vo_step (ok_lss rfl rfl rfl rfl (decide_eq_true (by omega))) rfl ?_; refine vo_nil ?_; refine N_seq ?_; refine V_seq ?_; refine V_true rfl ?_; refine V_skip ?_; refine N_seq ?_; refine V_seq ?_; refine V_block ?_; refine V_seq ?_; refine V_region (id := 3) ?_; refine vo_step (ok_indexV L _ rfl rfl rfl rfl rfl rfl rfl (by first | omega | decide) (by assumption)) rfl ?_; refine vo_step (ok_loadP1 L rfl rfl rfl rfl rfl) rfl ?_; refine vo_step (ok_assign rfl rfl rfl) rfl ?_; refine vo_nil ?_; refine N_seq ?_; refine V_seq ?_; refine V_region (id := 4) ?_; refine vo_step (ok_move rfl rfl rfl) rfl ?_; refine vo_step (ok_callx L rfl rfl (blt_lt rfl) rfl rfl rfl (fun u H hH _ _ => check_ret _ (by first | omega | decide) hH)) rfl ?_; refine vo_step (ok_assign rfl rfl rfl) rfl ?_; refine vo_nil ?_; refine N_seq ?_; refine V_seq ?_; refine V_region (id := 5) ?_; refine vo_step (ok_move rfl rfl rfl) rfl ?_; refine vo_step (ok_neq rfl rfl rfl rfl (decide_eq_true (by omega))) rfl ?_; refine vo_nil ?_; refine N_seq ?_; refine V_true rfl ?_; refine V_seq ?_; refine V_region (id := 6) ?_; refine vo_step (ok_move rfl rfl rfl) rfl ?_; refine vo_step (ok_assign rfl rfl rfl) rfl ?_; refine vo_nil ?_; refine N_seq ?_
      refine V_ret L (rs := [.tmp 2]) rfl (fun _ _ h => h) Since.refl fun u H hH hle => ?_
      exact congrArg _ (allE_bad l k s hall hs h0).symm
  · refine V_seq ?_; refine V_region (id := 2) ?_; refine vo_step (ok_lss rfl rfl rfl rfl (decide_eq_false (by omega))) rfl ?_; refine vo_nil ?_; refine N_seq ?_; refine V_seq ?_; refine V_false rfl ?_; refine V_exit ?_; refine X_then ?_; refine X_then ?_; refine X_here ?_; refine N_seq ?_; refine V_seq ?_; refine V_region (id := 8) ?_; refine vo_step (ok_assign rfl rfl rfl) rfl ?_; refine vo_nil ?_; refine N_seq ?_
    refine V_ret L (rs := [.tmp 2]) rfl (fun _ _ h => h) Since.refl fun u H hH hle => ?_
    have : l.take k = l := List.take_of_length_le (by omega)
    exact congrArg _ (this ▸ hall).symm
end Go.V
/-
  DERIVED: THE SHELF's CONTRACTS AT THIS DUMP, IN PLAIN WORDS (tools/lay-plain.mjs out of 'TryShelf.lean', which tools/lay-shelf.mjs wrote): THE SAME DECLARATIONS UNDER THE SAME NAMES: 'import', 'namespace', 'open', 'def', 'theorem' AND NOTHING ELSE: no command of the shelf's: FOR A HAND-IN. Each laying: the table of numbers ('.._ren') and one theorem, a field a fact of the dump's own or the kernel's comparison; each contract: ONE APPLICATION.
-/
namespace Go.Proofs
open Go.Shelf
def Try.lays213_ren : Go.Shelf.Ren := ⟨fun | 213 => 124 | 265 => 129 | n => n, fun | 9 => 9 | 3 => 3 | n => n, fun | n => n⟩
theorem Try.lays213 : Go.Proofs.Lays.n213 Try.prog Try.lays213_ren := {
  mixed := by kernel_rfl
  f213 := Try.func124.trans (congrArg some (by kernel_rfl))
  f265 := Try.func129.trans (congrArg some (by kernel_rfl))
  t3 := Try.underlying3
  a3 := Try.isAgg3
  z3 := Try.sizeOf3
  v3 := Try.zeroValue3
  t9 := Try.underlying9
  a9 := Try.isAgg9
  z9 := Try.sizeOf9
  v9 := Try.zeroValue9 }
open Go.RowKit in
/-- internal/bytealg.CompareString (what strings.Compare calls): IT RETURNS 'Lib.compareBytes a b'; the world is as it was. (LAID: no walk: one application.) -/
theorem Try.bytealg_CompareString (a b : ByteArray) (w : World) :
    Calls Try.prog 124 #[.string a, .string b] w fun e w' => e = .returned (.int .i64 (Lib.compareBytes a.data.toList b.data.toList)) ∧ w' = w := Any.bytealg_CompareString Try.lays213 a b w
def Try.lays106_ren : Go.Shelf.Ren := ⟨fun | 106 => 116 | 213 => 124 | 265 => 129 | n => n, fun | 9 => 9 | 3 => 3 | n => n, fun | n => n⟩
theorem Try.lays106 : Go.Proofs.Lays.n106 Try.prog Try.lays106_ren := {
  mixed := by kernel_rfl
  f106 := Try.func116.trans (congrArg some (by kernel_rfl))
  f213 := Try.func124.trans (congrArg some (by kernel_rfl))
  f265 := Try.func129.trans (congrArg some (by kernel_rfl))
  t3 := Try.underlying3
  a3 := Try.isAgg3
  z3 := Try.sizeOf3
  v3 := Try.zeroValue3
  t9 := Try.underlying9
  a9 := Try.isAgg9
  z9 := Try.sizeOf9
  v9 := Try.zeroValue9 }
open Go.RowKit in
/-- strings.Compare: "Compare returns an integer comparing two strings lexicographically. The result will be 0 if a == b, -1 if a < b, and +1 if a > b.": IT RETURNS 'Lib.compareBytes a b'; the world is as it was. (LAID: no walk: one application.) -/
theorem Try.strings_Compare (a b : ByteArray) (w : World) :
    Calls Try.prog 116 #[.string a, .string b] w fun e w' => e = .returned (.int .i64 (Lib.compareBytes a.data.toList b.data.toList)) ∧ w' = w := Any.strings_Compare Try.lays106 a b w
end Go.Proofs
/- The walks of names: objects, goals, subjects. -/
namespace Go.V
open Go.Proofs Go.RowKit
attribute [local irreducible] V N X VO Par StepOK Has Ret RetL Src
theorem all2_ret {a b : ByteArray} (ha : a.size ≤ 9223372036854775807) (hb : b.size ≤ 9223372036854775807) {w : World} {B : Heap} (hB : B.Le (hp w)) {t : Nat} {v : Value} (hv : SlB [.string a, .string b] t 2 v B) :
    Ret Try.prog 103 [v] w B (fun v _ => v = .int .i64 (allE [a, b])) := by
  exact all_gen [a, b] (by intro s hs; simp at hs; rcases hs with rfl | rfl <;> assumption) (by simp) hB (hv.toV rfl)
theorem all3_ret {a b c : ByteArray} (ha : a.size ≤ 9223372036854775807) (hb : b.size ≤ 9223372036854775807) (hc : c.size ≤ 9223372036854775807) {w : World} {B : Heap} (hB : B.Le (hp w)) {t : Nat} {v : Value} (hv : SlB [.string a, .string b, .string c] t 3 v B) :
    Ret Try.prog 103 [v] w B (fun v _ => v = .int .i64 (allE [a, b, c])) := by
  exact all_gen [a, b, c] (by intro s hs; simp at hs; rcases hs with rfl | rfl | rfl <;> assumption) (by simp) hB (hv.toV rfl)
theorem object_ret {a b : ByteArray} (ha : a.size ≤ 9223372036854775807) (hb : b.size ≤ 9223372036854775807) {w : World} {B : Heap} (hB : B.Le (hp w)) :
    Ret Try.prog 104 [.agg #[.string a, .string b]] w B (fun v _ => v = .int .i64 (allE [a, b])) := by
  refine V_enter Try.func104 rfl Try.ntmps104 (Nat.le_of_ble_eq_true rfl) hB ?_
  refine V_seq ?_; refine V_region (id := 0) ?_; refine vo_step (ok_box rfl rfl rfl rfl) rfl ?_; refine vo_step (ok_assign rfl rfl rfl) rfl ?_; refine vo_nil ?_; refine N_seq ?_; refine V_seq ?_; refine V_region (id := 1) ?_; refine vo_step (ok_fieldAt L rfl rfl rfl rfl) rfl ?_; refine vo_step (ok_load1 L (src_at rfl) rfl rfl rfl rfl) rfl ?_; refine vo_step (ok_fieldAt L rfl rfl rfl rfl) rfl ?_; refine vo_step (ok_load1 L (src_at rfl) rfl rfl rfl rfl) rfl ?_; refine vo_step (ok_buildSlice L rfl rfl rfl rfl rfl rfl rfl rfl rfl) rfl ?_; refine vo_step (ok_callx L rfl rfl (blt_lt rfl) rfl rfl rfl (fun u H hH _ _ v hv => all2_ret (by first | assumption | omega | decide) (by first | assumption | omega | decide) hH hv)) rfl ?_; refine vo_step (ok_assign rfl rfl rfl) rfl ?_; refine vo_nil ?_; refine N_seq ?_
  refine V_ret L (rs := [.tmp 2]) rfl (fun _ _ h => h) Since.refl fun u H hH hle => ?_
  rfl
theorem goal_ret {a b c : ByteArray} (ha : a.size ≤ 9223372036854775807) (hb : b.size ≤ 9223372036854775807) (hc : c.size ≤ 9223372036854775807) {w : World} {B : Heap} (hB : B.Le (hp w)) :
    Ret Try.prog 80 [.agg #[.string a, .string b, .string c]] w B (fun v _ => v = .int .i64 (allE [a, b, c])) := by
  refine V_enter Try.func80 rfl Try.ntmps80 (Nat.le_of_ble_eq_true rfl) hB ?_
  refine V_seq ?_; refine V_region (id := 0) ?_; refine vo_step (ok_box rfl rfl rfl rfl) rfl ?_; refine vo_step (ok_assign rfl rfl rfl) rfl ?_; refine vo_nil ?_; refine N_seq ?_; refine V_seq ?_; refine V_region (id := 1) ?_; refine vo_step (ok_fieldAt L rfl rfl rfl rfl) rfl ?_; refine vo_step (ok_fieldAt L rfl rfl rfl rfl) rfl ?_; refine vo_step (ok_load1 L (src_at rfl) rfl rfl rfl rfl) rfl ?_; refine vo_step (ok_fieldAt L rfl rfl rfl rfl) rfl ?_; refine vo_step (ok_fieldAt L rfl rfl rfl rfl) rfl ?_; refine vo_step (ok_load1 L (src_at rfl) rfl rfl rfl rfl) rfl ?_; refine vo_step (ok_fieldAt L rfl rfl rfl rfl) rfl ?_; refine vo_step (ok_load1 L (src_at rfl) rfl rfl rfl rfl) rfl ?_; refine vo_step (ok_buildSlice L rfl rfl rfl rfl rfl rfl rfl rfl rfl) rfl ?_; refine vo_step (ok_callx L rfl rfl (blt_lt rfl) rfl rfl rfl (fun u H hH _ _ v hv => all3_ret (by first | assumption | omega | decide) (by first | assumption | omega | decide) (by first | assumption | omega | decide) hH hv)) rfl ?_; refine vo_step (ok_assign rfl rfl rfl) rfl ?_; refine vo_nil ?_; refine N_seq ?_
  refine V_ret L (rs := [.tmp 2]) rfl (fun _ _ h => h) Since.refl fun u H hH hle => ?_
  rfl
def subjE (a b c : ByteArray) : Int := if c = ⟨#[]⟩ then allE [a, b] else allE [a, b, c]
theorem subject_ret {a b c : ByteArray} (ha : a.size ≤ 9223372036854775807) (hb : b.size ≤ 9223372036854775807) (hc : c.size ≤ 9223372036854775807) {w : World} {B : Heap} (hB : B.Le (hp w)) :
    Ret Try.prog 81 [.agg #[.string a, .string b, .string c]] w B (fun v _ => v = .int .i64 (subjE a b c)) := by
  refine V_enter Try.func81 rfl Try.ntmps81 (Nat.le_of_ble_eq_true rfl) hB ?_
  by_cases h : c = ⟨#[]⟩
  · refine V_seq ?_; refine V_region (id := 0) ?_; refine vo_step (ok_box rfl rfl rfl rfl) rfl ?_; refine vo_step (ok_assign rfl rfl rfl) rfl ?_; refine vo_nil ?_; refine N_seq ?_; refine V_seq ?_; refine V_seq ?_; refine V_region (id := 1) ?_; refine vo_step (ok_fieldAt L rfl rfl rfl rfl) rfl ?_; refine vo_step (ok_load1 L (src_at rfl) rfl rfl rfl rfl) rfl ?_; refine vo_step (ok_seql rfl rfl rfl rfl (decide_eq_true (by assumption))) rfl ?_; refine vo_nil ?_; refine N_seq ?_; refine V_true rfl ?_; refine V_seq ?_; refine V_region (id := 2) ?_; refine vo_step (ok_fieldAt L rfl rfl rfl rfl) rfl ?_; refine vo_step (ok_loadA L (vs := [_, _]) (src_at rfl) rfl rfl rfl rfl ⟨_, rfl⟩) rfl ?_; refine vo_step (ok_callx L rfl rfl (blt_lt rfl) rfl rfl rfl (fun u H hH _ _ => object_ret (by first | assumption | omega | decide) (by first | assumption | omega | decide) hH)) rfl ?_; refine vo_step (ok_assign rfl rfl rfl) rfl ?_; refine vo_nil ?_; refine N_seq ?_
    refine V_ret L (rs := [.tmp 2]) rfl (fun _ _ h => h) Since.refl fun u H hH hle => ?_
    exact congrArg (Value.int .i64) (show allE [a, b] = subjE a b c from (if_pos h).symm)
  · refine V_seq ?_; refine V_region (id := 0) ?_; refine vo_step (ok_box rfl rfl rfl rfl) rfl ?_; refine vo_step (ok_assign rfl rfl rfl) rfl ?_; refine vo_nil ?_; refine N_seq ?_; refine V_seq ?_; refine V_seq ?_; refine V_region (id := 1) ?_; refine vo_step (ok_fieldAt L rfl rfl rfl rfl) rfl ?_; refine vo_step (ok_load1 L (src_at rfl) rfl rfl rfl rfl) rfl ?_; refine vo_step (ok_seql rfl rfl rfl rfl (decide_eq_false (by assumption))) rfl ?_; refine vo_nil ?_; refine N_seq ?_; refine V_false rfl ?_; refine V_skip ?_; refine N_seq ?_; refine V_seq ?_; refine V_region (id := 3) ?_; refine vo_step (ok_loadA L (vs := [_, _, _]) (src_at rfl) rfl rfl rfl rfl ⟨_, rfl⟩) rfl ?_; refine vo_step (ok_callx L rfl rfl (blt_lt rfl) rfl rfl rfl (fun u H hH _ _ => goal_ret (by first | assumption | omega | decide) (by first | assumption | omega | decide) (by first | assumption | omega | decide) hH)) rfl ?_; refine vo_step (ok_assign rfl rfl rfl) rfl ?_; refine vo_nil ?_; refine N_seq ?_
    refine V_ret L (rs := [.tmp 2]) rfl (fun _ _ h => h) Since.refl fun u H hH hle => ?_
    exact congrArg (Value.int .i64) (show allE [a, b, c] = subjE a b c from (if_neg h).symm)
def cmpB (a b : ByteArray) : Int := Lib.compareBytes a.data.toList b.data.toList
theorem scmp_ret {a b : ByteArray} {w : World} {B : Heap} (hB : B.Le (hp w)) : Ret Try.prog 116 [.string a, .string b] w B (fun v _ => v = .int .i64 (cmpB a b)) := Ret.of_same hB (Try.strings_Compare a b w)
def orL : List Int → Int
  | [] => 0
  | x :: l => if x = 0 then orL l else x
theorem orL_bad : ∀ (l : List Int) (k : Nat) (s : Int), (∀ x ∈ l.take k, x = 0) → l[k]? = some s → s ≠ 0 → orL l = s
  | [], k, s, _, h, _ => by simp at h
  | x :: l, 0, s, _, h, hc => by simp at h; subst h; simp [orL, hc]
  | x :: l, k + 1, s, ha, h, hc => by
    simp only [List.take_succ_cons] at ha
    simp only [List.getElem?_cons_succ] at h
    have hx := ha x (List.mem_cons_self ..)
    simp only [orL, if_pos hx]
    exact orL_bad l k s (fun y hy => ha y (List.mem_cons_of_mem _ hy)) h hc
theorem orL_zero : ∀ (l : List Int), (∀ x ∈ l, x = 0) → orL l = 0
  | [], _ => rfl
  | x :: l, h => by simp only [orL, if_pos (h x (List.mem_cons_self ..))]; exact orL_zero l fun y hy => h y (List.mem_cons_of_mem _ hy)
set_option maxHeartbeats 400000 in
theorem or_gen (l : List Int) (hlen : l.length ≤ 1000) {e : TypeId} {fu : Bool} {v : Value} {w : World} {B : Heap} (hB : B.Le (hp w)) (hv : SlV e 1 (l.map (Value.int .i64)) l.length fu v B) :
    Ret Try.prog 95 [v] w B (fun v _ => v = .int .i64 (orL l)) := by
  refine V_enter Try.func95 rfl Try.ntmps95 (Nat.le_of_ble_eq_true rfl) hB ?_
  refine V_seen 0 (SlV e 1 (l.map (Value.int .i64)) l.length fu) rfl SlV.mono hv ?_
  refine V_seq ?_; refine V_region (id := 0) ?_; refine vo_step (ok_assign rfl rfl rfl) rfl ?_; refine vo_nil ?_; refine N_seq ?_; refine V_seq ?_; refine V_region (id := 1) ?_; refine vo_step (ok_assign rfl rfl rfl) rfl ?_; refine vo_nil ?_; refine N_seq ?_; refine V_seq ?_; refine V_seq ?_; refine V_region (id := 2) ?_; refine vo_step (ok_moves' rfl rfl rfl) rfl ?_; refine vo_step (ok_lenV L rfl rfl rfl rfl) rfl ?_; refine vo_step (ok_move rfl rfl rfl) rfl ?_; refine vo_nil ?_; refine N_seq ?_; refine V_block ?_
  refine V_loop (fun k : Nat => [(3, .is (.int .i64 0)), (6, .sat (SlV e 1 (l.map (Value.int .i64)) l.length fu)), (7, .is (.int .i64 l.length)), (8, .is (.int .i64 k))])
    (fun k => k ≤ l.length ∧ ∀ x ∈ l.take k, x = 0) (fun k => l.length - k) 0 ⟨Nat.zero_le _, by simp⟩ ⟨rfl, rfl, rfl, rfl, trivial⟩ ?_
  rintro k ⟨hk, hall⟩
  by_cases hlt : k < l.length
  · have hs : l[k]? = some l[k] := List.getElem?_eq_getElem hlt
    generalize l[k] = s at hs
    have hc : ((l.map (Value.int .i64)).drop (k * 1)).take 1 = [.int .i64 s] := take_1 (by simp [hs])
    by_cases h0 : s = 0
    · refine V_seq ?_; refine V_region (id := 3) ?_; refine vo_step (ok_lss rfl rfl rfl rfl (decide_eq_true (by omega))) rfl ?_; refine vo_nil ?_; refine N_seq ?_; refine V_seq ?_; refine V_true rfl ?_; refine V_skip ?_; refine N_seq ?_; refine V_seq ?_; refine V_block ?_; refine V_seq ?_; refine V_region (id := 4) ?_; refine vo_step (ok_indexV L _ rfl rfl rfl rfl rfl rfl rfl (by first | omega | decide) (by assumption)) rfl ?_; refine vo_step (ok_loadP1 L rfl rfl rfl rfl rfl) rfl ?_; refine vo_step (ok_assign rfl rfl rfl) rfl ?_; refine vo_nil ?_; refine N_seq ?_; refine V_seq ?_; refine V_region (id := 5) ?_; refine vo_step (ok_move rfl rfl rfl) rfl ?_; refine vo_step (ok_move rfl rfl rfl) rfl ?_; refine vo_step (ok_neq rfl rfl rfl rfl (decide_eq_false (by omega))) rfl ?_; refine vo_nil ?_; refine N_seq ?_; refine V_false rfl ?_; refine V_skip ?_; refine N_block ?_; refine N_seq ?_; refine V_region (id := 7) ?_; refine vo_step (ok_add rfl rfl rfl rfl (wrap_i64 (by omega) (by omega))) rfl ?_; refine vo_step (ok_move rfl rfl rfl) rfl ?_; refine vo_nil ?_
      refine N_round (k + 1) ⟨hlt, ?_⟩ (by omega) ⟨rfl, rfl, rfl, rfl, trivial⟩
      rw [List.take_add_one, hs]
      intro x hx
      rcases List.mem_append.1 hx with hx | hx
      · exact hall x hx
      · simp at hx; rw [hx, h0]
    · refine V_seq ?_; refine V_region (id := 3) ?_; refine vo_step (ok_lss rfl rfl rfl rfl (decide_eq_true (by omega))) rfl ?_; refine vo_nil ?_; refine N_seq ?_; refine V_seq ?_; refine V_true rfl ?_; refine V_skip ?_; refine N_seq ?_; refine V_seq ?_; refine V_block ?_; refine V_seq ?_; refine V_region (id := 4) ?_; refine vo_step (ok_indexV L _ rfl rfl rfl rfl rfl rfl rfl (by first | omega | decide) (by assumption)) rfl ?_; refine vo_step (ok_loadP1 L rfl rfl rfl rfl rfl) rfl ?_; refine vo_step (ok_assign rfl rfl rfl) rfl ?_; refine vo_nil ?_; refine N_seq ?_; refine V_seq ?_; refine V_region (id := 5) ?_; refine vo_step (ok_move rfl rfl rfl) rfl ?_; refine vo_step (ok_move rfl rfl rfl) rfl ?_; refine vo_step (ok_neq rfl rfl rfl rfl (decide_eq_true (by omega))) rfl ?_; refine vo_nil ?_; refine N_seq ?_; refine V_true rfl ?_; refine V_seq ?_; refine V_region (id := 6) ?_; refine vo_step (ok_move rfl rfl rfl) rfl ?_; refine vo_step (ok_assign rfl rfl rfl) rfl ?_; refine vo_nil ?_; refine N_seq ?_
      refine V_ret L (rs := [.tmp 2]) rfl (fun _ _ h => h) Since.refl fun u H hH hle => ?_
      exact congrArg _ (orL_bad l k s hall hs h0).symm
  · refine V_seq ?_; refine V_region (id := 3) ?_; refine vo_step (ok_lss rfl rfl rfl rfl (decide_eq_false (by omega))) rfl ?_; refine vo_nil ?_; refine N_seq ?_; refine V_seq ?_; refine V_false rfl ?_; refine V_exit ?_; refine X_then ?_; refine X_then ?_; refine X_here ?_; refine N_seq ?_; refine V_seq ?_; refine V_region (id := 8) ?_; refine vo_step (ok_move rfl rfl rfl) rfl ?_; refine vo_step (ok_assign rfl rfl rfl) rfl ?_; refine vo_nil ?_; refine N_seq ?_
    refine V_ret L (rs := [.tmp 2]) rfl (fun _ _ h => h) Since.refl fun u H hH hle => ?_
    have : l.take k = l := List.take_of_length_le (by omega)
    exact congrArg _ (orL_zero l (this ▸ hall)).symm
theorem or2_ret {x y : Int} {w : World} {B : Heap} (hB : B.Le (hp w)) {t : Nat} {v : Value} (hv : SlB [.int .i64 x, .int .i64 y] t 2 v B) :
    Ret Try.prog 95 [v] w B (fun v _ => v = .int .i64 (orL [x, y])) := by
  exact or_gen [x, y] (by simp) hB (hv.toV rfl)
def cmpO (a b c d : ByteArray) : Int := orL [cmpB a c, cmpB b d]
def cmpG (a b r c d s : ByteArray) : Int := orL [cmpO a b c d, cmpB r s]
theorem cmpO_ret {a b c d : ByteArray} {w : World} {B : Heap} (hB : B.Le (hp w)) :
    Ret Try.prog 115 [.agg #[.string a, .string b], .agg #[.string c, .string d]] w B (fun v _ => v = .int .i64 (cmpO a b c d)) := by
  refine V_enter Try.func115 rfl Try.ntmps115 (Nat.le_of_ble_eq_true rfl) hB ?_
  refine V_seq ?_; refine V_region (id := 0) ?_; refine vo_step (ok_box rfl rfl rfl rfl) rfl ?_; refine vo_step (ok_box rfl rfl rfl rfl) rfl ?_; refine vo_step (ok_assign rfl rfl rfl) rfl ?_; refine vo_nil ?_; refine N_seq ?_; refine V_seq ?_; refine V_regionD (id := 1) [] mixed (by kernel_rfl) ?_; refine par_step (ok_fieldAt L rfl rfl rfl rfl) rfl ?_; refine par_step (ok_load1 L (src_at rfl) rfl rfl rfl rfl) rfl ?_; refine par_step (ok_fieldAt L rfl rfl rfl rfl) rfl ?_; refine par_step (ok_load1 L (src_at rfl) rfl rfl rfl rfl) rfl ?_; refine par_step (ok_callx L rfl rfl (blt_lt rfl) rfl rfl rfl (fun u H hH _ _ => scmp_ret hH)) rfl ?_; refine par_step (ok_fieldAt L rfl rfl rfl rfl) rfl ?_; refine par_step (ok_load1 L (src_at rfl) rfl rfl rfl rfl) rfl ?_; refine par_step (ok_fieldAt L rfl rfl rfl rfl) rfl ?_; refine par_step (ok_load1 L (src_at rfl) rfl rfl rfl rfl) rfl ?_; refine par_step (ok_callx L rfl rfl (blt_lt rfl) rfl rfl rfl (fun u H hH _ _ => scmp_ret hH)) rfl ?_; refine par_step (ok_buildSlice L rfl rfl rfl rfl rfl rfl rfl rfl rfl) rfl ?_; refine par_step (ok_callx L rfl rfl (blt_lt rfl) rfl rfl rfl (fun u H hH _ _ v hv => or2_ret hH hv)) rfl ?_; refine par_step (ok_assign rfl rfl rfl) rfl ?_; refine par_nil ?_; refine N_seq ?_
  refine V_ret L (rs := [.tmp 4]) rfl (fun _ _ h => h) Since.refl fun u H hH hle => ?_
  rfl
theorem cmpG_ret {a b r c d s : ByteArray} {w : World} {B : Heap} (hB : B.Le (hp w)) :
    Ret Try.prog 96 [.agg #[.string a, .string b, .string r], .agg #[.string c, .string d, .string s]] w B (fun v _ => v = .int .i64 (cmpG a b r c d s)) := by
  refine V_enter Try.func96 rfl Try.ntmps96 (Nat.le_of_ble_eq_true rfl) hB ?_
  refine V_seq ?_; refine V_region (id := 0) ?_; refine vo_step (ok_box rfl rfl rfl rfl) rfl ?_; refine vo_step (ok_box rfl rfl rfl rfl) rfl ?_; refine vo_step (ok_assign rfl rfl rfl) rfl ?_; refine vo_nil ?_; refine N_seq ?_; refine V_seq ?_; refine V_regionD (id := 1) [] mixed (by kernel_rfl) ?_; refine par_step (ok_fieldAt L rfl rfl rfl rfl) rfl ?_; refine par_step (ok_loadA L (vs := [_, _]) (src_at rfl) rfl rfl rfl rfl ⟨_, rfl⟩) rfl ?_; refine par_step (ok_fieldAt L rfl rfl rfl rfl) rfl ?_; refine par_step (ok_loadA L (vs := [_, _]) (src_at rfl) rfl rfl rfl rfl ⟨_, rfl⟩) rfl ?_; refine par_step (ok_callx L rfl rfl (blt_lt rfl) rfl rfl rfl (fun u H hH _ _ => cmpO_ret hH)) rfl ?_; refine par_step (ok_fieldAt L rfl rfl rfl rfl) rfl ?_; refine par_step (ok_load1 L (src_at rfl) rfl rfl rfl rfl) rfl ?_; refine par_step (ok_fieldAt L rfl rfl rfl rfl) rfl ?_; refine par_step (ok_load1 L (src_at rfl) rfl rfl rfl rfl) rfl ?_; refine par_step (ok_callx L rfl rfl (blt_lt rfl) rfl rfl rfl (fun u H hH _ _ => scmp_ret hH)) rfl ?_; refine par_step (ok_buildSlice L rfl rfl rfl rfl rfl rfl rfl rfl rfl) rfl ?_; refine par_step (ok_callx L rfl rfl (blt_lt rfl) rfl rfl rfl (fun u H hH _ _ v hv => or2_ret hH hv)) rfl ?_; refine par_step (ok_assign rfl rfl rfl) rfl ?_; refine par_nil ?_; refine N_seq ?_
  refine V_ret L (rs := [.tmp 4]) rfl (fun _ _ h => h) Since.refl fun u H hH hle => ?_
  rfl
theorem cmpU_ret {a b r c d s : ByteArray} {w : World} {B : Heap} (hB : B.Le (hp w)) :
    Ret Try.prog 97 [.agg #[.string a, .string b, .string r], .agg #[.string c, .string d, .string s]] w B (fun v _ => v = .int .i64 (cmpG a b r c d s)) := by
  refine V_enter Try.func97 rfl Try.ntmps97 (Nat.le_of_ble_eq_true rfl) hB ?_
  refine V_seq ?_; refine V_region (id := 0) ?_; refine vo_step (ok_box rfl rfl rfl rfl) rfl ?_; refine vo_step (ok_box rfl rfl rfl rfl) rfl ?_; refine vo_step (ok_assign rfl rfl rfl) rfl ?_; refine vo_nil ?_; refine N_seq ?_; refine V_seq ?_; refine V_region (id := 1) ?_; refine vo_step (ok_loadA L (vs := [_, _, _]) (src_at rfl) rfl rfl rfl rfl ⟨_, rfl⟩) rfl ?_; refine vo_step (ok_loadA L (vs := [_, _, _]) (src_at rfl) rfl rfl rfl rfl ⟨_, rfl⟩) rfl ?_; refine vo_step (ok_callx L rfl rfl (blt_lt rfl) rfl rfl rfl (fun u H hH _ _ => cmpG_ret hH)) rfl ?_; refine vo_step (ok_assign rfl rfl rfl) rfl ?_; refine vo_nil ?_; refine N_seq ?_
  refine V_ret L (rs := [.tmp 4]) rfl (fun _ _ h => h) Since.refl fun u H hH hle => ?_
  rfl
end Go.V
/- The order of byte strings: plain laws; the reference's order is the program's. -/
namespace Go.V
open Go.Proofs Go.RowKit
theorem cb_refl : ∀ (a : List UInt8), Lib.compareBytes a a = 0
  | [] => rfl
  | a :: xs => by
    unfold Lib.compareBytes
    rw [if_neg (UInt8.lt_irrefl a), if_neg (UInt8.lt_irrefl a)]
    exact cb_refl xs
theorem cb_eq : ∀ (a b : List UInt8), Lib.compareBytes a b = 0 → a = b
  | [], [], _ => rfl
  | [], _ :: _, h => by cases h
  | _ :: _, [], h => by cases h
  | a :: xs, b :: bs, h => by
    unfold Lib.compareBytes at h
    split at h
    · cases h
    · split at h
      · cases h
      · rename_i h1 h2
        have : a = b := UInt8.le_antisymm (UInt8.not_lt.1 h2) (UInt8.not_lt.1 h1)
        rw [this, cb_eq xs bs h]
theorem cb_anti : ∀ (a b : List UInt8), Lib.compareBytes b a = - Lib.compareBytes a b
  | [], [] => rfl
  | [], _ :: _ => rfl
  | _ :: _, [] => rfl
  | a :: xs, b :: bs => by
    unfold Lib.compareBytes
    by_cases h1 : a < b
    · simp [h1, UInt8.lt_asymm h1]
    · by_cases h2 : b < a
      · simp [h1, h2]
      · simp [h1, h2]; exact cb_anti xs bs
theorem cb_trans : ∀ (a b c : List UInt8), Lib.compareBytes a b ≤ 0 → Lib.compareBytes b c ≤ 0 → Lib.compareBytes a c ≤ 0
  | [], _, [], _, _ => Int.le_refl _
  | [], _, _ :: _, _, _ => by unfold Lib.compareBytes; decide
  | _ :: _, [], _, h, _ => by unfold Lib.compareBytes at h; exact absurd h (by decide)
  | _ :: _, _ :: _, [], _, h => by unfold Lib.compareBytes at h; exact absurd h (by decide)
  | a :: xs, b :: bs, c :: cs, h1, h2 => by
    unfold Lib.compareBytes at h1 h2 ⊢
    by_cases ab : a < b
    · by_cases bc : b < c
      · rw [if_pos (UInt8.lt_trans ab bc)]; decide
      · rw [if_neg bc] at h2
        by_cases cb : c < b
        · rw [if_pos cb] at h2; exact absurd h2 (by decide)
        · have : b = c := UInt8.le_antisymm (UInt8.not_lt.1 cb) (UInt8.not_lt.1 bc)
          subst this; rw [if_pos ab]; decide
    · rw [if_neg ab] at h1
      by_cases ba : b < a
      · rw [if_pos ba] at h1; exact absurd h1 (by decide)
      · have : a = b := UInt8.le_antisymm (UInt8.not_lt.1 ba) (UInt8.not_lt.1 ab)
        subst this
        rw [if_neg ab] at h1
        by_cases ac : a < c
        · rw [if_pos ac]; decide
        · rw [if_neg ac] at h2 ⊢
          by_cases ca : c < a
          · rw [if_pos ca] at h2; exact absurd h2 (by decide)
          · rw [if_neg ca] at h2 ⊢
            exact cb_trans xs bs cs h1 h2
/-- A comparison that is a total order, 0 for equal ones alone. -/
structure Ord3 {α : Type} (c : α → α → Int) : Prop where
  refl : ∀ a, c a a = 0
  eq : ∀ a b, c a b = 0 → a = b
  anti : ∀ a b, c b a = - c a b
  trans : ∀ a b d, c a b ≤ 0 → c b d ≤ 0 → c a d ≤ 0
theorem ba_ext {a b : ByteArray} (h : a.data.toList = b.data.toList) : a = b := by
  obtain ⟨⟨x⟩⟩ := a; obtain ⟨⟨y⟩⟩ := b; simp at h; subst h; rfl
theorem cmpB_ord : Ord3 cmpB := ⟨fun a => cb_refl _, fun a b h => ba_ext (cb_eq _ _ h), fun a b => cb_anti _ _, fun a b d h1 h2 => cb_trans _ _ _ h1 h2⟩
/-- First by the one, then by the other. -/
def lexC {α β : Type} (c : α → α → Int) (e : β → β → Int) (x y : α × β) : Int := orL [c x.1 y.1, e x.2 y.2]
theorem orL2 (x y : Int) : orL [x, y] = if x = 0 then y else x := by
  simp only [orL]
  by_cases hx : x = 0
  · rw [if_pos hx, if_pos hx]; split <;> simp_all
  · rw [if_neg hx, if_neg hx]
theorem Ord3.lt_of {α : Type} {c : α → α → Int} (h : Ord3 c) {a b d : α} (h1 : c a b ≤ 0) (h2 : c b d ≤ 0) (h3 : c a d = 0) : c a b = 0 ∧ c b d = 0 := by
  obtain rfl := h.eq _ _ h3
  have := h.anti a b
  constructor <;> omega
theorem Ord3.lex {α β : Type} {c : α → α → Int} {e : β → β → Int} (hc : Ord3 c) (he : Ord3 e) : Ord3 (lexC c e) := by
  refine ⟨fun a => ?_, fun a b h => ?_, fun a b => ?_, fun a b d h1 h2 => ?_⟩
  · unfold lexC; rw [orL2, hc.refl, if_pos rfl, he.refl]
  · unfold lexC at h
    rw [orL2] at h
    by_cases h0 : c a.1 b.1 = 0
    · rw [if_pos h0] at h
      exact Prod.ext (hc.eq _ _ h0) (he.eq _ _ h)
    · rw [if_neg h0] at h; exact absurd h h0
  · unfold lexC
    rw [orL2, orL2, hc.anti a.1 b.1, he.anti a.2 b.2]
    by_cases h0 : c a.1 b.1 = 0
    · rw [if_pos h0, if_pos (by omega)]
    · rw [if_neg h0, if_neg (by omega)]
  · unfold lexC at h1 h2 ⊢
    rw [orL2] at h1 h2 ⊢
    have l1 : c a.1 b.1 ≤ 0 := by split at h1 <;> omega
    have l2 : c b.1 d.1 ≤ 0 := by split at h2 <;> omega
    have l3 := hc.trans _ _ _ l1 l2
    by_cases h0 : c a.1 d.1 = 0
    · obtain ⟨e1, e2⟩ := hc.lt_of l1 l2 h0
      rw [if_pos e1] at h1
      rw [if_pos e2] at h2
      rw [if_pos h0]
      exact he.trans _ _ _ h1 h2
    · rw [if_neg h0]; exact l3
abbrev Str3 := (ByteArray × ByteArray) × ByteArray
def cmp3 : Str3 → Str3 → Int := lexC (lexC cmpB cmpB) cmpB
theorem cmp3_ord : Ord3 cmp3 := (cmpB_ord.lex cmpB_ord).lex cmpB_ord
theorem cmpO_zero {a b c d : ByteArray} : cmpO a b c d = 0 ↔ a = c ∧ b = d := by
  have h := cmpB_ord.lex cmpB_ord
  constructor
  · intro e
    have := h.eq (a, b) (c, d) e
    cases this; exact ⟨rfl, rfl⟩
  · rintro ⟨rfl, rfl⟩; exact h.refl (a, b)
theorem cmpO_1 {a b c d : ByteArray} (h : a ≠ c) : cmpO a b c d = cmpB a c := by
  unfold cmpO; rw [orL2, if_neg fun e => h (cmpB_ord.eq _ _ e)]
theorem cmpO_2 {a b c d : ByteArray} (h : a = c) : cmpO a b c d = cmpB b d := by
  unfold cmpO; rw [orL2, if_pos (by rw [h]; exact cmpB_ord.refl _)]
theorem cmpG_1 {a b r c d s : ByteArray} (h : ¬ (a = c ∧ b = d)) : cmpG a b r c d s = cmpO a b c d := by
  unfold cmpG; rw [orL2, if_neg fun e => h (cmpO_zero.1 e)]
theorem cmpG_2 {a b r c d s : ByteArray} (h : a = c ∧ b = d) : cmpG a b r c d s = cmpB r s := by
  unfold cmpG; rw [orL2, if_pos (cmpO_zero.2 h)]
/-! ### the reference's order -/
theorem drop_at {s : ByteArray} {k : Nat} {c : UInt8} (h : s[k]? = some c) : s.data.toList.drop k = c :: s.data.toList.drop (k + 1) := by
  have h' : s.data.toList[k]? = some c := by
    have : s.data[k]? = some c := h
    simpa using this
  obtain ⟨hl, he⟩ := List.getElem?_eq_some_iff.1 h'
  rw [List.drop_eq_getElem_cons hl, he]
theorem drop_end {s : ByteArray} {k : Nat} (h : s.size ≤ k) : s.data.toList.drop k = [] := List.drop_eq_nil_of_le (by rw [len_toList]; exact h)
def upTo (a b : ByteArray) (k : Nat) : Prop := cmpB a b = Lib.compareBytes (a.data.toList.drop k) (b.data.toList.drop k)
theorem upTo_lt {a b : ByteArray} {k : Nat} {x y : UInt8} (h : upTo a b k) (hx : a[k]? = some x) (hy : b[k]? = some y) (hl : (x.toNat : Int) < y.toNat) : cmpB a b = -1 := by
  unfold upTo at h
  rw [h, drop_at hx, drop_at hy, Lib.compareBytes, if_pos (UInt8.lt_iff_toNat_lt.2 (by omega))]
theorem upTo_gt {a b : ByteArray} {k : Nat} {x y : UInt8} (h : upTo a b k) (hx : a[k]? = some x) (hy : b[k]? = some y) (hl : (y.toNat : Int) < x.toNat) : cmpB a b = 1 := by
  unfold upTo at h
  have hl' : y < x := UInt8.lt_iff_toNat_lt.2 (by omega)
  rw [h, drop_at hx, drop_at hy, Lib.compareBytes, if_neg (UInt8.lt_asymm hl'), if_pos hl']
theorem upTo_next {a b : ByteArray} {k : Nat} {x y : UInt8} (h : upTo a b k) (hx : a[k]? = some x) (hy : b[k]? = some y) (h1 : ¬ (x.toNat : Int) < y.toNat) (h2 : ¬ (y.toNat : Int) < x.toNat) : upTo a b (k + 1) := by
  unfold upTo at h ⊢
  rw [h, drop_at hx, drop_at hy, Lib.compareBytes, if_neg (fun e => h1 (by have := UInt8.lt_iff_toNat_lt.1 e; omega)), if_neg (fun e => h2 (by have := UInt8.lt_iff_toNat_lt.1 e; omega))]
theorem upTo_short {a b : ByteArray} {k : Nat} (h : upTo a b k) (h1 : a.size ≤ k) (h2 : k < b.size) : cmpB a b = -1 := by
  unfold upTo at h
  obtain ⟨y, hy⟩ := getElem?_lt h2
  rw [h, drop_end h1, drop_at hy, Lib.compareBytes]
theorem upTo_long {a b : ByteArray} {k : Nat} (h : upTo a b k) (h1 : b.size ≤ k) (h2 : k < a.size) : cmpB a b = 1 := by
  unfold upTo at h
  obtain ⟨y, hy⟩ := getElem?_lt h2
  rw [h, drop_end h1, drop_at hy, Lib.compareBytes]
theorem upTo_both {a b : ByteArray} {k : Nat} (h : upTo a b k) (h1 : a.size ≤ k) (h2 : b.size ≤ k) : cmpB a b = 0 := by
  unfold upTo at h
  rw [h, drop_end h1, drop_end h2, Lib.compareBytes]
attribute [local irreducible] V N X VO Par StepOK Has Ret RetL Src
set_option maxHeartbeats 400000 in
theorem rorder_ret {a b : ByteArray} (ha : a.size ≤ 9223372036854775807) (hb : b.size ≤ 9223372036854775807) {w : World} {B : Heap} (hB : B.Le (hp w)) :
    Ret Try.prog 94 [.string a, .string b] w B (fun v _ => v = .int .i64 (cmpB a b)) := by
  refine V_enter Try.func94 rfl Try.ntmps94 (Nat.le_of_ble_eq_true rfl) hB ?_
  refine V_seq ?_; refine V_region (id := 0) ?_; refine vo_step (ok_assign rfl rfl rfl) rfl ?_; refine vo_nil ?_; refine N_seq ?_; refine V_seq ?_; refine V_seq ?_; refine V_region (id := 1) ?_; refine vo_step (ok_assign rfl rfl rfl) rfl ?_; refine vo_nil ?_; refine N_seq ?_; refine V_block ?_
  refine V_loop (fun k : Nat => [(0, .is (.string a)), (1, .is (.string b)), (5, .is (.int .i64 k))])
    (fun k => k ≤ a.size ∧ k ≤ b.size ∧ upTo a b k) (fun k => a.size - k) 0 ⟨Nat.zero_le _, Nat.zero_le _, rfl⟩ ⟨rfl, rfl, rfl, trivial⟩ ?_
  rintro k ⟨hk1, hk2, hall⟩
  by_cases h1 : k < a.size
  · by_cases h2 : k < b.size
    · obtain ⟨x, hx⟩ := getElem?_lt h1
      obtain ⟨y, hy⟩ := getElem?_lt h2
      by_cases hxy : (x.toNat : Int) < y.toNat
      · refine V_seq ?_; refine V_seq ?_; refine V_region (id := 2) ?_; refine vo_step (ok_move rfl rfl rfl) rfl ?_; refine vo_step (ok_move rfl rfl rfl) rfl ?_; refine vo_step (ok_lenS L rfl rfl rfl rfl) rfl ?_; refine vo_step (ok_lss rfl rfl rfl rfl (decide_eq_true (by omega))) rfl ?_; refine vo_step (ok_move rfl rfl rfl) rfl ?_; refine vo_step (ok_move rfl rfl rfl) rfl ?_; refine vo_step (ok_move rfl rfl rfl) rfl ?_; refine vo_step (ok_lenS L rfl rfl rfl rfl) rfl ?_; refine vo_step (ok_lss rfl rfl rfl rfl (decide_eq_true (by omega))) rfl ?_; refine vo_step (ok_pick rfl rfl rfl rfl) rfl ?_; refine vo_nil ?_; refine N_seq ?_; refine V_true rfl ?_; refine V_skip ?_; refine N_seq ?_; refine V_seq ?_; refine V_block ?_; refine V_seq ?_; refine V_seq ?_; refine V_regionD (id := 4) [] mixed (by kernel_rfl) ?_; refine par_step (ok_move rfl rfl rfl) rfl ?_; refine par_step (ok_move rfl rfl rfl) rfl ?_; refine par_step (ok_indexS L rfl rfl rfl rfl rfl (by assumption)) rfl ?_; refine par_step (ok_move rfl rfl rfl) rfl ?_; refine par_step (ok_move rfl rfl rfl) rfl ?_; refine par_step (ok_indexS L rfl rfl rfl rfl rfl (by assumption)) rfl ?_; refine par_step (ok_lss rfl rfl rfl rfl (decide_eq_true (by omega))) rfl ?_; refine par_nil ?_; refine N_seq ?_; refine V_true rfl ?_; refine V_seq ?_; refine V_region (id := 5) ?_; refine vo_step (ok_assign rfl rfl rfl) rfl ?_; refine vo_nil ?_; refine N_seq ?_
        refine V_ret L (rs := [.tmp 4]) rfl (fun _ _ h => h) Since.refl fun u H hH hle => ?_
        exact congrArg _ (upTo_lt hall hx hy hxy).symm
      · by_cases hyx : (y.toNat : Int) < x.toNat
        · refine V_seq ?_; refine V_seq ?_; refine V_region (id := 2) ?_; refine vo_step (ok_move rfl rfl rfl) rfl ?_; refine vo_step (ok_move rfl rfl rfl) rfl ?_; refine vo_step (ok_lenS L rfl rfl rfl rfl) rfl ?_; refine vo_step (ok_lss rfl rfl rfl rfl (decide_eq_true (by omega))) rfl ?_; refine vo_step (ok_move rfl rfl rfl) rfl ?_; refine vo_step (ok_move rfl rfl rfl) rfl ?_; refine vo_step (ok_move rfl rfl rfl) rfl ?_; refine vo_step (ok_lenS L rfl rfl rfl rfl) rfl ?_; refine vo_step (ok_lss rfl rfl rfl rfl (decide_eq_true (by omega))) rfl ?_; refine vo_step (ok_pick rfl rfl rfl rfl) rfl ?_; refine vo_nil ?_; refine N_seq ?_; refine V_true rfl ?_; refine V_skip ?_; refine N_seq ?_; refine V_seq ?_; refine V_block ?_; refine V_seq ?_; refine V_seq ?_; refine V_regionD (id := 4) [] mixed (by kernel_rfl) ?_; refine par_step (ok_move rfl rfl rfl) rfl ?_; refine par_step (ok_move rfl rfl rfl) rfl ?_; refine par_step (ok_indexS L rfl rfl rfl rfl rfl (by assumption)) rfl ?_; refine par_step (ok_move rfl rfl rfl) rfl ?_; refine par_step (ok_move rfl rfl rfl) rfl ?_; refine par_step (ok_indexS L rfl rfl rfl rfl rfl (by assumption)) rfl ?_; refine par_step (ok_lss rfl rfl rfl rfl (decide_eq_false (by omega))) rfl ?_; refine par_nil ?_; refine N_seq ?_; refine V_false rfl ?_; refine V_skip ?_; refine N_seq ?_; refine V_seq ?_; refine V_regionD (id := 6) [] mixed (by kernel_rfl) ?_; refine par_step (ok_move rfl rfl rfl) rfl ?_; refine par_step (ok_move rfl rfl rfl) rfl ?_; refine par_step (ok_indexS L rfl rfl rfl rfl rfl (by assumption)) rfl ?_; refine par_step (ok_move rfl rfl rfl) rfl ?_; refine par_step (ok_move rfl rfl rfl) rfl ?_; refine par_step (ok_indexS L rfl rfl rfl rfl rfl (by assumption)) rfl ?_; refine par_step (ok_gtr rfl rfl rfl rfl (decide_eq_true (by omega))) rfl ?_; refine par_nil ?_; refine N_seq ?_; refine V_true rfl ?_; refine V_seq ?_; refine V_region (id := 7) ?_; refine vo_step (ok_assign rfl rfl rfl) rfl ?_; refine vo_nil ?_; refine N_seq ?_
          refine V_ret L (rs := [.tmp 4]) rfl (fun _ _ h => h) Since.refl fun u H hH hle => ?_
          exact congrArg _ (upTo_gt hall hx hy hyx).symm
        · refine V_seq ?_; refine V_seq ?_; refine V_region (id := 2) ?_; refine vo_step (ok_move rfl rfl rfl) rfl ?_; refine vo_step (ok_move rfl rfl rfl) rfl ?_; refine vo_step (ok_lenS L rfl rfl rfl rfl) rfl ?_; refine vo_step (ok_lss rfl rfl rfl rfl (decide_eq_true (by omega))) rfl ?_; refine vo_step (ok_move rfl rfl rfl) rfl ?_; refine vo_step (ok_move rfl rfl rfl) rfl ?_; refine vo_step (ok_move rfl rfl rfl) rfl ?_; refine vo_step (ok_lenS L rfl rfl rfl rfl) rfl ?_; refine vo_step (ok_lss rfl rfl rfl rfl (decide_eq_true (by omega))) rfl ?_; refine vo_step (ok_pick rfl rfl rfl rfl) rfl ?_; refine vo_nil ?_; refine N_seq ?_; refine V_true rfl ?_; refine V_skip ?_; refine N_seq ?_; refine V_seq ?_; refine V_block ?_; refine V_seq ?_; refine V_seq ?_; refine V_regionD (id := 4) [] mixed (by kernel_rfl) ?_; refine par_step (ok_move rfl rfl rfl) rfl ?_; refine par_step (ok_move rfl rfl rfl) rfl ?_; refine par_step (ok_indexS L rfl rfl rfl rfl rfl (by assumption)) rfl ?_; refine par_step (ok_move rfl rfl rfl) rfl ?_; refine par_step (ok_move rfl rfl rfl) rfl ?_; refine par_step (ok_indexS L rfl rfl rfl rfl rfl (by assumption)) rfl ?_; refine par_step (ok_lss rfl rfl rfl rfl (decide_eq_false (by omega))) rfl ?_; refine par_nil ?_; refine N_seq ?_; refine V_false rfl ?_; refine V_skip ?_; refine N_seq ?_; refine V_seq ?_; refine V_regionD (id := 6) [] mixed (by kernel_rfl) ?_; refine par_step (ok_move rfl rfl rfl) rfl ?_; refine par_step (ok_move rfl rfl rfl) rfl ?_; refine par_step (ok_indexS L rfl rfl rfl rfl rfl (by assumption)) rfl ?_; refine par_step (ok_move rfl rfl rfl) rfl ?_; refine par_step (ok_move rfl rfl rfl) rfl ?_; refine par_step (ok_indexS L rfl rfl rfl rfl rfl (by assumption)) rfl ?_; refine par_step (ok_gtr rfl rfl rfl rfl (decide_eq_false (by omega))) rfl ?_; refine par_nil ?_; refine N_seq ?_; refine V_false rfl ?_; refine V_skip ?_; refine N_block ?_; refine N_seq ?_; refine V_region (id := 3) ?_; refine vo_step (ok_move rfl rfl rfl) rfl ?_; refine vo_step (ok_add rfl rfl rfl rfl (wrap_i64 (by omega) (by omega))) rfl ?_; refine vo_step (ok_assign rfl rfl rfl) rfl ?_; refine vo_nil ?_
          exact N_round (k + 1) ⟨h1, h2, upTo_next hall hx hy hxy hyx⟩ (by omega) ⟨rfl, rfl, rfl, trivial⟩
    · refine V_seq ?_; refine V_seq ?_; refine V_region (id := 2) ?_; refine vo_step (ok_move rfl rfl rfl) rfl ?_; refine vo_step (ok_move rfl rfl rfl) rfl ?_; refine vo_step (ok_lenS L rfl rfl rfl rfl) rfl ?_; refine vo_step (ok_lss rfl rfl rfl rfl (decide_eq_true (by omega))) rfl ?_; refine vo_step (ok_move rfl rfl rfl) rfl ?_; refine vo_step (ok_move rfl rfl rfl) rfl ?_; refine vo_step (ok_move rfl rfl rfl) rfl ?_; refine vo_step (ok_lenS L rfl rfl rfl rfl) rfl ?_; refine vo_step (ok_lss rfl rfl rfl rfl (decide_eq_false (by omega))) rfl ?_; refine vo_step (ok_pick rfl rfl rfl rfl) rfl ?_; refine vo_nil ?_; refine N_seq ?_; refine V_false rfl ?_; refine V_exit ?_; refine X_then ?_; refine X_then ?_; refine X_here ?_; refine N_seq ?_; refine V_seq ?_; refine V_seq ?_; refine V_region (id := 8) ?_; refine vo_step (ok_move rfl rfl rfl) rfl ?_; refine vo_step (ok_lenS L rfl rfl rfl rfl) rfl ?_; refine vo_step (ok_move rfl rfl rfl) rfl ?_; refine vo_step (ok_lenS L rfl rfl rfl rfl) rfl ?_; refine vo_step (ok_lss rfl rfl rfl rfl (decide_eq_false (by omega))) rfl ?_; refine vo_nil ?_; refine N_seq ?_; refine V_false rfl ?_; refine V_skip ?_; refine N_seq ?_; refine V_seq ?_; refine V_seq ?_; refine V_region (id := 10) ?_; refine vo_step (ok_move rfl rfl rfl) rfl ?_; refine vo_step (ok_lenS L rfl rfl rfl rfl) rfl ?_; refine vo_step (ok_move rfl rfl rfl) rfl ?_; refine vo_step (ok_lenS L rfl rfl rfl rfl) rfl ?_; refine vo_step (ok_gtr rfl rfl rfl rfl (decide_eq_true (by omega))) rfl ?_; refine vo_nil ?_; refine N_seq ?_; refine V_true rfl ?_; refine V_seq ?_; refine V_region (id := 11) ?_; refine vo_step (ok_assign rfl rfl rfl) rfl ?_; refine vo_nil ?_; refine N_seq ?_
      refine V_ret L (rs := [.tmp 4]) rfl (fun _ _ h => h) Since.refl fun u H hH hle => ?_
      exact congrArg _ (upTo_long hall (by omega) h1).symm
  · by_cases h2 : k < b.size
    · refine V_seq ?_; refine V_seq ?_; refine V_region (id := 2) ?_; refine vo_step (ok_move rfl rfl rfl) rfl ?_; refine vo_step (ok_move rfl rfl rfl) rfl ?_; refine vo_step (ok_lenS L rfl rfl rfl rfl) rfl ?_; refine vo_step (ok_lss rfl rfl rfl rfl (decide_eq_false (by omega))) rfl ?_; refine vo_step (ok_move rfl rfl rfl) rfl ?_; refine vo_step (ok_skip rfl (blt_lt rfl) rfl) rfl ?_; refine vo_step (ok_skip rfl (blt_lt rfl) rfl) rfl ?_; refine vo_step (ok_skip rfl (blt_lt rfl) rfl) rfl ?_; refine vo_step (ok_skip rfl (blt_lt rfl) rfl) rfl ?_; refine vo_step (ok_pick rfl rfl rfl rfl) rfl ?_; refine vo_nil ?_; refine N_seq ?_; refine V_false rfl ?_; refine V_exit ?_; refine X_then ?_; refine X_then ?_; refine X_here ?_; refine N_seq ?_; refine V_seq ?_; refine V_seq ?_; refine V_region (id := 8) ?_; refine vo_step (ok_move rfl rfl rfl) rfl ?_; refine vo_step (ok_lenS L rfl rfl rfl rfl) rfl ?_; refine vo_step (ok_move rfl rfl rfl) rfl ?_; refine vo_step (ok_lenS L rfl rfl rfl rfl) rfl ?_; refine vo_step (ok_lss rfl rfl rfl rfl (decide_eq_true (by omega))) rfl ?_; refine vo_nil ?_; refine N_seq ?_; refine V_true rfl ?_; refine V_seq ?_; refine V_region (id := 9) ?_; refine vo_step (ok_assign rfl rfl rfl) rfl ?_; refine vo_nil ?_; refine N_seq ?_
      refine V_ret L (rs := [.tmp 4]) rfl (fun _ _ h => h) Since.refl fun u H hH hle => ?_
      exact congrArg _ (upTo_short hall (by omega) h2).symm
    · refine V_seq ?_; refine V_seq ?_; refine V_region (id := 2) ?_; refine vo_step (ok_move rfl rfl rfl) rfl ?_; refine vo_step (ok_move rfl rfl rfl) rfl ?_; refine vo_step (ok_lenS L rfl rfl rfl rfl) rfl ?_; refine vo_step (ok_lss rfl rfl rfl rfl (decide_eq_false (by omega))) rfl ?_; refine vo_step (ok_move rfl rfl rfl) rfl ?_; refine vo_step (ok_skip rfl (blt_lt rfl) rfl) rfl ?_; refine vo_step (ok_skip rfl (blt_lt rfl) rfl) rfl ?_; refine vo_step (ok_skip rfl (blt_lt rfl) rfl) rfl ?_; refine vo_step (ok_skip rfl (blt_lt rfl) rfl) rfl ?_; refine vo_step (ok_pick rfl rfl rfl rfl) rfl ?_; refine vo_nil ?_; refine N_seq ?_; refine V_false rfl ?_; refine V_exit ?_; refine X_then ?_; refine X_then ?_; refine X_here ?_; refine N_seq ?_; refine V_seq ?_; refine V_seq ?_; refine V_region (id := 8) ?_; refine vo_step (ok_move rfl rfl rfl) rfl ?_; refine vo_step (ok_lenS L rfl rfl rfl rfl) rfl ?_; refine vo_step (ok_move rfl rfl rfl) rfl ?_; refine vo_step (ok_lenS L rfl rfl rfl rfl) rfl ?_; refine vo_step (ok_lss rfl rfl rfl rfl (decide_eq_false (by omega))) rfl ?_; refine vo_nil ?_; refine N_seq ?_; refine V_false rfl ?_; refine V_skip ?_; refine N_seq ?_; refine V_seq ?_; refine V_seq ?_; refine V_region (id := 10) ?_; refine vo_step (ok_move rfl rfl rfl) rfl ?_; refine vo_step (ok_lenS L rfl rfl rfl rfl) rfl ?_; refine vo_step (ok_move rfl rfl rfl) rfl ?_; refine vo_step (ok_lenS L rfl rfl rfl rfl) rfl ?_; refine vo_step (ok_gtr rfl rfl rfl rfl (decide_eq_false (by omega))) rfl ?_; refine vo_nil ?_; refine N_seq ?_; refine V_false rfl ?_; refine V_skip ?_; refine N_seq ?_; refine V_seq ?_; refine V_region (id := 12) ?_; refine vo_step (ok_assign rfl rfl rfl) rfl ?_; refine vo_nil ?_; refine N_seq ?_
      refine V_ret L (rs := [.tmp 4]) rfl (fun _ _ h => h) Since.refl fun u H hH hle => ?_
      exact congrArg _ (upTo_both hall (by omega) (by omega)).symm
theorem rcmpO_ret {a b c d : ByteArray} (ha : a.size ≤ 9223372036854775807) (hb : b.size ≤ 9223372036854775807) (hc : c.size ≤ 9223372036854775807) (hd : d.size ≤ 9223372036854775807) {w : World} {B : Heap} (hB : B.Le (hp w)) :
    Ret Try.prog 93 [.agg #[.string a, .string b], .agg #[.string c, .string d]] w B (fun v _ => v = .int .i64 (cmpO a b c d)) := by
  refine V_enter Try.func93 rfl Try.ntmps93 (Nat.le_of_ble_eq_true rfl) hB ?_
  by_cases h : a = c
  · have h' : ¬ a ≠ c := fun e => e h
    refine V_seq ?_; refine V_region (id := 0) ?_; refine vo_step (ok_box rfl rfl rfl rfl) rfl ?_; refine vo_step (ok_box rfl rfl rfl rfl) rfl ?_; refine vo_step (ok_assign rfl rfl rfl) rfl ?_; refine vo_nil ?_; refine N_seq ?_; refine V_seq ?_; refine V_seq ?_; refine V_region (id := 1) ?_; refine vo_step (ok_fieldAt L rfl rfl rfl rfl) rfl ?_; refine vo_step (ok_load1 L (src_at rfl) rfl rfl rfl rfl) rfl ?_; refine vo_step (ok_fieldAt L rfl rfl rfl rfl) rfl ?_; refine vo_step (ok_load1 L (src_at rfl) rfl rfl rfl rfl) rfl ?_; refine vo_step (ok_sneq rfl rfl rfl rfl (decide_eq_false (by assumption))) rfl ?_; refine vo_nil ?_; refine N_seq ?_; refine V_false rfl ?_; refine V_skip ?_; refine N_seq ?_; refine V_seq ?_; refine V_region (id := 3) ?_; refine vo_step (ok_fieldAt L rfl rfl rfl rfl) rfl ?_; refine vo_step (ok_load1 L (src_at rfl) rfl rfl rfl rfl) rfl ?_; refine vo_step (ok_fieldAt L rfl rfl rfl rfl) rfl ?_; refine vo_step (ok_load1 L (src_at rfl) rfl rfl rfl rfl) rfl ?_; refine vo_step (ok_callx L rfl rfl (blt_lt rfl) rfl rfl rfl (fun u H hH _ _ => rorder_ret (by first | assumption | omega | decide) (by first | assumption | omega | decide) hH)) rfl ?_; refine vo_step (ok_assign rfl rfl rfl) rfl ?_; refine vo_nil ?_; refine N_seq ?_
    refine V_ret L (rs := [.tmp 4]) rfl (fun _ _ h => h) Since.refl fun u H hH hle => ?_
    exact congrArg _ (cmpO_2 h).symm
  · have h' : a ≠ c := h
    refine V_seq ?_; refine V_region (id := 0) ?_; refine vo_step (ok_box rfl rfl rfl rfl) rfl ?_; refine vo_step (ok_box rfl rfl rfl rfl) rfl ?_; refine vo_step (ok_assign rfl rfl rfl) rfl ?_; refine vo_nil ?_; refine N_seq ?_; refine V_seq ?_; refine V_seq ?_; refine V_region (id := 1) ?_; refine vo_step (ok_fieldAt L rfl rfl rfl rfl) rfl ?_; refine vo_step (ok_load1 L (src_at rfl) rfl rfl rfl rfl) rfl ?_; refine vo_step (ok_fieldAt L rfl rfl rfl rfl) rfl ?_; refine vo_step (ok_load1 L (src_at rfl) rfl rfl rfl rfl) rfl ?_; refine vo_step (ok_sneq rfl rfl rfl rfl (decide_eq_true (by assumption))) rfl ?_; refine vo_nil ?_; refine N_seq ?_; refine V_true rfl ?_; refine V_seq ?_; refine V_region (id := 2) ?_; refine vo_step (ok_fieldAt L rfl rfl rfl rfl) rfl ?_; refine vo_step (ok_load1 L (src_at rfl) rfl rfl rfl rfl) rfl ?_; refine vo_step (ok_fieldAt L rfl rfl rfl rfl) rfl ?_; refine vo_step (ok_load1 L (src_at rfl) rfl rfl rfl rfl) rfl ?_; refine vo_step (ok_callx L rfl rfl (blt_lt rfl) rfl rfl rfl (fun u H hH _ _ => rorder_ret (by first | assumption | omega | decide) (by first | assumption | omega | decide) hH)) rfl ?_; refine vo_step (ok_assign rfl rfl rfl) rfl ?_; refine vo_nil ?_; refine N_seq ?_
    refine V_ret L (rs := [.tmp 4]) rfl (fun _ _ h => h) Since.refl fun u H hH hle => ?_
    exact congrArg _ (cmpO_1 h).symm
theorem rcmpG_ret {a b r c d s : ByteArray} (ha : a.size ≤ 9223372036854775807) (hb : b.size ≤ 9223372036854775807) (hr : r.size ≤ 9223372036854775807) (hc : c.size ≤ 9223372036854775807) (hd : d.size ≤ 9223372036854775807) (hs : s.size ≤ 9223372036854775807) {w : World} {B : Heap} (hB : B.Le (hp w)) :
    Ret Try.prog 74 [.agg #[.string a, .string b, .string r], .agg #[.string c, .string d, .string s]] w B (fun v _ => v = .int .i64 (cmpG a b r c d s)) := by
  refine V_enter Try.func74 rfl Try.ntmps74 (Nat.le_of_ble_eq_true rfl) hB ?_
  by_cases h : a = c ∧ b = d
  · have h' := eqCs2 (decide_eq_true h)
    refine V_seq ?_; refine V_region (id := 0) ?_; refine vo_step (ok_box rfl rfl rfl rfl) rfl ?_; refine vo_step (ok_box rfl rfl rfl rfl) rfl ?_; refine vo_step (ok_assign rfl rfl rfl) rfl ?_; refine vo_nil ?_; refine N_seq ?_; refine V_seq ?_; refine V_seq ?_; refine V_region (id := 1) ?_; refine vo_step (ok_fieldAt L rfl rfl rfl rfl) rfl ?_; refine vo_step (ok_loadA L (vs := [_, _]) (src_at rfl) rfl rfl rfl rfl ⟨_, rfl⟩) rfl ?_; refine vo_step (ok_fieldAt L rfl rfl rfl rfl) rfl ?_; refine vo_step (ok_loadA L (vs := [_, _]) (src_at rfl) rfl rfl rfl rfl ⟨_, rfl⟩) rfl ?_; refine vo_step (ok_aneq rfl rfl rfl rfl eq47 (by assumption) rfl) rfl ?_; refine vo_nil ?_; refine N_seq ?_; refine V_false rfl ?_; refine V_skip ?_; refine N_seq ?_; refine V_seq ?_; refine V_region (id := 3) ?_; refine vo_step (ok_fieldAt L rfl rfl rfl rfl) rfl ?_; refine vo_step (ok_load1 L (src_at rfl) rfl rfl rfl rfl) rfl ?_; refine vo_step (ok_fieldAt L rfl rfl rfl rfl) rfl ?_; refine vo_step (ok_load1 L (src_at rfl) rfl rfl rfl rfl) rfl ?_; refine vo_step (ok_callx L rfl rfl (blt_lt rfl) rfl rfl rfl (fun u H hH _ _ => rorder_ret (by first | assumption | omega | decide) (by first | assumption | omega | decide) hH)) rfl ?_; refine vo_step (ok_assign rfl rfl rfl) rfl ?_; refine vo_nil ?_; refine N_seq ?_
    refine V_ret L (rs := [.tmp 4]) rfl (fun _ _ h => h) Since.refl fun u H hH hle => ?_
    exact congrArg _ (cmpG_2 h).symm
  · have h' := eqCs2 (decide_eq_false h)
    refine V_seq ?_; refine V_region (id := 0) ?_; refine vo_step (ok_box rfl rfl rfl rfl) rfl ?_; refine vo_step (ok_box rfl rfl rfl rfl) rfl ?_; refine vo_step (ok_assign rfl rfl rfl) rfl ?_; refine vo_nil ?_; refine N_seq ?_; refine V_seq ?_; refine V_seq ?_; refine V_region (id := 1) ?_; refine vo_step (ok_fieldAt L rfl rfl rfl rfl) rfl ?_; refine vo_step (ok_loadA L (vs := [_, _]) (src_at rfl) rfl rfl rfl rfl ⟨_, rfl⟩) rfl ?_; refine vo_step (ok_fieldAt L rfl rfl rfl rfl) rfl ?_; refine vo_step (ok_loadA L (vs := [_, _]) (src_at rfl) rfl rfl rfl rfl ⟨_, rfl⟩) rfl ?_; refine vo_step (ok_aneq rfl rfl rfl rfl eq47 (by assumption) rfl) rfl ?_; refine vo_nil ?_; refine N_seq ?_; refine V_true rfl ?_; refine V_seq ?_; refine V_region (id := 2) ?_; refine vo_step (ok_fieldAt L rfl rfl rfl rfl) rfl ?_; refine vo_step (ok_loadA L (vs := [_, _]) (src_at rfl) rfl rfl rfl rfl ⟨_, rfl⟩) rfl ?_; refine vo_step (ok_fieldAt L rfl rfl rfl rfl) rfl ?_; refine vo_step (ok_loadA L (vs := [_, _]) (src_at rfl) rfl rfl rfl rfl ⟨_, rfl⟩) rfl ?_; refine vo_step (ok_callx L rfl rfl (blt_lt rfl) rfl rfl rfl (fun u H hH _ _ => rcmpO_ret (by first | assumption | omega | decide) (by first | assumption | omega | decide) (by first | assumption | omega | decide) (by first | assumption | omega | decide) hH)) rfl ?_; refine vo_step (ok_assign rfl rfl rfl) rfl ?_; refine vo_nil ?_; refine N_seq ?_
    refine V_ret L (rs := [.tmp 4]) rfl (fun _ _ h => h) Since.refl fun u H hH hle => ?_
    exact congrArg _ (cmpG_1 h).symm
theorem rcmpU_ret {a b r c d s : ByteArray} (ha : a.size ≤ 9223372036854775807) (hb : b.size ≤ 9223372036854775807) (hr : r.size ≤ 9223372036854775807) (hc : c.size ≤ 9223372036854775807) (hd : d.size ≤ 9223372036854775807) (hs : s.size ≤ 9223372036854775807) {w : World} {B : Heap} (hB : B.Le (hp w)) :
    Ret Try.prog 75 [.agg #[.string a, .string b, .string r], .agg #[.string c, .string d, .string s]] w B (fun v _ => v = .int .i64 (cmpG a b r c d s)) := by
  refine V_enter Try.func75 rfl Try.ntmps75 (Nat.le_of_ble_eq_true rfl) hB ?_
  by_cases h : a = c ∧ b = d
  · have h' := eqCs2 (decide_eq_true h)
    refine V_seq ?_; refine V_region (id := 0) ?_; refine vo_step (ok_box rfl rfl rfl rfl) rfl ?_; refine vo_step (ok_box rfl rfl rfl rfl) rfl ?_; refine vo_step (ok_assign rfl rfl rfl) rfl ?_; refine vo_nil ?_; refine N_seq ?_; refine V_seq ?_; refine V_seq ?_; refine V_region (id := 1) ?_; refine vo_step (ok_fieldAt L rfl rfl rfl rfl) rfl ?_; refine vo_step (ok_loadA L (vs := [_, _]) (src_at rfl) rfl rfl rfl rfl ⟨_, rfl⟩) rfl ?_; refine vo_step (ok_fieldAt L rfl rfl rfl rfl) rfl ?_; refine vo_step (ok_loadA L (vs := [_, _]) (src_at rfl) rfl rfl rfl rfl ⟨_, rfl⟩) rfl ?_; refine vo_step (ok_aneq rfl rfl rfl rfl eq47 (by assumption) rfl) rfl ?_; refine vo_nil ?_; refine N_seq ?_; refine V_false rfl ?_; refine V_skip ?_; refine N_seq ?_; refine V_seq ?_; refine V_region (id := 3) ?_; refine vo_step (ok_fieldAt L rfl rfl rfl rfl) rfl ?_; refine vo_step (ok_load1 L (src_at rfl) rfl rfl rfl rfl) rfl ?_; refine vo_step (ok_fieldAt L rfl rfl rfl rfl) rfl ?_; refine vo_step (ok_load1 L (src_at rfl) rfl rfl rfl rfl) rfl ?_; refine vo_step (ok_callx L rfl rfl (blt_lt rfl) rfl rfl rfl (fun u H hH _ _ => rorder_ret (by first | assumption | omega | decide) (by first | assumption | omega | decide) hH)) rfl ?_; refine vo_step (ok_assign rfl rfl rfl) rfl ?_; refine vo_nil ?_; refine N_seq ?_
    refine V_ret L (rs := [.tmp 4]) rfl (fun _ _ h => h) Since.refl fun u H hH hle => ?_
    exact congrArg _ (cmpG_2 h).symm
  · have h' := eqCs2 (decide_eq_false h)
    refine V_seq ?_; refine V_region (id := 0) ?_; refine vo_step (ok_box rfl rfl rfl rfl) rfl ?_; refine vo_step (ok_box rfl rfl rfl rfl) rfl ?_; refine vo_step (ok_assign rfl rfl rfl) rfl ?_; refine vo_nil ?_; refine N_seq ?_; refine V_seq ?_; refine V_seq ?_; refine V_region (id := 1) ?_; refine vo_step (ok_fieldAt L rfl rfl rfl rfl) rfl ?_; refine vo_step (ok_loadA L (vs := [_, _]) (src_at rfl) rfl rfl rfl rfl ⟨_, rfl⟩) rfl ?_; refine vo_step (ok_fieldAt L rfl rfl rfl rfl) rfl ?_; refine vo_step (ok_loadA L (vs := [_, _]) (src_at rfl) rfl rfl rfl rfl ⟨_, rfl⟩) rfl ?_; refine vo_step (ok_aneq rfl rfl rfl rfl eq47 (by assumption) rfl) rfl ?_; refine vo_nil ?_; refine N_seq ?_; refine V_true rfl ?_; refine V_seq ?_; refine V_region (id := 2) ?_; refine vo_step (ok_fieldAt L rfl rfl rfl rfl) rfl ?_; refine vo_step (ok_loadA L (vs := [_, _]) (src_at rfl) rfl rfl rfl rfl ⟨_, rfl⟩) rfl ?_; refine vo_step (ok_fieldAt L rfl rfl rfl rfl) rfl ?_; refine vo_step (ok_loadA L (vs := [_, _]) (src_at rfl) rfl rfl rfl rfl ⟨_, rfl⟩) rfl ?_; refine vo_step (ok_callx L rfl rfl (blt_lt rfl) rfl rfl rfl (fun u H hH _ _ => rcmpO_ret (by first | assumption | omega | decide) (by first | assumption | omega | decide) (by first | assumption | omega | decide) (by first | assumption | omega | decide) hH)) rfl ?_; refine vo_step (ok_assign rfl rfl rfl) rfl ?_; refine vo_nil ?_; refine N_seq ?_
    refine V_ret L (rs := [.tmp 4]) rfl (fun _ _ h => h) Since.refl fun u H hH hle => ?_
    exact congrArg _ (cmpG_1 h).symm
end Go.V
/- Sorted lists of what has a total order: plain laws. -/
namespace Go.V
open Go.Proofs Go.RowKit
section
variable {α : Type} {c : α → α → Int}
theorem Ord3.irr (h : Ord3 c) (a : α) : ¬ c a a < 0 := by rw [h.refl]; decide
theorem Ord3.asym (h : Ord3 c) {a b : α} (h1 : c a b < 0) : ¬ c b a < 0 := by have := h.anti a b; omega
theorem Ord3.tr (h : Ord3 c) {a b d : α} (h1 : c a b < 0) (h2 : c b d < 0) : c a d < 0 := by
  have h3 := h.trans a b d (by omega) (by omega)
  by_cases h4 : c a d = 0
  · have := h.lt_of (a := a) (b := b) (d := d) (by omega) (by omega) h4; omega
  · omega
theorem Ord3.ne (h : Ord3 c) {a b : α} (h1 : c a b < 0) : a ≠ b := fun e => by subst e; exact h.irr a h1
theorem Ord3.tri (h : Ord3 c) {a b : α} (h1 : ¬ c a b < 0) (h2 : a ≠ b) : c b a < 0 := by
  have := h.anti a b
  have h3 : c a b ≠ 0 := fun e => h2 (h.eq _ _ e)
  omega
/-- Strictly sorted. -/
def Sst (c : α → α → Int) (l : List α) : Prop := l.Pairwise fun x y => c x y < 0
theorem Sst.nil : Sst c [] := List.Pairwise.nil
theorem Sst.nodup (h : Ord3 c) {l : List α} (hs : Sst c l) : l.Nodup := hs.imp fun h1 => h.ne h1
theorem sst_ext (h : Ord3 c) : ∀ {l m : List α}, Sst c l → Sst c m → (∀ z, z ∈ l ↔ z ∈ m) → l = m
  | [], [], _, _, _ => rfl
  | [], y :: m, _, _, e => by have := (e y).2 (List.mem_cons_self ..); cases this
  | y :: l, [], _, _, e => by have := (e y).1 (List.mem_cons_self ..); cases this
  | y :: l, x :: m, hl, hm, e => by
    have h1 := List.pairwise_cons.1 hl
    have h2 := List.pairwise_cons.1 hm
    have exy : y = x := by
      rcases List.mem_cons.1 ((e y).1 (List.mem_cons_self ..)) with e1 | e1
      · exact e1
      · rcases List.mem_cons.1 ((e x).2 (List.mem_cons_self ..)) with e2 | e2
        · exact e2.symm
        · exact absurd (h1.1 x e2) (h.asym (h2.1 y e1))
    subst exy
    congr 1
    refine sst_ext h h1.2 h2.2 fun z => ?_
    constructor
    · intro hz
      rcases List.mem_cons.1 ((e z).1 (List.mem_cons_of_mem _ hz)) with e1 | e1
      · subst e1; exact absurd (h1.1 _ hz) (h.irr _)
      · exact e1
    · intro hz
      rcases List.mem_cons.1 ((e z).2 (List.mem_cons_of_mem _ hz)) with e1 | e1
      · subst e1; exact absurd (h2.1 _ hz) (h.irr _)
      · exact e1
/-- Put in ahead of the first greater one. -/
def insS (c : α → α → Int) (t : α) : List α → List α
  | [] => [t]
  | y :: l => if c t y < 0 then t :: y :: l else y :: insS c t l
theorem mem_insS {t z : α} : ∀ {l : List α}, z ∈ insS c t l ↔ z = t ∨ z ∈ l
  | [] => by simp [insS]
  | y :: l => by
    simp only [insS]
    split
    · simp
    · rw [List.mem_cons, mem_insS, List.mem_cons]
      constructor
      · rintro (e | e | e)
        · exact .inr (.inl e)
        · exact .inl e
        · exact .inr (.inr e)
      · rintro (e | e | e)
        · exact .inr (.inl e)
        · exact .inl e
        · exact .inr (.inr e)
theorem insS_length (t : α) : ∀ (l : List α), (insS c t l).length = l.length + 1
  | [] => rfl
  | y :: l => by
    simp only [insS]
    split
    · rfl
    · simp only [List.length_cons, insS_length t l]
theorem sst_insS (h : Ord3 c) {t : α} : ∀ {l : List α}, Sst c l → t ∉ l → Sst c (insS c t l)
  | [], _, _ => List.pairwise_singleton ..
  | y :: l, hs, ht => by
    have h1 := List.pairwise_cons.1 hs
    simp only [insS]
    split
    · rename_i hlt
      refine List.pairwise_cons.2 ⟨fun z hz => ?_, hs⟩
      rcases List.mem_cons.1 hz with rfl | hz
      · exact hlt
      · exact h.tr hlt (h1.1 z hz)
    · rename_i hlt
      refine List.pairwise_cons.2 ⟨fun z hz => ?_, sst_insS h h1.2 fun e => ht (List.mem_cons_of_mem _ e)⟩
      rcases mem_insS.1 hz with rfl | hz
      · exact h.tri hlt fun e => ht (by rw [e]; exact List.mem_cons_self ..)
      · exact h1.1 z hz
/-- Which ones are taken. -/
def Tk (f : Bool → Bool → Bool) (l m : List α) (z : α) : Prop := (z ∈ l ∧ z ∉ m ∧ f true false = true) ∨ (z ∉ l ∧ z ∈ m ∧ f false true = true) ∨ (z ∈ l ∧ z ∈ m ∧ f true true = true)
theorem Tk.or {f : Bool → Bool → Bool} {l m : List α} {z : α} (h : Tk f l m z) : z ∈ l ∨ z ∈ m := by
  rcases h with ⟨h, _⟩ | ⟨_, h, _⟩ | ⟨h, _⟩
  · exact .inl h
  · exact .inr h
  · exact .inl h
variable [DecidableEq α]
/-- The sorted list of the members of a list, some having been taken. -/
def sortS (c : α → α → Int) : List α → List α → List α
  | out, [] => out
  | out, t :: r => sortS c (if t ∈ out then out else insS c t out) r
theorem sst_sortS (h : Ord3 c) : ∀ {l out : List α}, Sst c out → Sst c (sortS c out l)
  | [], _, hs => hs
  | t :: r, out, hs => by
    simp only [sortS]
    refine sst_sortS h ?_
    split
    · exact hs
    · rename_i ht; exact sst_insS h hs ht
theorem mem_sortS {z : α} : ∀ {l out : List α}, z ∈ sortS c out l ↔ z ∈ out ∨ z ∈ l
  | [], _ => by simp [sortS]
  | t :: r, out => by
    simp only [sortS]
    rw [mem_sortS]
    split
    · rename_i ht
      constructor
      · rintro (e | e)
        · exact .inl e
        · exact .inr (List.mem_cons_of_mem _ e)
      · rintro (e | e)
        · exact .inl e
        · rcases List.mem_cons.1 e with rfl | e
          · exact .inl ht
          · exact .inr e
    · rw [mem_insS, List.mem_cons]
      constructor
      · rintro ((e | e) | e)
        · exact .inr (.inl e)
        · exact .inl e
        · exact .inr (.inr e)
      · rintro (e | e | e)
        · exact .inl (.inr e)
        · exact .inl (.inl e)
        · exact .inr e
theorem sortS_length : ∀ (l out : List α), (sortS c out l).length ≤ out.length + l.length
  | [], _ => Nat.le_refl _
  | t :: r, out => by
    have := sortS_length r (if t ∈ out then out else insS c t out)
    simp only [sortS]
    refine Nat.le_trans this ?_
    split
    · simp only [List.length_cons]; omega
    · rw [insS_length]; simp only [List.length_cons]; omega
theorem sortS_self (h : Ord3 c) {l : List α} (hs : Sst c l) : sortS c [] l = l := sst_ext h (sst_sortS h Sst.nil) hs fun z => by rw [mem_sortS]; simp
end
end Go.V
/- The walks of names: texts are read. -/
namespace Go.V
open Go.Proofs Go.RowKit
attribute [local irreducible] V N X VO Par StepOK Has Ret RetL Src
/-- The library's variable that its searches look at. -/
def GlobM (B : Heap) : Prop := ∃ m cs t fr, B 0 = some (.cells cs t fr) ∧ cs[0]? = some (.int .i64 m)
theorem GlobM.mono {B H : Heap} (h : GlobM B) (hl : B.Le H) : GlobM H := let ⟨m, cs, t, fr, hb, hc⟩ := h; ⟨m, cs, t, fr, hl _ _ hb, hc⟩
def cutA (s : ByteArray) (c : UInt8) : ByteArray × ByteArray × Bool :=
  (⟨(Lib.cut s.data.toList [c]).1.toArray⟩, ⟨(Lib.cut s.data.toList [c]).2.1.toArray⟩, (Lib.cut s.data.toList [c]).2.2)
def hasA (s : ByteArray) (c : UInt8) : Bool := decide (0 ≤ Lib.indexByte s.data.toList c)
def cntA (s : ByteArray) (c : UInt8) : Nat := Lib.countByte s.data.toList c
def partsA (s : ByteArray) : Option (ByteArray × ByteArray × ByteArray × Bool) :=
  if ((cutA s 58).2.2 && !hasA (cutA s 58).1 35 && !hasA (cutA s 58).2.1 58) = true ∧ cntA (cutA s 58).2.1 35 ≤ 1 then
    some ((cutA s 58).1, (cutA (cutA s 58).2.1 35).1, (cutA (cutA s 58).2.1 35).2.1, (cutA (cutA s 58).2.1 35).2.2)
  else none
end Go.V
/- The walks of names: objects, goals and subjects are read. -/
namespace Go.V
open Go.Proofs Go.RowKit
attribute [local irreducible] V N X VO Par StepOK Has Ret RetL Src
abbrev sNil : ByteArray := ⟨#[]⟩
def pgA (s : ByteArray) : ByteArray × ByteArray × ByteArray × Int :=
  match partsA s with
  | none => (sNil, sNil, sNil, 5)
  | some (a, b, c, d) => if d = false then (sNil, sNil, sNil, 5) else if allE [a, b, c] = 0 then (a, b, c, 0) else (sNil, sNil, sNil, allE [a, b, c])
def psA (s : ByteArray) : ByteArray × ByteArray × ByteArray × Int :=
  match partsA s with
  | none => (sNil, sNil, sNil, 5)
  | some (a, b, c, d) => if allE [a, b] = 0 then (if d = true then (if chk c = 0 then (a, b, c, 0) else (sNil, sNil, sNil, chk c)) else (a, b, c, 0)) else (sNil, sNil, sNil, allE [a, b])
end Go.V
/- Tuples (chapter 2): plain laws. -/
namespace Go.V.L2
open Go.Proofs Go.RowKit Go.V
/-- A tuple: its goal, and its subject. -/
abbrev U := Str3 × Str3
def ucs (t : U) : List Value := [.string t.1.1.1, .string t.1.1.2, .string t.1.2, .string t.2.1.1, .string t.2.1.2, .string t.2.2]
theorem ucs_len (t : U) : (ucs t).length = 6 := rfl
def cmpT : U → U → Int := lexC cmp3 cmp3
theorem cmpT_ord : Ord3 cmpT := cmp3_ord.lex cmp3_ord
theorem u_eq {t v : U} : (t.1.1.1 = v.1.1.1 ∧ t.1.1.2 = v.1.1.2 ∧ t.1.2 = v.1.2 ∧ t.2.1.1 = v.2.1.1 ∧ t.2.1.2 = v.2.1.2 ∧ t.2.2 = v.2.2) ↔ t = v :=
  ⟨fun ⟨a, b, c, d, e, f⟩ => Prod.ext (Prod.ext (Prod.ext a b) c) (Prod.ext (Prod.ext d e) f), fun e => by subst e; exact ⟨rfl, rfl, rfl, rfl, rfl, rfl⟩⟩
instance memU (t : U) (l : List U) : Decidable (t ∈ l) := decidable_of_iff (l.any (fun x => decide (x = t)) = true) (by simp)
/-- The error of a tuple. -/
def tE (t : U) : Int := if allE [t.1.1.1, t.1.1.2, t.1.2] = 0 then subjE t.2.1.1 t.2.1.2 t.2.2 else allE [t.1.1.1, t.1.1.2, t.1.2]
/-- Strings of a tuple are not too long. -/
def TZ (t : U) : Prop := (t.1.1.1.size ≤ 1099511627776 ∧ t.1.1.2.size ≤ 1099511627776 ∧ t.1.2.size ≤ 1099511627776) ∧ t.2.1.1.size ≤ 1099511627776 ∧ t.2.1.2.size ≤ 1099511627776 ∧ t.2.2.size ≤ 1099511627776
instance (t : U) : Decidable (TZ t) := inferInstanceAs (Decidable (_ ∧ _))
instance {α : Type} (c : α → α → Int) (l : List α) : Decidable (Sst c l) := inferInstanceAs (Decidable (l.Pairwise _))
/-- Which tuple a text is. -/
def ptA (s : ByteArray) : U × Int :=
  if (cutA s 64).2.2 = true ∧ hasA (cutA s 64).2.1 64 = false then
    (if (pgA (cutA s 64).1).2.2.2 = 0 then
      (if (psA (cutA s 64).2.1).2.2.2 = 0 then
        (((((pgA (cutA s 64).1).1, (pgA (cutA s 64).1).2.1), (pgA (cutA s 64).1).2.2.1), (((psA (cutA s 64).2.1).1, (psA (cutA s 64).2.1).2.1), (psA (cutA s 64).2.1).2.2.1)), 0)
      else ((((⟨#[]⟩, ⟨#[]⟩), ⟨#[]⟩), ((⟨#[]⟩, ⟨#[]⟩), ⟨#[]⟩)), (psA (cutA s 64).2.1).2.2.2))
    else ((((⟨#[]⟩, ⟨#[]⟩), ⟨#[]⟩), ((⟨#[]⟩, ⟨#[]⟩), ⟨#[]⟩)), (pgA (cutA s 64).1).2.2.2))
  else ((((⟨#[]⟩, ⟨#[]⟩), ⟨#[]⟩), ((⟨#[]⟩, ⟨#[]⟩), ⟨#[]⟩)), 5)
end Go.V.L2
/- The kit's nineteenth floor: slices that are made and written to; results that are owned. -/
namespace Go.V
open Go.RowKit
/-- An owned slice without room behind it. -/
def SlE (e : TypeId) (s n : Nat) (xs : List Value) : Res where
  P x _ u C := xs.length = n * s ∧ ((n = 0 ∧ x = .slice none 0 0 ∧ ∀ k, ¬ C k) ∨ ∃ b, x = .slice (some ⟨b, 0, none⟩) n n ∧ u.heap[b]? = some (.cells xs.toArray e) ∧ n ≤ maxLen ∧ ∀ k, C k ↔ k = b)
  st := fun ⟨hl, h⟩ _ _ _ hk => ⟨hl, by
    rcases h with h | ⟨b, h1, h2, h3, h4⟩
    · exact .inl h
    · exact .inr ⟨b, h1, (hk b ((h4 b).2 rfl)).trans h2, h3, h4⟩⟩
section
variable {P : Program} {F : Fr} {B : Heap} {O : Boxes} {n : Nat} {ops : Array Oper} {κ : Kap} {d : Nat} {ty : TypeId} {pos : String} {aft : Array Edge} {g : Option (Nat × Bool)} {a : Act} {u : World} {H : Heap} {fp : Nat → Nat → Prop} {os : List Oper} {Q : Exit → Act → World → Prop} {ex : Exs}
/-! ### results that are owned -/
/-- What is returned is the caller's. -/
def OwnP (w : World) (r : Res) (v : Value) (H : Heap) (u : World) : Prop := ∃ C : Nat → Prop, r.P v H u C ∧ ∀ k, C k → w.heap.size ≤ k ∧ k < u.heap.size ∧ H k = none
def RetO (P : Program) (f : FuncId) (args : List Value) (w : World) (B : Heap) (r : Res) : Prop := RetL P f args w B noL (OwnP w r)
theorem RetO.mono {P : Program} {f : FuncId} {args : List Value} {w : World} {B : Heap} {r r' : Res} (h : RetO P f args w B r) (hi : ∀ v H u C, r.P v H u C → r'.P v H u C) : RetO P f args w B r' :=
  RetL.mono h fun _ _ _ _ ⟨C, h1, h2⟩ => ⟨C, hi _ _ _ _ h1, h2⟩
/-! ### what is owned is lent for a call -/
open Classical in
/-- The visible heap, and what is lent. -/
noncomputable def joinH (H : Heap) (u : World) (C : Nat → Prop) : Heap := fun k => if C k then hp u k else H k
end
end Go.V
/- The kit's twentieth floor: variables of the call's own that are held beside their slots: their fields' addresses are taken, in whatever order. -/
namespace Go.V
open Go.RowKit
section
variable {P : Program} {F : Fr} {B : Heap} {O : Boxes} {n : Nat} {ops : Array Oper} {κ : Kap} {d : Nat} {ty : TypeId} {pos : String} {aft : Array Edge} {g : Option (Nat × Bool)} {a : Act} {u : World} {H : Heap} {fp : Nat → Nat → Prop} {os : List Oper} {Q : Exit → Act → World → Prop} {ex : Exs}
/-- An operation that reads what a slot beside its operands holds. -/
def StepOKR (P : Program) (F : Fr) (B : Heap) (n : Nat) (ops : Array Oper) (O : Boxes) (κ : Kap) (o : Oper) (q d : Nat) (k : Kn) : Prop :=
  ∀ κ' a u, (∀ t ∈ o.looksAt ops, κ' t = κ t) → κ' q = κ q → Has F B O n κ' a u → After P ops o (fun a' u' => Has F B O n (upd κ' d k) a' u') a u
theorem vo_stepR {o : Oper} {q d : Nat} {k : Kn} (hs : StepOKR P F B n ops O κ o q d k) (h : VO P F B n O ops (upd κ d k) os Q) : VO P F B n O ops κ (o :: os) Q :=
  fun a u hh => After.mono (fun a' u' hh' => h a' u' hh') (hs κ a u (fun _ _ => rfl) rfl hh)
/-- An operation that turns what a slot beside its operands holds. -/
def StepOKS (P : Program) (F : Fr) (B : Heap) (n : Nat) (ops : Array Oper) (O : Boxes) (κ : Kap) (o : Oper) (q : Nat) (k : Kn) : Prop :=
  ∀ κ' a u, (∀ t ∈ o.looksAt ops, κ' t = κ t) → κ' q = κ q → Has F B O n κ' a u → After P ops o (fun a' u' => Has F B O n (upd κ' q k) a' u') a u
theorem vo_stepS {o : Oper} {q : Nat} {k : Kn} (hs : StepOKS P F B n ops O κ o q k) (h : VO P F B n O ops (upd κ q k) os Q) : VO P F B n O ops κ (o :: os) Q :=
  fun a u hh => After.mono (fun a' u' hh' => h a' u' hh') (hs κ a u (fun _ _ => rfl) rfl hh)
theorem SlE.shape {e : TypeId} {s m : Nat} {xs : List Value} : ∀ v H u C, (SlE e s m xs).P v H u C → ∃ p, v = .slice p m m := fun v _ _ _ ⟨_, h⟩ => by
  rcases h with ⟨rfl, rfl, _⟩ | ⟨b, rfl, _⟩
  · exact ⟨_, rfl⟩
  · exact ⟨_, rfl⟩
/-! ### what is held being known by what it satisfies -/
/-- What is stored is known by what it satisfies. -/
def StP (Φ : List Value → Heap → Prop) (φ : Value → Heap → Prop) (off z : Nat) : List Value → Heap → Prop := fun cs' H => ∃ cs v, Φ cs H ∧ φ v H ∧ cs' = cs.take off ++ (cellsL v ++ cs.drop (off + z))
theorem StP.mono {Φ : List Value → Heap → Prop} {φ : Value → Heap → Prop} {off z : Nat} (h1 : MonoX Φ) (h2 : Kn.mono (.sat φ)) : MonoX (StP Φ φ off z) := fun _ _ _ ⟨cs, v, a1, a2, a3⟩ hle => ⟨cs, v, h1 _ _ _ a1 hle, h2 _ _ _ a2 hle, a3⟩
/-! ### what is appended to nothing; a call to which is shown what a slot owns -/
theorem ok_append0 (L : Tabs P) {t e : TypeId} {x y : Operand} {s by_ m : Nat} {news : List Value} (hn : Nat.blt d n = true) (hg : gK ops κ ⟨some d, .call ⟨.builtin .append, #[x, y], #[t, t]⟩, ty, pos, aft, g⟩ = some true)
    (hx : evK κ x = some (.slice none 0 0)) (hy : Apd F B O κ y m news) (ht : L.sl t = some e) (he : elI P e = some (s, by_)) (hl : news.length = m * s) (h1 : news.all plainV = true) (hb : m * by_ ≤ 140737488355328) (h63 : m ≤ 9223372036854775807) :
    StepOK P F B n ops O κ ⟨some d, .call ⟨.builtin .append, #[x, y], #[t, t]⟩, ty, pos, aft, g⟩ d (.own (SlR e s m news)) := by
  rintro κ' a u hlk ⟨H, fp, hh⟩
  unfold After
  rw [if_pos (wanted_gK hh hlk hg)]
  have en := hh.env hlk
  obtain ⟨i, z, hi, hz, hs1, hs2, hs3, hs4⟩ := elI_spec he
  have hxe := en.is_ x _ (by simp [Op.operands, Call.operands]) hx
  obtain ⟨x', u', C', hr, hown', hgr, hC'⟩ := appendR (C := noL) (xs := []) (nn := 0) (x := .slice none 0 0) u (aty := ty) (Tabs.sl_spec ht) hi hz hs1 hs2 hs3 hs4 hh.sub ⟨by simp, .inl ⟨rfl, rfl, fun _ h => h⟩⟩ (fun k hk => hk.elim) (hy _ a u H fp (by simp [Op.operands, Call.operands]) en) hl (fun v hv => plain_one (List.all_eq_true.1 h1 v hv)) (by omega) (by rw [Nat.zero_add]; exact hb)
  rw [Nat.zero_add, List.nil_append] at hown'
  have hrun : (execOp a.eval ⟨some d, .call ⟨.builtin .append, #[x, y], #[t, t]⟩, ty, pos, aft, g⟩).run P u = .ok (.value x') u' := by
    simp only [execOp, resolve, invoke, builtin, Sem.run_bind, Sem.run_pure, Result.andThen_ok, List.map_toArray, List.map_cons, List.map_nil, hxe, hr]
  rw [hrun]
  simp only [Upon]
  have h2 := hh.grow hgr
  refine ⟨H, _, h2.putR (C := C') (by simp [Act.put]) rfl (fun t ht => eval_put_other ht) (by rw [eval_put_same (by rw [hh.size]; exact blt_lt hn)]; exact hown') (fun k hk => ?_) fun t r' _ ht k hf hk => ?_⟩
  · obtain ⟨h3, h4, h5⟩ := hC' k hk
    have h3' : u.heap.size ≤ k := h3.resolve_left fun h => h
    exact ⟨h4, h5, .inl (Nat.le_trans hh.keep.size h3'), fun y hy e => by have := size_of_heap (hh.boxes y hy).1; omega⟩
  · have h3' : u.heap.size ≤ k := (hC' k hk).1.resolve_left fun h => h
    have := ((hh.slot t _ ht).2 k hf).1
    omega
end
end Go.V
/- The walks of tuples (chapter 2): check, order, texts, sorted lists. -/
namespace Go.V.L2
open Go.Proofs Go.RowKit Go.V
abbrev uv (t : U) : Value := .agg #[.string t.1.1.1, .string t.1.1.2, .string t.1.2, .string t.2.1.1, .string t.2.1.2, .string t.2.2]
abbrev tyU : TypeId := 52
/-- A slice of tuples that is seen. -/
abbrev US (l : List U) (fu : Bool) : Value → Heap → Prop := SlV tyU 6 (l.flatMap ucs) l.length fu
theorem us_at {l : List U} {i : Nat} {t : U} (h : l[i]? = some t) : ((l.flatMap ucs).drop (i * 6)).take 6 = [.string t.1.1.1, .string t.1.1.2, .string t.1.2, .string t.2.1.1, .string t.2.1.2, .string t.2.2] := flatMap_at ucs_len l i t h
attribute [local irreducible] V N X VO Par StepOK Has Ret RetL Src
theorem tcheck_ret {t : U} (hz : TZ t) {w : World} {B : Heap} (hB : B.Le (hp w)) : Ret Try.prog 60 [uv t] w B (fun v _ => v = .int .i64 (tE t)) := by
  obtain ⟨⟨z1, z2, z3⟩, z4, z5, z6⟩ := hz
  unfold tE
  refine V_enter Try.func60 rfl Try.ntmps60 (Nat.le_of_ble_eq_true rfl) hB ?_
  by_cases h : allE [t.1.1.1, t.1.1.2, t.1.2] = 0
  · rw [if_pos h]
    refine V_seq ?_; refine V_region (id := 0) ?_; refine vo_step (ok_box rfl rfl rfl rfl) rfl ?_; refine vo_step (ok_assign rfl rfl rfl) rfl ?_; refine vo_nil ?_; refine N_seq ?_; refine V_seq ?_; refine V_seq ?_; refine V_region (id := 1) ?_; refine vo_step (ok_fieldAt L rfl rfl rfl rfl) rfl ?_; refine vo_step (ok_loadA L (vs := [_, _, _]) (src_at rfl) rfl rfl rfl rfl ⟨_, rfl⟩) rfl ?_; refine vo_step (ok_callx L rfl rfl (blt_lt rfl) rfl rfl rfl (fun u H hH _ _ => goal_ret (by first | assumption | omega | decide) (by first | assumption | omega | decide) (by first | assumption | omega | decide) hH)) rfl ?_; refine vo_step (ok_assign rfl rfl rfl) rfl ?_; refine vo_nil ?_; refine N_seq ?_; refine V_seq ?_; refine V_region (id := 2) ?_; refine vo_step (ok_move rfl rfl rfl) rfl ?_; refine vo_step (ok_neq rfl rfl rfl rfl (decide_eq_false (by omega))) rfl ?_; refine vo_nil ?_; refine N_seq ?_; refine V_false rfl ?_; refine V_skip ?_; refine N_seq ?_; refine V_seq ?_; refine V_region (id := 4) ?_; refine vo_step (ok_fieldAt L rfl rfl rfl rfl) rfl ?_; refine vo_step (ok_loadA L (vs := [_, _, _]) (src_at rfl) rfl rfl rfl rfl ⟨_, rfl⟩) rfl ?_; refine vo_step (ok_callx L rfl rfl (blt_lt rfl) rfl rfl rfl (fun u H hH _ _ => subject_ret (by first | assumption | omega | decide) (by first | assumption | omega | decide) (by first | assumption | omega | decide) hH)) rfl ?_; refine vo_step (ok_assign rfl rfl rfl) rfl ?_; refine vo_nil ?_; refine N_seq ?_
    refine V_ret L (rs := [.tmp 2]) rfl (fun _ _ h => h) Since.refl fun u H hH hle => ?_
    rfl
  · rw [if_neg h]
    refine V_seq ?_; refine V_region (id := 0) ?_; refine vo_step (ok_box rfl rfl rfl rfl) rfl ?_; refine vo_step (ok_assign rfl rfl rfl) rfl ?_; refine vo_nil ?_; refine N_seq ?_; refine V_seq ?_; refine V_seq ?_; refine V_region (id := 1) ?_; refine vo_step (ok_fieldAt L rfl rfl rfl rfl) rfl ?_; refine vo_step (ok_loadA L (vs := [_, _, _]) (src_at rfl) rfl rfl rfl rfl ⟨_, rfl⟩) rfl ?_; refine vo_step (ok_callx L rfl rfl (blt_lt rfl) rfl rfl rfl (fun u H hH _ _ => goal_ret (by first | assumption | omega | decide) (by first | assumption | omega | decide) (by first | assumption | omega | decide) hH)) rfl ?_; refine vo_step (ok_assign rfl rfl rfl) rfl ?_; refine vo_nil ?_; refine N_seq ?_; refine V_seq ?_; refine V_region (id := 2) ?_; refine vo_step (ok_move rfl rfl rfl) rfl ?_; refine vo_step (ok_neq rfl rfl rfl rfl (decide_eq_true (by omega))) rfl ?_; refine vo_nil ?_; refine N_seq ?_; refine V_true rfl ?_; refine V_seq ?_; refine V_region (id := 3) ?_; refine vo_step (ok_move rfl rfl rfl) rfl ?_; refine vo_step (ok_assign rfl rfl rfl) rfl ?_; refine vo_nil ?_; refine N_seq ?_
    refine V_ret L (rs := [.tmp 2]) rfl (fun _ _ h => h) Since.refl fun u H hH hle => ?_
    rfl
theorem tcmp_ret {a b : U} {w : World} {B : Heap} (hB : B.Le (hp w)) : Ret Try.prog 76 [uv a, uv b] w B (fun v _ => v = .int .i64 (cmpT a b)) := by
  refine V_enter Try.func76 rfl Try.ntmps76 (Nat.le_of_ble_eq_true rfl) hB ?_
  refine V_seq ?_; refine V_region (id := 0) ?_; refine vo_step (ok_box rfl rfl rfl rfl) rfl ?_; refine vo_step (ok_box rfl rfl rfl rfl) rfl ?_; refine vo_step (ok_assign rfl rfl rfl) rfl ?_; refine vo_nil ?_; refine N_seq ?_; refine V_seq ?_; refine V_regionD (id := 1) [] mixed (by kernel_rfl) ?_; refine par_step (ok_fieldAt L rfl rfl rfl rfl) rfl ?_; refine par_step (ok_loadA L (vs := [_, _, _]) (src_at rfl) rfl rfl rfl rfl ⟨_, rfl⟩) rfl ?_; refine par_step (ok_fieldAt L rfl rfl rfl rfl) rfl ?_; refine par_step (ok_loadA L (vs := [_, _, _]) (src_at rfl) rfl rfl rfl rfl ⟨_, rfl⟩) rfl ?_; refine par_step (ok_callx L rfl rfl (blt_lt rfl) rfl rfl rfl (fun u H hH _ _ => cmpG_ret hH)) rfl ?_; refine par_step (ok_fieldAt L rfl rfl rfl rfl) rfl ?_; refine par_step (ok_loadA L (vs := [_, _, _]) (src_at rfl) rfl rfl rfl rfl ⟨_, rfl⟩) rfl ?_; refine par_step (ok_fieldAt L rfl rfl rfl rfl) rfl ?_; refine par_step (ok_loadA L (vs := [_, _, _]) (src_at rfl) rfl rfl rfl rfl ⟨_, rfl⟩) rfl ?_; refine par_step (ok_callx L rfl rfl (blt_lt rfl) rfl rfl rfl (fun u H hH _ _ => cmpU_ret hH)) rfl ?_; refine par_step (ok_buildSlice L rfl rfl rfl rfl rfl rfl rfl rfl rfl) rfl ?_; refine par_step (ok_callx L rfl rfl (blt_lt rfl) rfl rfl rfl (fun u H hH _ _ v hv => or2_ret hH hv)) rfl ?_; refine par_step (ok_assign rfl rfl rfl) rfl ?_; refine par_nil ?_; refine N_seq ?_
  refine V_ret L (rs := [.tmp 4]) rfl (fun _ _ h => h) Since.refl fun u H hH hle => ?_
  rfl
end Go.V.L2
/- The walks of the definition of names. -/
namespace Go.V
open Go.Proofs Go.RowKit
attribute [local irreducible] V N X VO Par StepOK Has Ret RetL Src
set_option maxHeartbeats 1000000 in
theorem rcheck_ret {s : ByteArray} (hs : s.size ≤ 9223372036854775807) {w : World} {B : Heap} (hB : B.Le (hp w)) :
    Ret Try.prog 106 [.string s] w B (fun v _ => v = .int .i64 (chk s)) := by
  refine V_enter Try.func106 rfl Try.ntmps106 (Nat.le_of_ble_eq_true rfl) hB ?_
  by_cases h0 : 1 ≤ s.size ∧ s.size ≤ 16
  · obtain ⟨h1, h2⟩ := h0
    refine V_seq ?_; refine V_region (id := 0) ?_; refine vo_step (ok_assign rfl rfl rfl) rfl ?_; refine vo_nil ?_; refine N_seq ?_; refine V_seq ?_; refine V_region (id := 1) ?_; refine vo_step (ok_move rfl rfl rfl) rfl ?_; refine vo_step (ok_lenS L rfl rfl rfl rfl) rfl ?_; refine vo_step (ok_gtr rfl rfl rfl rfl (decide_eq_true (by omega))) rfl ?_; refine vo_step (ok_move rfl rfl rfl) rfl ?_; refine vo_step (ok_move rfl rfl rfl) rfl ?_; refine vo_step (ok_lenS L rfl rfl rfl rfl) rfl ?_; refine vo_step (ok_leq rfl rfl rfl rfl (decide_eq_true (by omega))) rfl ?_; refine vo_step (ok_pick rfl rfl rfl rfl) rfl ?_; refine vo_step (ok_assign rfl rfl rfl) rfl ?_; refine vo_nil ?_; refine N_seq ?_; refine V_seq ?_; refine V_seq ?_; refine V_region (id := 2) ?_; refine vo_step (ok_assign rfl rfl rfl) rfl ?_; refine vo_nil ?_; refine N_seq ?_; refine V_block ?_
    refine V_loop (fun p : Nat × Bool => [(0, .is (.string s)), (3, .is (.bool p.2)), (4, .is (.int .i64 p.1))])
      (fun p => p.1 ≤ s.size ∧ (p.2 = true → (s.data.toList.take p.1).all okB = true) ∧ (p.2 = false → chk s = 6)) (fun p => s.size - p.1) (0, true) ⟨Nat.zero_le _, fun _ => by simp, fun h => by cases h⟩ ⟨rfl, rfl, rfl, trivial⟩ ?_
    rintro ⟨k, b⟩ ⟨hk, hall, hbad⟩
    dsimp only at hk hall hbad ⊢
    by_cases hlt : k < s.size
    · cases b with
      | false =>
        refine V_seq ?_; refine V_seq ?_; refine V_region (id := 3) ?_; refine vo_step (ok_move rfl rfl rfl) rfl ?_; refine vo_step (ok_move rfl rfl rfl) rfl ?_; refine vo_step (ok_lenS L rfl rfl rfl rfl) rfl ?_; refine vo_step (ok_lss rfl rfl rfl rfl (decide_eq_true (by omega))) rfl ?_; refine vo_step (ok_move rfl rfl rfl) rfl ?_; refine vo_step (ok_move rfl rfl rfl) rfl ?_; refine vo_step (ok_pick rfl rfl rfl rfl) rfl ?_; refine vo_nil ?_; refine N_seq ?_; refine V_false rfl ?_; refine V_exit ?_; refine X_then ?_; refine X_then ?_; refine X_here ?_; refine N_seq ?_; refine V_seq ?_; refine V_seq ?_; refine V_region (id := 6) ?_; refine vo_step (ok_move rfl rfl rfl) rfl ?_; refine vo_nil ?_; refine N_seq ?_; refine V_false rfl ?_; refine V_skip ?_; refine N_seq ?_; refine V_seq ?_; refine V_region (id := 8) ?_; refine vo_step (ok_assign rfl rfl rfl) rfl ?_; refine vo_nil ?_; refine N_seq ?_
        refine V_ret L (rs := [.tmp 2]) rfl (fun _ _ h => h) Since.refl fun u H hH hle => ?_
        exact congrArg _ (hbad rfl).symm
      | true =>
        obtain ⟨c, hc⟩ := getElem?_lt hlt
        have hu := u8_lt c
        by_cases a1 : 97 ≤ (c.toNat : Int)
        · by_cases a4 : (c.toNat : Int) ≤ 122
          · refine V_seq ?_; refine V_seq ?_; refine V_region (id := 3) ?_; refine vo_step (ok_move rfl rfl rfl) rfl ?_; refine vo_step (ok_move rfl rfl rfl) rfl ?_; refine vo_step (ok_lenS L rfl rfl rfl rfl) rfl ?_; refine vo_step (ok_lss rfl rfl rfl rfl (decide_eq_true (by omega))) rfl ?_; refine vo_step (ok_move rfl rfl rfl) rfl ?_; refine vo_step (ok_move rfl rfl rfl) rfl ?_; refine vo_step (ok_pick rfl rfl rfl rfl) rfl ?_; refine vo_nil ?_; refine N_seq ?_; refine V_true rfl ?_; refine V_skip ?_; refine N_seq ?_; refine V_seq ?_; refine V_block ?_; refine V_region (id := 5) ?_; refine vo_step (ok_move rfl rfl rfl) rfl ?_; refine vo_step (ok_move rfl rfl rfl) rfl ?_; refine vo_step (ok_indexS L rfl rfl rfl rfl rfl (by assumption)) rfl ?_; refine vo_step (ok_geq rfl rfl rfl rfl (decide_eq_true (by omega))) rfl ?_; refine vo_step (ok_move rfl rfl rfl) rfl ?_; refine vo_step (ok_move rfl rfl rfl) rfl ?_; refine vo_step (ok_move rfl rfl rfl) rfl ?_; refine vo_step (ok_indexS L rfl rfl rfl rfl rfl (by assumption)) rfl ?_; refine vo_step (ok_leq rfl rfl rfl rfl (decide_eq_true (by omega))) rfl ?_; refine vo_step (ok_pick rfl rfl rfl rfl) rfl ?_; refine vo_step (ok_move rfl rfl rfl) rfl ?_; refine vo_step (ok_skip rfl (blt_lt rfl) rfl) rfl ?_; refine vo_step (ok_skip rfl (blt_lt rfl) rfl) rfl ?_; refine vo_step (ok_skip rfl (blt_lt rfl) rfl) rfl ?_; refine vo_step (ok_skip rfl (blt_lt rfl) rfl) rfl ?_; refine vo_step (ok_skip rfl (blt_lt rfl) rfl) rfl ?_; refine vo_step (ok_skip rfl (blt_lt rfl) rfl) rfl ?_; refine vo_step (ok_skip rfl (blt_lt rfl) rfl) rfl ?_; refine vo_step (ok_skip rfl (blt_lt rfl) rfl) rfl ?_; refine vo_step (ok_skip rfl (blt_lt rfl) rfl) rfl ?_; refine vo_step (ok_skip rfl (blt_lt rfl) rfl) rfl ?_; refine vo_step (ok_pick rfl rfl rfl rfl) rfl ?_; refine vo_step (ok_assign rfl rfl rfl) rfl ?_; refine vo_nil ?_; refine N_block ?_; refine N_seq ?_; refine V_region (id := 4) ?_; refine vo_step (ok_move rfl rfl rfl) rfl ?_; refine vo_step (ok_add rfl rfl rfl rfl (wrap_i64 (by omega) (by omega))) rfl ?_; refine vo_step (ok_assign rfl rfl rfl) rfl ?_; refine vo_nil ?_
            exact N_round (x := (k, true)) (k + 1, true) ⟨hlt, fun _ => take_all hc (okB_4 (by omega) (by omega)) (hall rfl), fun h => (by cases h)⟩ (by dsimp only; omega) ⟨rfl, rfl, rfl, trivial⟩
          · refine V_seq ?_; refine V_seq ?_; refine V_region (id := 3) ?_; refine vo_step (ok_move rfl rfl rfl) rfl ?_; refine vo_step (ok_move rfl rfl rfl) rfl ?_; refine vo_step (ok_lenS L rfl rfl rfl rfl) rfl ?_; refine vo_step (ok_lss rfl rfl rfl rfl (decide_eq_true (by omega))) rfl ?_; refine vo_step (ok_move rfl rfl rfl) rfl ?_; refine vo_step (ok_move rfl rfl rfl) rfl ?_; refine vo_step (ok_pick rfl rfl rfl rfl) rfl ?_; refine vo_nil ?_; refine N_seq ?_; refine V_true rfl ?_; refine V_skip ?_; refine N_seq ?_; refine V_seq ?_; refine V_block ?_; refine V_region (id := 5) ?_; refine vo_step (ok_move rfl rfl rfl) rfl ?_; refine vo_step (ok_move rfl rfl rfl) rfl ?_; refine vo_step (ok_indexS L rfl rfl rfl rfl rfl (by assumption)) rfl ?_; refine vo_step (ok_geq rfl rfl rfl rfl (decide_eq_true (by omega))) rfl ?_; refine vo_step (ok_move rfl rfl rfl) rfl ?_; refine vo_step (ok_move rfl rfl rfl) rfl ?_; refine vo_step (ok_move rfl rfl rfl) rfl ?_; refine vo_step (ok_indexS L rfl rfl rfl rfl rfl (by assumption)) rfl ?_; refine vo_step (ok_leq rfl rfl rfl rfl (decide_eq_false (by omega))) rfl ?_; refine vo_step (ok_pick rfl rfl rfl rfl) rfl ?_; refine vo_step (ok_move rfl rfl rfl) rfl ?_; refine vo_step (ok_move rfl rfl rfl) rfl ?_; refine vo_step (ok_move rfl rfl rfl) rfl ?_; refine vo_step (ok_indexS L rfl rfl rfl rfl rfl (by assumption)) rfl ?_; refine vo_step (ok_geq rfl rfl rfl rfl (decide_eq_true (by omega))) rfl ?_; refine vo_step (ok_move rfl rfl rfl) rfl ?_; refine vo_step (ok_move rfl rfl rfl) rfl ?_; refine vo_step (ok_move rfl rfl rfl) rfl ?_; refine vo_step (ok_indexS L rfl rfl rfl rfl rfl (by assumption)) rfl ?_; refine vo_step (ok_leq rfl rfl rfl rfl (decide_eq_false (by omega))) rfl ?_; refine vo_step (ok_pick rfl rfl rfl rfl) rfl ?_; refine vo_step (ok_pick rfl rfl rfl rfl) rfl ?_; refine vo_step (ok_assign rfl rfl rfl) rfl ?_; refine vo_nil ?_; refine N_block ?_; refine N_seq ?_; refine V_region (id := 4) ?_; refine vo_step (ok_move rfl rfl rfl) rfl ?_; refine vo_step (ok_add rfl rfl rfl rfl (wrap_i64 (by omega) (by omega))) rfl ?_; refine vo_step (ok_assign rfl rfl rfl) rfl ?_; refine vo_nil ?_
            exact N_round (x := (k, true)) (k + 1, false) ⟨hlt, fun h => (by cases h), fun _ => chk_at hc (okB_3 (by omega))⟩ (by dsimp only; omega) ⟨rfl, rfl, rfl, trivial⟩
        · by_cases a2 : 48 ≤ (c.toNat : Int)
          · by_cases a3 : (c.toNat : Int) ≤ 57
            · refine V_seq ?_; refine V_seq ?_; refine V_region (id := 3) ?_; refine vo_step (ok_move rfl rfl rfl) rfl ?_; refine vo_step (ok_move rfl rfl rfl) rfl ?_; refine vo_step (ok_lenS L rfl rfl rfl rfl) rfl ?_; refine vo_step (ok_lss rfl rfl rfl rfl (decide_eq_true (by omega))) rfl ?_; refine vo_step (ok_move rfl rfl rfl) rfl ?_; refine vo_step (ok_move rfl rfl rfl) rfl ?_; refine vo_step (ok_pick rfl rfl rfl rfl) rfl ?_; refine vo_nil ?_; refine N_seq ?_; refine V_true rfl ?_; refine V_skip ?_; refine N_seq ?_; refine V_seq ?_; refine V_block ?_; refine V_region (id := 5) ?_; refine vo_step (ok_move rfl rfl rfl) rfl ?_; refine vo_step (ok_move rfl rfl rfl) rfl ?_; refine vo_step (ok_indexS L rfl rfl rfl rfl rfl (by assumption)) rfl ?_; refine vo_step (ok_geq rfl rfl rfl rfl (decide_eq_false (by omega))) rfl ?_; refine vo_step (ok_move rfl rfl rfl) rfl ?_; refine vo_step (ok_skip rfl (blt_lt rfl) rfl) rfl ?_; refine vo_step (ok_skip rfl (blt_lt rfl) rfl) rfl ?_; refine vo_step (ok_skip rfl (blt_lt rfl) rfl) rfl ?_; refine vo_step (ok_skip rfl (blt_lt rfl) rfl) rfl ?_; refine vo_step (ok_pick rfl rfl rfl rfl) rfl ?_; refine vo_step (ok_move rfl rfl rfl) rfl ?_; refine vo_step (ok_move rfl rfl rfl) rfl ?_; refine vo_step (ok_move rfl rfl rfl) rfl ?_; refine vo_step (ok_indexS L rfl rfl rfl rfl rfl (by assumption)) rfl ?_; refine vo_step (ok_geq rfl rfl rfl rfl (decide_eq_true (by omega))) rfl ?_; refine vo_step (ok_move rfl rfl rfl) rfl ?_; refine vo_step (ok_move rfl rfl rfl) rfl ?_; refine vo_step (ok_move rfl rfl rfl) rfl ?_; refine vo_step (ok_indexS L rfl rfl rfl rfl rfl (by assumption)) rfl ?_; refine vo_step (ok_leq rfl rfl rfl rfl (decide_eq_true (by omega))) rfl ?_; refine vo_step (ok_pick rfl rfl rfl rfl) rfl ?_; refine vo_step (ok_pick rfl rfl rfl rfl) rfl ?_; refine vo_step (ok_assign rfl rfl rfl) rfl ?_; refine vo_nil ?_; refine N_block ?_; refine N_seq ?_; refine V_region (id := 4) ?_; refine vo_step (ok_move rfl rfl rfl) rfl ?_; refine vo_step (ok_add rfl rfl rfl rfl (wrap_i64 (by omega) (by omega))) rfl ?_; refine vo_step (ok_assign rfl rfl rfl) rfl ?_; refine vo_nil ?_
              exact N_round (x := (k, true)) (k + 1, true) ⟨hlt, fun _ => take_all hc (okB_5 (by omega) (by omega)) (hall rfl), fun h => (by cases h)⟩ (by dsimp only; omega) ⟨rfl, rfl, rfl, trivial⟩
            · refine V_seq ?_; refine V_seq ?_; refine V_region (id := 3) ?_; refine vo_step (ok_move rfl rfl rfl) rfl ?_; refine vo_step (ok_move rfl rfl rfl) rfl ?_; refine vo_step (ok_lenS L rfl rfl rfl rfl) rfl ?_; refine vo_step (ok_lss rfl rfl rfl rfl (decide_eq_true (by omega))) rfl ?_; refine vo_step (ok_move rfl rfl rfl) rfl ?_; refine vo_step (ok_move rfl rfl rfl) rfl ?_; refine vo_step (ok_pick rfl rfl rfl rfl) rfl ?_; refine vo_nil ?_; refine N_seq ?_; refine V_true rfl ?_; refine V_skip ?_; refine N_seq ?_; refine V_seq ?_; refine V_block ?_; refine V_region (id := 5) ?_; refine vo_step (ok_move rfl rfl rfl) rfl ?_; refine vo_step (ok_move rfl rfl rfl) rfl ?_; refine vo_step (ok_indexS L rfl rfl rfl rfl rfl (by assumption)) rfl ?_; refine vo_step (ok_geq rfl rfl rfl rfl (decide_eq_false (by omega))) rfl ?_; refine vo_step (ok_move rfl rfl rfl) rfl ?_; refine vo_step (ok_skip rfl (blt_lt rfl) rfl) rfl ?_; refine vo_step (ok_skip rfl (blt_lt rfl) rfl) rfl ?_; refine vo_step (ok_skip rfl (blt_lt rfl) rfl) rfl ?_; refine vo_step (ok_skip rfl (blt_lt rfl) rfl) rfl ?_; refine vo_step (ok_pick rfl rfl rfl rfl) rfl ?_; refine vo_step (ok_move rfl rfl rfl) rfl ?_; refine vo_step (ok_move rfl rfl rfl) rfl ?_; refine vo_step (ok_move rfl rfl rfl) rfl ?_; refine vo_step (ok_indexS L rfl rfl rfl rfl rfl (by assumption)) rfl ?_; refine vo_step (ok_geq rfl rfl rfl rfl (decide_eq_true (by omega))) rfl ?_; refine vo_step (ok_move rfl rfl rfl) rfl ?_; refine vo_step (ok_move rfl rfl rfl) rfl ?_; refine vo_step (ok_move rfl rfl rfl) rfl ?_; refine vo_step (ok_indexS L rfl rfl rfl rfl rfl (by assumption)) rfl ?_; refine vo_step (ok_leq rfl rfl rfl rfl (decide_eq_false (by omega))) rfl ?_; refine vo_step (ok_pick rfl rfl rfl rfl) rfl ?_; refine vo_step (ok_pick rfl rfl rfl rfl) rfl ?_; refine vo_step (ok_assign rfl rfl rfl) rfl ?_; refine vo_nil ?_; refine N_block ?_; refine N_seq ?_; refine V_region (id := 4) ?_; refine vo_step (ok_move rfl rfl rfl) rfl ?_; refine vo_step (ok_add rfl rfl rfl rfl (wrap_i64 (by omega) (by omega))) rfl ?_; refine vo_step (ok_assign rfl rfl rfl) rfl ?_; refine vo_nil ?_
              exact N_round (x := (k, true)) (k + 1, false) ⟨hlt, fun h => (by cases h), fun _ => chk_at hc (okB_2 (by omega) (by omega))⟩ (by dsimp only; omega) ⟨rfl, rfl, rfl, trivial⟩
          · refine V_seq ?_; refine V_seq ?_; refine V_region (id := 3) ?_; refine vo_step (ok_move rfl rfl rfl) rfl ?_; refine vo_step (ok_move rfl rfl rfl) rfl ?_; refine vo_step (ok_lenS L rfl rfl rfl rfl) rfl ?_; refine vo_step (ok_lss rfl rfl rfl rfl (decide_eq_true (by omega))) rfl ?_; refine vo_step (ok_move rfl rfl rfl) rfl ?_; refine vo_step (ok_move rfl rfl rfl) rfl ?_; refine vo_step (ok_pick rfl rfl rfl rfl) rfl ?_; refine vo_nil ?_; refine N_seq ?_; refine V_true rfl ?_; refine V_skip ?_; refine N_seq ?_; refine V_seq ?_; refine V_block ?_; refine V_region (id := 5) ?_; refine vo_step (ok_move rfl rfl rfl) rfl ?_; refine vo_step (ok_move rfl rfl rfl) rfl ?_; refine vo_step (ok_indexS L rfl rfl rfl rfl rfl (by assumption)) rfl ?_; refine vo_step (ok_geq rfl rfl rfl rfl (decide_eq_false (by omega))) rfl ?_; refine vo_step (ok_move rfl rfl rfl) rfl ?_; refine vo_step (ok_skip rfl (blt_lt rfl) rfl) rfl ?_; refine vo_step (ok_skip rfl (blt_lt rfl) rfl) rfl ?_; refine vo_step (ok_skip rfl (blt_lt rfl) rfl) rfl ?_; refine vo_step (ok_skip rfl (blt_lt rfl) rfl) rfl ?_; refine vo_step (ok_pick rfl rfl rfl rfl) rfl ?_; refine vo_step (ok_move rfl rfl rfl) rfl ?_; refine vo_step (ok_move rfl rfl rfl) rfl ?_; refine vo_step (ok_move rfl rfl rfl) rfl ?_; refine vo_step (ok_indexS L rfl rfl rfl rfl rfl (by assumption)) rfl ?_; refine vo_step (ok_geq rfl rfl rfl rfl (decide_eq_false (by omega))) rfl ?_; refine vo_step (ok_move rfl rfl rfl) rfl ?_; refine vo_step (ok_skip rfl (blt_lt rfl) rfl) rfl ?_; refine vo_step (ok_skip rfl (blt_lt rfl) rfl) rfl ?_; refine vo_step (ok_skip rfl (blt_lt rfl) rfl) rfl ?_; refine vo_step (ok_skip rfl (blt_lt rfl) rfl) rfl ?_; refine vo_step (ok_pick rfl rfl rfl rfl) rfl ?_; refine vo_step (ok_pick rfl rfl rfl rfl) rfl ?_; refine vo_step (ok_assign rfl rfl rfl) rfl ?_; refine vo_nil ?_; refine N_block ?_; refine N_seq ?_; refine V_region (id := 4) ?_; refine vo_step (ok_move rfl rfl rfl) rfl ?_; refine vo_step (ok_add rfl rfl rfl rfl (wrap_i64 (by omega) (by omega))) rfl ?_; refine vo_step (ok_assign rfl rfl rfl) rfl ?_; refine vo_nil ?_
            exact N_round (x := (k, true)) (k + 1, false) ⟨hlt, fun h => (by cases h), fun _ => chk_at hc (okB_1 (by omega) (by omega))⟩ (by dsimp only; omega) ⟨rfl, rfl, rfl, trivial⟩
    · cases b with
      | false =>
        refine V_seq ?_; refine V_seq ?_; refine V_region (id := 3) ?_; refine vo_step (ok_move rfl rfl rfl) rfl ?_; refine vo_step (ok_move rfl rfl rfl) rfl ?_; refine vo_step (ok_lenS L rfl rfl rfl rfl) rfl ?_; refine vo_step (ok_lss rfl rfl rfl rfl (decide_eq_false (by omega))) rfl ?_; refine vo_step (ok_move rfl rfl rfl) rfl ?_; refine vo_step (ok_skip rfl (blt_lt rfl) rfl) rfl ?_; refine vo_step (ok_pick rfl rfl rfl rfl) rfl ?_; refine vo_nil ?_; refine N_seq ?_; refine V_false rfl ?_; refine V_exit ?_; refine X_then ?_; refine X_then ?_; refine X_here ?_; refine N_seq ?_; refine V_seq ?_; refine V_seq ?_; refine V_region (id := 6) ?_; refine vo_step (ok_move rfl rfl rfl) rfl ?_; refine vo_nil ?_; refine N_seq ?_; refine V_false rfl ?_; refine V_skip ?_; refine N_seq ?_; refine V_seq ?_; refine V_region (id := 8) ?_; refine vo_step (ok_assign rfl rfl rfl) rfl ?_; refine vo_nil ?_; refine N_seq ?_
        refine V_ret L (rs := [.tmp 2]) rfl (fun _ _ h => h) Since.refl fun u H hH hle => ?_
        exact congrArg _ (hbad rfl).symm
      | true =>
        refine V_seq ?_; refine V_seq ?_; refine V_region (id := 3) ?_; refine vo_step (ok_move rfl rfl rfl) rfl ?_; refine vo_step (ok_move rfl rfl rfl) rfl ?_; refine vo_step (ok_lenS L rfl rfl rfl rfl) rfl ?_; refine vo_step (ok_lss rfl rfl rfl rfl (decide_eq_false (by omega))) rfl ?_; refine vo_step (ok_move rfl rfl rfl) rfl ?_; refine vo_step (ok_skip rfl (blt_lt rfl) rfl) rfl ?_; refine vo_step (ok_pick rfl rfl rfl rfl) rfl ?_; refine vo_nil ?_; refine N_seq ?_; refine V_false rfl ?_; refine V_exit ?_; refine X_then ?_; refine X_then ?_; refine X_here ?_; refine N_seq ?_; refine V_seq ?_; refine V_seq ?_; refine V_region (id := 6) ?_; refine vo_step (ok_move rfl rfl rfl) rfl ?_; refine vo_nil ?_; refine N_seq ?_; refine V_true rfl ?_; refine V_seq ?_; refine V_region (id := 7) ?_; refine vo_step (ok_assign rfl rfl rfl) rfl ?_; refine vo_nil ?_; refine N_seq ?_
        refine V_ret L (rs := [.tmp 2]) rfl (fun _ _ h => h) Since.refl fun u H hH hle => ?_
        exact congrArg _ (chk_all h1 h2 (all_take (by omega) (hall rfl))).symm
  · have hbad := chk_bad h0
    by_cases h1 : 1 ≤ s.size
    · have h2 : 16 < s.size := by omega
      refine V_seq ?_; refine V_region (id := 0) ?_; refine vo_step (ok_assign rfl rfl rfl) rfl ?_; refine vo_nil ?_; refine N_seq ?_; refine V_seq ?_; refine V_region (id := 1) ?_; refine vo_step (ok_move rfl rfl rfl) rfl ?_; refine vo_step (ok_lenS L rfl rfl rfl rfl) rfl ?_; refine vo_step (ok_gtr rfl rfl rfl rfl (decide_eq_true (by omega))) rfl ?_; refine vo_step (ok_move rfl rfl rfl) rfl ?_; refine vo_step (ok_move rfl rfl rfl) rfl ?_; refine vo_step (ok_lenS L rfl rfl rfl rfl) rfl ?_; refine vo_step (ok_leq rfl rfl rfl rfl (decide_eq_false (by omega))) rfl ?_; refine vo_step (ok_pick rfl rfl rfl rfl) rfl ?_; refine vo_step (ok_assign rfl rfl rfl) rfl ?_; refine vo_nil ?_; refine N_seq ?_; refine V_seq ?_; refine V_seq ?_; refine V_region (id := 2) ?_; refine vo_step (ok_assign rfl rfl rfl) rfl ?_; refine vo_nil ?_; refine N_seq ?_; refine V_block ?_
      refine V_loop (fun _ : Unit => [(0, .is (.string s)), (3, .is (.bool false)), (4, .is (.int .i64 0))]) (fun _ => True) (fun _ => 0) () trivial ⟨rfl, rfl, rfl, trivial⟩ ?_
      rintro _ _
      refine V_seq ?_; refine V_seq ?_; refine V_region (id := 3) ?_; refine vo_step (ok_move rfl rfl rfl) rfl ?_; refine vo_step (ok_move rfl rfl rfl) rfl ?_; refine vo_step (ok_lenS L rfl rfl rfl rfl) rfl ?_; refine vo_step (ok_lss rfl rfl rfl rfl (decide_eq_true (by omega))) rfl ?_; refine vo_step (ok_move rfl rfl rfl) rfl ?_; refine vo_step (ok_move rfl rfl rfl) rfl ?_; refine vo_step (ok_pick rfl rfl rfl rfl) rfl ?_; refine vo_nil ?_; refine N_seq ?_; refine V_false rfl ?_; refine V_exit ?_; refine X_then ?_; refine X_then ?_; refine X_here ?_; refine N_seq ?_; refine V_seq ?_; refine V_seq ?_; refine V_region (id := 6) ?_; refine vo_step (ok_move rfl rfl rfl) rfl ?_; refine vo_nil ?_; refine N_seq ?_; refine V_false rfl ?_; refine V_skip ?_; refine N_seq ?_; refine V_seq ?_; refine V_region (id := 8) ?_; refine vo_step (ok_assign rfl rfl rfl) rfl ?_; refine vo_nil ?_; refine N_seq ?_
      refine V_ret L (rs := [.tmp 2]) rfl (fun _ _ h => h) Since.refl fun u H hH hle => ?_
      exact congrArg _ hbad.symm
    · refine V_seq ?_; refine V_region (id := 0) ?_; refine vo_step (ok_assign rfl rfl rfl) rfl ?_; refine vo_nil ?_; refine N_seq ?_; refine V_seq ?_; refine V_region (id := 1) ?_; refine vo_step (ok_move rfl rfl rfl) rfl ?_; refine vo_step (ok_lenS L rfl rfl rfl rfl) rfl ?_; refine vo_step (ok_gtr rfl rfl rfl rfl (decide_eq_false (by omega))) rfl ?_; refine vo_step (ok_move rfl rfl rfl) rfl ?_; refine vo_step (ok_skip rfl (blt_lt rfl) rfl) rfl ?_; refine vo_step (ok_skip rfl (blt_lt rfl) rfl) rfl ?_; refine vo_step (ok_skip rfl (blt_lt rfl) rfl) rfl ?_; refine vo_step (ok_pick rfl rfl rfl rfl) rfl ?_; refine vo_step (ok_assign rfl rfl rfl) rfl ?_; refine vo_nil ?_; refine N_seq ?_; refine V_seq ?_; refine V_seq ?_; refine V_region (id := 2) ?_; refine vo_step (ok_assign rfl rfl rfl) rfl ?_; refine vo_nil ?_; refine N_seq ?_; refine V_block ?_
      refine V_loop (fun _ : Unit => [(0, .is (.string s)), (3, .is (.bool false)), (4, .is (.int .i64 0))]) (fun _ => True) (fun _ => 0) () trivial ⟨rfl, rfl, rfl, trivial⟩ ?_
      rintro _ _
      refine V_seq ?_; refine V_seq ?_; refine V_region (id := 3) ?_; refine vo_step (ok_move rfl rfl rfl) rfl ?_; refine vo_step (ok_move rfl rfl rfl) rfl ?_; refine vo_step (ok_lenS L rfl rfl rfl rfl) rfl ?_; refine vo_step (ok_lss rfl rfl rfl rfl (decide_eq_false (by omega))) rfl ?_; refine vo_step (ok_move rfl rfl rfl) rfl ?_; refine vo_step (ok_skip rfl (blt_lt rfl) rfl) rfl ?_; refine vo_step (ok_pick rfl rfl rfl rfl) rfl ?_; refine vo_nil ?_; refine N_seq ?_; refine V_false rfl ?_; refine V_exit ?_; refine X_then ?_; refine X_then ?_; refine X_here ?_; refine N_seq ?_; refine V_seq ?_; refine V_seq ?_; refine V_region (id := 6) ?_; refine vo_step (ok_move rfl rfl rfl) rfl ?_; refine vo_nil ?_; refine N_seq ?_; refine V_false rfl ?_; refine V_skip ?_; refine N_seq ?_; refine V_seq ?_; refine V_region (id := 8) ?_; refine vo_step (ok_assign rfl rfl rfl) rfl ?_; refine vo_nil ?_; refine N_seq ?_
      refine V_ret L (rs := [.tmp 2]) rfl (fun _ _ h => h) Since.refl fun u H hH hle => ?_
      exact congrArg _ hbad.symm
theorem max2 (a b : ByteArray) : (if chk b > chk a then chk b else chk a) = allE [a, b] := by
  simp only [allE]
  rcases chk_cases a with h | h <;> rcases chk_cases b with h' | h' <;> simp [h, h']
theorem max3 (a b c : ByteArray) : (if chk c > allE [a, b] then chk c else allE [a, b]) = allE [a, b, c] := by
  simp only [allE]
  rcases chk_cases a with h | h <;> rcases chk_cases b with h' | h' <;> rcases chk_cases c with h'' | h'' <;> simp [h, h', h'']
theorem robject_ret {a b : ByteArray} (ha : a.size ≤ 9223372036854775807) (hb : b.size ≤ 9223372036854775807) {w : World} {B : Heap} (hB : B.Le (hp w)) :
    Ret Try.prog 105 [.agg #[.string a, .string b]] w B (fun v _ => v = .int .i64 (allE [a, b])) := by
  refine V_enter Try.func105 rfl Try.ntmps105 (Nat.le_of_ble_eq_true rfl) hB ?_
  refine V_seq ?_; refine V_region (id := 0) ?_; refine vo_step (ok_box rfl rfl rfl rfl) rfl ?_; refine vo_step (ok_assign rfl rfl rfl) rfl ?_; refine vo_nil ?_; refine N_seq ?_; refine V_seq ?_; refine V_regionD (id := 1) [] mixed (by kernel_rfl) ?_; refine par_step (ok_fieldAt L rfl rfl rfl rfl) rfl ?_; refine par_step (ok_load1 L (src_at rfl) rfl rfl rfl rfl) rfl ?_; refine par_step (ok_callx L rfl rfl (blt_lt rfl) rfl rfl rfl (fun u H hH _ _ => rcheck_ret (by first | omega | decide) hH)) rfl ?_; refine par_step (ok_fieldAt L rfl rfl rfl rfl) rfl ?_; refine par_step (ok_load1 L (src_at rfl) rfl rfl rfl rfl) rfl ?_; refine par_step (ok_callx L rfl rfl (blt_lt rfl) rfl rfl rfl (fun u H hH _ _ => rcheck_ret (by first | omega | decide) hH)) rfl ?_; refine par_step (ok_max rfl rfl rfl rfl rfl) rfl ?_; refine par_step (ok_assign rfl rfl rfl) rfl ?_; refine par_nil ?_; refine N_seq ?_
  refine V_ret L (rs := [.tmp 2]) rfl (fun _ _ h => h) Since.refl fun u H hH hle => ?_
  exact congrArg _ (max2 a b)
theorem rgoal_ret {a b c : ByteArray} (ha : a.size ≤ 9223372036854775807) (hb : b.size ≤ 9223372036854775807) (hc : c.size ≤ 9223372036854775807) {w : World} {B : Heap} (hB : B.Le (hp w)) :
    Ret Try.prog 82 [.agg #[.string a, .string b, .string c]] w B (fun v _ => v = .int .i64 (allE [a, b, c])) := by
  refine V_enter Try.func82 rfl Try.ntmps82 (Nat.le_of_ble_eq_true rfl) hB ?_
  refine V_seq ?_; refine V_region (id := 0) ?_; refine vo_step (ok_box rfl rfl rfl rfl) rfl ?_; refine vo_step (ok_assign rfl rfl rfl) rfl ?_; refine vo_nil ?_; refine N_seq ?_; refine V_seq ?_; refine V_regionD (id := 1) [] mixed (by kernel_rfl) ?_; refine par_step (ok_fieldAt L rfl rfl rfl rfl) rfl ?_; refine par_step (ok_loadA L (vs := [_, _]) (src_at rfl) rfl rfl rfl rfl ⟨_, rfl⟩) rfl ?_; refine par_step (ok_callx L rfl rfl (blt_lt rfl) rfl rfl rfl (fun u H hH _ _ => robject_ret (by first | assumption | omega | decide) (by first | assumption | omega | decide) hH)) rfl ?_; refine par_step (ok_fieldAt L rfl rfl rfl rfl) rfl ?_; refine par_step (ok_load1 L (src_at rfl) rfl rfl rfl rfl) rfl ?_; refine par_step (ok_callx L rfl rfl (blt_lt rfl) rfl rfl rfl (fun u H hH _ _ => rcheck_ret (by first | omega | decide) hH)) rfl ?_; refine par_step (ok_max rfl rfl rfl rfl rfl) rfl ?_; refine par_step (ok_assign rfl rfl rfl) rfl ?_; refine par_nil ?_; refine N_seq ?_
  refine V_ret L (rs := [.tmp 2]) rfl (fun _ _ h => h) Since.refl fun u H hH hle => ?_
  exact congrArg _ (max3 a b c)
theorem size_nil {c : ByteArray} (h : c.size = 0) : c = ⟨#[]⟩ := by
  obtain ⟨⟨l⟩⟩ := c
  have h' : l.length = 0 := h
  rw [List.eq_nil_of_length_eq_zero h']
theorem rsubject_ret {a b c : ByteArray} (ha : a.size ≤ 9223372036854775807) (hb : b.size ≤ 9223372036854775807) (hc : c.size ≤ 9223372036854775807) {w : World} {B : Heap} (hB : B.Le (hp w)) :
    Ret Try.prog 83 [.agg #[.string a, .string b, .string c]] w B (fun v _ => v = .int .i64 (subjE a b c)) := by
  refine V_enter Try.func83 rfl Try.ntmps83 (Nat.le_of_ble_eq_true rfl) hB ?_
  by_cases h : c.size = 0
  · refine V_seq ?_; refine V_region (id := 0) ?_; refine vo_step (ok_box rfl rfl rfl rfl) rfl ?_; refine vo_step (ok_assign rfl rfl rfl) rfl ?_; refine vo_nil ?_; refine N_seq ?_; refine V_seq ?_; refine V_seq ?_; refine V_region (id := 1) ?_; refine vo_step (ok_fieldAt L rfl rfl rfl rfl) rfl ?_; refine vo_step (ok_load1 L (src_at rfl) rfl rfl rfl rfl) rfl ?_; refine vo_step (ok_lenS L rfl rfl rfl rfl) rfl ?_; refine vo_step (ok_eql rfl rfl rfl rfl (decide_eq_true (by omega))) rfl ?_; refine vo_nil ?_; refine N_seq ?_; refine V_true rfl ?_; refine V_seq ?_; refine V_region (id := 2) ?_; refine vo_step (ok_fieldAt L rfl rfl rfl rfl) rfl ?_; refine vo_step (ok_loadA L (vs := [_, _]) (src_at rfl) rfl rfl rfl rfl ⟨_, rfl⟩) rfl ?_; refine vo_step (ok_callx L rfl rfl (blt_lt rfl) rfl rfl rfl (fun u H hH _ _ => robject_ret (by first | assumption | omega | decide) (by first | assumption | omega | decide) hH)) rfl ?_; refine vo_step (ok_assign rfl rfl rfl) rfl ?_; refine vo_nil ?_; refine N_seq ?_
    refine V_ret L (rs := [.tmp 2]) rfl (fun _ _ h => h) Since.refl fun u H hH hle => ?_
    exact congrArg (Value.int .i64) (show allE [a, b] = subjE a b c from (if_pos (size_nil h)).symm)
  · refine V_seq ?_; refine V_region (id := 0) ?_; refine vo_step (ok_box rfl rfl rfl rfl) rfl ?_; refine vo_step (ok_assign rfl rfl rfl) rfl ?_; refine vo_nil ?_; refine N_seq ?_; refine V_seq ?_; refine V_seq ?_; refine V_region (id := 1) ?_; refine vo_step (ok_fieldAt L rfl rfl rfl rfl) rfl ?_; refine vo_step (ok_load1 L (src_at rfl) rfl rfl rfl rfl) rfl ?_; refine vo_step (ok_lenS L rfl rfl rfl rfl) rfl ?_; refine vo_step (ok_eql rfl rfl rfl rfl (decide_eq_false (by omega))) rfl ?_; refine vo_nil ?_; refine N_seq ?_; refine V_false rfl ?_; refine V_skip ?_; refine N_seq ?_; refine V_seq ?_; refine V_regionD (id := 3) [] mixed (by kernel_rfl) ?_; refine par_step (ok_fieldAt L rfl rfl rfl rfl) rfl ?_; refine par_step (ok_loadA L (vs := [_, _]) (src_at rfl) rfl rfl rfl rfl ⟨_, rfl⟩) rfl ?_; refine par_step (ok_callx L rfl rfl (blt_lt rfl) rfl rfl rfl (fun u H hH _ _ => robject_ret (by first | assumption | omega | decide) (by first | assumption | omega | decide) hH)) rfl ?_; refine par_step (ok_fieldAt L rfl rfl rfl rfl) rfl ?_; refine par_step (ok_load1 L (src_at rfl) rfl rfl rfl rfl) rfl ?_; refine par_step (ok_callx L rfl rfl (blt_lt rfl) rfl rfl rfl (fun u H hH _ _ => rcheck_ret (by first | omega | decide) hH)) rfl ?_; refine par_step (ok_max rfl rfl rfl rfl rfl) rfl ?_; refine par_step (ok_assign rfl rfl rfl) rfl ?_; refine par_nil ?_; refine N_seq ?_
    refine V_ret L (rs := [.tmp 2]) rfl (fun _ _ h => h) Since.refl fun u H hH hle => ?_
    exact congrArg (Value.int .i64) ((max3 a b c).trans (show allE [a, b, c] = subjE a b c from (if_neg (fun e => h (by subst e; rfl))).symm))
end Go.V
/- The walks of the definition of tuples (chapter 2). -/
namespace Go.V.L2
open Go.Proofs Go.RowKit Go.V
theorem allE_two : ∀ (l : List ByteArray), allE l = 0 ∨ allE l = 6
  | [] => .inl rfl
  | s :: l => by
    simp only [allE]
    split
    · exact allE_two l
    · rename_i h; exact .inr ((chk_cases s).resolve_left h)
theorem subjE_two (a b c : ByteArray) : subjE a b c = 0 ∨ subjE a b c = 6 := by
  unfold subjE
  split <;> exact allE_two _
theorem tE_max (t : U) : (if subjE t.2.1.1 t.2.1.2 t.2.2 > allE [t.1.1.1, t.1.1.2, t.1.2] then subjE t.2.1.1 t.2.1.2 t.2.2 else allE [t.1.1.1, t.1.1.2, t.1.2]) = tE t := by
  unfold tE
  rcases allE_two [t.1.1.1, t.1.1.2, t.1.2] with h | h <;> rcases subjE_two t.2.1.1 t.2.1.2 t.2.2 with h' | h' <;> rw [h, h'] <;> decide
theorem eqU {t v : U} {r : Bool} (e : decide (t = v) = r) : eqCs [0, 0, 0, 0, 0, 0] [.string t.1.1.1, .string t.1.1.2, .string t.1.2, .string t.2.1.1, .string t.2.1.2, .string t.2.2] [.string v.1.1.1, .string v.1.1.2, .string v.1.2, .string v.2.1.1, .string v.2.1.2, .string v.2.2] = some r := by
  subst e
  simp only [eqCs, eqC]
  have h := @u_eq t v
  by_cases hh : t = v
  · subst hh; simp
  · rw [decide_eq_false hh]
    have h' := fun x => hh (h.1 x)
    by_cases a1 : t.1.1.1 = v.1.1.1
    · by_cases a2 : t.1.1.2 = v.1.1.2
      · by_cases a3 : t.1.2 = v.1.2
        · by_cases a4 : t.2.1.1 = v.2.1.1
          · by_cases a5 : t.2.1.2 = v.2.1.2
            · by_cases a6 : t.2.2 = v.2.2
              · exact absurd ⟨a1, a2, a3, a4, a5, a6⟩ h'
              · simp [a6]
            · simp [a5]
          · simp [a4]
        · simp [a3]
      · simp [a2]
    · simp [a1]
theorem eq3 {g h : Str3} {r : Bool} (e : decide (g = h) = r) : eqCs [0, 0, 0] [.string g.1.1, .string g.1.2, .string g.2] [.string h.1.1, .string h.1.2, .string h.2] = some r :=
  eqCs3 (by rw [← e]; exact decide_eq_decide.2 ⟨fun ⟨a, b, c⟩ => Prod.ext (Prod.ext a b) c, fun e => by subst e; exact ⟨rfl, rfl, rfl⟩⟩)
theorem cmpT_1 {a b : U} (h : a.1 ≠ b.1) : cmpT a b = cmp3 a.1 b.1 := by
  unfold cmpT lexC; rw [orL2, if_neg fun e => h (cmp3_ord.eq _ _ e)]
theorem cmpT_2 {a b : U} (h : a.1 = b.1) : cmpT a b = cmp3 a.2 b.2 := by
  unfold cmpT lexC; rw [orL2, if_pos (by rw [h]; exact cmp3_ord.refl _)]
theorem take_s {α : Type} {l : List α} {k : Nat} {g : α} (h : l[k]? = some g) : l.take (k + 1) = l.take k ++ [g] := by rw [List.take_add_one, h]; rfl
theorem drop_g {α : Type} {l : List α} {k : Nat} {g : α} (h : l[k]? = some g) : l.drop k = g :: l.drop (k + 1) := by
  obtain ⟨hl, he⟩ := List.getElem?_eq_some_iff.1 h
  rw [List.drop_eq_getElem_cons hl, he]
theorem ups_snoc {κ : Kap} {s : Nat} {r : List U} {t : U} (h : κ s = some (.own (SlR tyU 6 (r.length + 1) (r.flatMap ucs ++ [.string t.1.1.1, .string t.1.1.2, .string t.1.2, .string t.2.1.1, .string t.2.1.2, .string t.2.2])))) : κ s = some (.own (SlR tyU 6 (r ++ [t]).length ((r ++ [t]).flatMap ucs))) := by
  rw [h, List.flatMap_append, List.length_append]; rfl
attribute [local irreducible] V N X VO Par StepOK Has Ret RetL Src
theorem rtcheck_ret {t : U} (hz : TZ t) {w : World} {B : Heap} (hB : B.Le (hp w)) : Ret Try.prog 61 [uv t] w B (fun v _ => v = .int .i64 (tE t)) := by
  obtain ⟨⟨z1, z2, z3⟩, z4, z5, z6⟩ := hz
  have hm := tE_max t
  refine V_enter Try.func61 rfl Try.ntmps61 (Nat.le_of_ble_eq_true rfl) hB ?_
  refine V_seq ?_; refine V_region (id := 0) ?_; refine vo_step (ok_box rfl rfl rfl rfl) rfl ?_; refine vo_step (ok_assign rfl rfl rfl) rfl ?_; refine vo_nil ?_; refine N_seq ?_; refine V_seq ?_; refine V_regionD (id := 1) [] mixed (by kernel_rfl) ?_; refine par_step (ok_fieldAt L rfl rfl rfl rfl) rfl ?_; refine par_step (ok_loadA L (vs := [_, _, _]) (src_at rfl) rfl rfl rfl rfl ⟨_, rfl⟩) rfl ?_; refine par_step (ok_callx L rfl rfl (blt_lt rfl) rfl rfl rfl (fun u H hH _ _ => rgoal_ret (by first | assumption | omega | decide) (by first | assumption | omega | decide) (by first | assumption | omega | decide) hH)) rfl ?_; refine par_step (ok_fieldAt L rfl rfl rfl rfl) rfl ?_; refine par_step (ok_loadA L (vs := [_, _, _]) (src_at rfl) rfl rfl rfl rfl ⟨_, rfl⟩) rfl ?_; refine par_step (ok_callx L rfl rfl (blt_lt rfl) rfl rfl rfl (fun u H hH _ _ => rsubject_ret (by first | assumption | omega | decide) (by first | assumption | omega | decide) (by first | assumption | omega | decide) hH)) rfl ?_; refine par_step (ok_max rfl rfl rfl rfl (by assumption)) rfl ?_; refine par_step (ok_assign rfl rfl rfl) rfl ?_; refine par_nil ?_; refine N_seq ?_
  refine V_ret L (rs := [.tmp 2]) rfl (fun _ _ h => h) Since.refl fun u H hH hle => ?_
  rfl
theorem rtcmp_ret {a b : U} (ha : TZ a) (hb : TZ b) {w : World} {B : Heap} (hB : B.Le (hp w)) : Ret Try.prog 46 [uv a, uv b] w B (fun v _ => v = .int .i64 (cmpT a b)) := by
  obtain ⟨⟨z1, z2, z3⟩, z4, z5, z6⟩ := ha
  obtain ⟨⟨y1, y2, y3⟩, y4, y5, y6⟩ := hb
  refine V_enter Try.func46 rfl Try.ntmps46 (Nat.le_of_ble_eq_true rfl) hB ?_
  by_cases h : a.1 = b.1
  · have hq := eq3 (decide_eq_true h)
    rw [cmpT_2 h]
    refine V_seq ?_; refine V_region (id := 0) ?_; refine vo_step (ok_box rfl rfl rfl rfl) rfl ?_; refine vo_step (ok_box rfl rfl rfl rfl) rfl ?_; refine vo_step (ok_assign rfl rfl rfl) rfl ?_; refine vo_nil ?_; refine N_seq ?_; refine V_seq ?_; refine V_seq ?_; refine V_region (id := 1) ?_; refine vo_step (ok_fieldAt L rfl rfl rfl rfl) rfl ?_; refine vo_step (ok_loadA L (vs := [_, _, _]) (src_at rfl) rfl rfl rfl rfl ⟨_, rfl⟩) rfl ?_; refine vo_step (ok_fieldAt L rfl rfl rfl rfl) rfl ?_; refine vo_step (ok_loadA L (vs := [_, _, _]) (src_at rfl) rfl rfl rfl rfl ⟨_, rfl⟩) rfl ?_; refine vo_step (ok_aneq rfl rfl rfl rfl eq49 (by assumption) rfl) rfl ?_; refine vo_nil ?_; refine N_seq ?_; refine V_false rfl ?_; refine V_skip ?_; refine N_seq ?_; refine V_seq ?_; refine V_region (id := 3) ?_; refine vo_step (ok_fieldAt L rfl rfl rfl rfl) rfl ?_; refine vo_step (ok_loadA L (vs := [_, _, _]) (src_at rfl) rfl rfl rfl rfl ⟨_, rfl⟩) rfl ?_; refine vo_step (ok_fieldAt L rfl rfl rfl rfl) rfl ?_; refine vo_step (ok_loadA L (vs := [_, _, _]) (src_at rfl) rfl rfl rfl rfl ⟨_, rfl⟩) rfl ?_; refine vo_step (ok_callx L rfl rfl (blt_lt rfl) rfl rfl rfl (fun u H hH _ _ => rcmpU_ret (by first | assumption | omega | decide) (by first | assumption | omega | decide) (by first | assumption | omega | decide) (by first | assumption | omega | decide) (by first | assumption | omega | decide) (by first | assumption | omega | decide) hH)) rfl ?_; refine vo_step (ok_assign rfl rfl rfl) rfl ?_; refine vo_nil ?_; refine N_seq ?_
    refine V_ret L (rs := [.tmp 4]) rfl (fun _ _ h => h) Since.refl fun u H hH hle => ?_
    rfl
  · have hq := eq3 (decide_eq_false h)
    rw [cmpT_1 h]
    refine V_seq ?_; refine V_region (id := 0) ?_; refine vo_step (ok_box rfl rfl rfl rfl) rfl ?_; refine vo_step (ok_box rfl rfl rfl rfl) rfl ?_; refine vo_step (ok_assign rfl rfl rfl) rfl ?_; refine vo_nil ?_; refine N_seq ?_; refine V_seq ?_; refine V_seq ?_; refine V_region (id := 1) ?_; refine vo_step (ok_fieldAt L rfl rfl rfl rfl) rfl ?_; refine vo_step (ok_loadA L (vs := [_, _, _]) (src_at rfl) rfl rfl rfl rfl ⟨_, rfl⟩) rfl ?_; refine vo_step (ok_fieldAt L rfl rfl rfl rfl) rfl ?_; refine vo_step (ok_loadA L (vs := [_, _, _]) (src_at rfl) rfl rfl rfl rfl ⟨_, rfl⟩) rfl ?_; refine vo_step (ok_aneq rfl rfl rfl rfl eq49 (by assumption) rfl) rfl ?_; refine vo_nil ?_; refine N_seq ?_; refine V_true rfl ?_; refine V_seq ?_; refine V_region (id := 2) ?_; refine vo_step (ok_fieldAt L rfl rfl rfl rfl) rfl ?_; refine vo_step (ok_loadA L (vs := [_, _, _]) (src_at rfl) rfl rfl rfl rfl ⟨_, rfl⟩) rfl ?_; refine vo_step (ok_fieldAt L rfl rfl rfl rfl) rfl ?_; refine vo_step (ok_loadA L (vs := [_, _, _]) (src_at rfl) rfl rfl rfl rfl ⟨_, rfl⟩) rfl ?_; refine vo_step (ok_callx L rfl rfl (blt_lt rfl) rfl rfl rfl (fun u H hH _ _ => rcmpG_ret (by first | assumption | omega | decide) (by first | assumption | omega | decide) (by first | assumption | omega | decide) (by first | assumption | omega | decide) (by first | assumption | omega | decide) (by first | assumption | omega | decide) hH)) rfl ?_; refine vo_step (ok_assign rfl rfl rfl) rfl ?_; refine vo_nil ?_; refine N_seq ?_
    refine V_ret L (rs := [.tmp 4]) rfl (fun _ _ h => h) Since.refl fun u H hH hle => ?_
    rfl
theorem rin_ret {l : List U} {t : U} {fu : Bool} (hl : l.length ≤ 1000000) {e : Int} (he : (if t ∈ l then 1 else 0 : Int) = e) {v : Value} {w : World} {B : Heap} (hB : B.Le (hp w)) (hv : US l fu v B) :
    Ret Try.prog 59 [v, uv t] w B (fun v _ => v = .int .i64 e) := by
  subst he
  refine V_enter Try.func59 rfl Try.ntmps59 (Nat.le_of_ble_eq_true rfl) hB ?_
  refine V_seen 0 (US l fu) rfl SlV.mono hv ?_
  refine V_seq ?_; refine V_region (id := 0) ?_; refine vo_step (ok_box rfl rfl rfl rfl) rfl ?_; refine vo_step (ok_assign rfl rfl rfl) rfl ?_; refine vo_nil ?_; refine N_seq ?_; refine V_seq ?_; refine V_seq ?_; refine V_region (id := 1) ?_; refine vo_step (ok_assign rfl rfl rfl) rfl ?_; refine vo_nil ?_; refine N_seq ?_; refine V_block ?_
  refine V_loop (fun i : Nat => [(0, .sat (US l fu)), (3, .sat (At [.string t.1.1.1, .string t.1.1.2, .string t.1.2, .string t.2.1.1, .string t.2.1.2, .string t.2.2] tyU 0)), (5, .is (.int .i64 i))])
    (fun i => i ≤ l.length ∧ (t ∈ l ↔ t ∈ l.drop i)) (fun i => l.length - i) 0 ⟨Nat.zero_le _, Iff.rfl⟩ ⟨rfl, rfl, rfl, trivial⟩ ?_
  rintro i ⟨hi, he⟩
  by_cases hlt : i < l.length
  · obtain ⟨y, hy⟩ := get_some hlt
    have hc := us_at hy
    rw [drop_g hy] at he
    by_cases hyt : y = t
    · have hq := eqU (decide_eq_true hyt)
      rw [if_pos (he.2 (by rw [hyt]; exact List.mem_cons_self ..))]
      refine V_seq ?_; refine V_seq ?_; refine V_region (id := 2) ?_; refine vo_step (ok_move rfl rfl rfl) rfl ?_; refine vo_step (ok_moves' rfl rfl rfl) rfl ?_; refine vo_step (ok_lenV L rfl rfl rfl rfl) rfl ?_; refine vo_step (ok_lss rfl rfl rfl rfl (decide_eq_true (by omega))) rfl ?_; refine vo_nil ?_; refine N_seq ?_; refine V_true rfl ?_; refine V_skip ?_; refine N_seq ?_; refine V_seq ?_; refine V_block ?_; refine V_seq ?_; refine V_regionD (id := 4) [] mixed (by kernel_rfl) ?_; refine par_step (ok_moves' rfl rfl rfl) rfl ?_; refine par_step (ok_move rfl rfl rfl) rfl ?_; refine par_step (ok_indexV L _ rfl rfl rfl rfl rfl rfl rfl (by first | omega | decide) (by assumption)) rfl ?_; refine par_step (ok_loadPA L (vs := [_, _, _, _, _, _]) rfl rfl rfl rfl rfl ⟨_, rfl⟩) rfl ?_; refine par_step (ok_loadA L (vs := [_, _, _, _, _, _]) (src_at rfl) rfl rfl rfl rfl ⟨_, rfl⟩) rfl ?_; refine par_step (ok_aeql rfl rfl rfl rfl eq52 (by assumption) rfl) rfl ?_; refine par_nil ?_; refine N_seq ?_; refine V_true rfl ?_; refine V_seq ?_; refine V_region (id := 5) ?_; refine vo_step (ok_assign rfl rfl rfl) rfl ?_; refine vo_nil ?_; refine N_seq ?_
      refine V_ret L (rs := [.tmp 4]) rfl (fun _ _ h => h) Since.refl fun u H hH hle => ?_
      rfl
    · have hq := eqU (decide_eq_false hyt)
      refine V_seq ?_; refine V_seq ?_; refine V_region (id := 2) ?_; refine vo_step (ok_move rfl rfl rfl) rfl ?_; refine vo_step (ok_moves' rfl rfl rfl) rfl ?_; refine vo_step (ok_lenV L rfl rfl rfl rfl) rfl ?_; refine vo_step (ok_lss rfl rfl rfl rfl (decide_eq_true (by omega))) rfl ?_; refine vo_nil ?_; refine N_seq ?_; refine V_true rfl ?_; refine V_skip ?_; refine N_seq ?_; refine V_seq ?_; refine V_block ?_; refine V_seq ?_; refine V_regionD (id := 4) [] mixed (by kernel_rfl) ?_; refine par_step (ok_moves' rfl rfl rfl) rfl ?_; refine par_step (ok_move rfl rfl rfl) rfl ?_; refine par_step (ok_indexV L _ rfl rfl rfl rfl rfl rfl rfl (by first | omega | decide) (by assumption)) rfl ?_; refine par_step (ok_loadPA L (vs := [_, _, _, _, _, _]) rfl rfl rfl rfl rfl ⟨_, rfl⟩) rfl ?_; refine par_step (ok_loadA L (vs := [_, _, _, _, _, _]) (src_at rfl) rfl rfl rfl rfl ⟨_, rfl⟩) rfl ?_; refine par_step (ok_aeql rfl rfl rfl rfl eq52 (by assumption) rfl) rfl ?_; refine par_nil ?_; refine N_seq ?_; refine V_false rfl ?_; refine V_skip ?_; refine N_block ?_; refine N_seq ?_; refine V_region (id := 3) ?_; refine vo_step (ok_move rfl rfl rfl) rfl ?_; refine vo_step (ok_add rfl rfl rfl rfl (wrap_i64 (by omega) (by omega))) rfl ?_; refine vo_step (ok_assign rfl rfl rfl) rfl ?_; refine vo_nil ?_
      exact N_round (x := i) (i + 1) ⟨hlt, he.trans ⟨fun h => (List.mem_cons.1 h).resolve_left fun e => hyt e.symm, fun h => List.mem_cons_of_mem _ h⟩⟩ (by omega) ⟨rfl, rfl, rfl, trivial⟩
  · obtain rfl : i = l.length := by omega
    rw [List.drop_length] at he
    rw [if_neg fun h => by cases he.1 h]
    refine V_seq ?_; refine V_seq ?_; refine V_region (id := 2) ?_; refine vo_step (ok_move rfl rfl rfl) rfl ?_; refine vo_step (ok_moves' rfl rfl rfl) rfl ?_; refine vo_step (ok_lenV L rfl rfl rfl rfl) rfl ?_; refine vo_step (ok_lss rfl rfl rfl rfl (decide_eq_false (by omega))) rfl ?_; refine vo_nil ?_; refine N_seq ?_; refine V_false rfl ?_; refine V_exit ?_; refine X_then ?_; refine X_then ?_; refine X_here ?_; refine N_seq ?_; refine V_seq ?_; refine V_region (id := 6) ?_; refine vo_step (ok_assign rfl rfl rfl) rfl ?_; refine vo_nil ?_; refine N_seq ?_
    refine V_ret L (rs := [.tmp 4]) rfl (fun _ _ h => h) Since.refl fun u H hH hle => ?_
    rfl
end Go.V.L2
/- Plain words: the texts of valid names are read again. -/
namespace Go.V
open Go.RowKit
def noB (s : ByteArray) (c : UInt8) : Prop := c ∉ s.data.toList
theorem indexByte_mid (r : List UInt8) (c : UInt8) : ∀ (l : List UInt8), c ∉ l → Lib.indexByte (l ++ c :: r) c = l.length
  | [], _ => by simp [Lib.indexByte]
  | b :: l, h => by
    have h1 : ¬ (b == c) = true := fun e => h (by rw [beq_iff_eq] at e; rw [e]; exact List.mem_cons_self ..)
    have ih := indexByte_mid r c l (fun e => h (List.mem_cons_of_mem _ e))
    rw [List.cons_append, Lib.indexByte, if_neg h1, ih, if_neg (by rw [beq_iff_eq]; omega)]
    simp
theorem indexByte_no (c : UInt8) : ∀ (l : List UInt8), c ∉ l → Lib.indexByte l c = -1
  | [], _ => rfl
  | b :: l, h => by
    have h1 : ¬ (b == c) = true := fun e => h (by rw [beq_iff_eq] at e; rw [e]; exact List.mem_cons_self ..)
    rw [Lib.indexByte, if_neg h1, indexByte_no c l (fun e => h (List.mem_cons_of_mem _ e))]
    rfl
theorem cut_mid {l r : List UInt8} {c : UInt8} (h : c ∉ l) : Lib.cut (l ++ c :: r) [c] = (l, r, true) := by
  unfold Lib.cut
  rw [Lib.index_one, indexByte_mid r c l h, if_pos (by omega)]
  simp
theorem cut_no {l : List UInt8} {c : UInt8} (h : c ∉ l) : Lib.cut l [c] = (l, [], false) := by
  unfold Lib.cut
  rw [Lib.index_one, indexByte_no c l h, if_neg (by omega)]
theorem list_app (a b : ByteArray) : (a ++ b).data.toList = a.data.toList ++ b.data.toList := by
  rw [ByteArray.data_append, Array.toList_append]
theorem ba_ext' {a b : ByteArray} (h : a.data.toList = b.data.toList) : a = b := by
  obtain ⟨⟨x⟩⟩ := a; obtain ⟨⟨y⟩⟩ := b; simp at h; subst h; rfl
theorem cutA_mid {a b : ByteArray} {c : UInt8} (h : noB a c) : cutA (a ++ ⟨#[c]⟩ ++ b) c = (a, b, true) := by
  have e : (a ++ ⟨#[c]⟩ ++ b).data.toList = a.data.toList ++ c :: b.data.toList := by rw [list_app, list_app]; simp
  unfold cutA
  rw [e, cut_mid h]
theorem cutA_no {a : ByteArray} {c : UInt8} (h : noB a c) : cutA a c = (a, ⟨#[]⟩, false) := by
  unfold cutA
  rw [cut_no h]
theorem hasA_no {a : ByteArray} {c : UInt8} (h : noB a c) : hasA a c = false := by
  unfold hasA
  rw [indexByte_no c _ h]; rfl
theorem cntA_no {a : ByteArray} {c : UInt8} (h : noB a c) : cntA a c = 0 := by
  unfold cntA Lib.countByte
  exact List.count_eq_zero_of_not_mem h
theorem allE2 {a b : ByteArray} (h : allE [a, b] = 0) : chk a = 0 ∧ chk b = 0 := by
  simp only [allE] at h
  rcases chk_cases a with h1 | h1 <;> rcases chk_cases b with h2 | h2 <;> simp [h1, h2] at h ⊢
theorem allE3 {a b c : ByteArray} (h : allE [a, b, c] = 0) : chk a = 0 ∧ chk b = 0 ∧ chk c = 0 := by
  simp only [allE] at h
  rcases chk_cases a with h1 | h1 <;> rcases chk_cases b with h2 | h2 <;> rcases chk_cases c with h3 | h3 <;> simp [h1, h2, h3] at h ⊢
theorem subjE_zero {a b c : ByteArray} (h : subjE a b c = 0) : chk a = 0 ∧ chk b = 0 ∧ (c = ⟨#[]⟩ ∨ chk c = 0) := by
  unfold subjE at h
  split at h
  · rename_i hc; exact ⟨(allE2 h).1, (allE2 h).2, .inl hc⟩
  · exact ⟨(allE3 h).1, (allE3 h).2.1, .inr (allE3 h).2.2⟩
end Go.V
/- The walks of the definition of names: texts are read. -/
namespace Go.V
open Go.Proofs Go.RowKit
/-- Where a byte is. -/
def fi (c : UInt8) : List UInt8 → Nat
  | [] => 0
  | x :: l => if x = c then 0 else fi c l + 1
theorem fi_no {c : UInt8} : ∀ {l : List UInt8}, c ∉ l → fi c l = l.length
  | [], _ => rfl
  | x :: l, h => by
    rw [fi, if_neg fun e => h (by rw [e]; exact List.mem_cons_self ..), fi_no fun e => h (List.mem_cons_of_mem _ e), List.length_cons]
theorem fi_app {c : UInt8} {q : List UInt8} : ∀ {p : List UInt8}, c ∉ p → fi c (p ++ q) = p.length + fi c q
  | [], _ => by simp
  | x :: p, h => by
    rw [List.cons_append, fi, if_neg fun e => h (by rw [e]; exact List.mem_cons_self ..), fi_app fun e => h (List.mem_cons_of_mem _ e), List.length_cons]; omega
theorem fi_lt {c : UInt8} {q : List UInt8} : ∀ {p : List UInt8}, c ∈ p → fi c (p ++ q) < p.length
  | x :: p, h => by
    rw [List.cons_append, fi]
    split
    · simp
    · rename_i hx
      have := fi_lt (q := q) ((List.mem_cons.1 h).resolve_left fun e => hx e.symm)
      simp only [List.length_cons]; omega
/-- A string that has a byte. -/
theorem split_b (s : ByteArray) (c : UInt8) : noB s c ∨ ∃ a b, s = a ++ ⟨#[c]⟩ ++ b ∧ noB a c := by
  by_cases h : c ∈ s.data.toList
  · obtain ⟨p, q, e, hp⟩ := List.eq_append_cons_of_mem h
    refine .inr ⟨⟨p.toArray⟩, ⟨q.toArray⟩, ba_ext' ?_, by unfold noB; simpa using hp⟩
    rw [list_app, list_app, e]
    simp
  · exact .inl h
theorem ext_mid (p q r : ByteArray) (i j : Nat) (hi : i = p.size) (hj : j = p.size + q.size) : (p ++ q ++ r).extract i j = q := by
  subst hi hj
  apply ba_ext'
  rw [ByteArray.data_extract, Array.toList_extract, List.extract, list_app, list_app]
  have h1 : p.data.toList.length = p.size := len_toList p
  have h2 : q.data.toList.length = q.size := len_toList q
  rw [List.append_assoc, ← h1, List.drop_left, List.take_left' (by omega)]
theorem hasA_yes {a : ByteArray} {c : UInt8} (h : ¬ noB a c) : hasA a c = true := by
  rcases split_b a c with h1 | ⟨p, q, rfl, hp⟩
  · exact absurd h1 h
  · unfold hasA
    have e : (p ++ ⟨#[c]⟩ ++ q).data.toList = p.data.toList ++ c :: q.data.toList := by rw [list_app, list_app]; simp
    rw [e, indexByte_mid _ _ _ hp]
    simp
/-- What the definition reads. -/
def rp1 (s : ByteArray) : ByteArray × ByteArray × ByteArray × Bool × Int :=
  match partsA s with
  | none => (sNil, sNil, sNil, false, 5)
  | some (x, y, z, d) => (x, y, z, d, if d = true then allE [x, y, z] else allE [x, y])
theorem mid_list (a b : ByteArray) (c : UInt8) : (a ++ ⟨#[c]⟩ ++ b).data.toList = a.data.toList ++ c :: b.data.toList := by rw [list_app, list_app]; simp
theorem mid_size (a b : ByteArray) (c : UInt8) : (a ++ ⟨#[c]⟩ ++ b).size = a.size + 1 + b.size := by rw [ByteArray.size_append, ByteArray.size_append]; rfl
theorem count_pos {s : ByteArray} {c : UInt8} (h : ¬ noB s c) : 0 < s.data.toList.count c := List.count_pos_iff.2 (Classical.not_not.1 h)
attribute [local irreducible] V N X VO Par StepOK Has Ret RetL Src
set_option maxHeartbeats 1000000 in
theorem place_ret {s : ByteArray} {c : UInt8} {a n : Nat} (ha : fi c s.data.toList = a) (hn : s.data.toList.count c = n) (hs : s.size ≤ 1000000) {w : World} {B : Heap} (hB : B.Le (hp w)) :
    Ret Try.prog 107 [.string s, .int .u8 c.toNat] w B (fun v _ => v = .tuple #[.int .i64 a, .int .i64 n]) := by
  subst ha hn
  have hlen := len_toList s
  refine V_enter Try.func107 rfl Try.ntmps107 (Nat.le_of_ble_eq_true rfl) hB ?_
  refine V_seq ?_; refine V_region (id := 0) ?_; refine vo_step (ok_assign rfl rfl rfl) rfl ?_; refine vo_step (ok_assign rfl rfl rfl) rfl ?_; refine vo_nil ?_; refine N_seq ?_; refine V_seq ?_; refine V_region (id := 1) ?_; refine vo_step (ok_move rfl rfl rfl) rfl ?_; refine vo_step (ok_lenS L rfl rfl rfl rfl) rfl ?_; refine vo_step (ok_assign rfl rfl rfl) rfl ?_; refine vo_step (ok_assign rfl rfl rfl) rfl ?_; refine vo_nil ?_; refine N_seq ?_; refine V_seq ?_; refine V_seq ?_; refine V_region (id := 2) ?_; refine vo_step (ok_move rfl rfl rfl) rfl ?_; refine vo_step (ok_lenS L rfl rfl rfl rfl) rfl ?_; refine vo_step (ok_sub rfl rfl rfl rfl (wrap_i64 (by omega) (by omega))) rfl ?_; refine vo_step (ok_assign rfl rfl rfl) rfl ?_; refine vo_nil ?_; refine N_seq ?_; refine V_block ?_
  refine V_loop (fun x : Nat × Nat × Nat × Int => [(0, .is (.string s)), (1, .is (.int .u8 c.toNat)), (6, .is (.int .i64 x.2.1)), (7, .is (.int .i64 x.2.2.1)), (8, .is (.int .i64 x.2.2.2))])
    (fun x => x.1 ≤ s.size ∧ x.2.1 = x.1 + fi c (s.data.toList.drop x.1) ∧ x.2.2.1 = (s.data.toList.drop x.1).count c ∧ x.2.2.2 = (x.1 : Int) - 1 ∧ x.2.2.1 ≤ s.size - x.1) (fun x => x.1) (s.size, s.size, 0, (s.size : Int) - 1)
    ⟨Nat.le_refl _, by rw [List.drop_eq_nil_of_le (by omega)]; rfl, by rw [List.drop_eq_nil_of_le (by omega)]; rfl, rfl, Nat.zero_le _⟩ ⟨rfl, rfl, rfl, rfl, rfl, trivial⟩ ?_
  rintro ⟨i, a, n, z⟩ ⟨hi, ha, hn, hz, hb⟩
  dsimp only at hi ha hn hz hb ⊢
  cases i with
  | zero =>
    rw [List.drop_zero] at ha hn
    have hz0 : z < 0 := by omega
    obtain rfl : a = fi c s.data.toList := by omega
    subst hn
    refine V_seq ?_; refine V_seq ?_; refine V_region (id := 3) ?_; refine vo_step (ok_move rfl rfl rfl) rfl ?_; refine vo_step (ok_geq rfl rfl rfl rfl (decide_eq_false (by omega))) rfl ?_; refine vo_nil ?_; refine N_seq ?_; refine V_false rfl ?_; refine V_exit ?_; refine X_then ?_; refine X_then ?_; refine X_here ?_; refine N_seq ?_; refine V_seq ?_; refine V_region (id := 8) ?_; refine vo_step (ok_move rfl rfl rfl) rfl ?_; refine vo_step (ok_move rfl rfl rfl) rfl ?_; refine vo_step (ok_assign rfl rfl rfl) rfl ?_; refine vo_step (ok_assign rfl rfl rfl) rfl ?_; refine vo_nil ?_; refine N_seq ?_
    refine V_ret L (rs := [.tmp 4, .tmp 5]) rfl (fun _ _ h => h) Since.refl fun u H hH hle => ?_
    rfl
  | succ k =>
    obtain rfl : z = (k : Int) := by omega
    obtain ⟨x, hc⟩ := getElem?_lt (show k < s.size by omega)
    have hd : s.data.toList[k]? = some x := by
      have : s.data[k]? = some x := hc
      simpa using this
    have hdr : s.data.toList.drop k = x :: s.data.toList.drop (k + 1) := by
      have h1 : k < s.data.toList.length := by omega
      rw [List.drop_eq_getElem_cons h1]
      rw [List.getElem?_eq_getElem h1] at hd
      rw [Option.some.inj hd]
    by_cases hx : x = c
    · subst hx
      refine V_seq ?_; refine V_seq ?_; refine V_region (id := 3) ?_; refine vo_step (ok_move rfl rfl rfl) rfl ?_; refine vo_step (ok_geq rfl rfl rfl rfl (decide_eq_true (by omega))) rfl ?_; refine vo_nil ?_; refine N_seq ?_; refine V_true rfl ?_; refine V_skip ?_; refine N_seq ?_; refine V_seq ?_; refine V_block ?_; refine V_seq ?_; refine V_region (id := 5) ?_; refine vo_step (ok_move rfl rfl rfl) rfl ?_; refine vo_step (ok_move rfl rfl rfl) rfl ?_; refine vo_step (ok_indexS L rfl rfl rfl rfl rfl (by assumption)) rfl ?_; refine vo_step (ok_move rfl rfl rfl) rfl ?_; refine vo_step (ok_eql rfl rfl rfl rfl (decide_eq_true (by omega))) rfl ?_; refine vo_nil ?_; refine N_seq ?_; refine V_true rfl ?_; refine V_seq ?_; refine V_region (id := 6) ?_; refine vo_step (ok_move rfl rfl rfl) rfl ?_; refine vo_step (ok_assign rfl rfl rfl) rfl ?_; refine vo_nil ?_; refine N_seq ?_; refine V_region (id := 7) ?_; refine vo_step (ok_move rfl rfl rfl) rfl ?_; refine vo_step (ok_add rfl rfl rfl rfl (wrap_i64 (by omega) (by omega))) rfl ?_; refine vo_step (ok_assign rfl rfl rfl) rfl ?_; refine vo_nil ?_; refine N_block ?_; refine N_seq ?_; refine V_region (id := 4) ?_; refine vo_step (ok_move rfl rfl rfl) rfl ?_; refine vo_step (ok_sub rfl rfl rfl rfl (wrap_i64 (by omega) (by omega))) rfl ?_; refine vo_step (ok_assign rfl rfl rfl) rfl ?_; refine vo_nil ?_
      exact N_round (x := (k + 1, a, n, (k : Int))) (k, k, n + 1, (k : Int) - 1) ⟨by dsimp only; omega, by dsimp only; rw [hdr, fi, if_pos rfl]; rfl, by dsimp only; rw [hdr, List.count_cons_self, hn], rfl, by dsimp only; omega⟩ (by dsimp only; omega) ⟨rfl, rfl, rfl, rfl, rfl, trivial⟩
    · have hxc : (x.toNat : Int) ≠ (c.toNat : Int) := fun e => hx (UInt8.toNat_inj.1 (by omega))
      refine V_seq ?_; refine V_seq ?_; refine V_region (id := 3) ?_; refine vo_step (ok_move rfl rfl rfl) rfl ?_; refine vo_step (ok_geq rfl rfl rfl rfl (decide_eq_true (by omega))) rfl ?_; refine vo_nil ?_; refine N_seq ?_; refine V_true rfl ?_; refine V_skip ?_; refine N_seq ?_; refine V_seq ?_; refine V_block ?_; refine V_seq ?_; refine V_region (id := 5) ?_; refine vo_step (ok_move rfl rfl rfl) rfl ?_; refine vo_step (ok_move rfl rfl rfl) rfl ?_; refine vo_step (ok_indexS L rfl rfl rfl rfl rfl (by assumption)) rfl ?_; refine vo_step (ok_move rfl rfl rfl) rfl ?_; refine vo_step (ok_eql rfl rfl rfl rfl (decide_eq_false (by omega))) rfl ?_; refine vo_nil ?_; refine N_seq ?_; refine V_false rfl ?_; refine V_skip ?_; refine N_block ?_; refine N_seq ?_; refine V_region (id := 4) ?_; refine vo_step (ok_move rfl rfl rfl) rfl ?_; refine vo_step (ok_sub rfl rfl rfl rfl (wrap_i64 (by omega) (by omega))) rfl ?_; refine vo_step (ok_assign rfl rfl rfl) rfl ?_; refine vo_nil ?_
      exact N_round (x := (k + 1, a, n, (k : Int))) (k, a, n, (k : Int) - 1) ⟨by dsimp only; omega, by dsimp only; rw [hdr, fi, if_neg hx, ha]; omega, by dsimp only; rw [hdr, List.count_cons_of_ne hx, hn], rfl, by dsimp only; omega⟩ (by dsimp only; omega) ⟨rfl, rfl, rfl, rfl, rfl, trivial⟩
set_option maxHeartbeats 2000000 in
theorem rparse1_ret {s : ByteArray} {r : ByteArray × ByteArray × ByteArray × Bool × Int} (hr : rp1 s = r) (hs : s.size ≤ 1000000) {w : World} {B : Heap} (hB : B.Le (hp w)) :
    Ret Try.prog 84 [.string s] w B (fun v _ => v = .tuple #[.agg #[.string r.1, .string r.2.1], .string r.2.2.1, .bool r.2.2.2.1, .int .i64 r.2.2.2.2]) := by
  subst hr
  have bad : partsA s = none → ∀ {m k m2 k2 : Nat}, fi 58 s.data.toList = m → s.data.toList.count 58 = k → fi 35 s.data.toList = m2 → s.data.toList.count 35 = k2 → (k ≠ 1 ∨ 1 < k2 ∨ m2 < m) →
      Ret Try.prog 84 [.string s] w B (fun v _ => v = .tuple #[.agg #[.string (rp1 s).1, .string (rp1 s).2.1], .string (rp1 s).2.2.1, .bool (rp1 s).2.2.2.1, .int .i64 (rp1 s).2.2.2.2]) := by
    intro hp m k m2 k2 e1 e2 e3 e4 hor
    have hr1 : rp1 s = (sNil, sNil, sNil, false, 5) := by unfold rp1; rw [hp]
    rw [hr1]
    refine V_enter Try.func84 rfl Try.ntmps84 (Nat.le_of_ble_eq_true rfl) hB ?_
    by_cases c1 : k = 1
    · by_cases c2 : 1 < k2
      · refine V_seq ?_; refine V_region (id := 0) ?_; refine vo_step (ok_alloc L rfl rfl rfl rfl) rfl ?_; refine vo_step (ok_assign rfl rfl rfl) rfl ?_; refine vo_step (ok_assign rfl rfl rfl) rfl ?_; refine vo_step (ok_assign rfl rfl rfl) rfl ?_; refine vo_nil ?_; refine N_seq ?_; refine V_seq ?_; refine V_region (id := 1) ?_; refine vo_step (ok_move rfl rfl rfl) rfl ?_; refine vo_step (ok_callx L rfl rfl (blt_lt rfl) rfl rfl rfl (fun u H hH _ _ => place_ret (c := 58) e1 e2 hs hH)) rfl ?_; refine vo_step (ok_move rfl rfl rfl) rfl ?_; refine vo_step (ok_extract rfl rfl rfl rfl) rfl ?_; refine vo_step (ok_extract rfl rfl rfl rfl) rfl ?_; refine vo_step (ok_assign rfl rfl rfl) rfl ?_; refine vo_step (ok_assign rfl rfl rfl) rfl ?_; refine vo_nil ?_; refine N_seq ?_; refine V_seq ?_; refine V_region (id := 2) ?_; refine vo_step (ok_move rfl rfl rfl) rfl ?_; refine vo_step (ok_callx L rfl rfl (blt_lt rfl) rfl rfl rfl (fun u H hH _ _ => place_ret (c := 35) e3 e4 hs hH)) rfl ?_; refine vo_step (ok_move rfl rfl rfl) rfl ?_; refine vo_step (ok_extract rfl rfl rfl rfl) rfl ?_; refine vo_step (ok_extract rfl rfl rfl rfl) rfl ?_; refine vo_step (ok_assign rfl rfl rfl) rfl ?_; refine vo_step (ok_assign rfl rfl rfl) rfl ?_; refine vo_nil ?_; refine N_seq ?_; refine V_seq ?_; refine V_seq ?_; refine V_region (id := 3) ?_; refine vo_step (ok_move rfl rfl rfl) rfl ?_; refine vo_step (ok_neq rfl rfl rfl rfl (decide_eq_false (by omega))) rfl ?_; refine vo_step (ok_move rfl rfl rfl) rfl ?_; refine vo_step (ok_move rfl rfl rfl) rfl ?_; refine vo_step (ok_gtr rfl rfl rfl rfl (decide_eq_true (by omega))) rfl ?_; refine vo_step (ok_pick rfl rfl rfl rfl) rfl ?_; refine vo_step (ok_move rfl rfl rfl) rfl ?_; refine vo_step (ok_skip rfl (blt_lt rfl) rfl) rfl ?_; refine vo_step (ok_skip rfl (blt_lt rfl) rfl) rfl ?_; refine vo_step (ok_skip rfl (blt_lt rfl) rfl) rfl ?_; refine vo_step (ok_pick rfl rfl rfl rfl) rfl ?_; refine vo_nil ?_; refine N_seq ?_; refine V_true rfl ?_; refine V_seq ?_; refine V_region (id := 4) ?_; refine vo_step (ok_build (cs := [_, _]) rfl rfl pl47 rfl rfl) rfl ?_; refine vo_step (ok_store L rfl rfl rfl rfl rfl rfl rfl rfl) rfl ?_; refine vo_step (ok_assign rfl rfl rfl) rfl ?_; refine vo_step (ok_assign rfl rfl rfl) rfl ?_; refine vo_step (ok_assign rfl rfl rfl) rfl ?_; refine vo_nil ?_; refine N_seq ?_
        refine V_ret L (rs := [.cell 2 47, .tmp 3, .tmp 4, .tmp 5]) rfl (fun _ _ h => h) Since.refl fun u H hH hle => ?_
        exact ⟨_, src_own rfl, rfl, rfl⟩
      · have c3 : m2 < m := by omega
        refine V_seq ?_; refine V_region (id := 0) ?_; refine vo_step (ok_alloc L rfl rfl rfl rfl) rfl ?_; refine vo_step (ok_assign rfl rfl rfl) rfl ?_; refine vo_step (ok_assign rfl rfl rfl) rfl ?_; refine vo_step (ok_assign rfl rfl rfl) rfl ?_; refine vo_nil ?_; refine N_seq ?_; refine V_seq ?_; refine V_region (id := 1) ?_; refine vo_step (ok_move rfl rfl rfl) rfl ?_; refine vo_step (ok_callx L rfl rfl (blt_lt rfl) rfl rfl rfl (fun u H hH _ _ => place_ret (c := 58) e1 e2 hs hH)) rfl ?_; refine vo_step (ok_move rfl rfl rfl) rfl ?_; refine vo_step (ok_extract rfl rfl rfl rfl) rfl ?_; refine vo_step (ok_extract rfl rfl rfl rfl) rfl ?_; refine vo_step (ok_assign rfl rfl rfl) rfl ?_; refine vo_step (ok_assign rfl rfl rfl) rfl ?_; refine vo_nil ?_; refine N_seq ?_; refine V_seq ?_; refine V_region (id := 2) ?_; refine vo_step (ok_move rfl rfl rfl) rfl ?_; refine vo_step (ok_callx L rfl rfl (blt_lt rfl) rfl rfl rfl (fun u H hH _ _ => place_ret (c := 35) e3 e4 hs hH)) rfl ?_; refine vo_step (ok_move rfl rfl rfl) rfl ?_; refine vo_step (ok_extract rfl rfl rfl rfl) rfl ?_; refine vo_step (ok_extract rfl rfl rfl rfl) rfl ?_; refine vo_step (ok_assign rfl rfl rfl) rfl ?_; refine vo_step (ok_assign rfl rfl rfl) rfl ?_; refine vo_nil ?_; refine N_seq ?_; refine V_seq ?_; refine V_seq ?_; refine V_region (id := 3) ?_; refine vo_step (ok_move rfl rfl rfl) rfl ?_; refine vo_step (ok_neq rfl rfl rfl rfl (decide_eq_false (by omega))) rfl ?_; refine vo_step (ok_move rfl rfl rfl) rfl ?_; refine vo_step (ok_move rfl rfl rfl) rfl ?_; refine vo_step (ok_gtr rfl rfl rfl rfl (decide_eq_false (by omega))) rfl ?_; refine vo_step (ok_pick rfl rfl rfl rfl) rfl ?_; refine vo_step (ok_move rfl rfl rfl) rfl ?_; refine vo_step (ok_move rfl rfl rfl) rfl ?_; refine vo_step (ok_move rfl rfl rfl) rfl ?_; refine vo_step (ok_lss rfl rfl rfl rfl (decide_eq_true (by omega))) rfl ?_; refine vo_step (ok_pick rfl rfl rfl rfl) rfl ?_; refine vo_nil ?_; refine N_seq ?_; refine V_true rfl ?_; refine V_seq ?_; refine V_region (id := 4) ?_; refine vo_step (ok_build (cs := [_, _]) rfl rfl pl47 rfl rfl) rfl ?_; refine vo_step (ok_store L rfl rfl rfl rfl rfl rfl rfl rfl) rfl ?_; refine vo_step (ok_assign rfl rfl rfl) rfl ?_; refine vo_step (ok_assign rfl rfl rfl) rfl ?_; refine vo_step (ok_assign rfl rfl rfl) rfl ?_; refine vo_nil ?_; refine N_seq ?_
        refine V_ret L (rs := [.cell 2 47, .tmp 3, .tmp 4, .tmp 5]) rfl (fun _ _ h => h) Since.refl fun u H hH hle => ?_
        exact ⟨_, src_own rfl, rfl, rfl⟩
    · refine V_seq ?_; refine V_region (id := 0) ?_; refine vo_step (ok_alloc L rfl rfl rfl rfl) rfl ?_; refine vo_step (ok_assign rfl rfl rfl) rfl ?_; refine vo_step (ok_assign rfl rfl rfl) rfl ?_; refine vo_step (ok_assign rfl rfl rfl) rfl ?_; refine vo_nil ?_; refine N_seq ?_; refine V_seq ?_; refine V_region (id := 1) ?_; refine vo_step (ok_move rfl rfl rfl) rfl ?_; refine vo_step (ok_callx L rfl rfl (blt_lt rfl) rfl rfl rfl (fun u H hH _ _ => place_ret (c := 58) e1 e2 hs hH)) rfl ?_; refine vo_step (ok_move rfl rfl rfl) rfl ?_; refine vo_step (ok_extract rfl rfl rfl rfl) rfl ?_; refine vo_step (ok_extract rfl rfl rfl rfl) rfl ?_; refine vo_step (ok_assign rfl rfl rfl) rfl ?_; refine vo_step (ok_assign rfl rfl rfl) rfl ?_; refine vo_nil ?_; refine N_seq ?_; refine V_seq ?_; refine V_region (id := 2) ?_; refine vo_step (ok_move rfl rfl rfl) rfl ?_; refine vo_step (ok_callx L rfl rfl (blt_lt rfl) rfl rfl rfl (fun u H hH _ _ => place_ret (c := 35) e3 e4 hs hH)) rfl ?_; refine vo_step (ok_move rfl rfl rfl) rfl ?_; refine vo_step (ok_extract rfl rfl rfl rfl) rfl ?_; refine vo_step (ok_extract rfl rfl rfl rfl) rfl ?_; refine vo_step (ok_assign rfl rfl rfl) rfl ?_; refine vo_step (ok_assign rfl rfl rfl) rfl ?_; refine vo_nil ?_; refine N_seq ?_; refine V_seq ?_; refine V_seq ?_; refine V_region (id := 3) ?_; refine vo_step (ok_move rfl rfl rfl) rfl ?_; refine vo_step (ok_neq rfl rfl rfl rfl (decide_eq_true (by omega))) rfl ?_; refine vo_step (ok_move rfl rfl rfl) rfl ?_; refine vo_step (ok_skip rfl (blt_lt rfl) rfl) rfl ?_; refine vo_step (ok_skip rfl (blt_lt rfl) rfl) rfl ?_; refine vo_step (ok_pick rfl rfl rfl rfl) rfl ?_; refine vo_step (ok_move rfl rfl rfl) rfl ?_; refine vo_step (ok_skip rfl (blt_lt rfl) rfl) rfl ?_; refine vo_step (ok_skip rfl (blt_lt rfl) rfl) rfl ?_; refine vo_step (ok_skip rfl (blt_lt rfl) rfl) rfl ?_; refine vo_step (ok_pick rfl rfl rfl rfl) rfl ?_; refine vo_nil ?_; refine N_seq ?_; refine V_true rfl ?_; refine V_seq ?_; refine V_region (id := 4) ?_; refine vo_step (ok_build (cs := [_, _]) rfl rfl pl47 rfl rfl) rfl ?_; refine vo_step (ok_store L rfl rfl rfl rfl rfl rfl rfl rfl) rfl ?_; refine vo_step (ok_assign rfl rfl rfl) rfl ?_; refine vo_step (ok_assign rfl rfl rfl) rfl ?_; refine vo_step (ok_assign rfl rfl rfl) rfl ?_; refine vo_nil ?_; refine N_seq ?_
      refine V_ret L (rs := [.cell 2 47, .tmp 3, .tmp 4, .tmp 5]) rfl (fun _ _ h => h) Since.refl fun u H hH hle => ?_
      exact ⟨_, src_own rfl, rfl, rfl⟩
  rcases split_b s 58 with h58 | ⟨a, b, rfl, ha⟩
  · refine bad ?_ rfl rfl rfl rfl (.inl ?_)
    · unfold partsA; rw [cutA_no h58]; simp
    · rw [List.count_eq_zero_of_not_mem h58]; decide
  · have hcut : cutA (a ++ ⟨#[58]⟩ ++ b) 58 = (a, b, true) := cutA_mid ha
    have hls := mid_list a b 58
    have hsz := mid_size a b 58
    by_cases hb : noB b 58
    · have hf1 : fi 58 (a ++ ⟨#[58]⟩ ++ b).data.toList = a.size := by rw [hls, fi_app ha, len_toList]; simp [fi]
      have hc1 : (a ++ ⟨#[58]⟩ ++ b).data.toList.count 58 = 1 := by rw [hls, List.count_append, List.count_cons_self, List.count_eq_zero_of_not_mem ha, List.count_eq_zero_of_not_mem hb]
      by_cases ha3 : noB a 35
      · have hf2 : fi 35 (a ++ ⟨#[58]⟩ ++ b).data.toList = a.size + 1 + fi 35 b.data.toList := by rw [hls, fi_app ha3, len_toList, fi, if_neg (by decide)]; omega
        have hc2 : (a ++ ⟨#[58]⟩ ++ b).data.toList.count 35 = b.data.toList.count 35 := by rw [hls, List.count_append, List.count_eq_zero_of_not_mem ha3, List.count_cons_of_ne (by decide)]; omega
        have hn1 := hasA_no ha3
        have hn2 := hasA_no hb
        have za : a.size ≤ 1099511627776 := by omega
        have zb : b.size ≤ 1099511627776 := by omega
        have hadd1 : IntKind.i64.wrap ((a.size : Int) + 1) = ((a.size + 1 : Nat) : Int) := wrap_i64 (by omega) (by omega) |>.trans (by omega)
        have x1 : (a ++ ⟨#[58]⟩ ++ b).extract 0 a.size = a := by
          have := ext_mid ⟨#[]⟩ a (⟨#[58]⟩ ++ b) 0 a.size rfl (by show _ = 0 + _; omega)
          conv => rhs; rw [← this]
          congr 1; apply ba_ext'; simp [list_app]
        rcases split_b b 35 with hb3 | ⟨c, e, rfl, hc3⟩
        · have hp : partsA (a ++ ⟨#[58]⟩ ++ b) = some (a, b, sNil, false) := by
            unfold partsA; rw [hcut]
            simp only [hn1, hn2, cntA_no hb3, cutA_no hb3]
            simp
          have hr1 : rp1 (a ++ ⟨#[58]⟩ ++ b) = (a, b, sNil, false, allE [a, b]) := by unfold rp1; rw [hp]; rfl
          rw [hr1]
          have hf3 : fi 35 (a ++ ⟨#[58]⟩ ++ b).data.toList = a.size + 1 + b.size := by rw [hf2, fi_no hb3, len_toList]
          have hc3 : (a ++ ⟨#[58]⟩ ++ b).data.toList.count 35 = 0 := by rw [hc2, List.count_eq_zero_of_not_mem hb3]
          have x2 : (a ++ ⟨#[58]⟩ ++ b).extract (a.size + 1) (a.size + 1 + b.size) = b := by
            have := ext_mid (a ++ ⟨#[58]⟩) b ⟨#[]⟩ (a.size + 1) (a.size + 1 + b.size) (by rw [ByteArray.size_append]; rfl) (by rw [ByteArray.size_append]; rfl)
            conv => rhs; rw [← this]
            congr 1; apply ba_ext'; simp [list_app]
          generalize a ++ ⟨#[58]⟩ ++ b = s at *
          refine V_enter Try.func84 rfl Try.ntmps84 (Nat.le_of_ble_eq_true rfl) hB ?_
          refine V_seq ?_; refine V_region (id := 0) ?_; refine vo_step (ok_alloc L rfl rfl rfl rfl) rfl ?_; refine vo_step (ok_assign rfl rfl rfl) rfl ?_; refine vo_step (ok_assign rfl rfl rfl) rfl ?_; refine vo_step (ok_assign rfl rfl rfl) rfl ?_; refine vo_nil ?_; refine N_seq ?_; refine V_seq ?_; refine V_region (id := 1) ?_; refine vo_step (ok_move rfl rfl rfl) rfl ?_; refine vo_step (ok_callx L rfl rfl (blt_lt rfl) rfl rfl rfl (fun u H hH _ _ => place_ret (c := 58) hf1 hc1 hs hH)) rfl ?_; refine vo_step (ok_move rfl rfl rfl) rfl ?_; refine vo_step (ok_extract rfl rfl rfl rfl) rfl ?_; refine vo_step (ok_extract rfl rfl rfl rfl) rfl ?_; refine vo_step (ok_assign rfl rfl rfl) rfl ?_; refine vo_step (ok_assign rfl rfl rfl) rfl ?_; refine vo_nil ?_; refine N_seq ?_; refine V_seq ?_; refine V_region (id := 2) ?_; refine vo_step (ok_move rfl rfl rfl) rfl ?_; refine vo_step (ok_callx L rfl rfl (blt_lt rfl) rfl rfl rfl (fun u H hH _ _ => place_ret (c := 35) hf3 hc3 hs hH)) rfl ?_; refine vo_step (ok_move rfl rfl rfl) rfl ?_; refine vo_step (ok_extract rfl rfl rfl rfl) rfl ?_; refine vo_step (ok_extract rfl rfl rfl rfl) rfl ?_; refine vo_step (ok_assign rfl rfl rfl) rfl ?_; refine vo_step (ok_assign rfl rfl rfl) rfl ?_; refine vo_nil ?_; refine N_seq ?_; refine V_seq ?_; refine V_seq ?_; refine V_region (id := 3) ?_; refine vo_step (ok_move rfl rfl rfl) rfl ?_; refine vo_step (ok_neq rfl rfl rfl rfl (decide_eq_false (by omega))) rfl ?_; refine vo_step (ok_move rfl rfl rfl) rfl ?_; refine vo_step (ok_move rfl rfl rfl) rfl ?_; refine vo_step (ok_gtr rfl rfl rfl rfl (decide_eq_false (by omega))) rfl ?_; refine vo_step (ok_pick rfl rfl rfl rfl) rfl ?_; refine vo_step (ok_move rfl rfl rfl) rfl ?_; refine vo_step (ok_move rfl rfl rfl) rfl ?_; refine vo_step (ok_move rfl rfl rfl) rfl ?_; refine vo_step (ok_lss rfl rfl rfl rfl (decide_eq_false (by omega))) rfl ?_; refine vo_step (ok_pick rfl rfl rfl rfl) rfl ?_; refine vo_nil ?_; refine N_seq ?_; refine V_false rfl ?_; refine V_skip ?_; refine N_seq ?_; refine V_seq ?_; refine V_regionD (id := 5) [] mixed (by kernel_rfl) ?_; refine par_step (ok_move rfl rfl rfl) rfl ?_; refine par_step (ok_move rfl rfl rfl) rfl ?_; refine par_step (ok_sliceS L (kl := .i64) (pl := 0) 0 a.size rfl rfl rfl rfl rfl ⟨rfl, rfl⟩ (by omega) (by omega) x1) rfl ?_; refine par_step (ok_move rfl rfl rfl) rfl ?_; refine par_step (ok_move rfl rfl rfl) rfl ?_; refine par_step (ok_add rfl rfl rfl rfl (by assumption)) rfl ?_; refine par_step (ok_move rfl rfl rfl) rfl ?_; refine par_step (ok_sliceS L (a.size + 1) (a.size + 1 + b.size) rfl rfl rfl rfl ⟨rfl, rfl⟩ ⟨rfl, rfl⟩ (by omega) (by omega) x2) rfl ?_; refine par_step (ok_build (cs := [_, _]) rfl rfl pl47 rfl rfl) rfl ?_; refine par_step (ok_alloc L rfl rfl rfl rfl) rfl ?_; refine par_step (ok_store L rfl rfl rfl rfl rfl rfl rfl rfl) rfl ?_; refine par_nil ?_; refine N_seq ?_; refine V_seq ?_; refine V_seq ?_; refine V_region (id := 6) ?_; refine vo_step (ok_move rfl rfl rfl) rfl ?_; refine vo_step (ok_eql rfl rfl rfl rfl (decide_eq_true (by omega))) rfl ?_; refine vo_nil ?_; refine N_seq ?_; refine V_true rfl ?_; refine V_seq ?_; refine V_regionD (id := 7) [] mixed (by kernel_rfl) ?_; refine par_step (ok_loadA L (vs := [_, _]) (src_own rfl) rfl rfl rfl rfl ⟨_, rfl⟩) rfl ?_; refine par_step (ok_loadA L (vs := [_, _]) (src_own rfl) rfl rfl rfl rfl ⟨_, rfl⟩) rfl ?_; refine par_step (ok_callx L rfl rfl (blt_lt rfl) rfl rfl rfl (fun u H hH _ _ => robject_ret (by first | assumption | omega | decide) (by first | assumption | omega | decide) hH)) rfl ?_; refine par_step (ok_store L rfl rfl rfl rfl rfl rfl rfl rfl) rfl ?_; refine par_step (ok_assign rfl rfl rfl) rfl ?_; refine par_step (ok_assign rfl rfl rfl) rfl ?_; refine par_step (ok_assign rfl rfl rfl) rfl ?_; refine par_nil ?_; refine N_seq ?_
          refine V_ret L (rs := [.cell 2 47, .tmp 3, .tmp 4, .tmp 5]) rfl (fun _ _ h => h) Since.refl fun u H hH hle => ?_
          exact ⟨_, src_own rfl, rfl, rfl⟩
        · have hls2 := mid_list c e 35
          have hsz2 := mid_size c e 35
          by_cases he3 : noB e 35
          · have hcn : (c ++ ⟨#[35]⟩ ++ e).data.toList.count 35 = 1 := by rw [hls2, List.count_append, List.count_cons_self, List.count_eq_zero_of_not_mem hc3, List.count_eq_zero_of_not_mem he3]
            have hp : partsA (a ++ ⟨#[58]⟩ ++ (c ++ ⟨#[35]⟩ ++ e)) = some (a, c, e, true) := by
              unfold partsA; rw [hcut]
              have h4 : cntA (c ++ ⟨#[35]⟩ ++ e) 35 = 1 := hcn
              simp only [hn1, hn2, h4, cutA_mid hc3]
              simp
            have hr1 : rp1 (a ++ ⟨#[58]⟩ ++ (c ++ ⟨#[35]⟩ ++ e)) = (a, c, e, true, allE [a, c, e]) := by unfold rp1; rw [hp]; rfl
            rw [hr1]
            have hf3 : fi 35 (a ++ ⟨#[58]⟩ ++ (c ++ ⟨#[35]⟩ ++ e)).data.toList = a.size + 1 + c.size := by rw [hf2, hls2, fi_app hc3, len_toList]; simp [fi]
            have hc4 : (a ++ ⟨#[58]⟩ ++ (c ++ ⟨#[35]⟩ ++ e)).data.toList.count 35 = 1 := by rw [hc2, hcn]
            have x2 : (a ++ ⟨#[58]⟩ ++ (c ++ ⟨#[35]⟩ ++ e)).extract (a.size + 1) (a.size + 1 + c.size) = c := by
              have := ext_mid (a ++ ⟨#[58]⟩) c (⟨#[35]⟩ ++ e) (a.size + 1) (a.size + 1 + c.size) (by rw [ByteArray.size_append]; rfl) (by rw [ByteArray.size_append]; rfl)
              conv => rhs; rw [← this]
              congr 1; apply ba_ext'; simp [list_app]
            have x3 : (a ++ ⟨#[58]⟩ ++ (c ++ ⟨#[35]⟩ ++ e)).extract (a.size + 1 + c.size + 1) (a ++ ⟨#[58]⟩ ++ (c ++ ⟨#[35]⟩ ++ e)).size = e := by
              have := ext_mid (a ++ ⟨#[58]⟩ ++ c ++ ⟨#[35]⟩) e ⟨#[]⟩ (a.size + 1 + c.size + 1) (a ++ ⟨#[58]⟩ ++ (c ++ ⟨#[35]⟩ ++ e)).size (by simp only [ByteArray.size_append]; rfl) (by simp only [ByteArray.size_append]; rw [show (⟨#[58]⟩ : ByteArray).size = 1 from rfl, show (⟨#[35]⟩ : ByteArray).size = 1 from rfl]; omega)
              conv => rhs; rw [← this]
              congr 1; apply ba_ext'; simp [list_app]
            have hsz3 : (a ++ ⟨#[58]⟩ ++ (c ++ ⟨#[35]⟩ ++ e)).size = a.size + 1 + (c.size + 1 + e.size) := by rw [hsz, hsz2]
            have zc : c.size ≤ 1099511627776 := by omega
            have ze : e.size ≤ 1099511627776 := by omega
            have hadd2 : IntKind.i64.wrap (((a.size + 1 + c.size : Nat) : Int) + 1) = ((a.size + 1 + c.size + 1 : Nat) : Int) := wrap_i64 (by omega) (by omega) |>.trans (by omega)
            have hmx := max3 a c e
            generalize a ++ ⟨#[58]⟩ ++ (c ++ ⟨#[35]⟩ ++ e) = s at *
            refine V_enter Try.func84 rfl Try.ntmps84 (Nat.le_of_ble_eq_true rfl) hB ?_
            refine V_seq ?_; refine V_region (id := 0) ?_; refine vo_step (ok_alloc L rfl rfl rfl rfl) rfl ?_; refine vo_step (ok_assign rfl rfl rfl) rfl ?_; refine vo_step (ok_assign rfl rfl rfl) rfl ?_; refine vo_step (ok_assign rfl rfl rfl) rfl ?_; refine vo_nil ?_; refine N_seq ?_; refine V_seq ?_; refine V_region (id := 1) ?_; refine vo_step (ok_move rfl rfl rfl) rfl ?_; refine vo_step (ok_callx L rfl rfl (blt_lt rfl) rfl rfl rfl (fun u H hH _ _ => place_ret (c := 58) hf1 hc1 hs hH)) rfl ?_; refine vo_step (ok_move rfl rfl rfl) rfl ?_; refine vo_step (ok_extract rfl rfl rfl rfl) rfl ?_; refine vo_step (ok_extract rfl rfl rfl rfl) rfl ?_; refine vo_step (ok_assign rfl rfl rfl) rfl ?_; refine vo_step (ok_assign rfl rfl rfl) rfl ?_; refine vo_nil ?_; refine N_seq ?_; refine V_seq ?_; refine V_region (id := 2) ?_; refine vo_step (ok_move rfl rfl rfl) rfl ?_; refine vo_step (ok_callx L rfl rfl (blt_lt rfl) rfl rfl rfl (fun u H hH _ _ => place_ret (c := 35) hf3 hc4 hs hH)) rfl ?_; refine vo_step (ok_move rfl rfl rfl) rfl ?_; refine vo_step (ok_extract rfl rfl rfl rfl) rfl ?_; refine vo_step (ok_extract rfl rfl rfl rfl) rfl ?_; refine vo_step (ok_assign rfl rfl rfl) rfl ?_; refine vo_step (ok_assign rfl rfl rfl) rfl ?_; refine vo_nil ?_; refine N_seq ?_; refine V_seq ?_; refine V_seq ?_; refine V_region (id := 3) ?_; refine vo_step (ok_move rfl rfl rfl) rfl ?_; refine vo_step (ok_neq rfl rfl rfl rfl (decide_eq_false (by omega))) rfl ?_; refine vo_step (ok_move rfl rfl rfl) rfl ?_; refine vo_step (ok_move rfl rfl rfl) rfl ?_; refine vo_step (ok_gtr rfl rfl rfl rfl (decide_eq_false (by omega))) rfl ?_; refine vo_step (ok_pick rfl rfl rfl rfl) rfl ?_; refine vo_step (ok_move rfl rfl rfl) rfl ?_; refine vo_step (ok_move rfl rfl rfl) rfl ?_; refine vo_step (ok_move rfl rfl rfl) rfl ?_; refine vo_step (ok_lss rfl rfl rfl rfl (decide_eq_false (by omega))) rfl ?_; refine vo_step (ok_pick rfl rfl rfl rfl) rfl ?_; refine vo_nil ?_; refine N_seq ?_; refine V_false rfl ?_; refine V_skip ?_; refine N_seq ?_; refine V_seq ?_; refine V_regionD (id := 5) [] mixed (by kernel_rfl) ?_; refine par_step (ok_move rfl rfl rfl) rfl ?_; refine par_step (ok_move rfl rfl rfl) rfl ?_; refine par_step (ok_sliceS L (kl := .i64) (pl := 0) 0 a.size rfl rfl rfl rfl rfl ⟨rfl, rfl⟩ (by omega) (by omega) x1) rfl ?_; refine par_step (ok_move rfl rfl rfl) rfl ?_; refine par_step (ok_move rfl rfl rfl) rfl ?_; refine par_step (ok_add rfl rfl rfl rfl (by assumption)) rfl ?_; refine par_step (ok_move rfl rfl rfl) rfl ?_; refine par_step (ok_sliceS L (a.size + 1) (a.size + 1 + c.size) rfl rfl rfl rfl ⟨rfl, rfl⟩ ⟨rfl, rfl⟩ (by omega) (by omega) x2) rfl ?_; refine par_step (ok_build (cs := [_, _]) rfl rfl pl47 rfl rfl) rfl ?_; refine par_step (ok_alloc L rfl rfl rfl rfl) rfl ?_; refine par_step (ok_store L rfl rfl rfl rfl rfl rfl rfl rfl) rfl ?_; refine par_nil ?_; refine N_seq ?_; refine V_seq ?_; refine V_seq ?_; refine V_region (id := 6) ?_; refine vo_step (ok_move rfl rfl rfl) rfl ?_; refine vo_step (ok_eql rfl rfl rfl rfl (decide_eq_false (by omega))) rfl ?_; refine vo_nil ?_; refine N_seq ?_; refine V_false rfl ?_; refine V_skip ?_; refine N_seq ?_; refine V_seq ?_; refine V_regionD (id := 8) [] mixed (by kernel_rfl) ?_; refine par_step (ok_loadA L (vs := [_, _]) (src_own rfl) rfl rfl rfl rfl ⟨_, rfl⟩) rfl ?_; refine par_step (ok_move rfl rfl rfl) rfl ?_; refine par_step (ok_move rfl rfl rfl) rfl ?_; refine par_step (ok_add rfl rfl rfl rfl (by assumption)) rfl ?_; refine par_step (ok_sliceS L (kh := .i64) (ph := 0) (a.size + 1 + c.size + 1) _ rfl rfl rfl rfl ⟨rfl, rfl⟩ rfl (by omega) (by omega) x3) rfl ?_; refine par_step (ok_loadA L (vs := [_, _]) (src_own rfl) rfl rfl rfl rfl ⟨_, rfl⟩) rfl ?_; refine par_step (ok_callx L rfl rfl (blt_lt rfl) rfl rfl rfl (fun u H hH _ _ => robject_ret (by first | assumption | omega | decide) (by first | assumption | omega | decide) hH)) rfl ?_; refine par_step (ok_move rfl rfl rfl) rfl ?_; refine par_step (ok_move rfl rfl rfl) rfl ?_; refine par_step (ok_add rfl rfl rfl rfl (by assumption)) rfl ?_; refine par_step (ok_sliceS L (kh := .i64) (ph := 0) (a.size + 1 + c.size + 1) _ rfl rfl rfl rfl ⟨rfl, rfl⟩ rfl (by omega) (by omega) x3) rfl ?_; refine par_step (ok_callx L rfl rfl (blt_lt rfl) rfl rfl rfl (fun u H hH _ _ => rcheck_ret (by first | omega | decide) hH)) rfl ?_; refine par_step (ok_max rfl rfl rfl rfl (by assumption)) rfl ?_; refine par_step (ok_store L rfl rfl rfl rfl rfl rfl rfl rfl) rfl ?_; refine par_step (ok_assign rfl rfl rfl) rfl ?_; refine par_step (ok_assign rfl rfl rfl) rfl ?_; refine par_step (ok_assign rfl rfl rfl) rfl ?_; refine par_nil ?_; refine N_seq ?_
            refine V_ret L (rs := [.cell 2 47, .tmp 3, .tmp 4, .tmp 5]) rfl (fun _ _ h => h) Since.refl fun u H hH hle => ?_
            exact ⟨_, src_own rfl, rfl, rfl⟩
          · have hcn : 1 < (c ++ ⟨#[35]⟩ ++ e).data.toList.count 35 := by have := count_pos he3; rw [hls2, List.count_append, List.count_cons_self]; omega
            refine bad ?_ rfl rfl rfl rfl (.inr (.inl (by rw [hc2]; exact hcn)))
            unfold partsA; rw [hcut]
            have h4 : ¬ cntA (c ++ ⟨#[35]⟩ ++ e) 35 ≤ 1 := by unfold cntA Lib.countByte; omega
            simp only [h4, and_false, if_false]
      · refine bad ?_ rfl rfl rfl rfl (.inr (.inr ?_))
        · unfold partsA; rw [hcut]
          simp only [hasA_yes ha3]
          simp
        · rw [hf1, hls, ← len_toList]
          exact fi_lt (Classical.not_not.1 ha3)
    · refine bad ?_ rfl rfl rfl rfl (.inl ?_)
      · unfold partsA; rw [hcut]
        simp only [hasA_yes hb]
        simp
      · have := count_pos hb
        rw [hls, List.count_append, List.count_cons_self]; omega
theorem rparse1_ret' {s x y z : ByteArray} {d : Bool} {e : Int} (hr : rp1 s = (x, y, z, d, e)) (hs : s.size ≤ 1000000) {w : World} {B : Heap} (hB : B.Le (hp w)) :
    Ret Try.prog 84 [.string s] w B (fun v _ => v = .tuple #[.agg #[.string x, .string y], .string z, .bool d, .int .i64 e]) := rparse1_ret hr hs hB
end Go.V
/- The walks of the definition of tuples (chapter 2): texts are read. -/
namespace Go.V.L2
open Go.Proofs Go.RowKit Go.V
theorem pg_rp (a : ByteArray) : pgA a = if (rp1 a).2.2.2.1 = false then (sNil, sNil, sNil, 5) else if (rp1 a).2.2.2.2 = 0 then ((rp1 a).1, (rp1 a).2.1, (rp1 a).2.2.1, 0) else (sNil, sNil, sNil, (rp1 a).2.2.2.2) := by
  unfold pgA rp1
  rcases partsA a with _ | ⟨x, y, z, d⟩
  · rfl
  · cases d
    · rfl
    · simp only [if_true]
theorem ps_rp (a : ByteArray) : psA a = if (rp1 a).2.2.2.2 = 0 then ((rp1 a).1, (rp1 a).2.1, (rp1 a).2.2.1, 0) else (sNil, sNil, sNil, (rp1 a).2.2.2.2) := by
  unfold psA rp1
  rcases partsA a with _ | ⟨x, y, z, d⟩
  · rfl
  · dsimp only
    cases d
    · simp
    · simp only [if_true, allE]
      rcases chk_cases x with h1 | h1 <;> rcases chk_cases y with h2 | h2 <;> rcases chk_cases z with h3 | h3 <;> simp [h1, h2, h3]
theorem at_of {l a b : List UInt8} {c : UInt8} {k : Nat} (e : l = a ++ c :: b) (ha : c ∉ a) (hb : c ∉ b) (hk : l[k]? = some c) : k = a.length := by
  subst e
  rcases Nat.lt_trichotomy k a.length with h | h | h
  · rw [List.getElem?_append_left h] at hk
    exact absurd (List.mem_of_getElem? hk) ha
  · exact h
  · rw [List.getElem?_append_right (by omega), show k - a.length = (k - a.length - 1) + 1 by omega, List.getElem?_cons_succ] at hk
    exact absurd (List.mem_of_getElem? hk) hb
attribute [local irreducible] V N X VO Par StepOK Has Ret RetL Src
set_option maxHeartbeats 4000000 in
theorem rtparse_ret {s : ByteArray} {r : U × Int} (hr : ptA s = r) (hs : s.size ≤ 1000000) {w : World} {B : Heap} (hB : B.Le (hp w)) :
    Ret Try.prog 62 [.string s] w B (fun v _ => v = .tuple #[uv r.1, .int .i64 r.2]) := by
  subst hr
  have hlen := len_toList s
  refine V_enter Try.func62 rfl Try.ntmps62 (Nat.le_of_ble_eq_true rfl) hB ?_
  refine V_seq ?_; refine V_region (id := 0) ?_; refine vo_step (ok_alloc L rfl rfl rfl rfl) rfl ?_; refine vo_step (ok_assign rfl rfl rfl) rfl ?_; refine vo_nil ?_; refine N_seq ?_; refine V_seq ?_; refine V_region (id := 1) ?_; refine vo_step (ok_assign rfl rfl rfl) rfl ?_; refine vo_step (ok_assign rfl rfl rfl) rfl ?_; refine vo_nil ?_; refine N_seq ?_; refine V_seq ?_; refine V_seq ?_; refine V_region (id := 2) ?_; refine vo_step (ok_assign rfl rfl rfl) rfl ?_; refine vo_nil ?_; refine N_seq ?_; refine V_block ?_
  refine V_loop (fun x : Nat × Nat × Nat => [(0, .is (.string s)), (2, .own (Cell [.string ⟨#[]⟩, .string ⟨#[]⟩, .string ⟨#[]⟩, .string ⟨#[]⟩, .string ⟨#[]⟩, .string ⟨#[]⟩] tyU)), (4, .is (.int .i64 x.2.1)), (5, .is (.int .i64 x.2.2)), (6, .is (.int .i64 x.1))])
    (fun x => x.1 ≤ s.size ∧ x.2.2 = (s.data.toList.take x.1).count 64 ∧ x.2.2 ≤ x.1 ∧ (x.2.2 = 1 → x.2.1 < s.size ∧ s.data.toList[x.2.1]? = some 64)) (fun x => s.size - x.1) (0, 0, 0)
    ⟨Nat.zero_le _, by simp, Nat.le_refl _, fun h => by cases h⟩ ⟨rfl, rfl, rfl, rfl, rfl, trivial⟩ ?_
  rintro ⟨i, k, n⟩ ⟨hi, hn, hni, hk⟩
  dsimp only at hi hn hni hk ⊢
  by_cases hlt : i < s.size
  · obtain ⟨x, hc⟩ := getElem?_lt hlt
    have hd : s.data.toList[i]? = some x := by
      have : s.data[i]? = some x := hc
      simpa using this
    have htk : s.data.toList.take (i + 1) = s.data.toList.take i ++ [x] := by rw [List.take_add_one, hd]; rfl
    by_cases hx : x = 64
    · subst hx
      refine V_seq ?_; refine V_seq ?_; refine V_region (id := 3) ?_; refine vo_step (ok_move rfl rfl rfl) rfl ?_; refine vo_step (ok_move rfl rfl rfl) rfl ?_; refine vo_step (ok_lenS L rfl rfl rfl rfl) rfl ?_; refine vo_step (ok_lss rfl rfl rfl rfl (decide_eq_true (by omega))) rfl ?_; refine vo_nil ?_; refine N_seq ?_; refine V_true rfl ?_; refine V_skip ?_; refine N_seq ?_; refine V_seq ?_; refine V_block ?_; refine V_seq ?_; refine V_region (id := 5) ?_; refine vo_step (ok_move rfl rfl rfl) rfl ?_; refine vo_step (ok_move rfl rfl rfl) rfl ?_; refine vo_step (ok_indexS L rfl rfl rfl rfl rfl (by assumption)) rfl ?_; refine vo_step (ok_eql rfl rfl rfl rfl rfl) rfl ?_; refine vo_nil ?_; refine N_seq ?_; refine V_true rfl ?_; refine V_seq ?_; refine V_region (id := 6) ?_; refine vo_step (ok_move rfl rfl rfl) rfl ?_; refine vo_step (ok_assign rfl rfl rfl) rfl ?_; refine vo_nil ?_; refine N_seq ?_; refine V_region (id := 7) ?_; refine vo_step (ok_move rfl rfl rfl) rfl ?_; refine vo_step (ok_add rfl rfl rfl rfl (wrap_i64 (by omega) (by omega))) rfl ?_; refine vo_step (ok_assign rfl rfl rfl) rfl ?_; refine vo_nil ?_; refine N_block ?_; refine N_seq ?_; refine V_region (id := 4) ?_; refine vo_step (ok_move rfl rfl rfl) rfl ?_; refine vo_step (ok_add rfl rfl rfl rfl (wrap_i64 (by omega) (by omega))) rfl ?_; refine vo_step (ok_assign rfl rfl rfl) rfl ?_; refine vo_nil ?_
      exact N_round (x := (i, k, n)) (i + 1, i, n + 1) ⟨hlt, by dsimp only; rw [htk, List.count_append, ← hn]; rfl, by dsimp only; omega, fun _ => ⟨hlt, hd⟩⟩ (by dsimp only; omega) ⟨rfl, rfl, rfl, rfl, rfl, trivial⟩
    · have hxc : (x.toNat : Int) ≠ 64 := fun e => hx (UInt8.toNat_inj.1 (by show x.toNat = 64; omega))
      refine V_seq ?_; refine V_seq ?_; refine V_region (id := 3) ?_; refine vo_step (ok_move rfl rfl rfl) rfl ?_; refine vo_step (ok_move rfl rfl rfl) rfl ?_; refine vo_step (ok_lenS L rfl rfl rfl rfl) rfl ?_; refine vo_step (ok_lss rfl rfl rfl rfl (decide_eq_true (by omega))) rfl ?_; refine vo_nil ?_; refine N_seq ?_; refine V_true rfl ?_; refine V_skip ?_; refine N_seq ?_; refine V_seq ?_; refine V_block ?_; refine V_seq ?_; refine V_region (id := 5) ?_; refine vo_step (ok_move rfl rfl rfl) rfl ?_; refine vo_step (ok_move rfl rfl rfl) rfl ?_; refine vo_step (ok_indexS L rfl rfl rfl rfl rfl (by assumption)) rfl ?_; refine vo_step (ok_eql rfl rfl rfl rfl (decide_eq_false (by omega))) rfl ?_; refine vo_nil ?_; refine N_seq ?_; refine V_false rfl ?_; refine V_skip ?_; refine N_block ?_; refine N_seq ?_; refine V_region (id := 4) ?_; refine vo_step (ok_move rfl rfl rfl) rfl ?_; refine vo_step (ok_add rfl rfl rfl rfl (wrap_i64 (by omega) (by omega))) rfl ?_; refine vo_step (ok_assign rfl rfl rfl) rfl ?_; refine vo_nil ?_
      exact N_round (x := (i, k, n)) (i + 1, k, n) ⟨hlt, by dsimp only; rw [htk, List.count_append, ← hn, List.count_cons_of_ne hx]; rfl, by dsimp only; omega, hk⟩ (by dsimp only; omega) ⟨rfl, rfl, rfl, rfl, rfl, trivial⟩
  · obtain rfl : i = s.size := by omega
    rw [List.take_of_length_le (by omega)] at hn
    by_cases h1 : n = 1
    · obtain ⟨hk1, hk2⟩ := hk h1
      rcases split_b s 64 with h64 | ⟨a, b, rfl, ha⟩
      · rw [List.count_eq_zero_of_not_mem h64] at hn; omega
      · have hls := mid_list a b 64
        have hsz := mid_size a b 64
        have hb : noB b 64 := fun hm => by
          have := List.count_pos_iff.2 hm
          rw [hls, List.count_append, List.count_cons_self] at hn
          omega
        obtain rfl : k = a.size := (at_of hls ha hb hk2).trans (len_toList a)
        have hcut : cutA (a ++ ⟨#[64]⟩ ++ b) 64 = (a, b, true) := cutA_mid ha
        have x1 : (a ++ ⟨#[64]⟩ ++ b).extract 0 a.size = a := by
          have := ext_mid ⟨#[]⟩ a (⟨#[64]⟩ ++ b) 0 a.size rfl (by show _ = 0 + _; omega)
          conv => rhs; rw [← this]
          congr 1; apply ba_ext'; simp [list_app]
        have x2 : (a ++ ⟨#[64]⟩ ++ b).extract (a.size + 1) (a ++ ⟨#[64]⟩ ++ b).size = b := by
          have := ext_mid (a ++ ⟨#[64]⟩) b ⟨#[]⟩ (a.size + 1) (a ++ ⟨#[64]⟩ ++ b).size (by rw [ByteArray.size_append]; rfl) (by rw [ByteArray.size_append])
          conv => rhs; rw [← this]
          congr 1; apply ba_ext'; simp [list_app]
        have za : a.size ≤ 1000000 := by omega
        have zb : b.size ≤ 1000000 := by omega
        have hadd : IntKind.i64.wrap ((a.size : Int) + 1) = ((a.size + 1 : Nat) : Int) := wrap_i64 (by omega) (by omega) |>.trans (by omega)
        have hpt : ptA (a ++ ⟨#[64]⟩ ++ b) = if (pgA a).2.2.2 = 0 then (if (psA b).2.2.2 = 0 then (((((pgA a).1, (pgA a).2.1), (pgA a).2.2.1), (((psA b).1, (psA b).2.1), (psA b).2.2.1)), 0) else ((((⟨#[]⟩, ⟨#[]⟩), ⟨#[]⟩), ((⟨#[]⟩, ⟨#[]⟩), ⟨#[]⟩)), (psA b).2.2.2)) else ((((⟨#[]⟩, ⟨#[]⟩), ⟨#[]⟩), ((⟨#[]⟩, ⟨#[]⟩), ⟨#[]⟩)), (pgA a).2.2.2) := by
          unfold ptA
          rw [hcut]
          dsimp only
          rw [if_pos ⟨rfl, hasA_no hb⟩]
        clear hk hk2 hn hcut
        generalize a ++ ⟨#[64]⟩ ++ b = s at *
        rcases hra : rp1 a with ⟨o1, o2, rel, has, e⟩
        rcases hrb : rp1 b with ⟨p1, p2, rel2, has2, e2⟩
        cases has
        · have g1 : pgA a = (sNil, sNil, sNil, 5) := by rw [pg_rp, hra]; rfl
          rw [hpt, g1, if_neg (by decide)]
          by_cases h5 : e = 5
          · skip
            refine V_seq ?_; refine V_seq ?_; refine V_region (id := 3) ?_; refine vo_step (ok_move rfl rfl rfl) rfl ?_; refine vo_step (ok_move rfl rfl rfl) rfl ?_; refine vo_step (ok_lenS L rfl rfl rfl rfl) rfl ?_; refine vo_step (ok_lss rfl rfl rfl rfl (decide_eq_false (by omega))) rfl ?_; refine vo_nil ?_; refine N_seq ?_; refine V_false rfl ?_; refine V_exit ?_; refine X_then ?_; refine X_then ?_; refine X_here ?_; refine N_seq ?_; refine V_seq ?_; refine V_seq ?_; refine V_region (id := 8) ?_; refine vo_step (ok_move rfl rfl rfl) rfl ?_; refine vo_step (ok_neq rfl rfl rfl rfl (decide_eq_false (by omega))) rfl ?_; refine vo_nil ?_; refine N_seq ?_; refine V_false rfl ?_; refine V_skip ?_; refine N_seq ?_; refine V_seq ?_; refine V_region (id := 10) ?_; refine vo_step (ok_move rfl rfl rfl) rfl ?_; refine vo_step (ok_move rfl rfl rfl) rfl ?_; refine vo_step (ok_sliceS L (kl := .i64) (pl := 0) 0 a.size rfl rfl rfl rfl rfl ⟨rfl, rfl⟩ (by omega) (by omega) x1) rfl ?_; refine vo_step (ok_callx L rfl rfl (blt_lt rfl) rfl rfl rfl (fun u H hH _ _ => rparse1_ret' hra za hH)) rfl ?_; refine vo_step (ok_move rfl rfl rfl) rfl ?_; refine vo_step (ok_extract rfl rfl rfl rfl) rfl ?_; refine vo_step (ok_extract rfl rfl rfl rfl) rfl ?_; refine vo_step (ok_extract rfl rfl rfl rfl) rfl ?_; refine vo_step (ok_extract rfl rfl rfl rfl) rfl ?_; refine vo_step (ok_alloc L rfl rfl rfl rfl) rfl ?_; refine vo_step (ok_store L rfl rfl rfl rfl rfl rfl rfl rfl) rfl ?_; refine vo_step (ok_assign rfl rfl rfl) rfl ?_; refine vo_step (ok_assign rfl rfl rfl) rfl ?_; refine vo_step (ok_assign rfl rfl rfl) rfl ?_; refine vo_nil ?_; refine N_seq ?_; refine V_seq ?_; refine V_seq ?_; refine V_region (id := 11) ?_; refine vo_step (ok_move rfl rfl rfl) rfl ?_; refine vo_step (ok_neq rfl rfl rfl rfl (decide_eq_false (by omega))) rfl ?_; refine vo_step (ok_move rfl rfl rfl) rfl ?_; refine vo_step (ok_skip rfl (blt_lt rfl) rfl) rfl ?_; refine vo_step (ok_skip rfl (blt_lt rfl) rfl) rfl ?_; refine vo_step (ok_pick rfl rfl rfl rfl) rfl ?_; refine vo_nil ?_; refine N_seq ?_; refine V_false rfl ?_; refine V_skip ?_; refine N_seq ?_; refine V_seq ?_; refine V_seq ?_; refine V_region (id := 13) ?_; refine vo_step (ok_move rfl rfl rfl) rfl ?_; refine vo_step (ok_neq rfl rfl rfl rfl (decide_eq_true (by omega))) rfl ?_; refine vo_nil ?_; refine N_seq ?_; refine V_true rfl ?_; refine V_seq ?_; refine V_region (id := 14) ?_; refine vo_step (ok_build (cs := [_, _, _, _, _, _]) rfl rfl pl52 rfl rfl) rfl ?_; refine vo_step (ok_move rfl rfl rfl) rfl ?_; refine vo_step (ok_store L rfl rfl rfl rfl rfl rfl rfl rfl) rfl ?_; refine vo_step (ok_assign rfl rfl rfl) rfl ?_; refine vo_nil ?_; refine N_seq ?_
            refine V_ret L (rs := [.cell 2 52, .tmp 3]) rfl (fun _ _ h => h) Since.refl fun u H hH hle => ?_
            refine ⟨_, src_own rfl, rfl, ?_⟩
            rw [h5]; rfl
          · refine V_seq ?_; refine V_seq ?_; refine V_region (id := 3) ?_; refine vo_step (ok_move rfl rfl rfl) rfl ?_; refine vo_step (ok_move rfl rfl rfl) rfl ?_; refine vo_step (ok_lenS L rfl rfl rfl rfl) rfl ?_; refine vo_step (ok_lss rfl rfl rfl rfl (decide_eq_false (by omega))) rfl ?_; refine vo_nil ?_; refine N_seq ?_; refine V_false rfl ?_; refine V_exit ?_; refine X_then ?_; refine X_then ?_; refine X_here ?_; refine N_seq ?_; refine V_seq ?_; refine V_seq ?_; refine V_region (id := 8) ?_; refine vo_step (ok_move rfl rfl rfl) rfl ?_; refine vo_step (ok_neq rfl rfl rfl rfl (decide_eq_false (by omega))) rfl ?_; refine vo_nil ?_; refine N_seq ?_; refine V_false rfl ?_; refine V_skip ?_; refine N_seq ?_; refine V_seq ?_; refine V_region (id := 10) ?_; refine vo_step (ok_move rfl rfl rfl) rfl ?_; refine vo_step (ok_move rfl rfl rfl) rfl ?_; refine vo_step (ok_sliceS L (kl := .i64) (pl := 0) 0 a.size rfl rfl rfl rfl rfl ⟨rfl, rfl⟩ (by omega) (by omega) x1) rfl ?_; refine vo_step (ok_callx L rfl rfl (blt_lt rfl) rfl rfl rfl (fun u H hH _ _ => rparse1_ret' hra za hH)) rfl ?_; refine vo_step (ok_move rfl rfl rfl) rfl ?_; refine vo_step (ok_extract rfl rfl rfl rfl) rfl ?_; refine vo_step (ok_extract rfl rfl rfl rfl) rfl ?_; refine vo_step (ok_extract rfl rfl rfl rfl) rfl ?_; refine vo_step (ok_extract rfl rfl rfl rfl) rfl ?_; refine vo_step (ok_alloc L rfl rfl rfl rfl) rfl ?_; refine vo_step (ok_store L rfl rfl rfl rfl rfl rfl rfl rfl) rfl ?_; refine vo_step (ok_assign rfl rfl rfl) rfl ?_; refine vo_step (ok_assign rfl rfl rfl) rfl ?_; refine vo_step (ok_assign rfl rfl rfl) rfl ?_; refine vo_nil ?_; refine N_seq ?_; refine V_seq ?_; refine V_seq ?_; refine V_region (id := 11) ?_; refine vo_step (ok_move rfl rfl rfl) rfl ?_; refine vo_step (ok_neq rfl rfl rfl rfl (decide_eq_true (by omega))) rfl ?_; refine vo_step (ok_move rfl rfl rfl) rfl ?_; refine vo_step (ok_move rfl rfl rfl) rfl ?_; refine vo_step (ok_not rfl rfl rfl rfl) rfl ?_; refine vo_step (ok_pick rfl rfl rfl rfl) rfl ?_; refine vo_nil ?_; refine N_seq ?_; refine V_true rfl ?_; refine V_region (id := 12) ?_; refine vo_step (ok_assign rfl rfl rfl) rfl ?_; refine vo_nil ?_; refine N_seq ?_; refine V_seq ?_; refine V_seq ?_; refine V_region (id := 13) ?_; refine vo_step (ok_move rfl rfl rfl) rfl ?_; refine vo_step (ok_neq rfl rfl rfl rfl (decide_eq_true (by omega))) rfl ?_; refine vo_nil ?_; refine N_seq ?_; refine V_true rfl ?_; refine V_seq ?_; refine V_region (id := 14) ?_; refine vo_step (ok_build (cs := [_, _, _, _, _, _]) rfl rfl pl52 rfl rfl) rfl ?_; refine vo_step (ok_move rfl rfl rfl) rfl ?_; refine vo_step (ok_store L rfl rfl rfl rfl rfl rfl rfl rfl) rfl ?_; refine vo_step (ok_assign rfl rfl rfl) rfl ?_; refine vo_nil ?_; refine N_seq ?_
            refine V_ret L (rs := [.cell 2 52, .tmp 3]) rfl (fun _ _ h => h) Since.refl fun u H hH hle => ?_
            exact ⟨_, src_own rfl, rfl, rfl⟩
        · by_cases h0 : e = 0
          · have g1 : pgA a = (o1, o2, rel, 0) := by rw [pg_rp, hra]; dsimp only; rw [if_neg (by decide), if_pos h0]
            by_cases h02 : e2 = 0
            · have g2 : psA b = (p1, p2, rel2, 0) := by rw [ps_rp, hrb]; dsimp only; rw [if_pos h02]
              rw [hpt, g1, g2, if_pos rfl, if_pos rfl]
              refine V_seq ?_; refine V_seq ?_; refine V_region (id := 3) ?_; refine vo_step (ok_move rfl rfl rfl) rfl ?_; refine vo_step (ok_move rfl rfl rfl) rfl ?_; refine vo_step (ok_lenS L rfl rfl rfl rfl) rfl ?_; refine vo_step (ok_lss rfl rfl rfl rfl (decide_eq_false (by omega))) rfl ?_; refine vo_nil ?_; refine N_seq ?_; refine V_false rfl ?_; refine V_exit ?_; refine X_then ?_; refine X_then ?_; refine X_here ?_; refine N_seq ?_; refine V_seq ?_; refine V_seq ?_; refine V_region (id := 8) ?_; refine vo_step (ok_move rfl rfl rfl) rfl ?_; refine vo_step (ok_neq rfl rfl rfl rfl (decide_eq_false (by omega))) rfl ?_; refine vo_nil ?_; refine N_seq ?_; refine V_false rfl ?_; refine V_skip ?_; refine N_seq ?_; refine V_seq ?_; refine V_region (id := 10) ?_; refine vo_step (ok_move rfl rfl rfl) rfl ?_; refine vo_step (ok_move rfl rfl rfl) rfl ?_; refine vo_step (ok_sliceS L (kl := .i64) (pl := 0) 0 a.size rfl rfl rfl rfl rfl ⟨rfl, rfl⟩ (by omega) (by omega) x1) rfl ?_; refine vo_step (ok_callx L rfl rfl (blt_lt rfl) rfl rfl rfl (fun u H hH _ _ => rparse1_ret' hra za hH)) rfl ?_; refine vo_step (ok_move rfl rfl rfl) rfl ?_; refine vo_step (ok_extract rfl rfl rfl rfl) rfl ?_; refine vo_step (ok_extract rfl rfl rfl rfl) rfl ?_; refine vo_step (ok_extract rfl rfl rfl rfl) rfl ?_; refine vo_step (ok_extract rfl rfl rfl rfl) rfl ?_; refine vo_step (ok_alloc L rfl rfl rfl rfl) rfl ?_; refine vo_step (ok_store L rfl rfl rfl rfl rfl rfl rfl rfl) rfl ?_; refine vo_step (ok_assign rfl rfl rfl) rfl ?_; refine vo_step (ok_assign rfl rfl rfl) rfl ?_; refine vo_step (ok_assign rfl rfl rfl) rfl ?_; refine vo_nil ?_; refine N_seq ?_; refine V_seq ?_; refine V_seq ?_; refine V_region (id := 11) ?_; refine vo_step (ok_move rfl rfl rfl) rfl ?_; refine vo_step (ok_neq rfl rfl rfl rfl (decide_eq_true (by omega))) rfl ?_; refine vo_step (ok_move rfl rfl rfl) rfl ?_; refine vo_step (ok_move rfl rfl rfl) rfl ?_; refine vo_step (ok_not rfl rfl rfl rfl) rfl ?_; refine vo_step (ok_pick rfl rfl rfl rfl) rfl ?_; refine vo_nil ?_; refine N_seq ?_; refine V_false rfl ?_; refine V_skip ?_; refine N_seq ?_; refine V_seq ?_; refine V_seq ?_; refine V_region (id := 13) ?_; refine vo_step (ok_move rfl rfl rfl) rfl ?_; refine vo_step (ok_neq rfl rfl rfl rfl (decide_eq_false (by omega))) rfl ?_; refine vo_nil ?_; refine N_seq ?_; refine V_false rfl ?_; refine V_skip ?_; refine N_seq ?_; refine V_seq ?_; refine V_region (id := 15) ?_; refine vo_step (ok_move rfl rfl rfl) rfl ?_; refine vo_step (ok_move rfl rfl rfl) rfl ?_; refine vo_step (ok_add rfl rfl rfl rfl (by assumption)) rfl ?_; refine vo_step (ok_sliceS L (kh := .i64) (ph := 0) (a.size + 1) _ rfl rfl rfl rfl ⟨rfl, rfl⟩ rfl (by omega) (by omega) x2) rfl ?_; refine vo_step (ok_callx L rfl rfl (blt_lt rfl) rfl rfl rfl (fun u H hH _ _ => rparse1_ret' hrb zb hH)) rfl ?_; refine vo_step (ok_move rfl rfl rfl) rfl ?_; refine vo_step (ok_extract rfl rfl rfl rfl) rfl ?_; refine vo_step (ok_extract rfl rfl rfl rfl) rfl ?_; refine vo_step (ok_extract rfl rfl rfl rfl) rfl ?_; refine vo_step (ok_extract rfl rfl rfl rfl) rfl ?_; refine vo_step (ok_alloc L rfl rfl rfl rfl) rfl ?_; refine vo_step (ok_store L rfl rfl rfl rfl rfl rfl rfl rfl) rfl ?_; refine vo_step (ok_assign rfl rfl rfl) rfl ?_; refine vo_step (ok_assign rfl rfl rfl) rfl ?_; refine vo_step (ok_assign rfl rfl rfl) rfl ?_; refine vo_nil ?_; refine N_seq ?_; refine V_seq ?_; refine V_seq ?_; refine V_region (id := 16) ?_; refine vo_step (ok_move rfl rfl rfl) rfl ?_; refine vo_step (ok_neq rfl rfl rfl rfl (decide_eq_false (by omega))) rfl ?_; refine vo_nil ?_; refine N_seq ?_; refine V_false rfl ?_; refine V_skip ?_; refine N_seq ?_; refine V_seq ?_; refine V_region (id := 18) ?_; refine vo_step (ok_loadA L (vs := [_, _]) (src_own rfl) rfl rfl rfl rfl ⟨_, rfl⟩) rfl ?_; refine vo_step (ok_move rfl rfl rfl) rfl ?_; refine vo_step (ok_build (cs := [_, _, _]) rfl rfl pl49 rfl rfl) rfl ?_; refine vo_step (ok_loadA L (vs := [_, _]) (src_own rfl) rfl rfl rfl rfl ⟨_, rfl⟩) rfl ?_; refine vo_step (ok_move rfl rfl rfl) rfl ?_; refine vo_step (ok_build (cs := [_, _, _]) rfl rfl pl50 rfl rfl) rfl ?_; refine vo_step (ok_build (cs := [_, _, _, _, _, _]) rfl rfl pl52 rfl rfl) rfl ?_; refine vo_step (ok_store L rfl rfl rfl rfl rfl rfl rfl rfl) rfl ?_; refine vo_step (ok_assign rfl rfl rfl) rfl ?_; refine vo_nil ?_; refine N_seq ?_
              refine V_ret L (rs := [.cell 2 52, .tmp 3]) rfl (fun _ _ h => h) Since.refl fun u H hH hle => ?_
              exact ⟨_, src_own rfl, rfl, rfl⟩
            · have g2 : psA b = (sNil, sNil, sNil, e2) := by rw [ps_rp, hrb]; dsimp only; rw [if_neg h02]
              rw [hpt, g1, g2, if_pos rfl, if_neg h02]
              refine V_seq ?_; refine V_seq ?_; refine V_region (id := 3) ?_; refine vo_step (ok_move rfl rfl rfl) rfl ?_; refine vo_step (ok_move rfl rfl rfl) rfl ?_; refine vo_step (ok_lenS L rfl rfl rfl rfl) rfl ?_; refine vo_step (ok_lss rfl rfl rfl rfl (decide_eq_false (by omega))) rfl ?_; refine vo_nil ?_; refine N_seq ?_; refine V_false rfl ?_; refine V_exit ?_; refine X_then ?_; refine X_then ?_; refine X_here ?_; refine N_seq ?_; refine V_seq ?_; refine V_seq ?_; refine V_region (id := 8) ?_; refine vo_step (ok_move rfl rfl rfl) rfl ?_; refine vo_step (ok_neq rfl rfl rfl rfl (decide_eq_false (by omega))) rfl ?_; refine vo_nil ?_; refine N_seq ?_; refine V_false rfl ?_; refine V_skip ?_; refine N_seq ?_; refine V_seq ?_; refine V_region (id := 10) ?_; refine vo_step (ok_move rfl rfl rfl) rfl ?_; refine vo_step (ok_move rfl rfl rfl) rfl ?_; refine vo_step (ok_sliceS L (kl := .i64) (pl := 0) 0 a.size rfl rfl rfl rfl rfl ⟨rfl, rfl⟩ (by omega) (by omega) x1) rfl ?_; refine vo_step (ok_callx L rfl rfl (blt_lt rfl) rfl rfl rfl (fun u H hH _ _ => rparse1_ret' hra za hH)) rfl ?_; refine vo_step (ok_move rfl rfl rfl) rfl ?_; refine vo_step (ok_extract rfl rfl rfl rfl) rfl ?_; refine vo_step (ok_extract rfl rfl rfl rfl) rfl ?_; refine vo_step (ok_extract rfl rfl rfl rfl) rfl ?_; refine vo_step (ok_extract rfl rfl rfl rfl) rfl ?_; refine vo_step (ok_alloc L rfl rfl rfl rfl) rfl ?_; refine vo_step (ok_store L rfl rfl rfl rfl rfl rfl rfl rfl) rfl ?_; refine vo_step (ok_assign rfl rfl rfl) rfl ?_; refine vo_step (ok_assign rfl rfl rfl) rfl ?_; refine vo_step (ok_assign rfl rfl rfl) rfl ?_; refine vo_nil ?_; refine N_seq ?_; refine V_seq ?_; refine V_seq ?_; refine V_region (id := 11) ?_; refine vo_step (ok_move rfl rfl rfl) rfl ?_; refine vo_step (ok_neq rfl rfl rfl rfl (decide_eq_true (by omega))) rfl ?_; refine vo_step (ok_move rfl rfl rfl) rfl ?_; refine vo_step (ok_move rfl rfl rfl) rfl ?_; refine vo_step (ok_not rfl rfl rfl rfl) rfl ?_; refine vo_step (ok_pick rfl rfl rfl rfl) rfl ?_; refine vo_nil ?_; refine N_seq ?_; refine V_false rfl ?_; refine V_skip ?_; refine N_seq ?_; refine V_seq ?_; refine V_seq ?_; refine V_region (id := 13) ?_; refine vo_step (ok_move rfl rfl rfl) rfl ?_; refine vo_step (ok_neq rfl rfl rfl rfl (decide_eq_false (by omega))) rfl ?_; refine vo_nil ?_; refine N_seq ?_; refine V_false rfl ?_; refine V_skip ?_; refine N_seq ?_; refine V_seq ?_; refine V_region (id := 15) ?_; refine vo_step (ok_move rfl rfl rfl) rfl ?_; refine vo_step (ok_move rfl rfl rfl) rfl ?_; refine vo_step (ok_add rfl rfl rfl rfl (by assumption)) rfl ?_; refine vo_step (ok_sliceS L (kh := .i64) (ph := 0) (a.size + 1) _ rfl rfl rfl rfl ⟨rfl, rfl⟩ rfl (by omega) (by omega) x2) rfl ?_; refine vo_step (ok_callx L rfl rfl (blt_lt rfl) rfl rfl rfl (fun u H hH _ _ => rparse1_ret' hrb zb hH)) rfl ?_; refine vo_step (ok_move rfl rfl rfl) rfl ?_; refine vo_step (ok_extract rfl rfl rfl rfl) rfl ?_; refine vo_step (ok_extract rfl rfl rfl rfl) rfl ?_; refine vo_step (ok_extract rfl rfl rfl rfl) rfl ?_; refine vo_step (ok_extract rfl rfl rfl rfl) rfl ?_; refine vo_step (ok_alloc L rfl rfl rfl rfl) rfl ?_; refine vo_step (ok_store L rfl rfl rfl rfl rfl rfl rfl rfl) rfl ?_; refine vo_step (ok_assign rfl rfl rfl) rfl ?_; refine vo_step (ok_assign rfl rfl rfl) rfl ?_; refine vo_step (ok_assign rfl rfl rfl) rfl ?_; refine vo_nil ?_; refine N_seq ?_; refine V_seq ?_; refine V_seq ?_; refine V_region (id := 16) ?_; refine vo_step (ok_move rfl rfl rfl) rfl ?_; refine vo_step (ok_neq rfl rfl rfl rfl (decide_eq_true (by omega))) rfl ?_; refine vo_nil ?_; refine N_seq ?_; refine V_true rfl ?_; refine V_seq ?_; refine V_region (id := 17) ?_; refine vo_step (ok_build (cs := [_, _, _, _, _, _]) rfl rfl pl52 rfl rfl) rfl ?_; refine vo_step (ok_move rfl rfl rfl) rfl ?_; refine vo_step (ok_store L rfl rfl rfl rfl rfl rfl rfl rfl) rfl ?_; refine vo_step (ok_assign rfl rfl rfl) rfl ?_; refine vo_nil ?_; refine N_seq ?_
              refine V_ret L (rs := [.cell 2 52, .tmp 3]) rfl (fun _ _ h => h) Since.refl fun u H hH hle => ?_
              exact ⟨_, src_own rfl, rfl, rfl⟩
          · have g1 : pgA a = (sNil, sNil, sNil, e) := by rw [pg_rp, hra]; dsimp only; rw [if_neg (by decide), if_neg h0]
            rw [hpt, g1, if_neg h0]
            by_cases h5 : e = 5
            · refine V_seq ?_; refine V_seq ?_; refine V_region (id := 3) ?_; refine vo_step (ok_move rfl rfl rfl) rfl ?_; refine vo_step (ok_move rfl rfl rfl) rfl ?_; refine vo_step (ok_lenS L rfl rfl rfl rfl) rfl ?_; refine vo_step (ok_lss rfl rfl rfl rfl (decide_eq_false (by omega))) rfl ?_; refine vo_nil ?_; refine N_seq ?_; refine V_false rfl ?_; refine V_exit ?_; refine X_then ?_; refine X_then ?_; refine X_here ?_; refine N_seq ?_; refine V_seq ?_; refine V_seq ?_; refine V_region (id := 8) ?_; refine vo_step (ok_move rfl rfl rfl) rfl ?_; refine vo_step (ok_neq rfl rfl rfl rfl (decide_eq_false (by omega))) rfl ?_; refine vo_nil ?_; refine N_seq ?_; refine V_false rfl ?_; refine V_skip ?_; refine N_seq ?_; refine V_seq ?_; refine V_region (id := 10) ?_; refine vo_step (ok_move rfl rfl rfl) rfl ?_; refine vo_step (ok_move rfl rfl rfl) rfl ?_; refine vo_step (ok_sliceS L (kl := .i64) (pl := 0) 0 a.size rfl rfl rfl rfl rfl ⟨rfl, rfl⟩ (by omega) (by omega) x1) rfl ?_; refine vo_step (ok_callx L rfl rfl (blt_lt rfl) rfl rfl rfl (fun u H hH _ _ => rparse1_ret' hra za hH)) rfl ?_; refine vo_step (ok_move rfl rfl rfl) rfl ?_; refine vo_step (ok_extract rfl rfl rfl rfl) rfl ?_; refine vo_step (ok_extract rfl rfl rfl rfl) rfl ?_; refine vo_step (ok_extract rfl rfl rfl rfl) rfl ?_; refine vo_step (ok_extract rfl rfl rfl rfl) rfl ?_; refine vo_step (ok_alloc L rfl rfl rfl rfl) rfl ?_; refine vo_step (ok_store L rfl rfl rfl rfl rfl rfl rfl rfl) rfl ?_; refine vo_step (ok_assign rfl rfl rfl) rfl ?_; refine vo_step (ok_assign rfl rfl rfl) rfl ?_; refine vo_step (ok_assign rfl rfl rfl) rfl ?_; refine vo_nil ?_; refine N_seq ?_; refine V_seq ?_; refine V_seq ?_; refine V_region (id := 11) ?_; refine vo_step (ok_move rfl rfl rfl) rfl ?_; refine vo_step (ok_neq rfl rfl rfl rfl (decide_eq_false (by omega))) rfl ?_; refine vo_step (ok_move rfl rfl rfl) rfl ?_; refine vo_step (ok_skip rfl (blt_lt rfl) rfl) rfl ?_; refine vo_step (ok_skip rfl (blt_lt rfl) rfl) rfl ?_; refine vo_step (ok_pick rfl rfl rfl rfl) rfl ?_; refine vo_nil ?_; refine N_seq ?_; refine V_false rfl ?_; refine V_skip ?_; refine N_seq ?_; refine V_seq ?_; refine V_seq ?_; refine V_region (id := 13) ?_; refine vo_step (ok_move rfl rfl rfl) rfl ?_; refine vo_step (ok_neq rfl rfl rfl rfl (decide_eq_true (by omega))) rfl ?_; refine vo_nil ?_; refine N_seq ?_; refine V_true rfl ?_; refine V_seq ?_; refine V_region (id := 14) ?_; refine vo_step (ok_build (cs := [_, _, _, _, _, _]) rfl rfl pl52 rfl rfl) rfl ?_; refine vo_step (ok_move rfl rfl rfl) rfl ?_; refine vo_step (ok_store L rfl rfl rfl rfl rfl rfl rfl rfl) rfl ?_; refine vo_step (ok_assign rfl rfl rfl) rfl ?_; refine vo_nil ?_; refine N_seq ?_
              refine V_ret L (rs := [.cell 2 52, .tmp 3]) rfl (fun _ _ h => h) Since.refl fun u H hH hle => ?_
              exact ⟨_, src_own rfl, rfl, rfl⟩
            · refine V_seq ?_; refine V_seq ?_; refine V_region (id := 3) ?_; refine vo_step (ok_move rfl rfl rfl) rfl ?_; refine vo_step (ok_move rfl rfl rfl) rfl ?_; refine vo_step (ok_lenS L rfl rfl rfl rfl) rfl ?_; refine vo_step (ok_lss rfl rfl rfl rfl (decide_eq_false (by omega))) rfl ?_; refine vo_nil ?_; refine N_seq ?_; refine V_false rfl ?_; refine V_exit ?_; refine X_then ?_; refine X_then ?_; refine X_here ?_; refine N_seq ?_; refine V_seq ?_; refine V_seq ?_; refine V_region (id := 8) ?_; refine vo_step (ok_move rfl rfl rfl) rfl ?_; refine vo_step (ok_neq rfl rfl rfl rfl (decide_eq_false (by omega))) rfl ?_; refine vo_nil ?_; refine N_seq ?_; refine V_false rfl ?_; refine V_skip ?_; refine N_seq ?_; refine V_seq ?_; refine V_region (id := 10) ?_; refine vo_step (ok_move rfl rfl rfl) rfl ?_; refine vo_step (ok_move rfl rfl rfl) rfl ?_; refine vo_step (ok_sliceS L (kl := .i64) (pl := 0) 0 a.size rfl rfl rfl rfl rfl ⟨rfl, rfl⟩ (by omega) (by omega) x1) rfl ?_; refine vo_step (ok_callx L rfl rfl (blt_lt rfl) rfl rfl rfl (fun u H hH _ _ => rparse1_ret' hra za hH)) rfl ?_; refine vo_step (ok_move rfl rfl rfl) rfl ?_; refine vo_step (ok_extract rfl rfl rfl rfl) rfl ?_; refine vo_step (ok_extract rfl rfl rfl rfl) rfl ?_; refine vo_step (ok_extract rfl rfl rfl rfl) rfl ?_; refine vo_step (ok_extract rfl rfl rfl rfl) rfl ?_; refine vo_step (ok_alloc L rfl rfl rfl rfl) rfl ?_; refine vo_step (ok_store L rfl rfl rfl rfl rfl rfl rfl rfl) rfl ?_; refine vo_step (ok_assign rfl rfl rfl) rfl ?_; refine vo_step (ok_assign rfl rfl rfl) rfl ?_; refine vo_step (ok_assign rfl rfl rfl) rfl ?_; refine vo_nil ?_; refine N_seq ?_; refine V_seq ?_; refine V_seq ?_; refine V_region (id := 11) ?_; refine vo_step (ok_move rfl rfl rfl) rfl ?_; refine vo_step (ok_neq rfl rfl rfl rfl (decide_eq_true (by omega))) rfl ?_; refine vo_step (ok_move rfl rfl rfl) rfl ?_; refine vo_step (ok_move rfl rfl rfl) rfl ?_; refine vo_step (ok_not rfl rfl rfl rfl) rfl ?_; refine vo_step (ok_pick rfl rfl rfl rfl) rfl ?_; refine vo_nil ?_; refine N_seq ?_; refine V_false rfl ?_; refine V_skip ?_; refine N_seq ?_; refine V_seq ?_; refine V_seq ?_; refine V_region (id := 13) ?_; refine vo_step (ok_move rfl rfl rfl) rfl ?_; refine vo_step (ok_neq rfl rfl rfl rfl (decide_eq_true (by omega))) rfl ?_; refine vo_nil ?_; refine N_seq ?_; refine V_true rfl ?_; refine V_seq ?_; refine V_region (id := 14) ?_; refine vo_step (ok_build (cs := [_, _, _, _, _, _]) rfl rfl pl52 rfl rfl) rfl ?_; refine vo_step (ok_move rfl rfl rfl) rfl ?_; refine vo_step (ok_store L rfl rfl rfl rfl rfl rfl rfl rfl) rfl ?_; refine vo_step (ok_assign rfl rfl rfl) rfl ?_; refine vo_nil ?_; refine N_seq ?_
              refine V_ret L (rs := [.cell 2 52, .tmp 3]) rfl (fun _ _ h => h) Since.refl fun u H hH hle => ?_
              exact ⟨_, src_own rfl, rfl, rfl⟩
    · have hpt : ptA s = ((((⟨#[]⟩, ⟨#[]⟩), ⟨#[]⟩), ((⟨#[]⟩, ⟨#[]⟩), ⟨#[]⟩)), 5) := by
        unfold ptA
        rw [if_neg]
        rintro ⟨hc1, hc2⟩
        rcases split_b s 64 with h64 | ⟨a, b, rfl, ha⟩
        · rw [cutA_no h64] at hc1; cases hc1
        · rw [cutA_mid ha] at hc2
          by_cases hb : noB b 64
          · apply h1
            rw [hn, mid_list, List.count_append, List.count_cons_self, List.count_eq_zero_of_not_mem ha, List.count_eq_zero_of_not_mem hb]
          · rw [show hasA b 64 = true from hasA_yes hb] at hc2
            cases hc2
      rw [hpt]
      refine V_seq ?_; refine V_seq ?_; refine V_region (id := 3) ?_; refine vo_step (ok_move rfl rfl rfl) rfl ?_; refine vo_step (ok_move rfl rfl rfl) rfl ?_; refine vo_step (ok_lenS L rfl rfl rfl rfl) rfl ?_; refine vo_step (ok_lss rfl rfl rfl rfl (decide_eq_false (by omega))) rfl ?_; refine vo_nil ?_; refine N_seq ?_; refine V_false rfl ?_; refine V_exit ?_; refine X_then ?_; refine X_then ?_; refine X_here ?_; refine N_seq ?_; refine V_seq ?_; refine V_seq ?_; refine V_region (id := 8) ?_; refine vo_step (ok_move rfl rfl rfl) rfl ?_; refine vo_step (ok_neq rfl rfl rfl rfl (decide_eq_true (by omega))) rfl ?_; refine vo_nil ?_; refine N_seq ?_; refine V_true rfl ?_; refine V_seq ?_; refine V_region (id := 9) ?_; refine vo_step (ok_build (cs := [_, _, _, _, _, _]) rfl rfl pl52 rfl rfl) rfl ?_; refine vo_step (ok_store L rfl rfl rfl rfl rfl rfl rfl rfl) rfl ?_; refine vo_step (ok_assign rfl rfl rfl) rfl ?_; refine vo_nil ?_; refine N_seq ?_
      refine V_ret L (rs := [.cell 2 52, .tmp 3]) rfl (fun _ _ h => h) Since.refl fun u H hH hle => ?_
      exact ⟨_, src_own rfl, rfl, rfl⟩
end Go.V.L2
/- The kit's floor of sorting: what a slot owns is sorted, by the library's contract. -/
namespace Go.V
open Go.Proofs Go.RowKit
section
variable {α : Type} [Inhabited α] {enc : α → List Value} {k : Nat}
end
section
variable {P : Program} {F : Fr} {B : Heap} {O : Boxes} {n : Nat} {ops : Array Oper} {κ : Kap} {ty : TypeId} {pos : String} {aft : Array Edge} {g : Option (Nat × Bool)}
end
end Go.V
/- Sorted lists once more: equal neighbours are taken out; where a thing is. Plain laws. -/
namespace Go.V
open Go.Proofs Go.RowKit
section
variable {α : Type} [DecidableEq α]
/-- Of equal neighbours one stays. -/
def dd : List α → List α
  | [] => []
  | [x] => [x]
  | x :: y :: l => if x = y then dd (y :: l) else x :: dd (y :: l)
variable {c : α → α → Int}
end
section
variable {α : Type} {c : α → α → Int}
end
end Go.V
/- Tuples (chapter 2): what was read has its text; texts of valid tuples are read again. Plain laws. -/
namespace Go.V.L2
open Go.Proofs Go.RowKit Go.V
end Go.V.L2
/- Filters (chapter 3): plain laws. -/
namespace Go.V.L3
open Go.Proofs Go.RowKit Go.V Go.V.L2
/-- A filter: its space, ID and relation, its subject, and whether it has one. -/
abbrev FT := Str3 × Str3 × Bool
/-! ### orders that do not part everything -/
structure WOrd {α : Type} (c : α → α → Int) : Prop where
  refl : ∀ a, c a a = 0
  anti : ∀ a b, c b a = - c a b
  trans : ∀ a b d, c a b ≤ 0 → c b d ≤ 0 → c a d ≤ 0
theorem WOrd.zero {α : Type} : WOrd (fun _ _ : α => (0 : Int)) := ⟨fun _ => rfl, fun _ _ => rfl, fun _ _ _ _ _ => Int.le_refl _⟩
theorem WOrd.lex {α β : Type} {c : α → α → Int} {e : β → β → Int} (h : WOrd c) (k : WOrd e) : WOrd (lexC c e) where
  refl a := by unfold lexC; rw [orL2, h.refl, if_pos rfl, k.refl]
  anti a b := by
    unfold lexC
    rw [orL2, orL2]
    have h1 := h.anti a.1 b.1
    have h2 := k.anti a.2 b.2
    by_cases e1 : c a.1 b.1 = 0
    · rw [if_pos e1, if_pos (by omega)]; exact h2
    · rw [if_neg e1, if_neg (by omega)]; exact h1
  trans a b d h1 h2 := by
    unfold lexC at *
    rw [orL2] at *
    have a1 := h.anti a.1 b.1
    have a2 := h.anti b.1 d.1
    have a3 := h.anti a.1 d.1
    have t1 := h.trans a.1 b.1 d.1
    have t2 := h.trans d.1 b.1 a.1
    have t3 := h.trans b.1 d.1 a.1
    have t4 := h.trans d.1 a.1 b.1
    have t5 := k.trans a.2 b.2 d.2
    by_cases e1 : c a.1 b.1 = 0
    · rw [if_pos e1] at h1
      by_cases e2 : c b.1 d.1 = 0
      · rw [if_pos e2] at h2
        rw [if_pos (by have := t1 (by omega) (by omega); have := t2 (by omega) (by omega); omega)]
        exact t5 h1 h2
      · rw [if_neg e2] at h2
        have e3 : c a.1 d.1 ≠ 0 := fun e => by have := t4 (by omega) (by omega); omega
        rw [if_neg e3]
        exact t1 (by omega) h2
    · rw [if_neg e1] at h1
      by_cases e2 : c b.1 d.1 = 0
      · rw [if_pos e2] at h2
        have e3 : c a.1 d.1 ≠ 0 := fun e => by have := t3 (by omega) (by omega); omega
        rw [if_neg e3]
        exact t1 h1 (by omega)
      · rw [if_neg e2] at h2
        have e3 : c a.1 d.1 ≠ 0 := fun e => by have := t4 (by omega) (by omega); omega
        rw [if_neg e3]
        exact t1 h1 h2
end Go.V.L3
/- Filters (chapter 3): what is selected, and what both take. Plain laws. -/
namespace Go.V.L3
open Go.Proofs Go.RowKit Go.V Go.V.L2
/-! ### what both take -/
end Go.V.L3
/- The walks of the definition of tuples (chapter 2): sorted lists. -/
namespace Go.V.L2
open Go.Proofs Go.RowKit Go.V
def sortT (l : List U) : List U := sortS cmpT [] l
/-- Which ones are among the answer. -/
def pickT (x y : List U) (a c b : Bool) (t : U) : Bool := (decide (t ∈ x) && !decide (t ∈ y) && a) || (decide (t ∈ x) && decide (t ∈ y) && c) || (!decide (t ∈ x) && decide (t ∈ y) && b)
def someT (x y : List U) (a c b : Bool) : List U := sortT ((x ++ y).filter (pickT x y a c b))
theorem sortT_length (l : List U) : (sortT l).length ≤ l.length := by
  have := sortS_length (c := cmpT) l []
  rw [List.length_nil, Nat.zero_add] at this
  exact this
theorem ups_snoc2 {κ : Kap} {s : Nat} {r : List U} {t y : U} (h : κ s = some (.own (SlR tyU 6 (r.length + 1 + 1) ((r.flatMap ucs ++ ucs t) ++ ucs y)))) : κ s = some (.own (SlR tyU 6 (r ++ [t] ++ [y]).length ((r ++ [t] ++ [y]).flatMap ucs))) := by
  rw [h, List.flatMap_append, List.flatMap_append, List.length_append, List.length_append]; simp
theorem sortS_cons (c : U → U → Int) (o : List U) (t : U) (r : List U) : sortS c o (t :: r) = sortS c (if t ∈ o then o else insS c t o) r := by
  simp only [sortS]
  congr 1
  by_cases h : t ∈ o
  · rw [if_pos h, if_pos h]
  · rw [if_neg h, if_neg h]
attribute [local irreducible] V N X VO Par StepOK Has Ret RetL Src
set_option maxHeartbeats 4000000 in
theorem rsorted_ret {l : List U} {fu : Bool} (hl : l.length ≤ 1000000) (hz : ∀ t ∈ l, TZ t) {v : Value} {w : World} {B : Heap} (hB : B.Le (hp w)) (hv : US l fu v B) :
    Ret Try.prog 54 [v] w B (US (sortT l) false) := by
  refine V_enter Try.func54 rfl Try.ntmps54 (Nat.le_of_ble_eq_true rfl) hB ?_
  refine V_seen 0 (US l fu) rfl SlV.mono hv ?_
  refine V_seq ?_; refine V_region (id := 0) ?_; refine vo_step (ok_assign rfl rfl rfl) rfl ?_; refine vo_nil ?_; refine N_seq ?_; refine V_seq ?_; refine V_region (id := 1) ?_; refine vo_step (ok_assign rfl rfl rfl) rfl ?_; refine vo_nil ?_; refine N_seq ?_; refine V_seq ?_; refine V_seq ?_
  refine V_seen 3 (US [] false) rfl SlV.mono SlV.nil ?_
  refine V_region (id := 2) ?_; refine vo_step (ok_assign rfl rfl rfl) rfl ?_; refine vo_nil ?_; refine N_seq ?_; refine V_block ?_
  refine V_loop (fun s : Nat × List U => [(0, .sat (US l fu)), (3, .sat (US s.2 false)), (4, .is (.int .i64 s.1))])
    (fun s => s.1 ≤ l.length ∧ s.2.length ≤ s.1 ∧ (∀ t ∈ s.2, TZ t) ∧ sortT l = sortS cmpT s.2 (l.drop s.1)) (fun s => l.length - s.1) (0, []) ⟨Nat.zero_le _, Nat.le_refl _, fun t h => (by cases h), rfl⟩ ⟨rfl, rfl, rfl, trivial⟩ ?_
  rintro ⟨i, o⟩ ⟨hi, ho, hoz, he⟩
  dsimp only at hi ho hoz he ⊢
  by_cases hlt : i < l.length
  · obtain ⟨t, ht⟩ := get_some hlt
    have hct := us_at ht
    have zt := hz t (List.mem_of_getElem? ht)
    have hol : o.length ≤ 1000000 := by omega
    rw [drop_g ht, sortS_cons] at he
    by_cases hin : t ∈ o
    · rw [if_pos hin] at he
      have h1 : (if t ∈ o then 1 else 0 : Int) = 1 := if_pos hin
      refine V_seq ?_; refine V_seq ?_; refine V_region (id := 3) ?_; refine vo_step (ok_move rfl rfl rfl) rfl ?_; refine vo_step (ok_moves' rfl rfl rfl) rfl ?_; refine vo_step (ok_lenV L rfl rfl rfl rfl) rfl ?_; refine vo_step (ok_lss rfl rfl rfl rfl (decide_eq_true (by omega))) rfl ?_; refine vo_nil ?_; refine N_seq ?_; refine V_true rfl ?_; refine V_skip ?_; refine N_seq ?_; refine V_seq ?_; refine V_block ?_; refine V_seq ?_; refine V_seq ?_; refine V_region (id := 5) ?_; refine vo_step (ok_moves' rfl rfl rfl) rfl ?_; refine vo_step (ok_moves' rfl rfl rfl) rfl ?_; refine vo_step (ok_move rfl rfl rfl) rfl ?_; refine vo_step (ok_indexV L _ rfl rfl rfl rfl rfl rfl rfl (by first | omega | decide) (by assumption)) rfl ?_; refine vo_step (ok_loadPA L (vs := [_, _, _, _, _, _]) rfl rfl rfl rfl rfl ⟨_, rfl⟩) rfl ?_; refine vo_step (ok_callx L rfl rfl (blt_lt rfl) rfl rfl rfl (fun u H hH _ _ v1 h2 => rin_ret hol h1 hH h2)) rfl ?_; refine vo_step (ok_eql rfl rfl rfl rfl (decide_eq_true (by omega))) rfl ?_; refine vo_nil ?_; refine N_seq ?_; refine V_true rfl ?_; refine V_exit ?_; refine X_then ?_; refine X_here ?_; refine N_seq ?_; refine V_region (id := 4) ?_; refine vo_step (ok_move rfl rfl rfl) rfl ?_; refine vo_step (ok_add rfl rfl rfl rfl (wrap_i64 (by omega) (by omega))) rfl ?_; refine vo_step (ok_assign rfl rfl rfl) rfl ?_; refine vo_nil ?_
      exact N_round (x := (i, o)) (i + 1, o) ⟨hlt, by dsimp only; omega, hoz, he⟩ (by dsimp only; omega) ⟨rfl, rfl, rfl, trivial⟩
    · rw [if_neg hin] at he
      have h1 : (if t ∈ o then 1 else 0 : Int) = 0 := if_neg hin
      refine V_seq ?_; refine V_seq ?_; refine V_region (id := 3) ?_; refine vo_step (ok_move rfl rfl rfl) rfl ?_; refine vo_step (ok_moves' rfl rfl rfl) rfl ?_; refine vo_step (ok_lenV L rfl rfl rfl rfl) rfl ?_; refine vo_step (ok_lss rfl rfl rfl rfl (decide_eq_true (by omega))) rfl ?_; refine vo_nil ?_; refine N_seq ?_; refine V_true rfl ?_; refine V_skip ?_; refine N_seq ?_; refine V_seq ?_; refine V_block ?_; refine V_seq ?_; refine V_seq ?_; refine V_region (id := 5) ?_; refine vo_step (ok_moves' rfl rfl rfl) rfl ?_; refine vo_step (ok_moves' rfl rfl rfl) rfl ?_; refine vo_step (ok_move rfl rfl rfl) rfl ?_; refine vo_step (ok_indexV L _ rfl rfl rfl rfl rfl rfl rfl (by first | omega | decide) (by assumption)) rfl ?_; refine vo_step (ok_loadPA L (vs := [_, _, _, _, _, _]) rfl rfl rfl rfl rfl ⟨_, rfl⟩) rfl ?_; refine vo_step (ok_callx L rfl rfl (blt_lt rfl) rfl rfl rfl (fun u H hH _ _ v1 h2 => rin_ret hol h1 hH h2)) rfl ?_; refine vo_step (ok_eql rfl rfl rfl rfl (decide_eq_false (by omega))) rfl ?_; refine vo_nil ?_; refine N_seq ?_; refine V_false rfl ?_; refine V_skip ?_; refine N_seq ?_; refine V_seq ?_; refine V_region (id := 6) ?_; refine vo_step (ok_assign rfl rfl rfl) rfl ?_; refine vo_nil ?_; refine N_seq ?_; refine V_seq ?_
      refine V_nilR 5 tyU 6 rfl ?_
      refine V_region (id := 7) ?_; refine vo_step (ok_assign rfl rfl rfl) rfl ?_; refine vo_nil ?_; refine N_seq ?_; refine V_seq ?_; refine V_seq ?_; refine V_region (id := 8) ?_; refine vo_step (ok_assign rfl rfl rfl) rfl ?_; refine vo_nil ?_; refine N_seq ?_; refine V_block ?_
      refine V_loop (fun s : Nat × List U × Bool => [(0, .sat (US l fu)), (3, .sat (US o false)), (4, .is (.int .i64 i)), (5, .own (SlR tyU 6 s.2.1.length (s.2.1.flatMap ucs))), (6, .is (.bool s.2.2)), (7, .is (.int .i64 s.1))])
        (fun s => s.1 ≤ o.length ∧ s.2.1.length ≤ s.1 + (if s.2.2 = true then 1 else 0) ∧ insS cmpT t o = s.2.1 ++ (if s.2.2 = true then o.drop s.1 else insS cmpT t (o.drop s.1))) (fun s => o.length - s.1) (0, [], false) ⟨Nat.zero_le _, Nat.zero_le _, rfl⟩ ⟨rfl, rfl, rfl, rfl, rfl, rfl, trivial⟩ ?_
      rintro ⟨k, nx, put⟩ ⟨hk, hnx, hins⟩
      dsimp only at hk hnx hins ⊢
      by_cases hko : k < o.length
      · obtain ⟨y, hy⟩ := get_some hko
        have hcy := us_at hy
        have zy := hoz y (List.mem_of_getElem? hy)
        rw [drop_g hy] at hins
        cases put
        · rw [if_neg (by decide)] at hnx
          rw [if_neg (by decide), insS] at hins
          by_cases hc : cmpT t y < 0
          · rw [if_pos hc] at hins
            refine V_seq ?_; refine V_seq ?_; refine V_region (id := 9) ?_; refine vo_step (ok_move rfl rfl rfl) rfl ?_; refine vo_step (ok_moves' rfl rfl rfl) rfl ?_; refine vo_step (ok_lenV L rfl rfl rfl rfl) rfl ?_; refine vo_step (ok_lss rfl rfl rfl rfl (decide_eq_true (by omega))) rfl ?_; refine vo_nil ?_; refine N_seq ?_; refine V_true rfl ?_; refine V_skip ?_; refine N_seq ?_; refine V_seq ?_; refine V_block ?_; refine V_seq ?_; refine V_seq ?_; refine V_regionD (id := 11) [] mixed (by kernel_rfl) ?_; refine par_step (ok_move rfl rfl rfl) rfl ?_; refine par_step (ok_not rfl rfl rfl rfl) rfl ?_; refine par_step (ok_move rfl rfl rfl) rfl ?_; refine par_step (ok_moves' rfl rfl rfl) rfl ?_; refine par_step (ok_move rfl rfl rfl) rfl ?_; refine par_step (ok_indexV L _ rfl rfl rfl rfl rfl rfl rfl (by first | omega | decide) (by assumption)) rfl ?_; refine par_step (ok_loadPA L (vs := [_, _, _, _, _, _]) rfl rfl rfl rfl rfl ⟨_, rfl⟩) rfl ?_; refine par_step (ok_moves' rfl rfl rfl) rfl ?_; refine par_step (ok_move rfl rfl rfl) rfl ?_; refine par_step (ok_indexV L _ rfl rfl rfl rfl rfl rfl rfl (by first | omega | decide) (by assumption)) rfl ?_; refine par_step (ok_loadPA L (vs := [_, _, _, _, _, _]) rfl rfl rfl rfl rfl ⟨_, rfl⟩) rfl ?_; refine par_step (ok_callx L rfl rfl (blt_lt rfl) rfl rfl rfl (fun u H hH _ _ => rtcmp_ret zt zy hH)) rfl ?_; refine par_step (ok_lss rfl rfl rfl rfl (decide_eq_true (by omega))) rfl ?_; refine par_step (ok_pick rfl rfl rfl rfl) rfl ?_; refine par_nil ?_; refine N_seq ?_; refine V_true rfl ?_; refine V_seq ?_; refine V_region (id := 12) ?_; refine vo_step2 (ok_moveO (.inl rfl) rfl rfl rfl rfl) ?_; refine vo_step (ok_moves' rfl rfl rfl) rfl ?_; refine vo_step (ok_move rfl rfl rfl) rfl ?_; refine vo_step (ok_indexV L _ rfl rfl rfl rfl rfl rfl rfl (by first | omega | decide) (by assumption)) rfl ?_; refine vo_step (ok_loadPA L (vs := [_, _, _, _, _, _]) rfl rfl rfl rfl rfl ⟨_, rfl⟩) rfl ?_; refine vo_step (ok_buildSlice L rfl rfl rfl rfl rfl rfl rfl rfl rfl) rfl ?_; refine vo_step2 (ok_append L rfl rfl rfl (apd_B rfl) rfl el52 rfl rfl (by omega) (by omega)) ?_; refine vo_step2 (ok_moveO (.inr rfl) rfl rfl rfl rfl) ?_; refine vo_nil ?_; refine N_seq ?_; refine V_region (id := 13) ?_; refine vo_step (ok_assign rfl rfl rfl) rfl ?_; refine vo_nil ?_; refine N_seq ?_; refine V_region (id := 14) ?_; refine vo_step2 (ok_moveO (.inl rfl) rfl rfl rfl rfl) ?_; refine vo_step (ok_moves' rfl rfl rfl) rfl ?_; refine vo_step (ok_move rfl rfl rfl) rfl ?_; refine vo_step (ok_indexV L _ rfl rfl rfl rfl rfl rfl rfl (by first | omega | decide) (by assumption)) rfl ?_; refine vo_step (ok_loadPA L (vs := [_, _, _, _, _, _]) rfl rfl rfl rfl rfl ⟨_, rfl⟩) rfl ?_; refine vo_step (ok_buildSlice L rfl rfl rfl rfl rfl rfl rfl rfl rfl) rfl ?_; refine vo_step2 (ok_append L rfl rfl rfl (apd_B rfl) rfl el52 rfl rfl (by omega) (by omega)) ?_; refine vo_step2 (ok_moveO (.inr rfl) rfl rfl rfl rfl) ?_; refine vo_nil ?_; refine N_block ?_; refine N_seq ?_; refine V_region (id := 10) ?_; refine vo_step (ok_move rfl rfl rfl) rfl ?_; refine vo_step (ok_add rfl rfl rfl rfl (wrap_i64 (by omega) (by omega))) rfl ?_; refine vo_step (ok_assign rfl rfl rfl) rfl ?_; refine vo_nil ?_
            exact N_round (x := (k, nx, false)) (k + 1, nx ++ [t] ++ [y], true) ⟨hko, by dsimp only; rw [if_pos rfl]; simp only [List.length_append, List.length_cons, List.length_nil]; omega, by dsimp only; rw [hins, if_pos rfl]; simp⟩ (by dsimp only; omega) ⟨rfl, rfl, rfl, ups_snoc2 rfl, rfl, rfl, trivial⟩
          · rw [if_neg hc] at hins
            refine V_seq ?_; refine V_seq ?_; refine V_region (id := 9) ?_; refine vo_step (ok_move rfl rfl rfl) rfl ?_; refine vo_step (ok_moves' rfl rfl rfl) rfl ?_; refine vo_step (ok_lenV L rfl rfl rfl rfl) rfl ?_; refine vo_step (ok_lss rfl rfl rfl rfl (decide_eq_true (by omega))) rfl ?_; refine vo_nil ?_; refine N_seq ?_; refine V_true rfl ?_; refine V_skip ?_; refine N_seq ?_; refine V_seq ?_; refine V_block ?_; refine V_seq ?_; refine V_seq ?_; refine V_regionD (id := 11) [] mixed (by kernel_rfl) ?_; refine par_step (ok_move rfl rfl rfl) rfl ?_; refine par_step (ok_not rfl rfl rfl rfl) rfl ?_; refine par_step (ok_move rfl rfl rfl) rfl ?_; refine par_step (ok_moves' rfl rfl rfl) rfl ?_; refine par_step (ok_move rfl rfl rfl) rfl ?_; refine par_step (ok_indexV L _ rfl rfl rfl rfl rfl rfl rfl (by first | omega | decide) (by assumption)) rfl ?_; refine par_step (ok_loadPA L (vs := [_, _, _, _, _, _]) rfl rfl rfl rfl rfl ⟨_, rfl⟩) rfl ?_; refine par_step (ok_moves' rfl rfl rfl) rfl ?_; refine par_step (ok_move rfl rfl rfl) rfl ?_; refine par_step (ok_indexV L _ rfl rfl rfl rfl rfl rfl rfl (by first | omega | decide) (by assumption)) rfl ?_; refine par_step (ok_loadPA L (vs := [_, _, _, _, _, _]) rfl rfl rfl rfl rfl ⟨_, rfl⟩) rfl ?_; refine par_step (ok_callx L rfl rfl (blt_lt rfl) rfl rfl rfl (fun u H hH _ _ => rtcmp_ret zt zy hH)) rfl ?_; refine par_step (ok_lss rfl rfl rfl rfl (decide_eq_false (by omega))) rfl ?_; refine par_step (ok_pick rfl rfl rfl rfl) rfl ?_; refine par_nil ?_; refine N_seq ?_; refine V_false rfl ?_; refine V_skip ?_; refine N_seq ?_; refine V_region (id := 14) ?_; refine vo_step2 (ok_moveO (.inl rfl) rfl rfl rfl rfl) ?_; refine vo_step (ok_moves' rfl rfl rfl) rfl ?_; refine vo_step (ok_move rfl rfl rfl) rfl ?_; refine vo_step (ok_indexV L _ rfl rfl rfl rfl rfl rfl rfl (by first | omega | decide) (by assumption)) rfl ?_; refine vo_step (ok_loadPA L (vs := [_, _, _, _, _, _]) rfl rfl rfl rfl rfl ⟨_, rfl⟩) rfl ?_; refine vo_step (ok_buildSlice L rfl rfl rfl rfl rfl rfl rfl rfl rfl) rfl ?_; refine vo_step2 (ok_append L rfl rfl rfl (apd_B rfl) rfl el52 rfl rfl (by omega) (by omega)) ?_; refine vo_step2 (ok_moveO (.inr rfl) rfl rfl rfl rfl) ?_; refine vo_nil ?_; refine N_block ?_; refine N_seq ?_; refine V_region (id := 10) ?_; refine vo_step (ok_move rfl rfl rfl) rfl ?_; refine vo_step (ok_add rfl rfl rfl rfl (wrap_i64 (by omega) (by omega))) rfl ?_; refine vo_step (ok_assign rfl rfl rfl) rfl ?_; refine vo_nil ?_
            exact N_round (x := (k, nx, false)) (k + 1, nx ++ [y], false) ⟨hko, by dsimp only; rw [if_neg (by decide), List.length_append, List.length_singleton]; omega, by dsimp only; rw [hins, if_neg (by decide)]; simp⟩ (by dsimp only; omega) ⟨rfl, rfl, rfl, ups_snoc rfl, rfl, rfl, trivial⟩
        · rw [if_pos rfl] at hnx hins
          refine V_seq ?_; refine V_seq ?_; refine V_region (id := 9) ?_; refine vo_step (ok_move rfl rfl rfl) rfl ?_; refine vo_step (ok_moves' rfl rfl rfl) rfl ?_; refine vo_step (ok_lenV L rfl rfl rfl rfl) rfl ?_; refine vo_step (ok_lss rfl rfl rfl rfl (decide_eq_true (by omega))) rfl ?_; refine vo_nil ?_; refine N_seq ?_; refine V_true rfl ?_; refine V_skip ?_; refine N_seq ?_; refine V_seq ?_; refine V_block ?_; refine V_seq ?_; refine V_seq ?_; refine V_regionD (id := 11) [] mixed (by kernel_rfl) ?_; refine par_step (ok_move rfl rfl rfl) rfl ?_; refine par_step (ok_not rfl rfl rfl rfl) rfl ?_; refine par_step (ok_move rfl rfl rfl) rfl ?_; refine par_step (ok_skip rfl (blt_lt rfl) rfl) rfl ?_; refine par_step (ok_skip rfl (blt_lt rfl) rfl) rfl ?_; refine par_step (ok_skip rfl (blt_lt rfl) rfl) rfl ?_; refine par_step (ok_skip rfl (blt_lt rfl) rfl) rfl ?_; refine par_step (ok_skip rfl (blt_lt rfl) rfl) rfl ?_; refine par_step (ok_skip rfl (blt_lt rfl) rfl) rfl ?_; refine par_step (ok_skip rfl (blt_lt rfl) rfl) rfl ?_; refine par_step (ok_skip rfl (blt_lt rfl) rfl) rfl ?_; refine par_step (ok_skip rfl (blt_lt rfl) rfl) rfl ?_; refine par_step (ok_skip rfl (blt_lt rfl) rfl) rfl ?_; refine par_step (ok_pick rfl rfl rfl rfl) rfl ?_; refine par_nil ?_; refine N_seq ?_; refine V_false rfl ?_; refine V_skip ?_; refine N_seq ?_; refine V_region (id := 14) ?_; refine vo_step2 (ok_moveO (.inl rfl) rfl rfl rfl rfl) ?_; refine vo_step (ok_moves' rfl rfl rfl) rfl ?_; refine vo_step (ok_move rfl rfl rfl) rfl ?_; refine vo_step (ok_indexV L _ rfl rfl rfl rfl rfl rfl rfl (by first | omega | decide) (by assumption)) rfl ?_; refine vo_step (ok_loadPA L (vs := [_, _, _, _, _, _]) rfl rfl rfl rfl rfl ⟨_, rfl⟩) rfl ?_; refine vo_step (ok_buildSlice L rfl rfl rfl rfl rfl rfl rfl rfl rfl) rfl ?_; refine vo_step2 (ok_append L rfl rfl rfl (apd_B rfl) rfl el52 rfl rfl (by omega) (by omega)) ?_; refine vo_step2 (ok_moveO (.inr rfl) rfl rfl rfl rfl) ?_; refine vo_nil ?_; refine N_block ?_; refine N_seq ?_; refine V_region (id := 10) ?_; refine vo_step (ok_move rfl rfl rfl) rfl ?_; refine vo_step (ok_add rfl rfl rfl rfl (wrap_i64 (by omega) (by omega))) rfl ?_; refine vo_step (ok_assign rfl rfl rfl) rfl ?_; refine vo_nil ?_
          exact N_round (x := (k, nx, true)) (k + 1, nx ++ [y], true) ⟨hko, by dsimp only; rw [if_pos rfl, List.length_append, List.length_singleton]; omega, by dsimp only; rw [hins, if_pos rfl]; simp⟩ (by dsimp only; omega) ⟨rfl, rfl, rfl, ups_snoc rfl, rfl, rfl, trivial⟩
      · obtain rfl : k = o.length := by omega
        rw [List.drop_length] at hins
        have hil := insS_length (c := cmpT) t o
        have hiz : ∀ x ∈ insS cmpT t o, TZ x := fun x hx => by
          rcases mem_insS.1 hx with rfl | hx
          · exact zt
          · exact hoz x hx
        cases put
        · rw [if_neg (by decide)] at hnx
          rw [if_neg (by decide), insS] at hins
          refine V_seq ?_; refine V_seq ?_; refine V_region (id := 9) ?_; refine vo_step (ok_move rfl rfl rfl) rfl ?_; refine vo_step (ok_moves' rfl rfl rfl) rfl ?_; refine vo_step (ok_lenV L rfl rfl rfl rfl) rfl ?_; refine vo_step (ok_lss rfl rfl rfl rfl (decide_eq_false (by omega))) rfl ?_; refine vo_nil ?_; refine N_seq ?_; refine V_false rfl ?_; refine V_exit ?_; refine X_then ?_; refine X_then ?_; refine X_here ?_; refine N_seq ?_; refine V_seq ?_; refine V_seq ?_; refine V_region (id := 15) ?_; refine vo_step (ok_move rfl rfl rfl) rfl ?_; refine vo_step (ok_not rfl rfl rfl rfl) rfl ?_; refine vo_nil ?_; refine N_seq ?_; refine V_true rfl ?_; refine V_region (id := 16) ?_; refine vo_step2 (ok_moveO (.inl rfl) rfl rfl rfl rfl) ?_; refine vo_step (ok_moves' rfl rfl rfl) rfl ?_; refine vo_step (ok_move rfl rfl rfl) rfl ?_; refine vo_step (ok_indexV L _ rfl rfl rfl rfl rfl rfl rfl (by first | omega | decide) (by assumption)) rfl ?_; refine vo_step (ok_loadPA L (vs := [_, _, _, _, _, _]) rfl rfl rfl rfl rfl ⟨_, rfl⟩) rfl ?_; refine vo_step (ok_buildSlice L rfl rfl rfl rfl rfl rfl rfl rfl rfl) rfl ?_; refine vo_step2 (ok_append L rfl rfl rfl (apd_B rfl) rfl el52 rfl rfl (by omega) (by omega)) ?_; refine vo_step2 (ok_moveO (.inr rfl) rfl rfl rfl rfl) ?_; refine vo_nil ?_; refine N_seq ?_
          refine V_pubR 5 (ups_snoc rfl) ?_
          rw [← hins]
          refine V_region (id := 17) ?_; refine vo_step (ok_moves' rfl rfl rfl) rfl ?_; refine vo_step (ok_assigns' rfl rfl rfl) rfl ?_; refine vo_nil ?_; refine N_block ?_; refine N_seq ?_; refine V_region (id := 4) ?_; refine vo_step (ok_move rfl rfl rfl) rfl ?_; refine vo_step (ok_add rfl rfl rfl rfl (wrap_i64 (by omega) (by omega))) rfl ?_; refine vo_step (ok_assign rfl rfl rfl) rfl ?_; refine vo_nil ?_
          exact N_round (x := (i, o)) (i + 1, insS cmpT t o) ⟨hlt, by dsimp only; omega, hiz, he⟩ (by dsimp only; omega) ⟨rfl, rfl, rfl, trivial⟩
        · rw [if_pos rfl] at hnx
          rw [if_pos rfl, List.append_nil] at hins
          refine V_seq ?_; refine V_seq ?_; refine V_region (id := 9) ?_; refine vo_step (ok_move rfl rfl rfl) rfl ?_; refine vo_step (ok_moves' rfl rfl rfl) rfl ?_; refine vo_step (ok_lenV L rfl rfl rfl rfl) rfl ?_; refine vo_step (ok_lss rfl rfl rfl rfl (decide_eq_false (by omega))) rfl ?_; refine vo_nil ?_; refine N_seq ?_; refine V_false rfl ?_; refine V_exit ?_; refine X_then ?_; refine X_then ?_; refine X_here ?_; refine N_seq ?_; refine V_seq ?_; refine V_seq ?_; refine V_region (id := 15) ?_; refine vo_step (ok_move rfl rfl rfl) rfl ?_; refine vo_step (ok_not rfl rfl rfl rfl) rfl ?_; refine vo_nil ?_; refine N_seq ?_; refine V_false rfl ?_; refine V_skip ?_; refine N_seq ?_
          refine V_pubR 5 rfl ?_
          rw [← hins]
          refine V_region (id := 17) ?_; refine vo_step (ok_moves' rfl rfl rfl) rfl ?_; refine vo_step (ok_assigns' rfl rfl rfl) rfl ?_; refine vo_nil ?_; refine N_block ?_; refine N_seq ?_; refine V_region (id := 4) ?_; refine vo_step (ok_move rfl rfl rfl) rfl ?_; refine vo_step (ok_add rfl rfl rfl rfl (wrap_i64 (by omega) (by omega))) rfl ?_; refine vo_step (ok_assign rfl rfl rfl) rfl ?_; refine vo_nil ?_
          exact N_round (x := (i, o)) (i + 1, insS cmpT t o) ⟨hlt, by dsimp only; omega, hiz, he⟩ (by dsimp only; omega) ⟨rfl, rfl, rfl, trivial⟩
  · obtain rfl : i = l.length := by omega
    rw [List.drop_length, sortS] at he
    rw [he]
    refine V_seq ?_; refine V_seq ?_; refine V_region (id := 3) ?_; refine vo_step (ok_move rfl rfl rfl) rfl ?_; refine vo_step (ok_moves' rfl rfl rfl) rfl ?_; refine vo_step (ok_lenV L rfl rfl rfl rfl) rfl ?_; refine vo_step (ok_lss rfl rfl rfl rfl (decide_eq_false (by omega))) rfl ?_; refine vo_nil ?_; refine N_seq ?_; refine V_false rfl ?_; refine V_exit ?_; refine X_then ?_; refine X_then ?_; refine X_here ?_; refine N_seq ?_; refine V_seq ?_; refine V_region (id := 18) ?_; refine vo_step (ok_moves' rfl rfl rfl) rfl ?_; refine vo_step (ok_assigns' rfl rfl rfl) rfl ?_; refine vo_nil ?_; refine N_seq ?_
    refine V_ret L (rs := [.tmp 2]) rfl (fun _ _ h => h) Since.refl fun u H hH hle => ?_
    exact fun v hv => hv
end Go.V.L2
/- Trees as plain data: what the code computes; how a tree lies in memory. -/
namespace Go.V
inductive Tr (K V : Type) where
  | nil
  | node (k : K) (v : V) (l r : Tr K V)
namespace Tr
variable {K V : Type}
def size : Tr K V → Nat
  | nil => 0
  | node _ _ l r => size l + 1 + size r
def deep : Tr K V → Nat
  | nil => 0
  | node _ _ l r => 1 + max (deep l) (deep r)
theorem deep_le : ∀ t : Tr K V, deep t ≤ size t
  | nil => Nat.le_refl _
  | node _ _ l r => by have := deep_le l; have := deep_le r; simp only [deep, size]; omega
def bal (k : K) (v : V) (l r : Tr K V) : Tr K V :=
  if deep l > deep r + 1 then
    match l with
    | nil => nil
    | node lk lv ll lr =>
      if deep ll ≥ deep lr then node lk lv ll (node k v lr r)
      else match lr with
        | nil => nil
        | node mk mv ml mr => node mk mv (node lk lv ll ml) (node k v mr r)
  else if deep r > deep l + 1 then
    match r with
    | nil => nil
    | node rk rv rl rr =>
      if deep rr ≥ deep rl then node rk rv (node k v l rl) rr
      else match rl with
        | nil => nil
        | node mk mv ml mr => node mk mv (node k v l ml) (node rk rv mr rr)
  else node k v l r
def put (c : K → K → Int) (k : K) (v : V) : Tr K V → Tr K V
  | nil => node k v nil nil
  | node nk nv l r => if c k nk < 0 then bal nk nv (put c k v l) r else if c k nk > 0 then bal nk nv l (put c k v r) else node nk v l r
def first : K → V → Tr K V → Tr K V → (K × V) × Tr K V
  | k, v, nil, r => ((k, v), r)
  | k, v, node lk lv ll lr, r => ((first lk lv ll lr).1, bal k v (first lk lv ll lr).2 r)
def drop (c : K → K → Int) (k : K) : Tr K V → Tr K V × Bool
  | nil => (nil, false)
  | node nk nv l r => if c k nk < 0 then (bal nk nv (drop c k l).1 r, (drop c k l).2) else if c k nk > 0 then (bal nk nv l (drop c k r).1, (drop c k r).2)
    else match r with
      | nil => (l, true)
      | node rk rv rl rr => (bal (first rk rv rl rr).1.1 (first rk rv rl rr).1.2 l (first rk rv rl rr).2, true)
def get (c : K → K → Int) (k : K) : Tr K V → Option V
  | nil => none
  | node nk nv l r => if c k nk = 0 then some nv else if c k nk < 0 then get c k l else get c k r
def list : Tr K V → List (K × V)
  | nil => []
  | node k v l r => list l ++ (k, v) :: list r
theorem get_eq {c : K → K → Int} {k nk : K} {nv : V} {l r : Tr K V} (h : c k nk = 0) : get c k (node nk nv l r) = some nv := if_pos h
theorem get_lt {c : K → K → Int} {k nk : K} {nv : V} {l r : Tr K V} (h : c k nk < 0) : get c k (node nk nv l r) = get c k l := (if_neg (by omega)).trans (if_pos h)
theorem get_gt {c : K → K → Int} {k nk : K} {nv : V} {l r : Tr K V} (h0 : ¬ c k nk = 0) (h : ¬ c k nk < 0) : get c k (node nk nv l r) = get c k r := (if_neg h0).trans (if_neg h)
theorem size_list : ∀ t : Tr K V, (list t).length = size t
  | nil => rfl
  | node _ _ l r => by simp only [list, List.length_append, List.length_cons, size_list l, size_list r, size]; omega
theorem size_node (k : K) (v : V) (l r : Tr K V) : size (node k v l r) = size l + 1 + size r := rfl
theorem deep_node (k : K) (v : V) (l r : Tr K V) : deep (node k v l r) = 1 + max (deep l) (deep r) := rfl
theorem list_bal (k : K) (v : V) (l r : Tr K V) : list (bal k v l r) = list l ++ (k, v) :: list r := by
  unfold bal
  split
  · rename_i h
    cases l with
    | nil => simp [deep] at h
    | node lk lv ll lr =>
      dsimp only
      split
      · simp [list]
      · rename_i h2
        cases lr with
        | nil => simp [deep] at h2
        | node mk mv ml mr => simp [list]
  · split
    · rename_i h
      cases r with
      | nil => simp [deep] at h
      | node rk rv rl rr =>
        dsimp only
        split
        · simp [list]
        · rename_i h2
          cases rl with
          | nil => simp [deep] at h2
          | node mk mv ml mr => simp [list]
    · simp [list]
theorem size_bal (k : K) (v : V) (l r : Tr K V) : size (bal k v l r) = size l + 1 + size r := by
  rw [← size_list, list_bal, List.length_append, List.length_cons, size_list, size_list]; omega
theorem list_first : ∀ (k : K) (v : V) (l r : Tr K V), (first k v l r).1 :: list (first k v l r).2 = list l ++ (k, v) :: list r
  | k, v, nil, r => rfl
  | k, v, node lk lv ll lr, r => by
    simp only [first, list_bal, list]
    rw [← List.cons_append, list_first lk lv ll lr]
theorem size_first (k : K) (v : V) (l r : Tr K V) : size (first k v l r).2 = size l + size r := by
  have := congrArg List.length (list_first k v l r)
  simp only [List.length_cons, List.length_append, size_list] at this
  omega
theorem size_put (c : K → K → Int) (k : K) (v : V) : ∀ t : Tr K V, size (put c k v t) ≤ size t + 1
  | nil => by simp [put, size]
  | node nk nv l r => by
    have := size_put c k v l
    have := size_put c k v r
    simp only [put]
    split
    · rw [size_bal, size_node]; omega
    · split
      · rw [size_bal, size_node]; omega
      · rw [size_node, size_node]; omega
theorem size_drop (c : K → K → Int) (k : K) : ∀ t : Tr K V, size (drop c k t).1 ≤ size t
  | nil => Nat.le_refl _
  | node nk nv l r => by
    have := size_drop c k l
    have := size_drop c k r
    simp only [drop]
    split
    · rw [size_bal, size_node]; omega
    · split
      · rw [size_bal, size_node]; omega
      · cases r with
        | nil => simp only [size]; omega
        | node rk rv rl rr => rw [size_bal, size_first, size_node, size_node]; omega
/-- A tree in memory. -/
def TreeAt (nl : K → V → Value → Value → Int → Int → List Value) (ty : TypeId) : Tr K V → Value → Heap → Prop
  | nil, v, _ => v = .pointer none
  | node k x l r, v, H => ∃ b lv rv, v = .pointer (some ⟨b, 0, none⟩) ∧ H b = some (.cells (nl k x lv rv (size (node k x l r)) (deep (node k x l r))).toArray ty) ∧ TreeAt nl ty l lv H ∧ TreeAt nl ty r rv H
theorem TreeAt.mono {nl : K → V → Value → Value → Int → Int → List Value} {ty : TypeId} : ∀ {t : Tr K V}, Kn.mono (.sat (TreeAt nl ty t))
  | nil, _, _, _, h, _ => h
  | node k x l r, _, _, _, ⟨b, lv, rv, h1, h2, h3, h4⟩, hle => ⟨b, lv, rv, h1, hle _ _ h2, TreeAt.mono _ _ _ h3 hle, TreeAt.mono _ _ _ h4 hle⟩
theorem TreeAt.le {nl : K → V → Value → Value → Int → Int → List Value} {ty : TypeId} {t : Tr K V} {v : Value} {H H' : Heap} (h : TreeAt nl ty t v H) (hle : H.Le H') : TreeAt nl ty t v H' := TreeAt.mono _ _ _ h hle
end Tr
end Go.V
