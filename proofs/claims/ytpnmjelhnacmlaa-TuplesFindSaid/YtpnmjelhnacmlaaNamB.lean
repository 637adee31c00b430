/- The walks of names: objects, goals, subjects: their errors and texts, their order. -/
import Derived.Test.YtpnmjelhnacmlaaNamA
namespace Go.V
open Go.Proofs Go.RowKit
attribute [local irreducible] V N X VO Par StepOK Has Ret RetL Src
def allE : List ByteArray → Int
  | [] => 0
  | s :: l => if chk s = 0 then allE l else chk s
theorem allE_snoc : ∀ (l : List ByteArray) (s : ByteArray), allE l = 0 → allE (l ++ [s]) = chk s
  | [], s, _ => by simp only [List.nil_append, allE]; split <;> simp_all
  | x :: l, s, h => by
    simp only [List.cons_append, allE] at h ⊢
    by_cases hx : chk x = 0
    · rw [if_pos hx] at h ⊢; exact allE_snoc l s h
    · rw [if_neg hx] at h; exact absurd h hx
theorem allE_bad : ∀ (l : List ByteArray) (k : Nat) (s : ByteArray), allE (l.take k) = 0 → l[k]? = some s → chk s ≠ 0 → allE l = chk s
  | [], k, s, _, h, _ => by simp at h
  | x :: l, 0, s, _, h, hc => by simp at h; subst h; simp [allE, hc]
  | x :: l, k + 1, s, ha, h, hc => by
    simp only [List.take_succ_cons, allE] at ha
    simp only [List.getElem?_cons_succ] at h
    by_cases hx : chk x = 0
    · rw [if_pos hx] at ha
      simp only [allE, if_pos hx]
      exact allE_bad l k s ha h hc
    · rw [if_neg hx] at ha; exact absurd ha hx
set_option maxHeartbeats 400000 in
theorem all_gen (l : List ByteArray) (hl : ∀ s ∈ l, s.size ≤ 1099511627776) (hlen : l.length ≤ 1000) {e : TypeId} {fu : Bool} {v : Value} {w : World} {B : Heap} (hB : B.Le (hp w)) (hv : SlV e 1 (l.map Value.string) l.length fu v B) :
    Ret Try.prog 95 [v] w B (fun v _ => v = .int .i64 (allE l)) := by
  refine V_enter Try.func95 rfl Try.ntmps95 (Nat.le_of_ble_eq_true rfl) hB ?_
  refine V_seen 0 (SlV e 1 (l.map Value.string) l.length fu) rfl SlV.mono hv ?_
  refine V_seq ?_; refine V_region (id := 0) ?_; refine vo_step (ok_assign rfl rfl rfl) rfl ?_; refine vo_nil ?_; refine N_seq ?_; refine V_seq ?_; refine V_seq ?_; refine V_region (id := 1) ?_; refine vo_step (ok_moves' rfl rfl rfl) rfl ?_; refine vo_step (ok_lenV L rfl rfl rfl rfl) rfl ?_; refine vo_step (ok_move rfl rfl rfl) rfl ?_; refine vo_nil ?_; refine N_seq ?_; refine V_block ?_
  refine V_loop (fun k : Nat => [(6, .sat (SlV e 1 (l.map Value.string) l.length fu)), (7, .is (.int .i64 l.length)), (8, .is (.int .i64 k))])
    (fun k => k ≤ l.length ∧ allE (l.take k) = 0) (fun k => l.length - k) 0 ⟨Nat.zero_le _, by simp [allE]⟩ ⟨rfl, rfl, rfl, trivial⟩ ?_
  rintro k ⟨hk, hall⟩
  by_cases hlt : k < l.length
  · have hs : l[k]? = some l[k] := List.getElem?_eq_getElem hlt
    generalize l[k] = s at hs
    have hsz : s.size ≤ 1099511627776 := hl s (List.mem_of_getElem? hs)
    have hc := str_at hs
    by_cases h0 : chk s = 0
    · refine V_seq ?_; refine V_region (id := 2) ?_; refine vo_step (ok_lss rfl rfl rfl rfl (decide_eq_true (by omega))) rfl ?_; refine vo_nil ?_; refine N_seq ?_; refine V_seq ?_; refine V_true rfl ?_; refine V_skip ?_; refine N_seq ?_; refine V_seq ?_; refine V_block ?_; refine V_seq ?_; refine V_region (id := 3) ?_; refine vo_step (ok_indexV L _ rfl rfl rfl rfl rfl rfl rfl (by first | omega | decide) (by assumption)) rfl ?_; refine vo_step (ok_loadP1 L rfl rfl rfl rfl rfl) rfl ?_; refine vo_step (ok_assign rfl rfl rfl) rfl ?_; refine vo_nil ?_; refine N_seq ?_; refine V_seq ?_; refine V_region (id := 4) ?_; refine vo_step (ok_move rfl rfl rfl) rfl ?_; refine vo_step (ok_callx L rfl rfl (blt_lt rfl) rfl rfl rfl (fun u H hH _ _ => check_ret _ (by first | omega | decide) hH)) rfl ?_; refine vo_step (ok_assign rfl rfl rfl) rfl ?_; refine vo_nil ?_; refine N_seq ?_; refine V_seq ?_; refine V_region (id := 5) ?_; refine vo_step (ok_move rfl rfl rfl) rfl ?_; refine vo_step (ok_neq rfl rfl rfl rfl (decide_eq_false (by omega))) rfl ?_; refine vo_nil ?_; refine N_seq ?_; refine V_false rfl ?_; refine V_skip ?_; refine N_block ?_; refine N_seq ?_; refine V_region (id := 7) ?_; refine vo_step (ok_add rfl rfl rfl rfl (wrap_i64 (by omega) (by omega))) rfl ?_; refine vo_step (ok_move rfl rfl rfl) rfl ?_; refine vo_nil ?_
      refine N_round (k + 1) ⟨hlt, ?_⟩ (by omega) ⟨rfl, rfl, rfl, trivial⟩
      rw [List.take_add_one, hs]
      show allE (l.take k ++ [s]) = 0
      rw [allE_snoc _ _ hall, h0]
    · refine V_seq ?_; refine V_region (id := 2) ?_; refine vo_step (ok_lss rfl rfl rfl rfl (decide_eq_true (by omega))) rfl ?_; refine vo_nil ?_; refine N_seq ?_; refine V_seq ?_; refine V_true rfl ?_; refine V_skip ?_; refine N_seq ?_; refine V_seq ?_; refine V_block ?_; refine V_seq ?_; refine V_region (id := 3) ?_; refine vo_step (ok_indexV L _ rfl rfl rfl rfl rfl rfl rfl (by first | omega | decide) (by assumption)) rfl ?_; refine vo_step (ok_loadP1 L rfl rfl rfl rfl rfl) rfl ?_; refine vo_step (ok_assign rfl rfl rfl) rfl ?_; refine vo_nil ?_; refine N_seq ?_; refine V_seq ?_; refine V_region (id := 4) ?_; refine vo_step (ok_move rfl rfl rfl) rfl ?_; refine vo_step (ok_callx L rfl rfl (blt_lt rfl) rfl rfl rfl (fun u H hH _ _ => check_ret _ (by first | omega | decide) hH)) rfl ?_; refine vo_step (ok_assign rfl rfl rfl) rfl ?_; refine vo_nil ?_; refine N_seq ?_; refine V_seq ?_; refine V_region (id := 5) ?_; refine vo_step (ok_move rfl rfl rfl) rfl ?_; refine vo_step (ok_neq rfl rfl rfl rfl (decide_eq_true (by omega))) rfl ?_; refine vo_nil ?_; refine N_seq ?_; refine V_true rfl ?_; refine V_seq ?_; refine V_region (id := 6) ?_; refine vo_step (ok_move rfl rfl rfl) rfl ?_; refine vo_step (ok_assign rfl rfl rfl) rfl ?_; refine vo_nil ?_; refine N_seq ?_
      refine V_ret L (rs := [.tmp 2]) rfl (fun _ _ h => h) Since.refl fun u H hH hle => ?_
      exact congrArg _ (allE_bad l k s hall hs h0).symm
  · refine V_seq ?_; refine V_region (id := 2) ?_; refine vo_step (ok_lss rfl rfl rfl rfl (decide_eq_false (by omega))) rfl ?_; refine vo_nil ?_; refine N_seq ?_; refine V_seq ?_; refine V_false rfl ?_; refine V_exit ?_; refine X_then ?_; refine X_then ?_; refine X_here ?_; refine N_seq ?_; refine V_seq ?_; refine V_region (id := 8) ?_; refine vo_step (ok_assign rfl rfl rfl) rfl ?_; refine vo_nil ?_; refine N_seq ?_
    refine V_ret L (rs := [.tmp 2]) rfl (fun _ _ h => h) Since.refl fun u H hH hle => ?_
    have : l.take k = l := List.take_of_length_le (by omega)
    exact congrArg _ (this ▸ hall).symm
end Go.V
