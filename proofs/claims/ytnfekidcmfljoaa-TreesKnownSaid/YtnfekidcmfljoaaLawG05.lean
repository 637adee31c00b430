/- The walk of half: a map whose order looks at a half of each number. -/
import Derived.Test.YtnfekidcmfljoaaTreeN
import Derived.Test.YtnfekidcmfljoaaKitR
namespace Go.V.L5
open Go.Proofs Go.RowKit Go.V Go.V.R5
abbrev fvH : Value := .func (.func 77) #[] #[]
def MapH (fv : Value) (t : Tr Int Int) : Res := ExR (fun p => Cell [fv, .pointer p] tyM) (fun p H => II.TA t (.pointer p) H) (fun _ _ _ h hle => II.TA.le h hle)
theorem halfL_length (i : Nat) : (halfL i).length = (i + 1) / 2 := by simp [halfL]
theorem halfL_get {i m : Nat} (h : m < (i + 1) / 2) : (halfL i)[m]? = some (2 * (m : Int), min (2 * (m : Int) + 1) ((i : Int) - 1)) := by
  simp [halfL, List.getElem?_map, List.getElem?_range h]
attribute [local irreducible] V N X VO Par StepOK Has Ret RetL Src
theorem halves_ret (a b : Int) {w : World} {B : Heap} (hB : B.Le (hp w)) : Ret Try.prog 77 [.int .i64 a, .int .i64 b] w B (fun v _ => v = .int .i64 (halfF a b)) := by
  refine V_enter Try.func77 rfl Try.ntmps77 (Nat.le_of_ble_eq_true rfl) hB ?_
  refine V_seq ?_; refine V_region (id := 0) ?_; refine vo_step (ok_assign rfl rfl rfl) rfl ?_; refine vo_nil ?_; refine N_seq ?_; refine V_seq ?_; refine V_region (id := 1) ?_; refine vo_step (ok_move rfl rfl rfl) rfl ?_; refine vo_step (ok_quo rfl rfl rfl rfl (by omega) rfl) rfl ?_; refine vo_step (ok_move rfl rfl rfl) rfl ?_; refine vo_step (ok_quo rfl rfl rfl rfl (by omega) rfl) rfl ?_; refine vo_step (ok_callx L rfl rfl (blt_lt rfl) rfl rfl rfl (fun u H hH _ _ => order_ret _ _ hH)) rfl ?_; refine vo_step (ok_assign rfl rfl rfl) rfl ?_; refine vo_nil ?_; refine N_seq ?_
  refine V_ret L (rs := [.tmp 4]) rfl (fun _ _ h => h) Since.refl fun u H hH hle => ?_
  rfl
theorem cmpH : II.Cmp 77 halfF := ⟨rfl, fun a b _ _ hH => halves_ret a b hH⟩
set_option maxHeartbeats 8000000 in
set_option maxRecDepth 10000 in
theorem half_ret (n : Nat) (hn : n ≤ 60) {w : World} {B : Heap} (hB : B.Le (hp w)) :
    Ret Try.prog 33 [.int .i64 n] w B (fun v _ => v = .bool true) := by
  refine V_enter Try.func33 rfl Try.ntmps33 (Nat.le_of_ble_eq_true rfl) hB ?_
  refine V_seq ?_; refine V_region (id := 0) ?_; refine vo_step (ok_assign rfl rfl rfl) rfl ?_; refine vo_nil ?_; refine N_seq ?_; refine V_seq ?_; refine V_region (id := 1) ?_; refine vo_step (ok_callx L rfl rfl (blt_lt rfl) rfl rfl rfl (fun u H hH _ _ => II.new_ret _ hH)) rfl ?_; refine vo_step (ok_alloc L rfl rfl rfl rfl) rfl ?_; refine vo_step (ok_store L rfl rfl rfl rfl rfl rfl rfl rfl) rfl ?_; refine vo_nil ?_; refine N_seq ?_; refine V_seq ?_; refine V_seq ?_
  refine V_clsX (X := Option Addr) 3 (r := fun p => Cell [fvH, .pointer p] tyM) (φ := fun p H => II.TA .nil (.pointer p) H) (fun _ _ _ h hle => II.TA.le h hle) none rfl rfl ?_
  refine V_region (id := 2) ?_; refine vo_step (ok_assign rfl rfl rfl) rfl ?_; refine vo_nil ?_; refine N_seq ?_; refine V_block ?_
  refine V_loop (fun s : Nat × Tr Int Int => [(0, .is (.int .i64 n)), (3, .own (MapH fvH s.2)), (4, .is (.int .i64 s.1))])
    (fun s => s.1 ≤ n ∧ Tr.Srt halfF (Tr.list s.2) ∧ Tr.list s.2 = halfL s.1) (fun s => n - s.1) (0, .nil) ⟨Nat.zero_le _, List.Pairwise.nil, rfl⟩ ⟨rfl, rfl, rfl, trivial⟩ ?_
  rintro ⟨i, t⟩ ⟨hi, hs, hl⟩
  dsimp only at hi hs hl ⊢
  refine V_opnX 3 rfl fun p H3 hs3 hp => ?_
  have hM : II.MF 77 t (.agg #[fvH, .pointer p]) H3 := ⟨p, rfl, hp⟩
  have hz := Tr.size_list t
  rw [hl, halfL_length] at hz
  by_cases hlt : i < n
  · have e : Tr.list (Tr.put halfF (i : Int) (i : Int) t) = halfL (i + 1) := by rw [Tr.list_put halfF_ordr _ _ hs, hl, half_put i (by omega)]
    have hs' : Tr.Srt halfF (Tr.list (Tr.put halfF (i : Int) (i : Int) t)) := by rw [Tr.list_put halfF_ordr _ _ hs]; exact Tr.srt_putS halfF_ordr hs
    refine V_seq ?_; refine V_seq ?_; refine V_region (id := 3) ?_; refine vo_step (ok_move rfl rfl rfl) rfl ?_; refine vo_step (ok_move rfl rfl rfl) rfl ?_; refine vo_step (ok_lss rfl rfl rfl rfl (decide_eq_true (by omega))) rfl ?_; refine vo_nil ?_; refine N_seq ?_; refine V_true rfl ?_; refine V_skip ?_; refine N_seq ?_; refine V_seq ?_; refine V_block ?_; refine V_region (id := 5) ?_; refine vo_step (ok_loadA L (vs := [_, _]) (src_own rfl) rfl rfl rfl rfl ⟨_, rfl⟩) rfl ?_; refine vo_step (ok_move rfl rfl rfl) rfl ?_; refine vo_step (ok_move rfl rfl rfl) rfl ?_; refine vo_step (ok_call L rfl rfl (blt_lt rfl) rfl rfl rfl II.MA.mono (fun u H hH hle _ => II.mput_m cmpH _ _ hH (II.MA.le hM hle) (by omega))) rfl ?_; refine vo_opn 16 rfl fun v16 H16 hs16 ⟨p16, e16, h16⟩ => ?_; subst e16; refine vo_step (ok_store L rfl rfl rfl rfl rfl rfl rfl rfl) rfl ?_; refine vo_nil ?_; refine N_block ?_; refine N_seq ?_; refine V_region (id := 4) ?_; refine vo_step (ok_move rfl rfl rfl) rfl ?_; refine vo_step (ok_add rfl rfl rfl rfl (wrap_i64 (by omega) (by omega))) rfl ?_; refine vo_step (ok_assign rfl rfl rfl) rfl ?_; refine vo_nil ?_
    refine N_clsX (X := Option Addr) 3 (r := fun p => Cell [fvH, .pointer p] tyM) (φ := fun p H => II.TA (Tr.put halfF (i : Int) (i : Int) t) (.pointer p) H) (fun _ _ _ h hle => II.TA.le h hle) p16 h16 rfl ?_
    exact N_roundS (x := (i, t)) (i + 1, Tr.put halfF (i : Int) (i : Int) t) (hs3.trans hs16) ⟨by dsimp only; omega, hs', e⟩ (by dsimp only; omega) ⟨rfl, rfl, rfl, trivial⟩
  · obtain rfl : i = n := by omega
    refine V_seq ?_; refine V_seq ?_; refine V_region (id := 3) ?_; refine vo_step (ok_move rfl rfl rfl) rfl ?_; refine vo_step (ok_move rfl rfl rfl) rfl ?_; refine vo_step (ok_lss rfl rfl rfl rfl (decide_eq_false (by omega))) rfl ?_; refine vo_nil ?_; refine N_seq ?_; refine V_false rfl ?_; refine V_exit ?_; refine X_then ?_; refine X_then ?_; refine X_here ?_; refine N_seq ?_; refine V_seq ?_; refine V_region (id := 6) ?_; refine vo_step (ok_loadA L (vs := [_, _]) (src_own rfl) rfl rfl rfl rfl ⟨_, rfl⟩) rfl ?_; refine vo_step (ok_call (φ := II.PS (halfL i) true) L rfl rfl (blt_lt rfl) rfl rfl rfl II.PS.mono (fun u H hH hle _ => II.all_m hH (II.MA.le hM hle) (by omega) ((rangeL_all t).trans hl))) rfl ?_; refine vo_step (ok_assigns' rfl rfl rfl) rfl ?_; refine vo_nil ?_; refine N_seq ?_; refine V_seq ?_; refine V_seq ?_; refine V_region (id := 7) ?_; refine vo_step (ok_assign rfl rfl rfl) rfl ?_; refine vo_nil ?_; refine N_seq ?_; refine V_block ?_
    refine V_loop (fun m : Nat => [(0, .is (.int .i64 i)), (5, .sat (II.PS (halfL i) true)), (6, .is (.int .i64 m))]) (fun m => m ≤ (i + 1) / 2) (fun m => (i + 1) / 2 - m) 0 (Nat.zero_le _) ⟨rfl, rfl, rfl, trivial⟩ ?_
    rintro m hm
    have hln := halfL_length i
    by_cases hlt2 : m < (i + 1) / 2
    · have hg := halfL_get hlt2
      have hc := flat_at (halfL i) m _ hg
      refine V_seq ?_; refine V_seq ?_; refine V_region (id := 8) ?_; refine vo_step (ok_move rfl rfl rfl) rfl ?_; refine vo_step (ok_moves' rfl rfl rfl) rfl ?_; refine vo_step (ok_lenV L rfl rfl rfl rfl) rfl ?_; refine vo_step (ok_lss rfl rfl rfl rfl (decide_eq_true (by omega))) rfl ?_; refine vo_nil ?_; refine N_seq ?_; refine V_true rfl ?_; refine V_skip ?_; refine N_seq ?_; refine V_seq ?_; refine V_block ?_; refine V_seq ?_; refine V_region (id := 10) ?_; refine vo_step (ok_moves' rfl rfl rfl) rfl ?_; refine vo_step (ok_move rfl rfl rfl) rfl ?_; refine vo_step (ok_indexV L _ rfl rfl rfl rfl rfl rfl rfl (by first | omega | decide) (by assumption)) rfl ?_; refine vo_step (ok_fieldAP L rfl rfl rfl rfl) rfl ?_; refine vo_step (ok_loadP1 L rfl rfl rfl rfl rfl) rfl ?_; refine vo_step (ok_move rfl rfl rfl) rfl ?_; refine vo_step (ok_mul rfl rfl rfl rfl (wrap_i64 (by omega) (by omega))) rfl ?_; refine vo_step (ok_neq rfl rfl rfl rfl (decide_eq_false (by omega))) rfl ?_; refine vo_step (ok_move rfl rfl rfl) rfl ?_; refine vo_step (ok_moves' rfl rfl rfl) rfl ?_; refine vo_step (ok_move rfl rfl rfl) rfl ?_; refine vo_step (ok_indexV L _ rfl rfl rfl rfl rfl rfl rfl (by first | omega | decide) (by assumption)) rfl ?_; refine vo_step (ok_fieldAP L rfl rfl rfl rfl) rfl ?_; refine vo_step (ok_loadP1 L rfl rfl rfl rfl rfl) rfl ?_; refine vo_step (ok_move rfl rfl rfl) rfl ?_; refine vo_step (ok_mul rfl rfl rfl rfl (wrap_i64 (by omega) (by omega))) rfl ?_; refine vo_step (ok_add rfl rfl rfl rfl (wrap_i64 (by omega) (by omega))) rfl ?_; refine vo_step (ok_move rfl rfl rfl) rfl ?_; refine vo_step (ok_sub rfl rfl rfl rfl (wrap_i64 (by omega) (by omega))) rfl ?_; refine vo_step (ok_min rfl rfl rfl rfl rfl) rfl ?_; refine vo_step (ok_neq rfl rfl rfl rfl (decide_eq_false (by omega))) rfl ?_; refine vo_step (ok_pick rfl rfl rfl rfl) rfl ?_; refine vo_nil ?_; refine N_seq ?_; refine V_false rfl ?_; refine V_skip ?_; refine N_block ?_; refine N_seq ?_; refine V_region (id := 9) ?_; refine vo_step (ok_move rfl rfl rfl) rfl ?_; refine vo_step (ok_add rfl rfl rfl rfl (wrap_i64 (by omega) (by omega))) rfl ?_; refine vo_step (ok_assign rfl rfl rfl) rfl ?_; refine vo_nil ?_
      exact N_round (x := m) (m + 1) (by omega) (by omega) ⟨rfl, rfl, rfl, trivial⟩
    · have e2 : IntKind.i64.wrap (((i : Int) + 1).tdiv 2) = (((i + 1) / 2 : Nat) : Int) := by
        rw [show ((i : Int) + 1).tdiv 2 = (((i + 1) / 2 : Nat) : Int) from rfl]
        exact wrap_i64 (by omega) (by omega)
      refine V_seq ?_; refine V_seq ?_; refine V_region (id := 8) ?_; refine vo_step (ok_move rfl rfl rfl) rfl ?_; refine vo_step (ok_moves' rfl rfl rfl) rfl ?_; refine vo_step (ok_lenV L rfl rfl rfl rfl) rfl ?_; refine vo_step (ok_lss rfl rfl rfl rfl (decide_eq_false (by omega))) rfl ?_; refine vo_nil ?_; refine N_seq ?_; refine V_false rfl ?_; refine V_exit ?_; refine X_then ?_; refine X_then ?_; refine X_here ?_; refine N_seq ?_; refine V_seq ?_; refine V_region (id := 12) ?_; refine vo_step (ok_moves' rfl rfl rfl) rfl ?_; refine vo_step (ok_lenV L rfl rfl rfl rfl) rfl ?_; refine vo_step (ok_move rfl rfl rfl) rfl ?_; refine vo_step (ok_add rfl rfl rfl rfl (wrap_i64 (by omega) (by omega))) rfl ?_; refine vo_step (ok_quo rfl rfl rfl rfl (by omega) rfl) rfl ?_; refine vo_step (ok_eql rfl rfl rfl rfl (decide_eq_true (by omega))) rfl ?_; refine vo_step (ok_assign rfl rfl rfl) rfl ?_; refine vo_nil ?_; refine N_seq ?_
      refine V_ret L (rs := [.tmp 2]) rfl (fun _ _ h => h) hs3 fun u H hH hle => ?_
      rfl
end Go.V.L5
