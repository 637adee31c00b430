/- The walks of names: objects, goals, subjects. -/
import Derived.Test.YtpnmjelhnacmlaaNamB
import Derived.Test.YtpnmjelhnacmlaaShelf
namespace Go.V
open Go.Proofs Go.RowKit
attribute [local irreducible] V N X VO Par StepOK Has Ret RetL Src
theorem all2_ret {a b : ByteArray} (ha : a.size ≤ 1099511627776) (hb : b.size ≤ 1099511627776) {w : World} {B : Heap} (hB : B.Le (hp w)) {t : Nat} {v : Value} (hv : SlB [.string a, .string b] t 2 v B) :
    Ret Try.prog 95 [v] w B (fun v _ => v = .int .i64 (allE [a, b])) := by
  exact all_gen [a, b] (by intro s hs; simp at hs; rcases hs with rfl | rfl <;> assumption) (by simp) hB (hv.toV rfl)
theorem all3_ret {a b c : ByteArray} (ha : a.size ≤ 1099511627776) (hb : b.size ≤ 1099511627776) (hc : c.size ≤ 1099511627776) {w : World} {B : Heap} (hB : B.Le (hp w)) {t : Nat} {v : Value} (hv : SlB [.string a, .string b, .string c] t 3 v B) :
    Ret Try.prog 95 [v] w B (fun v _ => v = .int .i64 (allE [a, b, c])) := by
  exact all_gen [a, b, c] (by intro s hs; simp at hs; rcases hs with rfl | rfl | rfl <;> assumption) (by simp) hB (hv.toV rfl)
theorem object_ret {a b : ByteArray} (ha : a.size ≤ 1099511627776) (hb : b.size ≤ 1099511627776) {w : World} {B : Heap} (hB : B.Le (hp w)) :
    Ret Try.prog 115 [.agg #[.string a, .string b]] w B (fun v _ => v = .int .i64 (allE [a, b])) := by
  refine V_enter Try.func115 rfl Try.ntmps115 (Nat.le_of_ble_eq_true rfl) hB ?_
  refine V_seq ?_; refine V_region (id := 0) ?_; refine vo_step (ok_box rfl rfl rfl rfl) rfl ?_; refine vo_step (ok_assign rfl rfl rfl) rfl ?_; refine vo_nil ?_; refine N_seq ?_; refine V_seq ?_; refine V_region (id := 1) ?_; refine vo_step (ok_fieldAt L rfl rfl rfl rfl) rfl ?_; refine vo_step (ok_load1 L (src_at rfl) rfl rfl rfl rfl) rfl ?_; refine vo_step (ok_fieldAt L rfl rfl rfl rfl) rfl ?_; refine vo_step (ok_load1 L (src_at rfl) rfl rfl rfl rfl) rfl ?_; refine vo_step (ok_buildSlice L rfl rfl rfl rfl rfl rfl rfl rfl rfl) rfl ?_; refine vo_step (ok_callx L rfl rfl (blt_lt rfl) rfl rfl rfl (fun u H hH _ _ v hv => all2_ret (by first | assumption | decide) (by first | assumption | decide) hH hv)) rfl ?_; refine vo_step (ok_assign rfl rfl rfl) rfl ?_; refine vo_nil ?_; refine N_seq ?_
  refine V_ret L (rs := [.tmp 2]) rfl (fun _ _ h => h) Since.refl fun u H hH hle => ?_
  rfl
theorem goal_ret {a b c : ByteArray} (ha : a.size ≤ 1099511627776) (hb : b.size ≤ 1099511627776) (hc : c.size ≤ 1099511627776) {w : World} {B : Heap} (hB : B.Le (hp w)) :
    Ret Try.prog 57 [.agg #[.string a, .string b, .string c]] w B (fun v _ => v = .int .i64 (allE [a, b, c])) := by
  refine V_enter Try.func57 rfl Try.ntmps57 (Nat.le_of_ble_eq_true rfl) hB ?_
  refine V_seq ?_; refine V_region (id := 0) ?_; refine vo_step (ok_box rfl rfl rfl rfl) rfl ?_; refine vo_step (ok_assign rfl rfl rfl) rfl ?_; refine vo_nil ?_; refine N_seq ?_; refine V_seq ?_; refine V_region (id := 1) ?_; refine vo_step (ok_fieldAt L rfl rfl rfl rfl) rfl ?_; refine vo_step (ok_fieldAt L rfl rfl rfl rfl) rfl ?_; refine vo_step (ok_load1 L (src_at rfl) rfl rfl rfl rfl) rfl ?_; refine vo_step (ok_fieldAt L rfl rfl rfl rfl) rfl ?_; refine vo_step (ok_fieldAt L rfl rfl rfl rfl) rfl ?_; refine vo_step (ok_load1 L (src_at rfl) rfl rfl rfl rfl) rfl ?_; refine vo_step (ok_fieldAt L rfl rfl rfl rfl) rfl ?_; refine vo_step (ok_load1 L (src_at rfl) rfl rfl rfl rfl) rfl ?_; refine vo_step (ok_buildSlice L rfl rfl rfl rfl rfl rfl rfl rfl rfl) rfl ?_; refine vo_step (ok_callx L rfl rfl (blt_lt rfl) rfl rfl rfl (fun u H hH _ _ v hv => all3_ret (by first | assumption | decide) (by first | assumption | decide) (by first | assumption | decide) hH hv)) rfl ?_; refine vo_step (ok_assign rfl rfl rfl) rfl ?_; refine vo_nil ?_; refine N_seq ?_
  refine V_ret L (rs := [.tmp 2]) rfl (fun _ _ h => h) Since.refl fun u H hH hle => ?_
  rfl
def subjE (a b c : ByteArray) : Int := if c = ⟨#[]⟩ then allE [a, b] else allE [a, b, c]
theorem subject_ret {a b c : ByteArray} (ha : a.size ≤ 1099511627776) (hb : b.size ≤ 1099511627776) (hc : c.size ≤ 1099511627776) {w : World} {B : Heap} (hB : B.Le (hp w)) :
    Ret Try.prog 88 [.agg #[.string a, .string b, .string c]] w B (fun v _ => v = .int .i64 (subjE a b c)) := by
  refine V_enter Try.func88 rfl Try.ntmps88 (Nat.le_of_ble_eq_true rfl) hB ?_
  by_cases h : c = ⟨#[]⟩
  · refine V_seq ?_; refine V_region (id := 0) ?_; refine vo_step (ok_box rfl rfl rfl rfl) rfl ?_; refine vo_step (ok_assign rfl rfl rfl) rfl ?_; refine vo_nil ?_; refine N_seq ?_; refine V_seq ?_; refine V_seq ?_; refine V_region (id := 1) ?_; refine vo_step (ok_fieldAt L rfl rfl rfl rfl) rfl ?_; refine vo_step (ok_load1 L (src_at rfl) rfl rfl rfl rfl) rfl ?_; refine vo_step (ok_seql rfl rfl rfl rfl (decide_eq_true (by assumption))) rfl ?_; refine vo_nil ?_; refine N_seq ?_; refine V_true rfl ?_; refine V_seq ?_; refine V_region (id := 2) ?_; refine vo_step (ok_fieldAt L rfl rfl rfl rfl) rfl ?_; refine vo_step (ok_loadA L (vs := [_, _]) (src_at rfl) rfl rfl rfl rfl ⟨_, rfl⟩) rfl ?_; refine vo_step (ok_callx L rfl rfl (blt_lt rfl) rfl rfl rfl (fun u H hH _ _ => object_ret (by first | assumption | decide) (by first | assumption | decide) hH)) rfl ?_; refine vo_step (ok_assign rfl rfl rfl) rfl ?_; refine vo_nil ?_; refine N_seq ?_
    refine V_ret L (rs := [.tmp 2]) rfl (fun _ _ h => h) Since.refl fun u H hH hle => ?_
    exact congrArg (Value.int .i64) (show allE [a, b] = subjE a b c from (if_pos h).symm)
  · refine V_seq ?_; refine V_region (id := 0) ?_; refine vo_step (ok_box rfl rfl rfl rfl) rfl ?_; refine vo_step (ok_assign rfl rfl rfl) rfl ?_; refine vo_nil ?_; refine N_seq ?_; refine V_seq ?_; refine V_seq ?_; refine V_region (id := 1) ?_; refine vo_step (ok_fieldAt L rfl rfl rfl rfl) rfl ?_; refine vo_step (ok_load1 L (src_at rfl) rfl rfl rfl rfl) rfl ?_; refine vo_step (ok_seql rfl rfl rfl rfl (decide_eq_false (by assumption))) rfl ?_; refine vo_nil ?_; refine N_seq ?_; refine V_false rfl ?_; refine V_skip ?_; refine N_seq ?_; refine V_seq ?_; refine V_region (id := 3) ?_; refine vo_step (ok_loadA L (vs := [_, _, _]) (src_at rfl) rfl rfl rfl rfl ⟨_, rfl⟩) rfl ?_; refine vo_step (ok_callx L rfl rfl (blt_lt rfl) rfl rfl rfl (fun u H hH _ _ => goal_ret (by first | assumption | decide) (by first | assumption | decide) (by first | assumption | decide) hH)) rfl ?_; refine vo_step (ok_assign rfl rfl rfl) rfl ?_; refine vo_nil ?_; refine N_seq ?_
    refine V_ret L (rs := [.tmp 2]) rfl (fun _ _ h => h) Since.refl fun u H hH hle => ?_
    exact congrArg (Value.int .i64) (show allE [a, b, c] = subjE a b c from (if_neg h).symm)
abbrev sCol : ByteArray := ⟨#[58]⟩
abbrev sHash : ByteArray := ⟨#[35]⟩
def objT (a b : ByteArray) : ByteArray := a ++ sCol ++ b
def goalT (a b c : ByteArray) : ByteArray := objT a b ++ sHash ++ c
def subjT (a b c : ByteArray) : ByteArray := if c = ⟨#[]⟩ then objT a b else goalT a b c
theorem size_sCol : sCol.size = 1 := rfl
theorem size_sHash : sHash.size = 1 := rfl
theorem objT_size (a b : ByteArray) : (objT a b).size = a.size + b.size + 1 := by
  unfold objT; rw [ByteArray.size_append, ByteArray.size_append, size_sCol]; omega
theorem goalT_size (a b c : ByteArray) : (goalT a b c).size = a.size + b.size + c.size + 2 := by
  unfold goalT; rw [ByteArray.size_append, ByteArray.size_append, objT_size, size_sHash]; omega
theorem text_ret {a b : ByteArray} (ha : a.size ≤ 1099511627776) (hb : b.size ≤ 1099511627776) {w : World} {B : Heap} (hB : B.Le (hp w)) :
    Ret Try.prog 120 [.agg #[.string a, .string b]] w B (fun v _ => v = .string (objT a b)) := by
  have hz : a.size + sCol.size ≤ 9223372036854775807 := by rw [size_sCol]; omega
  have hz2 : (a ++ sCol).size + b.size ≤ 9223372036854775807 := by rw [ByteArray.size_append, size_sCol]; omega
  refine V_enter Try.func120 rfl Try.ntmps120 (Nat.le_of_ble_eq_true rfl) hB ?_
  refine V_seq ?_; refine V_region (id := 0) ?_; refine vo_step (ok_box rfl rfl rfl rfl) rfl ?_; refine vo_step (ok_assign rfl rfl rfl) rfl ?_; refine vo_nil ?_; refine N_seq ?_; refine V_seq ?_; refine V_region (id := 1) ?_; refine vo_step (ok_fieldAt L rfl rfl rfl rfl) rfl ?_; refine vo_step (ok_load1 L (src_at rfl) rfl rfl rfl rfl) rfl ?_; refine vo_step (ok_sadd rfl rfl rfl rfl (by assumption) rfl) rfl ?_; refine vo_step (ok_fieldAt L rfl rfl rfl rfl) rfl ?_; refine vo_step (ok_load1 L (src_at rfl) rfl rfl rfl rfl) rfl ?_; refine vo_step (ok_sadd rfl rfl rfl rfl (by assumption) rfl) rfl ?_; refine vo_step (ok_assign rfl rfl rfl) rfl ?_; refine vo_nil ?_; refine N_seq ?_
  refine V_ret L (rs := [.tmp 2]) rfl (fun _ _ h => h) Since.refl fun u H hH hle => ?_
  rfl
theorem goalText_ret {a b c : ByteArray} (ha : a.size ≤ 1099511627776) (hb : b.size ≤ 1099511627776) (hc : c.size ≤ 1099511627776) {w : World} {B : Heap} (hB : B.Le (hp w)) :
    Ret Try.prog 89 [.agg #[.string a, .string b, .string c]] w B (fun v _ => v = .string (goalT a b c)) := by
  have hz : (objT a b).size + sHash.size ≤ 9223372036854775807 := by rw [size_sHash, objT_size]; omega
  have hz2 : (objT a b ++ sHash).size + c.size ≤ 9223372036854775807 := by rw [ByteArray.size_append, size_sHash, objT_size]; omega
  refine V_enter Try.func89 rfl Try.ntmps89 (Nat.le_of_ble_eq_true rfl) hB ?_
  refine V_seq ?_; refine V_region (id := 0) ?_; refine vo_step (ok_box rfl rfl rfl rfl) rfl ?_; refine vo_step (ok_assign rfl rfl rfl) rfl ?_; refine vo_nil ?_; refine N_seq ?_; refine V_seq ?_; refine V_regionD (id := 1) [] mixed (by kernel_rfl) ?_; refine par_step (ok_fieldAt L rfl rfl rfl rfl) rfl ?_; refine par_step (ok_loadA L (vs := [_, _]) (src_at rfl) rfl rfl rfl rfl ⟨_, rfl⟩) rfl ?_; refine par_step (ok_callx L rfl rfl (blt_lt rfl) rfl rfl rfl (fun u H hH _ _ => text_ret (by first | assumption | decide) (by first | assumption | decide) hH)) rfl ?_; refine par_step (ok_sadd rfl rfl rfl rfl (by assumption) rfl) rfl ?_; refine par_step (ok_fieldAt L rfl rfl rfl rfl) rfl ?_; refine par_step (ok_load1 L (src_at rfl) rfl rfl rfl rfl) rfl ?_; refine par_step (ok_sadd rfl rfl rfl rfl (by assumption) rfl) rfl ?_; refine par_step (ok_assign rfl rfl rfl) rfl ?_; refine par_nil ?_; refine N_seq ?_
  refine V_ret L (rs := [.tmp 2]) rfl (fun _ _ h => h) Since.refl fun u H hH hle => ?_
  rfl
theorem subjText_ret {a b c : ByteArray} (ha : a.size ≤ 1099511627776) (hb : b.size ≤ 1099511627776) (hc : c.size ≤ 1099511627776) {w : World} {B : Heap} (hB : B.Le (hp w)) :
    Ret Try.prog 90 [.agg #[.string a, .string b, .string c]] w B (fun v _ => v = .string (subjT a b c)) := by
  refine V_enter Try.func90 rfl Try.ntmps90 (Nat.le_of_ble_eq_true rfl) hB ?_
  by_cases h : c = ⟨#[]⟩
  · refine V_seq ?_; refine V_region (id := 0) ?_; refine vo_step (ok_box rfl rfl rfl rfl) rfl ?_; refine vo_step (ok_assign rfl rfl rfl) rfl ?_; refine vo_nil ?_; refine N_seq ?_; refine V_seq ?_; refine V_seq ?_; refine V_region (id := 1) ?_; refine vo_step (ok_fieldAt L rfl rfl rfl rfl) rfl ?_; refine vo_step (ok_load1 L (src_at rfl) rfl rfl rfl rfl) rfl ?_; refine vo_step (ok_seql rfl rfl rfl rfl (decide_eq_true (by assumption))) rfl ?_; refine vo_nil ?_; refine N_seq ?_; refine V_true rfl ?_; refine V_seq ?_; refine V_region (id := 2) ?_; refine vo_step (ok_fieldAt L rfl rfl rfl rfl) rfl ?_; refine vo_step (ok_loadA L (vs := [_, _]) (src_at rfl) rfl rfl rfl rfl ⟨_, rfl⟩) rfl ?_; refine vo_step (ok_callx L rfl rfl (blt_lt rfl) rfl rfl rfl (fun u H hH _ _ => text_ret (by first | assumption | decide) (by first | assumption | decide) hH)) rfl ?_; refine vo_step (ok_assign rfl rfl rfl) rfl ?_; refine vo_nil ?_; refine N_seq ?_
    refine V_ret L (rs := [.tmp 2]) rfl (fun _ _ h => h) Since.refl fun u H hH hle => ?_
    exact congrArg Value.string (show objT a b = subjT a b c from (if_pos h).symm)
  · refine V_seq ?_; refine V_region (id := 0) ?_; refine vo_step (ok_box rfl rfl rfl rfl) rfl ?_; refine vo_step (ok_assign rfl rfl rfl) rfl ?_; refine vo_nil ?_; refine N_seq ?_; refine V_seq ?_; refine V_seq ?_; refine V_region (id := 1) ?_; refine vo_step (ok_fieldAt L rfl rfl rfl rfl) rfl ?_; refine vo_step (ok_load1 L (src_at rfl) rfl rfl rfl rfl) rfl ?_; refine vo_step (ok_seql rfl rfl rfl rfl (decide_eq_false (by assumption))) rfl ?_; refine vo_nil ?_; refine N_seq ?_; refine V_false rfl ?_; refine V_skip ?_; refine N_seq ?_; refine V_seq ?_; refine V_region (id := 3) ?_; refine vo_step (ok_loadA L (vs := [_, _, _]) (src_at rfl) rfl rfl rfl rfl ⟨_, rfl⟩) rfl ?_; refine vo_step (ok_callx L rfl rfl (blt_lt rfl) rfl rfl rfl (fun u H hH _ _ => goalText_ret (by first | assumption | decide) (by first | assumption | decide) (by first | assumption | decide) hH)) rfl ?_; refine vo_step (ok_assign rfl rfl rfl) rfl ?_; refine vo_nil ?_; refine N_seq ?_
    refine V_ret L (rs := [.tmp 2]) rfl (fun _ _ h => h) Since.refl fun u H hH hle => ?_
    exact congrArg Value.string (show goalT a b c = subjT a b c from (if_neg h).symm)

/-! ### the order -/
def cmpB (a b : ByteArray) : Int := Lib.compareBytes a.data.toList b.data.toList
theorem scmp_ret {a b : ByteArray} {w : World} {B : Heap} (hB : B.Le (hp w)) : Ret Try.prog 111 [.string a, .string b] w B (fun v _ => v = .int .i64 (cmpB a b)) := Ret.of_same hB (Try.strings_Compare a b w)
def orL : List Int → Int
  | [] => 0
  | x :: l => if x = 0 then orL l else x
theorem orL_bad : ∀ (l : List Int) (k : Nat) (s : Int), (∀ x ∈ l.take k, x = 0) → l[k]? = some s → s ≠ 0 → orL l = s
  | [], k, s, _, h, _ => by simp at h
  | x :: l, 0, s, _, h, hc => by simp at h; subst h; simp [orL, hc]
  | x :: l, k + 1, s, ha, h, hc => by
    simp only [List.take_succ_cons] at ha
    simp only [List.getElem?_cons_succ] at h
    have hx := ha x (List.mem_cons_self ..)
    simp only [orL, if_pos hx]
    exact orL_bad l k s (fun y hy => ha y (List.mem_cons_of_mem _ hy)) h hc
theorem orL_zero : ∀ (l : List Int), (∀ x ∈ l, x = 0) → orL l = 0
  | [], _ => rfl
  | x :: l, h => by simp only [orL, if_pos (h x (List.mem_cons_self ..))]; exact orL_zero l fun y hy => h y (List.mem_cons_of_mem _ hy)
set_option maxHeartbeats 400000 in
theorem or_gen (l : List Int) (hlen : l.length ≤ 1000) {e : TypeId} {fu : Bool} {v : Value} {w : World} {B : Heap} (hB : B.Le (hp w)) (hv : SlV e 1 (l.map (Value.int .i64)) l.length fu v B) :
    Ret Try.prog 80 [v] w B (fun v _ => v = .int .i64 (orL l)) := by
  refine V_enter Try.func80 rfl Try.ntmps80 (Nat.le_of_ble_eq_true rfl) hB ?_
  refine V_seen 0 (SlV e 1 (l.map (Value.int .i64)) l.length fu) rfl SlV.mono hv ?_
  refine V_seq ?_; refine V_region (id := 0) ?_; refine vo_step (ok_assign rfl rfl rfl) rfl ?_; refine vo_nil ?_; refine N_seq ?_; refine V_seq ?_; refine V_region (id := 1) ?_; refine vo_step (ok_assign rfl rfl rfl) rfl ?_; refine vo_nil ?_; refine N_seq ?_; refine V_seq ?_; refine V_seq ?_; refine V_region (id := 2) ?_; refine vo_step (ok_moves' rfl rfl rfl) rfl ?_; refine vo_step (ok_lenV L rfl rfl rfl rfl) rfl ?_; refine vo_step (ok_move rfl rfl rfl) rfl ?_; refine vo_nil ?_; refine N_seq ?_; refine V_block ?_
  refine V_loop (fun k : Nat => [(3, .is (.int .i64 0)), (6, .sat (SlV e 1 (l.map (Value.int .i64)) l.length fu)), (7, .is (.int .i64 l.length)), (8, .is (.int .i64 k))])
    (fun k => k ≤ l.length ∧ ∀ x ∈ l.take k, x = 0) (fun k => l.length - k) 0 ⟨Nat.zero_le _, by simp⟩ ⟨rfl, rfl, rfl, rfl, trivial⟩ ?_
  rintro k ⟨hk, hall⟩
  by_cases hlt : k < l.length
  · have hs : l[k]? = some l[k] := List.getElem?_eq_getElem hlt
    generalize l[k] = s at hs
    have hc : ((l.map (Value.int .i64)).drop (k * 1)).take 1 = [.int .i64 s] := take_1 (by simp [hs])
    by_cases h0 : s = 0
    · refine V_seq ?_; refine V_region (id := 3) ?_; refine vo_step (ok_lss rfl rfl rfl rfl (decide_eq_true (by omega))) rfl ?_; refine vo_nil ?_; refine N_seq ?_; refine V_seq ?_; refine V_true rfl ?_; refine V_skip ?_; refine N_seq ?_; refine V_seq ?_; refine V_block ?_; refine V_seq ?_; refine V_region (id := 4) ?_; refine vo_step (ok_indexV L _ rfl rfl rfl rfl rfl rfl rfl (by first | omega | decide) (by assumption)) rfl ?_; refine vo_step (ok_loadP1 L rfl rfl rfl rfl rfl) rfl ?_; refine vo_step (ok_assign rfl rfl rfl) rfl ?_; refine vo_nil ?_; refine N_seq ?_; refine V_seq ?_; refine V_region (id := 5) ?_; refine vo_step (ok_move rfl rfl rfl) rfl ?_; refine vo_step (ok_move rfl rfl rfl) rfl ?_; refine vo_step (ok_neq rfl rfl rfl rfl (decide_eq_false (by omega))) rfl ?_; refine vo_nil ?_; refine N_seq ?_; refine V_false rfl ?_; refine V_skip ?_; refine N_block ?_; refine N_seq ?_; refine V_region (id := 7) ?_; refine vo_step (ok_add rfl rfl rfl rfl (wrap_i64 (by omega) (by omega))) rfl ?_; refine vo_step (ok_move rfl rfl rfl) rfl ?_; refine vo_nil ?_
      refine N_round (k + 1) ⟨hlt, ?_⟩ (by omega) ⟨rfl, rfl, rfl, rfl, trivial⟩
      rw [List.take_add_one, hs]
      intro x hx
      rcases List.mem_append.1 hx with hx | hx
      · exact hall x hx
      · simp at hx; rw [hx, h0]
    · refine V_seq ?_; refine V_region (id := 3) ?_; refine vo_step (ok_lss rfl rfl rfl rfl (decide_eq_true (by omega))) rfl ?_; refine vo_nil ?_; refine N_seq ?_; refine V_seq ?_; refine V_true rfl ?_; refine V_skip ?_; refine N_seq ?_; refine V_seq ?_; refine V_block ?_; refine V_seq ?_; refine V_region (id := 4) ?_; refine vo_step (ok_indexV L _ rfl rfl rfl rfl rfl rfl rfl (by first | omega | decide) (by assumption)) rfl ?_; refine vo_step (ok_loadP1 L rfl rfl rfl rfl rfl) rfl ?_; refine vo_step (ok_assign rfl rfl rfl) rfl ?_; refine vo_nil ?_; refine N_seq ?_; refine V_seq ?_; refine V_region (id := 5) ?_; refine vo_step (ok_move rfl rfl rfl) rfl ?_; refine vo_step (ok_move rfl rfl rfl) rfl ?_; refine vo_step (ok_neq rfl rfl rfl rfl (decide_eq_true (by omega))) rfl ?_; refine vo_nil ?_; refine N_seq ?_; refine V_true rfl ?_; refine V_seq ?_; refine V_region (id := 6) ?_; refine vo_step (ok_move rfl rfl rfl) rfl ?_; refine vo_step (ok_assign rfl rfl rfl) rfl ?_; refine vo_nil ?_; refine N_seq ?_
      refine V_ret L (rs := [.tmp 2]) rfl (fun _ _ h => h) Since.refl fun u H hH hle => ?_
      exact congrArg _ (orL_bad l k s hall hs h0).symm
  · refine V_seq ?_; refine V_region (id := 3) ?_; refine vo_step (ok_lss rfl rfl rfl rfl (decide_eq_false (by omega))) rfl ?_; refine vo_nil ?_; refine N_seq ?_; refine V_seq ?_; refine V_false rfl ?_; refine V_exit ?_; refine X_then ?_; refine X_then ?_; refine X_here ?_; refine N_seq ?_; refine V_seq ?_; refine V_region (id := 8) ?_; refine vo_step (ok_move rfl rfl rfl) rfl ?_; refine vo_step (ok_assign rfl rfl rfl) rfl ?_; refine vo_nil ?_; refine N_seq ?_
    refine V_ret L (rs := [.tmp 2]) rfl (fun _ _ h => h) Since.refl fun u H hH hle => ?_
    have : l.take k = l := List.take_of_length_le (by omega)
    exact congrArg _ (orL_zero l (this ▸ hall)).symm
theorem or2_ret {x y : Int} {w : World} {B : Heap} (hB : B.Le (hp w)) {t : Nat} {v : Value} (hv : SlB [.int .i64 x, .int .i64 y] t 2 v B) :
    Ret Try.prog 80 [v] w B (fun v _ => v = .int .i64 (orL [x, y])) := by
  exact or_gen [x, y] (by simp) hB (hv.toV rfl)
def cmpO (a b c d : ByteArray) : Int := orL [cmpB a c, cmpB b d]
def cmpG (a b r c d s : ByteArray) : Int := orL [cmpO a b c d, cmpB r s]
theorem cmpO_ret {a b c d : ByteArray} {w : World} {B : Heap} (hB : B.Le (hp w)) :
    Ret Try.prog 110 [.agg #[.string a, .string b], .agg #[.string c, .string d]] w B (fun v _ => v = .int .i64 (cmpO a b c d)) := by
  refine V_enter Try.func110 rfl Try.ntmps110 (Nat.le_of_ble_eq_true rfl) hB ?_
  refine V_seq ?_; refine V_region (id := 0) ?_; refine vo_step (ok_box rfl rfl rfl rfl) rfl ?_; refine vo_step (ok_box rfl rfl rfl rfl) rfl ?_; refine vo_step (ok_assign rfl rfl rfl) rfl ?_; refine vo_nil ?_; refine N_seq ?_; refine V_seq ?_; refine V_regionD (id := 1) [] mixed (by kernel_rfl) ?_; refine par_step (ok_fieldAt L rfl rfl rfl rfl) rfl ?_; refine par_step (ok_load1 L (src_at rfl) rfl rfl rfl rfl) rfl ?_; refine par_step (ok_fieldAt L rfl rfl rfl rfl) rfl ?_; refine par_step (ok_load1 L (src_at rfl) rfl rfl rfl rfl) rfl ?_; refine par_step (ok_callx L rfl rfl (blt_lt rfl) rfl rfl rfl (fun u H hH _ _ => scmp_ret hH)) rfl ?_; refine par_step (ok_fieldAt L rfl rfl rfl rfl) rfl ?_; refine par_step (ok_load1 L (src_at rfl) rfl rfl rfl rfl) rfl ?_; refine par_step (ok_fieldAt L rfl rfl rfl rfl) rfl ?_; refine par_step (ok_load1 L (src_at rfl) rfl rfl rfl rfl) rfl ?_; refine par_step (ok_callx L rfl rfl (blt_lt rfl) rfl rfl rfl (fun u H hH _ _ => scmp_ret hH)) rfl ?_; refine par_step (ok_buildSlice L rfl rfl rfl rfl rfl rfl rfl rfl rfl) rfl ?_; refine par_step (ok_callx L rfl rfl (blt_lt rfl) rfl rfl rfl (fun u H hH _ _ v hv => or2_ret hH hv)) rfl ?_; refine par_step (ok_assign rfl rfl rfl) rfl ?_; refine par_nil ?_; refine N_seq ?_
  refine V_ret L (rs := [.tmp 4]) rfl (fun _ _ h => h) Since.refl fun u H hH hle => ?_
  rfl
theorem cmpG_ret {a b r c d s : ByteArray} {w : World} {B : Heap} (hB : B.Le (hp w)) :
    Ret Try.prog 81 [.agg #[.string a, .string b, .string r], .agg #[.string c, .string d, .string s]] w B (fun v _ => v = .int .i64 (cmpG a b r c d s)) := by
  refine V_enter Try.func81 rfl Try.ntmps81 (Nat.le_of_ble_eq_true rfl) hB ?_
  refine V_seq ?_; refine V_region (id := 0) ?_; refine vo_step (ok_box rfl rfl rfl rfl) rfl ?_; refine vo_step (ok_box rfl rfl rfl rfl) rfl ?_; refine vo_step (ok_assign rfl rfl rfl) rfl ?_; refine vo_nil ?_; refine N_seq ?_; refine V_seq ?_; refine V_regionD (id := 1) [] mixed (by kernel_rfl) ?_; refine par_step (ok_fieldAt L rfl rfl rfl rfl) rfl ?_; refine par_step (ok_loadA L (vs := [_, _]) (src_at rfl) rfl rfl rfl rfl ⟨_, rfl⟩) rfl ?_; refine par_step (ok_fieldAt L rfl rfl rfl rfl) rfl ?_; refine par_step (ok_loadA L (vs := [_, _]) (src_at rfl) rfl rfl rfl rfl ⟨_, rfl⟩) rfl ?_; refine par_step (ok_callx L rfl rfl (blt_lt rfl) rfl rfl rfl (fun u H hH _ _ => cmpO_ret hH)) rfl ?_; refine par_step (ok_fieldAt L rfl rfl rfl rfl) rfl ?_; refine par_step (ok_load1 L (src_at rfl) rfl rfl rfl rfl) rfl ?_; refine par_step (ok_fieldAt L rfl rfl rfl rfl) rfl ?_; refine par_step (ok_load1 L (src_at rfl) rfl rfl rfl rfl) rfl ?_; refine par_step (ok_callx L rfl rfl (blt_lt rfl) rfl rfl rfl (fun u H hH _ _ => scmp_ret hH)) rfl ?_; refine par_step (ok_buildSlice L rfl rfl rfl rfl rfl rfl rfl rfl rfl) rfl ?_; refine par_step (ok_callx L rfl rfl (blt_lt rfl) rfl rfl rfl (fun u H hH _ _ v hv => or2_ret hH hv)) rfl ?_; refine par_step (ok_assign rfl rfl rfl) rfl ?_; refine par_nil ?_; refine N_seq ?_
  refine V_ret L (rs := [.tmp 4]) rfl (fun _ _ h => h) Since.refl fun u H hH hle => ?_
  rfl
theorem cmpU_ret {a b r c d s : ByteArray} {w : World} {B : Heap} (hB : B.Le (hp w)) :
    Ret Try.prog 82 [.agg #[.string a, .string b, .string r], .agg #[.string c, .string d, .string s]] w B (fun v _ => v = .int .i64 (cmpG a b r c d s)) := by
  refine V_enter Try.func82 rfl Try.ntmps82 (Nat.le_of_ble_eq_true rfl) hB ?_
  refine V_seq ?_; refine V_region (id := 0) ?_; refine vo_step (ok_box rfl rfl rfl rfl) rfl ?_; refine vo_step (ok_box rfl rfl rfl rfl) rfl ?_; refine vo_step (ok_assign rfl rfl rfl) rfl ?_; refine vo_nil ?_; refine N_seq ?_; refine V_seq ?_; refine V_region (id := 1) ?_; refine vo_step (ok_loadA L (vs := [_, _, _]) (src_at rfl) rfl rfl rfl rfl ⟨_, rfl⟩) rfl ?_; refine vo_step (ok_loadA L (vs := [_, _, _]) (src_at rfl) rfl rfl rfl rfl ⟨_, rfl⟩) rfl ?_; refine vo_step (ok_callx L rfl rfl (blt_lt rfl) rfl rfl rfl (fun u H hH _ _ => cmpG_ret hH)) rfl ?_; refine vo_step (ok_assign rfl rfl rfl) rfl ?_; refine vo_nil ?_; refine N_seq ?_
  refine V_ret L (rs := [.tmp 4]) rfl (fun _ _ h => h) Since.refl fun u H hH hle => ?_
  rfl
end Go.V
