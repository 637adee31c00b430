/- Texts on the way to MustsKnown, part 2: one behind another. -/
import Derived.Test.YtkmjfdeeahjfcaaMustsKnownM1
import Derived.Shelf.Small.Strs
import Derived.Test.YtkmjfdeeahjfcaaProg
import Derived.Lib.IndexMore
import Derived.Lib.IndexLaws
import Derived.Lib.IndexBytes
import Derived.Shelf.SlSortCmp.NoneTotal
set_option linter.unusedVariables false
set_option linter.unusedSimpArgs false
/- The walks of names: objects, goals, subjects: their errors and texts, their order. -/
namespace Go.V
open Go.Proofs Go.RowKit
attribute [local irreducible] V N X VO Par StepOK Has Ret RetL Src
def allE : List ByteArray → Int
  | [] => 0
  | s :: l => if chk s = 0 then allE l else chk s
theorem allE_snoc : ∀ (l : List ByteArray) (s : ByteArray), allE l = 0 → allE (l ++ [s]) = chk s
  | [], s, _ => by simp only [List.nil_append, allE]; split <;> simp_all
  | x :: l, s, h => by
    simp only [List.cons_append, allE] at h ⊢
    by_cases hx : chk x = 0
    · rw [if_pos hx] at h ⊢; exact allE_snoc l s h
    · rw [if_neg hx] at h; exact absurd h hx
theorem allE_bad : ∀ (l : List ByteArray) (k : Nat) (s : ByteArray), allE (l.take k) = 0 → l[k]? = some s → chk s ≠ 0 → allE l = chk s
  | [], k, s, _, h, _ => by simp at h
  | x :: l, 0, s, _, h, hc => by simp at h; subst h; simp [allE, hc]
  | x :: l, k + 1, s, ha, h, hc => by
    simp only [List.take_succ_cons, allE] at ha
    simp only [List.getElem?_cons_succ] at h
    by_cases hx : chk x = 0
    · rw [if_pos hx] at ha
      simp only [allE, if_pos hx]
      exact allE_bad l k s ha h hc
    · rw [if_neg hx] at ha; exact absurd ha hx
set_option maxHeartbeats 400000 in
theorem all_gen (l : List ByteArray) (hl : ∀ s ∈ l, s.size ≤ 9223372036854775807) (hlen : l.length ≤ 1000) {e : TypeId} {fu : Bool} {v : Value} {w : World} {B : Heap} (hB : B.Le (hp w)) (hv : SlV e 1 (l.map Value.string) l.length fu v B) :
    Ret Try.prog 103 [v] w B (fun v _ => v = .int .i64 (allE l)) := by
  refine V_enter Try.func103 rfl Try.ntmps103 (Nat.le_of_ble_eq_true rfl) hB ?_
  refine V_seen 0 (SlV e 1 (l.map Value.string) l.length fu) rfl SlV.mono hv ?_
  refine V_seq ?_; refine V_region (id := 0) ?_; refine vo_step (ok_assign rfl rfl rfl) rfl ?_; refine vo_nil ?_; refine N_seq ?_; refine V_seq ?_; refine V_seq ?_; refine V_region (id := 1) ?_; refine vo_step (ok_moves' rfl rfl rfl) rfl ?_; refine vo_step (ok_lenV L rfl rfl rfl rfl) rfl ?_; refine vo_step (ok_move rfl rfl rfl) rfl ?_; refine vo_nil ?_; refine N_seq ?_; refine V_block ?_
  refine V_loop (fun k : Nat => [(6, .sat (SlV e 1 (l.map Value.string) l.length fu)), (7, .is (.int .i64 l.length)), (8, .is (.int .i64 k))])
    (fun k => k ≤ l.length ∧ allE (l.take k) = 0) (fun k => l.length - k) 0 ⟨Nat.zero_le _, by simp [allE]⟩ ⟨rfl, rfl, rfl, trivial⟩ ?_
  rintro k ⟨hk, hall⟩
  by_cases hlt : k < l.length
  · have hs : l[k]? = some l[k] := List.getElem?_eq_getElem hlt
    generalize l[k] = s at hs
    have hsz : s.size ≤ 9223372036854775807 := hl s (List.mem_of_getElem? hs)
    have hc := str_at hs
    by_cases h0 : chk s = 0
    · refine V_seq ?_; refine V_region (id := 2) ?_; refine vo_step (ok_lss rfl rfl rfl rfl (decide_eq_true (by omega))) rfl ?_; refine vo_nil ?_; refine N_seq ?_; refine V_seq ?_; refine V_true rfl ?_; refine V_skip ?_; refine N_seq ?_; refine V_seq ?_; refine V_block ?_; refine V_seq ?_; refine V_region (id := 3) ?_; refine vo_step (ok_indexV L _ rfl rfl rfl rfl rfl rfl rfl (by first | omega | decide) (by assumption)) rfl ?_; refine vo_step (ok_loadP1 L rfl rfl rfl rfl rfl) rfl ?_; refine vo_step (ok_assign rfl rfl rfl) rfl ?_; refine vo_nil ?_; refine N_seq ?_; refine V_seq ?_; refine V_region (id := 4) ?_; refine vo_step (ok_move rfl rfl rfl) rfl ?_; refine vo_step (ok_callx L rfl rfl (blt_lt rfl) rfl rfl rfl (fun u H hH _ _ => check_ret _ (by first | omega | decide) hH)) rfl ?_; refine vo_step (ok_assign rfl rfl rfl) rfl ?_; refine vo_nil ?_; refine N_seq ?_; refine V_seq ?_; refine V_region (id := 5) ?_; refine vo_step (ok_move rfl rfl rfl) rfl ?_; refine vo_step (ok_neq rfl rfl rfl rfl (decide_eq_false (by omega))) rfl ?_; refine vo_nil ?_; refine N_seq ?_; refine V_false rfl ?_; refine V_skip ?_; refine N_block ?_; refine N_seq ?_; refine V_region (id := 7) ?_; refine vo_step (ok_add rfl rfl rfl rfl (wrap_i64 (by omega) (by omega))) rfl ?_; refine vo_step (ok_move rfl rfl rfl) rfl ?_; refine vo_nil ?_
      refine N_round (k + 1) ⟨hlt, ?_⟩ (by omega) ⟨rfl, rfl, rfl, trivial⟩
      rw [List.take_add_one, hs]
      show allE (l.take k ++ [s]) = 0
      rw [allE_snoc _ _ hall, h0]
    · refine V_seq ?_; refine V_region (id := 2) ?_; refine vo_step (ok_lss rfl rfl rfl rfl (decide_eq_true (by omega))) rfl ?_; refine vo_nil ?_; refine N_seq ?_; refine V_seq ?_; refine V_true rfl ?_; refine V_skip ?_; refine N_seq ?_; refine V_seq ?_; refine V_block ?_; refine V_seq ?_; refine V_region (id := 3) ?_; refine vo_step (ok_indexV L _ rfl rfl rfl rfl rfl rfl rfl (by first | omega | decide) (by assumption)) rfl ?_; refine vo_step (ok_loadP1 L rfl rfl rfl rfl rfl) rfl ?_; refine vo_step (ok_assign rfl rfl rfl) rfl ?_; refine vo_nil ?_; refine N_seq ?_; refine V_seq ?_; refine V_region (id := 4) ?_; refine vo_step (ok_move rfl rfl rfl) rfl ?_; refine vo_step (ok_callx L rfl rfl (blt_lt rfl) rfl rfl rfl (fun u H hH _ _ => check_ret _ (by first | omega | decide) hH)) rfl ?_; refine vo_step (ok_assign rfl rfl rfl) rfl ?_; refine vo_nil ?_; refine N_seq ?_; refine V_seq ?_; refine V_region (id := 5) ?_; refine vo_step (ok_move rfl rfl rfl) rfl ?_; refine vo_step (ok_neq rfl rfl rfl rfl (decide_eq_true (by omega))) rfl ?_; refine vo_nil ?_; refine N_seq ?_; refine V_true rfl ?_; refine V_seq ?_; refine V_region (id := 6) ?_; refine vo_step (ok_move rfl rfl rfl) rfl ?_; refine vo_step (ok_assign rfl rfl rfl) rfl ?_; refine vo_nil ?_; refine N_seq ?_
      refine V_ret L (rs := [.tmp 2]) rfl (fun _ _ h => h) Since.refl fun u H hH hle => ?_
      exact congrArg _ (allE_bad l k s hall hs h0).symm
  · refine V_seq ?_; refine V_region (id := 2) ?_; refine vo_step (ok_lss rfl rfl rfl rfl (decide_eq_false (by omega))) rfl ?_; refine vo_nil ?_; refine N_seq ?_; refine V_seq ?_; refine V_false rfl ?_; refine V_exit ?_; refine X_then ?_; refine X_then ?_; refine X_here ?_; refine N_seq ?_; refine V_seq ?_; refine V_region (id := 8) ?_; refine vo_step (ok_assign rfl rfl rfl) rfl ?_; refine vo_nil ?_; refine N_seq ?_
    refine V_ret L (rs := [.tmp 2]) rfl (fun _ _ h => h) Since.refl fun u H hH hle => ?_
    have : l.take k = l := List.take_of_length_le (by omega)
    exact congrArg _ (this ▸ hall).symm
end Go.V
/-
  DERIVED: THE SHELF's CONTRACTS AT THIS DUMP, IN PLAIN WORDS (tools/lay-plain.mjs out of 'TryShelf.lean', which tools/lay-shelf.mjs wrote): THE SAME DECLARATIONS UNDER THE SAME NAMES: 'import', 'namespace', 'open', 'def', 'theorem' AND NOTHING ELSE: no command of the shelf's: FOR A HAND-IN. Each laying: the table of numbers ('.._ren') and one theorem, a field a fact of the dump's own or the kernel's comparison; each contract: ONE APPLICATION.
-/
namespace Go.Proofs
open Go.Shelf
def Try.lays213_ren : Go.Shelf.Ren := ⟨fun | 213 => 124 | 265 => 129 | n => n, fun | 9 => 9 | 3 => 3 | n => n, fun | n => n⟩
theorem Try.lays213 : Go.Proofs.Lays.n213 Try.prog Try.lays213_ren := {
  mixed := by kernel_rfl
  f213 := Try.func124.trans (congrArg some (by kernel_rfl))
  f265 := Try.func129.trans (congrArg some (by kernel_rfl))
  t3 := Try.underlying3
  a3 := Try.isAgg3
  z3 := Try.sizeOf3
  v3 := Try.zeroValue3
  t9 := Try.underlying9
  a9 := Try.isAgg9
  z9 := Try.sizeOf9
  v9 := Try.zeroValue9 }
open Go.RowKit in
/-- internal/bytealg.CompareString (what strings.Compare calls): IT RETURNS 'Lib.compareBytes a b'; the world is as it was. (LAID: no walk: one application.) -/
theorem Try.bytealg_CompareString (a b : ByteArray) (w : World) :
    Calls Try.prog 124 #[.string a, .string b] w fun e w' => e = .returned (.int .i64 (Lib.compareBytes a.data.toList b.data.toList)) ∧ w' = w := Any.bytealg_CompareString Try.lays213 a b w
def Try.lays106_ren : Go.Shelf.Ren := ⟨fun | 106 => 116 | 213 => 124 | 265 => 129 | n => n, fun | 9 => 9 | 3 => 3 | n => n, fun | n => n⟩
theorem Try.lays106 : Go.Proofs.Lays.n106 Try.prog Try.lays106_ren := {
  mixed := by kernel_rfl
  f106 := Try.func116.trans (congrArg some (by kernel_rfl))
  f213 := Try.func124.trans (congrArg some (by kernel_rfl))
  f265 := Try.func129.trans (congrArg some (by kernel_rfl))
  t3 := Try.underlying3
  a3 := Try.isAgg3
  z3 := Try.sizeOf3
  v3 := Try.zeroValue3
  t9 := Try.underlying9
  a9 := Try.isAgg9
  z9 := Try.sizeOf9
  v9 := Try.zeroValue9 }
open Go.RowKit in
/-- strings.Compare: "Compare returns an integer comparing two strings lexicographically. The result will be 0 if a == b, -1 if a < b, and +1 if a > b.": IT RETURNS 'Lib.compareBytes a b'; the world is as it was. (LAID: no walk: one application.) -/
theorem Try.strings_Compare (a b : ByteArray) (w : World) :
    Calls Try.prog 116 #[.string a, .string b] w fun e w' => e = .returned (.int .i64 (Lib.compareBytes a.data.toList b.data.toList)) ∧ w' = w := Any.strings_Compare Try.lays106 a b w
end Go.Proofs
/- The walks of names: objects, goals, subjects. -/
namespace Go.V
open Go.Proofs Go.RowKit
attribute [local irreducible] V N X VO Par StepOK Has Ret RetL Src
theorem all2_ret {a b : ByteArray} (ha : a.size ≤ 9223372036854775807) (hb : b.size ≤ 9223372036854775807) {w : World} {B : Heap} (hB : B.Le (hp w)) {t : Nat} {v : Value} (hv : SlB [.string a, .string b] t 2 v B) :
    Ret Try.prog 103 [v] w B (fun v _ => v = .int .i64 (allE [a, b])) := by
  exact all_gen [a, b] (by intro s hs; simp at hs; rcases hs with rfl | rfl <;> assumption) (by simp) hB (hv.toV rfl)
theorem all3_ret {a b c : ByteArray} (ha : a.size ≤ 9223372036854775807) (hb : b.size ≤ 9223372036854775807) (hc : c.size ≤ 9223372036854775807) {w : World} {B : Heap} (hB : B.Le (hp w)) {t : Nat} {v : Value} (hv : SlB [.string a, .string b, .string c] t 3 v B) :
    Ret Try.prog 103 [v] w B (fun v _ => v = .int .i64 (allE [a, b, c])) := by
  exact all_gen [a, b, c] (by intro s hs; simp at hs; rcases hs with rfl | rfl | rfl <;> assumption) (by simp) hB (hv.toV rfl)
theorem object_ret {a b : ByteArray} (ha : a.size ≤ 9223372036854775807) (hb : b.size ≤ 9223372036854775807) {w : World} {B : Heap} (hB : B.Le (hp w)) :
    Ret Try.prog 104 [.agg #[.string a, .string b]] w B (fun v _ => v = .int .i64 (allE [a, b])) := by
  refine V_enter Try.func104 rfl Try.ntmps104 (Nat.le_of_ble_eq_true rfl) hB ?_
  refine V_seq ?_; refine V_region (id := 0) ?_; refine vo_step (ok_box rfl rfl rfl rfl) rfl ?_; refine vo_step (ok_assign rfl rfl rfl) rfl ?_; refine vo_nil ?_; refine N_seq ?_; refine V_seq ?_; refine V_region (id := 1) ?_; refine vo_step (ok_fieldAt L rfl rfl rfl rfl) rfl ?_; refine vo_step (ok_load1 L (src_at rfl) rfl rfl rfl rfl) rfl ?_; refine vo_step (ok_fieldAt L rfl rfl rfl rfl) rfl ?_; refine vo_step (ok_load1 L (src_at rfl) rfl rfl rfl rfl) rfl ?_; refine vo_step (ok_buildSlice L rfl rfl rfl rfl rfl rfl rfl rfl rfl) rfl ?_; refine vo_step (ok_callx L rfl rfl (blt_lt rfl) rfl rfl rfl (fun u H hH _ _ v hv => all2_ret (by first | assumption | omega | decide) (by first | assumption | omega | decide) hH hv)) rfl ?_; refine vo_step (ok_assign rfl rfl rfl) rfl ?_; refine vo_nil ?_; refine N_seq ?_
  refine V_ret L (rs := [.tmp 2]) rfl (fun _ _ h => h) Since.refl fun u H hH hle => ?_
  rfl
theorem goal_ret {a b c : ByteArray} (ha : a.size ≤ 9223372036854775807) (hb : b.size ≤ 9223372036854775807) (hc : c.size ≤ 9223372036854775807) {w : World} {B : Heap} (hB : B.Le (hp w)) :
    Ret Try.prog 80 [.agg #[.string a, .string b, .string c]] w B (fun v _ => v = .int .i64 (allE [a, b, c])) := by
  refine V_enter Try.func80 rfl Try.ntmps80 (Nat.le_of_ble_eq_true rfl) hB ?_
  refine V_seq ?_; refine V_region (id := 0) ?_; refine vo_step (ok_box rfl rfl rfl rfl) rfl ?_; refine vo_step (ok_assign rfl rfl rfl) rfl ?_; refine vo_nil ?_; refine N_seq ?_; refine V_seq ?_; refine V_region (id := 1) ?_; refine vo_step (ok_fieldAt L rfl rfl rfl rfl) rfl ?_; refine vo_step (ok_fieldAt L rfl rfl rfl rfl) rfl ?_; refine vo_step (ok_load1 L (src_at rfl) rfl rfl rfl rfl) rfl ?_; refine vo_step (ok_fieldAt L rfl rfl rfl rfl) rfl ?_; refine vo_step (ok_fieldAt L rfl rfl rfl rfl) rfl ?_; refine vo_step (ok_load1 L (src_at rfl) rfl rfl rfl rfl) rfl ?_; refine vo_step (ok_fieldAt L rfl rfl rfl rfl) rfl ?_; refine vo_step (ok_load1 L (src_at rfl) rfl rfl rfl rfl) rfl ?_; refine vo_step (ok_buildSlice L rfl rfl rfl rfl rfl rfl rfl rfl rfl) rfl ?_; refine vo_step (ok_callx L rfl rfl (blt_lt rfl) rfl rfl rfl (fun u H hH _ _ v hv => all3_ret (by first | assumption | omega | decide) (by first | assumption | omega | decide) (by first | assumption | omega | decide) hH hv)) rfl ?_; refine vo_step (ok_assign rfl rfl rfl) rfl ?_; refine vo_nil ?_; refine N_seq ?_
  refine V_ret L (rs := [.tmp 2]) rfl (fun _ _ h => h) Since.refl fun u H hH hle => ?_
  rfl
def subjE (a b c : ByteArray) : Int := if c = ⟨#[]⟩ then allE [a, b] else allE [a, b, c]
theorem subject_ret {a b c : ByteArray} (ha : a.size ≤ 9223372036854775807) (hb : b.size ≤ 9223372036854775807) (hc : c.size ≤ 9223372036854775807) {w : World} {B : Heap} (hB : B.Le (hp w)) :
    Ret Try.prog 81 [.agg #[.string a, .string b, .string c]] w B (fun v _ => v = .int .i64 (subjE a b c)) := by
  refine V_enter Try.func81 rfl Try.ntmps81 (Nat.le_of_ble_eq_true rfl) hB ?_
  by_cases h : c = ⟨#[]⟩
  · refine V_seq ?_; refine V_region (id := 0) ?_; refine vo_step (ok_box rfl rfl rfl rfl) rfl ?_; refine vo_step (ok_assign rfl rfl rfl) rfl ?_; refine vo_nil ?_; refine N_seq ?_; refine V_seq ?_; refine V_seq ?_; refine V_region (id := 1) ?_; refine vo_step (ok_fieldAt L rfl rfl rfl rfl) rfl ?_; refine vo_step (ok_load1 L (src_at rfl) rfl rfl rfl rfl) rfl ?_; refine vo_step (ok_seql rfl rfl rfl rfl (decide_eq_true (by assumption))) rfl ?_; refine vo_nil ?_; refine N_seq ?_; refine V_true rfl ?_; refine V_seq ?_; refine V_region (id := 2) ?_; refine vo_step (ok_fieldAt L rfl rfl rfl rfl) rfl ?_; refine vo_step (ok_loadA L (vs := [_, _]) (src_at rfl) rfl rfl rfl rfl ⟨_, rfl⟩) rfl ?_; refine vo_step (ok_callx L rfl rfl (blt_lt rfl) rfl rfl rfl (fun u H hH _ _ => object_ret (by first | assumption | omega | decide) (by first | assumption | omega | decide) hH)) rfl ?_; refine vo_step (ok_assign rfl rfl rfl) rfl ?_; refine vo_nil ?_; refine N_seq ?_
    refine V_ret L (rs := [.tmp 2]) rfl (fun _ _ h => h) Since.refl fun u H hH hle => ?_
    exact congrArg (Value.int .i64) (show allE [a, b] = subjE a b c from (if_pos h).symm)
  · refine V_seq ?_; refine V_region (id := 0) ?_; refine vo_step (ok_box rfl rfl rfl rfl) rfl ?_; refine vo_step (ok_assign rfl rfl rfl) rfl ?_; refine vo_nil ?_; refine N_seq ?_; refine V_seq ?_; refine V_seq ?_; refine V_region (id := 1) ?_; refine vo_step (ok_fieldAt L rfl rfl rfl rfl) rfl ?_; refine vo_step (ok_load1 L (src_at rfl) rfl rfl rfl rfl) rfl ?_; refine vo_step (ok_seql rfl rfl rfl rfl (decide_eq_false (by assumption))) rfl ?_; refine vo_nil ?_; refine N_seq ?_; refine V_false rfl ?_; refine V_skip ?_; refine N_seq ?_; refine V_seq ?_; refine V_region (id := 3) ?_; refine vo_step (ok_loadA L (vs := [_, _, _]) (src_at rfl) rfl rfl rfl rfl ⟨_, rfl⟩) rfl ?_; refine vo_step (ok_callx L rfl rfl (blt_lt rfl) rfl rfl rfl (fun u H hH _ _ => goal_ret (by first | assumption | omega | decide) (by first | assumption | omega | decide) (by first | assumption | omega | decide) hH)) rfl ?_; refine vo_step (ok_assign rfl rfl rfl) rfl ?_; refine vo_nil ?_; refine N_seq ?_
    refine V_ret L (rs := [.tmp 2]) rfl (fun _ _ h => h) Since.refl fun u H hH hle => ?_
    exact congrArg (Value.int .i64) (show allE [a, b, c] = subjE a b c from (if_neg h).symm)
def cmpB (a b : ByteArray) : Int := Lib.compareBytes a.data.toList b.data.toList
theorem scmp_ret {a b : ByteArray} {w : World} {B : Heap} (hB : B.Le (hp w)) : Ret Try.prog 116 [.string a, .string b] w B (fun v _ => v = .int .i64 (cmpB a b)) := Ret.of_same hB (Try.strings_Compare a b w)
def orL : List Int → Int
  | [] => 0
  | x :: l => if x = 0 then orL l else x
theorem orL_bad : ∀ (l : List Int) (k : Nat) (s : Int), (∀ x ∈ l.take k, x = 0) → l[k]? = some s → s ≠ 0 → orL l = s
  | [], k, s, _, h, _ => by simp at h
  | x :: l, 0, s, _, h, hc => by simp at h; subst h; simp [orL, hc]
  | x :: l, k + 1, s, ha, h, hc => by
    simp only [List.take_succ_cons] at ha
    simp only [List.getElem?_cons_succ] at h
    have hx := ha x (List.mem_cons_self ..)
    simp only [orL, if_pos hx]
    exact orL_bad l k s (fun y hy => ha y (List.mem_cons_of_mem _ hy)) h hc
theorem orL_zero : ∀ (l : List Int), (∀ x ∈ l, x = 0) → orL l = 0
  | [], _ => rfl
  | x :: l, h => by simp only [orL, if_pos (h x (List.mem_cons_self ..))]; exact orL_zero l fun y hy => h y (List.mem_cons_of_mem _ hy)
set_option maxHeartbeats 400000 in
theorem or_gen (l : List Int) (hlen : l.length ≤ 1000) {e : TypeId} {fu : Bool} {v : Value} {w : World} {B : Heap} (hB : B.Le (hp w)) (hv : SlV e 1 (l.map (Value.int .i64)) l.length fu v B) :
    Ret Try.prog 95 [v] w B (fun v _ => v = .int .i64 (orL l)) := by
  refine V_enter Try.func95 rfl Try.ntmps95 (Nat.le_of_ble_eq_true rfl) hB ?_
  refine V_seen 0 (SlV e 1 (l.map (Value.int .i64)) l.length fu) rfl SlV.mono hv ?_
  refine V_seq ?_; refine V_region (id := 0) ?_; refine vo_step (ok_assign rfl rfl rfl) rfl ?_; refine vo_nil ?_; refine N_seq ?_; refine V_seq ?_; refine V_region (id := 1) ?_; refine vo_step (ok_assign rfl rfl rfl) rfl ?_; refine vo_nil ?_; refine N_seq ?_; refine V_seq ?_; refine V_seq ?_; refine V_region (id := 2) ?_; refine vo_step (ok_moves' rfl rfl rfl) rfl ?_; refine vo_step (ok_lenV L rfl rfl rfl rfl) rfl ?_; refine vo_step (ok_move rfl rfl rfl) rfl ?_; refine vo_nil ?_; refine N_seq ?_; refine V_block ?_
  refine V_loop (fun k : Nat => [(3, .is (.int .i64 0)), (6, .sat (SlV e 1 (l.map (Value.int .i64)) l.length fu)), (7, .is (.int .i64 l.length)), (8, .is (.int .i64 k))])
    (fun k => k ≤ l.length ∧ ∀ x ∈ l.take k, x = 0) (fun k => l.length - k) 0 ⟨Nat.zero_le _, by simp⟩ ⟨rfl, rfl, rfl, rfl, trivial⟩ ?_
  rintro k ⟨hk, hall⟩
  by_cases hlt : k < l.length
  · have hs : l[k]? = some l[k] := List.getElem?_eq_getElem hlt
    generalize l[k] = s at hs
    have hc : ((l.map (Value.int .i64)).drop (k * 1)).take 1 = [.int .i64 s] := take_1 (by simp [hs])
    by_cases h0 : s = 0
    · refine V_seq ?_; refine V_region (id := 3) ?_; refine vo_step (ok_lss rfl rfl rfl rfl (decide_eq_true (by omega))) rfl ?_; refine vo_nil ?_; refine N_seq ?_; refine V_seq ?_; refine V_true rfl ?_; refine V_skip ?_; refine N_seq ?_; refine V_seq ?_; refine V_block ?_; refine V_seq ?_; refine V_region (id := 4) ?_; refine vo_step (ok_indexV L _ rfl rfl rfl rfl rfl rfl rfl (by first | omega | decide) (by assumption)) rfl ?_; refine vo_step (ok_loadP1 L rfl rfl rfl rfl rfl) rfl ?_; refine vo_step (ok_assign rfl rfl rfl) rfl ?_; refine vo_nil ?_; refine N_seq ?_; refine V_seq ?_; refine V_region (id := 5) ?_; refine vo_step (ok_move rfl rfl rfl) rfl ?_; refine vo_step (ok_move rfl rfl rfl) rfl ?_; refine vo_step (ok_neq rfl rfl rfl rfl (decide_eq_false (by omega))) rfl ?_; refine vo_nil ?_; refine N_seq ?_; refine V_false rfl ?_; refine V_skip ?_; refine N_block ?_; refine N_seq ?_; refine V_region (id := 7) ?_; refine vo_step (ok_add rfl rfl rfl rfl (wrap_i64 (by omega) (by omega))) rfl ?_; refine vo_step (ok_move rfl rfl rfl) rfl ?_; refine vo_nil ?_
      refine N_round (k + 1) ⟨hlt, ?_⟩ (by omega) ⟨rfl, rfl, rfl, rfl, trivial⟩
      rw [List.take_add_one, hs]
      intro x hx
      rcases List.mem_append.1 hx with hx | hx
      · exact hall x hx
      · simp at hx; rw [hx, h0]
    · refine V_seq ?_; refine V_region (id := 3) ?_; refine vo_step (ok_lss rfl rfl rfl rfl (decide_eq_true (by omega))) rfl ?_; refine vo_nil ?_; refine N_seq ?_; refine V_seq ?_; refine V_true rfl ?_; refine V_skip ?_; refine N_seq ?_; refine V_seq ?_; refine V_block ?_; refine V_seq ?_; refine V_region (id := 4) ?_; refine vo_step (ok_indexV L _ rfl rfl rfl rfl rfl rfl rfl (by first | omega | decide) (by assumption)) rfl ?_; refine vo_step (ok_loadP1 L rfl rfl rfl rfl rfl) rfl ?_; refine vo_step (ok_assign rfl rfl rfl) rfl ?_; refine vo_nil ?_; refine N_seq ?_; refine V_seq ?_; refine V_region (id := 5) ?_; refine vo_step (ok_move rfl rfl rfl) rfl ?_; refine vo_step (ok_move rfl rfl rfl) rfl ?_; refine vo_step (ok_neq rfl rfl rfl rfl (decide_eq_true (by omega))) rfl ?_; refine vo_nil ?_; refine N_seq ?_; refine V_true rfl ?_; refine V_seq ?_; refine V_region (id := 6) ?_; refine vo_step (ok_move rfl rfl rfl) rfl ?_; refine vo_step (ok_assign rfl rfl rfl) rfl ?_; refine vo_nil ?_; refine N_seq ?_
      refine V_ret L (rs := [.tmp 2]) rfl (fun _ _ h => h) Since.refl fun u H hH hle => ?_
      exact congrArg _ (orL_bad l k s hall hs h0).symm
  · refine V_seq ?_; refine V_region (id := 3) ?_; refine vo_step (ok_lss rfl rfl rfl rfl (decide_eq_false (by omega))) rfl ?_; refine vo_nil ?_; refine N_seq ?_; refine V_seq ?_; refine V_false rfl ?_; refine V_exit ?_; refine X_then ?_; refine X_then ?_; refine X_here ?_; refine N_seq ?_; refine V_seq ?_; refine V_region (id := 8) ?_; refine vo_step (ok_move rfl rfl rfl) rfl ?_; refine vo_step (ok_assign rfl rfl rfl) rfl ?_; refine vo_nil ?_; refine N_seq ?_
    refine V_ret L (rs := [.tmp 2]) rfl (fun _ _ h => h) Since.refl fun u H hH hle => ?_
    have : l.take k = l := List.take_of_length_le (by omega)
    exact congrArg _ (orL_zero l (this ▸ hall)).symm
theorem or2_ret {x y : Int} {w : World} {B : Heap} (hB : B.Le (hp w)) {t : Nat} {v : Value} (hv : SlB [.int .i64 x, .int .i64 y] t 2 v B) :
    Ret Try.prog 95 [v] w B (fun v _ => v = .int .i64 (orL [x, y])) := by
  exact or_gen [x, y] (by simp) hB (hv.toV rfl)
def cmpO (a b c d : ByteArray) : Int := orL [cmpB a c, cmpB b d]
def cmpG (a b r c d s : ByteArray) : Int := orL [cmpO a b c d, cmpB r s]
theorem cmpO_ret {a b c d : ByteArray} {w : World} {B : Heap} (hB : B.Le (hp w)) :
    Ret Try.prog 115 [.agg #[.string a, .string b], .agg #[.string c, .string d]] w B (fun v _ => v = .int .i64 (cmpO a b c d)) := by
  refine V_enter Try.func115 rfl Try.ntmps115 (Nat.le_of_ble_eq_true rfl) hB ?_
  refine V_seq ?_; refine V_region (id := 0) ?_; refine vo_step (ok_box rfl rfl rfl rfl) rfl ?_; refine vo_step (ok_box rfl rfl rfl rfl) rfl ?_; refine vo_step (ok_assign rfl rfl rfl) rfl ?_; refine vo_nil ?_; refine N_seq ?_; refine V_seq ?_; refine V_regionD (id := 1) [] mixed (by kernel_rfl) ?_; refine par_step (ok_fieldAt L rfl rfl rfl rfl) rfl ?_; refine par_step (ok_load1 L (src_at rfl) rfl rfl rfl rfl) rfl ?_; refine par_step (ok_fieldAt L rfl rfl rfl rfl) rfl ?_; refine par_step (ok_load1 L (src_at rfl) rfl rfl rfl rfl) rfl ?_; refine par_step (ok_callx L rfl rfl (blt_lt rfl) rfl rfl rfl (fun u H hH _ _ => scmp_ret hH)) rfl ?_; refine par_step (ok_fieldAt L rfl rfl rfl rfl) rfl ?_; refine par_step (ok_load1 L (src_at rfl) rfl rfl rfl rfl) rfl ?_; refine par_step (ok_fieldAt L rfl rfl rfl rfl) rfl ?_; refine par_step (ok_load1 L (src_at rfl) rfl rfl rfl rfl) rfl ?_; refine par_step (ok_callx L rfl rfl (blt_lt rfl) rfl rfl rfl (fun u H hH _ _ => scmp_ret hH)) rfl ?_; refine par_step (ok_buildSlice L rfl rfl rfl rfl rfl rfl rfl rfl rfl) rfl ?_; refine par_step (ok_callx L rfl rfl (blt_lt rfl) rfl rfl rfl (fun u H hH _ _ v hv => or2_ret hH hv)) rfl ?_; refine par_step (ok_assign rfl rfl rfl) rfl ?_; refine par_nil ?_; refine N_seq ?_
  refine V_ret L (rs := [.tmp 4]) rfl (fun _ _ h => h) Since.refl fun u H hH hle => ?_
  rfl
theorem cmpG_ret {a b r c d s : ByteArray} {w : World} {B : Heap} (hB : B.Le (hp w)) :
    Ret Try.prog 96 [.agg #[.string a, .string b, .string r], .agg #[.string c, .string d, .string s]] w B (fun v _ => v = .int .i64 (cmpG a b r c d s)) := by
  refine V_enter Try.func96 rfl Try.ntmps96 (Nat.le_of_ble_eq_true rfl) hB ?_
  refine V_seq ?_; refine V_region (id := 0) ?_; refine vo_step (ok_box rfl rfl rfl rfl) rfl ?_; refine vo_step (ok_box rfl rfl rfl rfl) rfl ?_; refine vo_step (ok_assign rfl rfl rfl) rfl ?_; refine vo_nil ?_; refine N_seq ?_; refine V_seq ?_; refine V_regionD (id := 1) [] mixed (by kernel_rfl) ?_; refine par_step (ok_fieldAt L rfl rfl rfl rfl) rfl ?_; refine par_step (ok_loadA L (vs := [_, _]) (src_at rfl) rfl rfl rfl rfl ⟨_, rfl⟩) rfl ?_; refine par_step (ok_fieldAt L rfl rfl rfl rfl) rfl ?_; refine par_step (ok_loadA L (vs := [_, _]) (src_at rfl) rfl rfl rfl rfl ⟨_, rfl⟩) rfl ?_; refine par_step (ok_callx L rfl rfl (blt_lt rfl) rfl rfl rfl (fun u H hH _ _ => cmpO_ret hH)) rfl ?_; refine par_step (ok_fieldAt L rfl rfl rfl rfl) rfl ?_; refine par_step (ok_load1 L (src_at rfl) rfl rfl rfl rfl) rfl ?_; refine par_step (ok_fieldAt L rfl rfl rfl rfl) rfl ?_; refine par_step (ok_load1 L (src_at rfl) rfl rfl rfl rfl) rfl ?_; refine par_step (ok_callx L rfl rfl (blt_lt rfl) rfl rfl rfl (fun u H hH _ _ => scmp_ret hH)) rfl ?_; refine par_step (ok_buildSlice L rfl rfl rfl rfl rfl rfl rfl rfl rfl) rfl ?_; refine par_step (ok_callx L rfl rfl (blt_lt rfl) rfl rfl rfl (fun u H hH _ _ v hv => or2_ret hH hv)) rfl ?_; refine par_step (ok_assign rfl rfl rfl) rfl ?_; refine par_nil ?_; refine N_seq ?_
  refine V_ret L (rs := [.tmp 4]) rfl (fun _ _ h => h) Since.refl fun u H hH hle => ?_
  rfl
theorem cmpU_ret {a b r c d s : ByteArray} {w : World} {B : Heap} (hB : B.Le (hp w)) :
    Ret Try.prog 97 [.agg #[.string a, .string b, .string r], .agg #[.string c, .string d, .string s]] w B (fun v _ => v = .int .i64 (cmpG a b r c d s)) := by
  refine V_enter Try.func97 rfl Try.ntmps97 (Nat.le_of_ble_eq_true rfl) hB ?_
  refine V_seq ?_; refine V_region (id := 0) ?_; refine vo_step (ok_box rfl rfl rfl rfl) rfl ?_; refine vo_step (ok_box rfl rfl rfl rfl) rfl ?_; refine vo_step (ok_assign rfl rfl rfl) rfl ?_; refine vo_nil ?_; refine N_seq ?_; refine V_seq ?_; refine V_region (id := 1) ?_; refine vo_step (ok_loadA L (vs := [_, _, _]) (src_at rfl) rfl rfl rfl rfl ⟨_, rfl⟩) rfl ?_; refine vo_step (ok_loadA L (vs := [_, _, _]) (src_at rfl) rfl rfl rfl rfl ⟨_, rfl⟩) rfl ?_; refine vo_step (ok_callx L rfl rfl (blt_lt rfl) rfl rfl rfl (fun u H hH _ _ => cmpG_ret hH)) rfl ?_; refine vo_step (ok_assign rfl rfl rfl) rfl ?_; refine vo_nil ?_; refine N_seq ?_
  refine V_ret L (rs := [.tmp 4]) rfl (fun _ _ h => h) Since.refl fun u H hH hle => ?_
  rfl
end Go.V
/- The order of byte strings: plain laws; the reference's order is the program's. -/
namespace Go.V
open Go.Proofs Go.RowKit
theorem cb_refl : ∀ (a : List UInt8), Lib.compareBytes a a = 0
  | [] => rfl
  | a :: xs => by
    unfold Lib.compareBytes
    rw [if_neg (UInt8.lt_irrefl a), if_neg (UInt8.lt_irrefl a)]
    exact cb_refl xs
theorem cb_eq : ∀ (a b : List UInt8), Lib.compareBytes a b = 0 → a = b
  | [], [], _ => rfl
  | [], _ :: _, h => by cases h
  | _ :: _, [], h => by cases h
  | a :: xs, b :: bs, h => by
    unfold Lib.compareBytes at h
    split at h
    · cases h
    · split at h
      · cases h
      · rename_i h1 h2
        have : a = b := UInt8.le_antisymm (UInt8.not_lt.1 h2) (UInt8.not_lt.1 h1)
        rw [this, cb_eq xs bs h]
theorem cb_anti : ∀ (a b : List UInt8), Lib.compareBytes b a = - Lib.compareBytes a b
  | [], [] => rfl
  | [], _ :: _ => rfl
  | _ :: _, [] => rfl
  | a :: xs, b :: bs => by
    unfold Lib.compareBytes
    by_cases h1 : a < b
    · simp [h1, UInt8.lt_asymm h1]
    · by_cases h2 : b < a
      · simp [h1, h2]
      · simp [h1, h2]; exact cb_anti xs bs
theorem cb_trans : ∀ (a b c : List UInt8), Lib.compareBytes a b ≤ 0 → Lib.compareBytes b c ≤ 0 → Lib.compareBytes a c ≤ 0
  | [], _, [], _, _ => Int.le_refl _
  | [], _, _ :: _, _, _ => by unfold Lib.compareBytes; decide
  | _ :: _, [], _, h, _ => by unfold Lib.compareBytes at h; exact absurd h (by decide)
  | _ :: _, _ :: _, [], _, h => by unfold Lib.compareBytes at h; exact absurd h (by decide)
  | a :: xs, b :: bs, c :: cs, h1, h2 => by
    unfold Lib.compareBytes at h1 h2 ⊢
    by_cases ab : a < b
    · by_cases bc : b < c
      · rw [if_pos (UInt8.lt_trans ab bc)]; decide
      · rw [if_neg bc] at h2
        by_cases cb : c < b
        · rw [if_pos cb] at h2; exact absurd h2 (by decide)
        · have : b = c := UInt8.le_antisymm (UInt8.not_lt.1 cb) (UInt8.not_lt.1 bc)
          subst this; rw [if_pos ab]; decide
    · rw [if_neg ab] at h1
      by_cases ba : b < a
      · rw [if_pos ba] at h1; exact absurd h1 (by decide)
      · have : a = b := UInt8.le_antisymm (UInt8.not_lt.1 ba) (UInt8.not_lt.1 ab)
        subst this
        rw [if_neg ab] at h1
        by_cases ac : a < c
        · rw [if_pos ac]; decide
        · rw [if_neg ac] at h2 ⊢
          by_cases ca : c < a
          · rw [if_pos ca] at h2; exact absurd h2 (by decide)
          · rw [if_neg ca] at h2 ⊢
            exact cb_trans xs bs cs h1 h2
/-- A comparison that is a total order, 0 for equal ones alone. -/
structure Ord3 {α : Type} (c : α → α → Int) : Prop where
  refl : ∀ a, c a a = 0
  eq : ∀ a b, c a b = 0 → a = b
  anti : ∀ a b, c b a = - c a b
  trans : ∀ a b d, c a b ≤ 0 → c b d ≤ 0 → c a d ≤ 0
theorem ba_ext {a b : ByteArray} (h : a.data.toList = b.data.toList) : a = b := by
  obtain ⟨⟨x⟩⟩ := a; obtain ⟨⟨y⟩⟩ := b; simp at h; subst h; rfl
theorem cmpB_ord : Ord3 cmpB := ⟨fun a => cb_refl _, fun a b h => ba_ext (cb_eq _ _ h), fun a b => cb_anti _ _, fun a b d h1 h2 => cb_trans _ _ _ h1 h2⟩
/-- First by the one, then by the other. -/
def lexC {α β : Type} (c : α → α → Int) (e : β → β → Int) (x y : α × β) : Int := orL [c x.1 y.1, e x.2 y.2]
theorem orL2 (x y : Int) : orL [x, y] = if x = 0 then y else x := by
  simp only [orL]
  by_cases hx : x = 0
  · rw [if_pos hx, if_pos hx]; split <;> simp_all
  · rw [if_neg hx, if_neg hx]
theorem Ord3.lt_of {α : Type} {c : α → α → Int} (h : Ord3 c) {a b d : α} (h1 : c a b ≤ 0) (h2 : c b d ≤ 0) (h3 : c a d = 0) : c a b = 0 ∧ c b d = 0 := by
  obtain rfl := h.eq _ _ h3
  have := h.anti a b
  constructor <;> omega
theorem Ord3.lex {α β : Type} {c : α → α → Int} {e : β → β → Int} (hc : Ord3 c) (he : Ord3 e) : Ord3 (lexC c e) := by
  refine ⟨fun a => ?_, fun a b h => ?_, fun a b => ?_, fun a b d h1 h2 => ?_⟩
  · unfold lexC; rw [orL2, hc.refl, if_pos rfl, he.refl]
  · unfold lexC at h
    rw [orL2] at h
    by_cases h0 : c a.1 b.1 = 0
    · rw [if_pos h0] at h
      exact Prod.ext (hc.eq _ _ h0) (he.eq _ _ h)
    · rw [if_neg h0] at h; exact absurd h h0
  · unfold lexC
    rw [orL2, orL2, hc.anti a.1 b.1, he.anti a.2 b.2]
    by_cases h0 : c a.1 b.1 = 0
    · rw [if_pos h0, if_pos (by omega)]
    · rw [if_neg h0, if_neg (by omega)]
  · unfold lexC at h1 h2 ⊢
    rw [orL2] at h1 h2 ⊢
    have l1 : c a.1 b.1 ≤ 0 := by split at h1 <;> omega
    have l2 : c b.1 d.1 ≤ 0 := by split at h2 <;> omega
    have l3 := hc.trans _ _ _ l1 l2
    by_cases h0 : c a.1 d.1 = 0
    · obtain ⟨e1, e2⟩ := hc.lt_of l1 l2 h0
      rw [if_pos e1] at h1
      rw [if_pos e2] at h2
      rw [if_pos h0]
      exact he.trans _ _ _ h1 h2
    · rw [if_neg h0]; exact l3
abbrev Str3 := (ByteArray × ByteArray) × ByteArray
def cmp3 : Str3 → Str3 → Int := lexC (lexC cmpB cmpB) cmpB
theorem cmp3_ord : Ord3 cmp3 := (cmpB_ord.lex cmpB_ord).lex cmpB_ord
/-! ### the reference's order -/
attribute [local irreducible] V N X VO Par StepOK Has Ret RetL Src
end Go.V
/- Sorted lists of what has a total order: plain laws. -/
namespace Go.V
open Go.Proofs Go.RowKit
section
variable {α : Type} {c : α → α → Int}
theorem Ord3.irr (h : Ord3 c) (a : α) : ¬ c a a < 0 := by rw [h.refl]; decide
theorem Ord3.asym (h : Ord3 c) {a b : α} (h1 : c a b < 0) : ¬ c b a < 0 := by have := h.anti a b; omega
theorem Ord3.tr (h : Ord3 c) {a b d : α} (h1 : c a b < 0) (h2 : c b d < 0) : c a d < 0 := by
  have h3 := h.trans a b d (by omega) (by omega)
  by_cases h4 : c a d = 0
  · have := h.lt_of (a := a) (b := b) (d := d) (by omega) (by omega) h4; omega
  · omega
theorem Ord3.ne (h : Ord3 c) {a b : α} (h1 : c a b < 0) : a ≠ b := fun e => by subst e; exact h.irr a h1
theorem Ord3.tri (h : Ord3 c) {a b : α} (h1 : ¬ c a b < 0) (h2 : a ≠ b) : c b a < 0 := by
  have := h.anti a b
  have h3 : c a b ≠ 0 := fun e => h2 (h.eq _ _ e)
  omega
/-- Strictly sorted. -/
def Sst (c : α → α → Int) (l : List α) : Prop := l.Pairwise fun x y => c x y < 0
theorem Sst.nil : Sst c [] := List.Pairwise.nil
theorem Sst.nodup (h : Ord3 c) {l : List α} (hs : Sst c l) : l.Nodup := hs.imp fun h1 => h.ne h1
/-- Put in ahead of the first greater one. -/
def insS (c : α → α → Int) (t : α) : List α → List α
  | [] => [t]
  | y :: l => if c t y < 0 then t :: y :: l else y :: insS c t l
theorem mem_insS {t z : α} : ∀ {l : List α}, z ∈ insS c t l ↔ z = t ∨ z ∈ l
  | [] => by simp [insS]
  | y :: l => by
    simp only [insS]
    split
    · simp
    · rw [List.mem_cons, mem_insS, List.mem_cons]
      constructor
      · rintro (e | e | e)
        · exact .inr (.inl e)
        · exact .inl e
        · exact .inr (.inr e)
      · rintro (e | e | e)
        · exact .inr (.inl e)
        · exact .inl e
        · exact .inr (.inr e)
theorem insS_length (t : α) : ∀ (l : List α), (insS c t l).length = l.length + 1
  | [] => rfl
  | y :: l => by
    simp only [insS]
    split
    · rfl
    · simp only [List.length_cons, insS_length t l]
theorem sst_insS (h : Ord3 c) {t : α} : ∀ {l : List α}, Sst c l → t ∉ l → Sst c (insS c t l)
  | [], _, _ => List.pairwise_singleton ..
  | y :: l, hs, ht => by
    have h1 := List.pairwise_cons.1 hs
    simp only [insS]
    split
    · rename_i hlt
      refine List.pairwise_cons.2 ⟨fun z hz => ?_, hs⟩
      rcases List.mem_cons.1 hz with rfl | hz
      · exact hlt
      · exact h.tr hlt (h1.1 z hz)
    · rename_i hlt
      refine List.pairwise_cons.2 ⟨fun z hz => ?_, sst_insS h h1.2 fun e => ht (List.mem_cons_of_mem _ e)⟩
      rcases mem_insS.1 hz with rfl | hz
      · exact h.tri hlt fun e => ht (by rw [e]; exact List.mem_cons_self ..)
      · exact h1.1 z hz
/-- Which ones are taken. -/
def Tk (f : Bool → Bool → Bool) (l m : List α) (z : α) : Prop := (z ∈ l ∧ z ∉ m ∧ f true false = true) ∨ (z ∉ l ∧ z ∈ m ∧ f false true = true) ∨ (z ∈ l ∧ z ∈ m ∧ f true true = true)
theorem Tk.or {f : Bool → Bool → Bool} {l m : List α} {z : α} (h : Tk f l m z) : z ∈ l ∨ z ∈ m := by
  rcases h with ⟨h, _⟩ | ⟨_, h, _⟩ | ⟨h, _⟩
  · exact .inl h
  · exact .inr h
  · exact .inl h
variable [DecidableEq α]
end
end Go.V
/- The walks of names: texts are read. -/
namespace Go.V
open Go.Proofs Go.RowKit
attribute [local irreducible] V N X VO Par StepOK Has Ret RetL Src
/-- The library's variable that its searches look at. -/
def GlobM (B : Heap) : Prop := ∃ m cs t fr, B 0 = some (.cells cs t fr) ∧ cs[0]? = some (.int .i64 m)
theorem GlobM.mono {B H : Heap} (h : GlobM B) (hl : B.Le H) : GlobM H := let ⟨m, cs, t, fr, hb, hc⟩ := h; ⟨m, cs, t, fr, hl _ _ hb, hc⟩
def cutA (s : ByteArray) (c : UInt8) : ByteArray × ByteArray × Bool :=
  (⟨(Lib.cut s.data.toList [c]).1.toArray⟩, ⟨(Lib.cut s.data.toList [c]).2.1.toArray⟩, (Lib.cut s.data.toList [c]).2.2)
def hasA (s : ByteArray) (c : UInt8) : Bool := decide (0 ≤ Lib.indexByte s.data.toList c)
def cntA (s : ByteArray) (c : UInt8) : Nat := Lib.countByte s.data.toList c
def partsA (s : ByteArray) : Option (ByteArray × ByteArray × ByteArray × Bool) :=
  if ((cutA s 58).2.2 && !hasA (cutA s 58).1 35 && !hasA (cutA s 58).2.1 58) = true ∧ cntA (cutA s 58).2.1 35 ≤ 1 then
    some ((cutA s 58).1, (cutA (cutA s 58).2.1 35).1, (cutA (cutA s 58).2.1 35).2.1, (cutA (cutA s 58).2.1 35).2.2)
  else none
end Go.V
/- The walks of names: objects, goals and subjects are read. -/
namespace Go.V
open Go.Proofs Go.RowKit
attribute [local irreducible] V N X VO Par StepOK Has Ret RetL Src
abbrev sNil : ByteArray := ⟨#[]⟩
def pgA (s : ByteArray) : ByteArray × ByteArray × ByteArray × Int :=
  match partsA s with
  | none => (sNil, sNil, sNil, 5)
  | some (a, b, c, d) => if d = false then (sNil, sNil, sNil, 5) else if allE [a, b, c] = 0 then (a, b, c, 0) else (sNil, sNil, sNil, allE [a, b, c])
def psA (s : ByteArray) : ByteArray × ByteArray × ByteArray × Int :=
  match partsA s with
  | none => (sNil, sNil, sNil, 5)
  | some (a, b, c, d) => if allE [a, b] = 0 then (if d = true then (if chk c = 0 then (a, b, c, 0) else (sNil, sNil, sNil, chk c)) else (a, b, c, 0)) else (sNil, sNil, sNil, allE [a, b])
end Go.V
/- Tuples (chapter 2): plain laws. -/
namespace Go.V.L2
open Go.Proofs Go.RowKit Go.V
/-- A tuple: its goal, and its subject. -/
abbrev U := Str3 × Str3
def ucs (t : U) : List Value := [.string t.1.1.1, .string t.1.1.2, .string t.1.2, .string t.2.1.1, .string t.2.1.2, .string t.2.2]
theorem ucs_len (t : U) : (ucs t).length = 6 := rfl
def cmpT : U → U → Int := lexC cmp3 cmp3
theorem cmpT_ord : Ord3 cmpT := cmp3_ord.lex cmp3_ord
theorem u_eq {t v : U} : (t.1.1.1 = v.1.1.1 ∧ t.1.1.2 = v.1.1.2 ∧ t.1.2 = v.1.2 ∧ t.2.1.1 = v.2.1.1 ∧ t.2.1.2 = v.2.1.2 ∧ t.2.2 = v.2.2) ↔ t = v :=
  ⟨fun ⟨a, b, c, d, e, f⟩ => Prod.ext (Prod.ext (Prod.ext a b) c) (Prod.ext (Prod.ext d e) f), fun e => by subst e; exact ⟨rfl, rfl, rfl, rfl, rfl, rfl⟩⟩
instance memU (t : U) (l : List U) : Decidable (t ∈ l) := decidable_of_iff (l.any (fun x => decide (x = t)) = true) (by simp)
/-- The error of a tuple. -/
def tE (t : U) : Int := if allE [t.1.1.1, t.1.1.2, t.1.2] = 0 then subjE t.2.1.1 t.2.1.2 t.2.2 else allE [t.1.1.1, t.1.1.2, t.1.2]
/-- Strings of a tuple are not too long. -/
def TZ (t : U) : Prop := (t.1.1.1.size ≤ 1099511627776 ∧ t.1.1.2.size ≤ 1099511627776 ∧ t.1.2.size ≤ 1099511627776) ∧ t.2.1.1.size ≤ 1099511627776 ∧ t.2.1.2.size ≤ 1099511627776 ∧ t.2.2.size ≤ 1099511627776
instance (t : U) : Decidable (TZ t) := inferInstanceAs (Decidable (_ ∧ _))
instance {α : Type} (c : α → α → Int) (l : List α) : Decidable (Sst c l) := inferInstanceAs (Decidable (l.Pairwise _))
/-- Which tuple a text is. -/
def ptA (s : ByteArray) : U × Int :=
  if (cutA s 64).2.2 = true ∧ hasA (cutA s 64).2.1 64 = false then
    (if (pgA (cutA s 64).1).2.2.2 = 0 then
      (if (psA (cutA s 64).2.1).2.2.2 = 0 then
        (((((pgA (cutA s 64).1).1, (pgA (cutA s 64).1).2.1), (pgA (cutA s 64).1).2.2.1), (((psA (cutA s 64).2.1).1, (psA (cutA s 64).2.1).2.1), (psA (cutA s 64).2.1).2.2.1)), 0)
      else ((((⟨#[]⟩, ⟨#[]⟩), ⟨#[]⟩), ((⟨#[]⟩, ⟨#[]⟩), ⟨#[]⟩)), (psA (cutA s 64).2.1).2.2.2))
    else ((((⟨#[]⟩, ⟨#[]⟩), ⟨#[]⟩), ((⟨#[]⟩, ⟨#[]⟩), ⟨#[]⟩)), (pgA (cutA s 64).1).2.2.2))
  else ((((⟨#[]⟩, ⟨#[]⟩), ⟨#[]⟩), ((⟨#[]⟩, ⟨#[]⟩), ⟨#[]⟩)), 5)
end Go.V.L2
/- The kit's nineteenth floor: slices that are made and written to; results that are owned. -/
namespace Go.V
open Go.RowKit
/-- An owned slice without room behind it. -/
def SlE (e : TypeId) (s n : Nat) (xs : List Value) : Res where
  P x _ u C := xs.length = n * s ∧ ((n = 0 ∧ x = .slice none 0 0 ∧ ∀ k, ¬ C k) ∨ ∃ b, x = .slice (some ⟨b, 0, none⟩) n n ∧ u.heap[b]? = some (.cells xs.toArray e) ∧ n ≤ maxLen ∧ ∀ k, C k ↔ k = b)
  st := fun ⟨hl, h⟩ _ _ _ hk => ⟨hl, by
    rcases h with h | ⟨b, h1, h2, h3, h4⟩
    · exact .inl h
    · exact .inr ⟨b, h1, (hk b ((h4 b).2 rfl)).trans h2, h3, h4⟩⟩
section
variable {P : Program} {F : Fr} {B : Heap} {O : Boxes} {n : Nat} {ops : Array Oper} {κ : Kap} {d : Nat} {ty : TypeId} {pos : String} {aft : Array Edge} {g : Option (Nat × Bool)} {a : Act} {u : World} {H : Heap} {fp : Nat → Nat → Prop} {os : List Oper} {Q : Exit → Act → World → Prop} {ex : Exs}
/-! ### results that are owned -/
/-- What is returned is the caller's. -/
def OwnP (w : World) (r : Res) (v : Value) (H : Heap) (u : World) : Prop := ∃ C : Nat → Prop, r.P v H u C ∧ ∀ k, C k → w.heap.size ≤ k ∧ k < u.heap.size ∧ H k = none
def RetO (P : Program) (f : FuncId) (args : List Value) (w : World) (B : Heap) (r : Res) : Prop := RetL P f args w B noL (OwnP w r)
theorem RetO.mono {P : Program} {f : FuncId} {args : List Value} {w : World} {B : Heap} {r r' : Res} (h : RetO P f args w B r) (hi : ∀ v H u C, r.P v H u C → r'.P v H u C) : RetO P f args w B r' :=
  RetL.mono h fun _ _ _ _ ⟨C, h1, h2⟩ => ⟨C, hi _ _ _ _ h1, h2⟩
/-! ### what is owned is lent for a call -/
open Classical in
/-- The visible heap, and what is lent. -/
noncomputable def joinH (H : Heap) (u : World) (C : Nat → Prop) : Heap := fun k => if C k then hp u k else H k
end
end Go.V
/- The kit's twentieth floor: variables of the call's own that are held beside their slots: their fields' addresses are taken, in whatever order. -/
namespace Go.V
open Go.RowKit
/-- A variable of which the number is known: what it holds. -/
def HeldR (b : Nat) (cs : List Value) (ty : TypeId) : Res where
  P _ _ u C := u.heap[b]? = some (.cells cs.toArray ty) ∧ ∀ k, C k ↔ k = b
  st := fun ⟨h1, h2⟩ _ _ _ hk => ⟨(hk b ((h2 b).2 rfl)).trans h1, h2⟩
section
variable {P : Program} {F : Fr} {B : Heap} {O : Boxes} {n : Nat} {ops : Array Oper} {κ : Kap} {d : Nat} {ty : TypeId} {pos : String} {aft : Array Edge} {g : Option (Nat × Bool)} {a : Act} {u : World} {H : Heap} {fp : Nat → Nat → Prop} {os : List Oper} {Q : Exit → Act → World → Prop} {ex : Exs}
theorem Has.hold {t q : Nat} {cs : List Value} {ty : TypeId} (hk : κ t = some (.own (Cell cs ty))) (h : Has F B O n κ a u) : ∃ b, Has F B O n (upd (upd (upd κ t nilK) q (.own (HeldR b cs ty))) t (.is (.pointer (some ⟨b, 0, none⟩)))) a u := by
  obtain ⟨H, fp, h⟩ := h
  obtain ⟨⟨b, hv, hb, hC⟩, hM⟩ := h.slot t _ hk
  have h2 := h.usePut (d := q) (a' := a) (r' := HeldR b cs ty) (C := fp t) hk ⟨Keep.refl _ _, h.sub, Heap.Le.refl _, fun _ _ _ => rfl⟩ rfl rfl (fun _ _ => rfl) ⟨hb, hC⟩ fun k hk => ⟨.inl hk, (hM k hk).1, (hM k hk).2.1⟩
  have h3 := h2.name t
  rw [hv] at h3
  exact ⟨b, H, _, h3⟩
theorem Has.release {t q b : Nat} {cs : List Value} {ty : TypeId} (hk : κ q = some (.own (HeldR b cs ty))) (ht : κ t = some (.is (.pointer (some ⟨b, 0, none⟩)))) (h : Has F B O n κ a u) : Has F B O n (upd (upd κ q nilK) t (.own (Cell cs ty))) a u := by
  obtain ⟨H, fp, h⟩ := h
  obtain ⟨⟨hb, hC⟩, hM⟩ := h.slot q _ hk
  have hx : a.eval (.tmp t) = .pointer (some ⟨b, 0, none⟩) := h.slot t _ ht
  exact ⟨H, _, h.usePut (d := t) (a' := a) (r' := Cell cs ty) (C := fp q) hk ⟨Keep.refl _ _, h.sub, Heap.Le.refl _, fun _ _ _ => rfl⟩ rfl rfl (fun _ _ => rfl) ⟨b, hx, hb, hC⟩ fun k hk => ⟨.inl hk, (hM k hk).1, (hM k hk).2.1⟩⟩
theorem V_hold (t q : Nat) {cs : List Value} {ty : TypeId} {c : Code} (hk : κ t = some (.own (Cell cs ty))) (h : ∀ b, V P F B n O (upd (upd (upd κ t nilK) q (.own (HeldR b cs ty))) t (.is (.pointer (some ⟨b, 0, none⟩)))) c Q) : V P F B n O κ c Q := fun a u hh => let ⟨b, h'⟩ := hh.hold (q := q) hk; h b a u h'
theorem V_release (t q : Nat) {b : Nat} {cs : List Value} {ty : TypeId} {c : Code} (hk : κ q = some (.own (HeldR b cs ty))) (ht : κ t = some (.is (.pointer (some ⟨b, 0, none⟩)))) (h : V P F B n O (upd (upd κ q nilK) t (.own (Cell cs ty))) c Q) : V P F B n O κ c Q := fun a u hh => h a u (hh.release hk ht)
/-- An operation that reads what a slot beside its operands holds. -/
def StepOKR (P : Program) (F : Fr) (B : Heap) (n : Nat) (ops : Array Oper) (O : Boxes) (κ : Kap) (o : Oper) (q d : Nat) (k : Kn) : Prop :=
  ∀ κ' a u, (∀ t ∈ o.looksAt ops, κ' t = κ t) → κ' q = κ q → Has F B O n κ' a u → After P ops o (fun a' u' => Has F B O n (upd κ' d k) a' u') a u
theorem vo_stepR {o : Oper} {q d : Nat} {k : Kn} (hs : StepOKR P F B n ops O κ o q d k) (h : VO P F B n O ops (upd κ d k) os Q) : VO P F B n O ops κ (o :: os) Q :=
  fun a u hh => After.mono (fun a' u' hh' => h a' u' hh') (hs κ a u (fun _ _ => rfl) rfl hh)
/-- An operation that turns what a slot beside its operands holds. -/
def StepOKS (P : Program) (F : Fr) (B : Heap) (n : Nat) (ops : Array Oper) (O : Boxes) (κ : Kap) (o : Oper) (q : Nat) (k : Kn) : Prop :=
  ∀ κ' a u, (∀ t ∈ o.looksAt ops, κ' t = κ t) → κ' q = κ q → Has F B O n κ' a u → After P ops o (fun a' u' => Has F B O n (upd κ' q k) a' u') a u
theorem vo_stepS {o : Oper} {q : Nat} {k : Kn} (hs : StepOKS P F B n ops O κ o q k) (h : VO P F B n O ops (upd κ q k) os Q) : VO P F B n O ops κ (o :: os) Q :=
  fun a u hh => After.mono (fun a' u' hh' => h a' u' hh') (hs κ a u (fun _ _ => rfl) rfl hh)
theorem par_stepS {o : Oper} {q : Nat} {k : Kn} (hs : StepOKS P F B n ops O κ o q k) (he : (exO ex o).contains q = true) (h : Par P F B n O ops ex (upd κ q k) os Q) : Par P F B n O ops ex κ (o :: os) Q := by
  have hm : q ∈ exO ex o := by simpa using he
  refine ⟨[(q, k)], fun p hp => ?_, fun κ' a u hl hh => hs κ' a u (fun t ht => hl t (List.mem_append_left _ ht)) (hl q (List.mem_append_right _ (List.mem_append_left _ hm))) hh, h⟩
  simp only [List.mem_cons, List.mem_nil_iff, or_false] at hp
  subst hp
  exact List.mem_append_right _ hm
theorem ok_storeH (L : Tabs P) {t t' : TypeId} {ag : Bool} {z b off q : Nat} {p x : Operand} {v : Value} {cs cs' : List Value} (hg : gK ops κ ⟨none, .store t p x, ty, pos, aft, g⟩ = some true) (hp : evK κ p = some (.pointer (some ⟨b, off, none⟩))) (hq : κ q = some (.own (HeldR b cs t'))) (hx : evK κ x = some v)
    (hl : L.ld t = some (ag, z)) (hlen : (cellsL v).length = z) (hcs : Nat.ble (off + z) cs.length = true) (hpl : (cellsL v).all plainV = true) (hr : cs.take off ++ (cellsL v ++ cs.drop (off + z)) = cs') :
    StepOKS P F B n ops O κ ⟨none, .store t p x, ty, pos, aft, g⟩ q (.own (HeldR b cs' t')) := by
  rintro κ' a u hlk hqk ⟨H, fp, hh⟩
  subst hr
  unfold After
  rw [if_pos (wanted_gK hh hlk hg)]
  have e := hh.env hlk
  have hev := e.is_ x v (by simp [Op.operands]) hx
  have hes := e.is_ p _ (by simp [Op.operands]) hp
  have hqs := hqk.trans hq
  obtain ⟨⟨hb, hC⟩, hM⟩ := hh.slot q _ hqs
  have hrun : (execOp a.eval ⟨none, .store t p x, ty, pos, aft, g⟩).run P u = .ok .skip (u.setRow b (cs.take off ++ (cellsL v ++ cs.drop (off + z))).toArray) := by
    simp only [execOp, hes, hev, Instr.storeAt, Instr.sureAddr, Sem.run_bind, Sem.run_pure, Result.andThen_ok]
    have := run_storeVar_at (P := P) (off := off) (Tabs.ld_spec hl) hb hlen (Nat.le_of_ble_eq_true hcs) hpl
    rw [this]
    simp
  rw [hrun]
  simp only [Upon, Act.put]
  have hset := setRow_heap u b cs.toArray (cs.take off ++ (cellsL v ++ cs.drop (off + z))).toArray t' (0, 0) hb
  have hbm := hM b ((hC b).2 rfl)
  have := hh.usePut (d := q) (a' := a) (r' := HeldR b (cs.take off ++ (cellsL v ++ cs.drop (off + z))) t') (C := fun k => k = b) hqs (grow_setRow hh.sub hb ((hC b).2 rfl) hbm.2.1 _) rfl rfl (fun _ _ => rfl) ⟨hset, fun _ => Iff.rfl⟩ (fun k hk => by
    subst hk; exact ⟨.inl ((hC k).2 rfl), by rw [setRow_size]; exact hbm.1, hbm.2.1⟩)
  rw [upd_upd] at this
  exact ⟨H, _, this⟩
theorem SlE.shape {e : TypeId} {s m : Nat} {xs : List Value} : ∀ v H u C, (SlE e s m xs).P v H u C → ∃ p, v = .slice p m m := fun v _ _ _ ⟨_, h⟩ => by
  rcases h with ⟨rfl, rfl, _⟩ | ⟨b, rfl, _⟩
  · exact ⟨_, rfl⟩
  · exact ⟨_, rfl⟩
/-! ### what is held being known by what it satisfies -/
/-- What is stored is known by what it satisfies. -/
def StP (Φ : List Value → Heap → Prop) (φ : Value → Heap → Prop) (off z : Nat) : List Value → Heap → Prop := fun cs' H => ∃ cs v, Φ cs H ∧ φ v H ∧ cs' = cs.take off ++ (cellsL v ++ cs.drop (off + z))
theorem StP.mono {Φ : List Value → Heap → Prop} {φ : Value → Heap → Prop} {off z : Nat} (h1 : MonoX Φ) (h2 : Kn.mono (.sat φ)) : MonoX (StP Φ φ off z) := fun _ _ _ ⟨cs, v, a1, a2, a3⟩ hle => ⟨cs, v, h1 _ _ _ a1 hle, h2 _ _ _ a2 hle, a3⟩
/-! ### what is appended to nothing; a call to which is shown what a slot owns -/
end
end Go.V
/- The walks of tuples (chapter 2): check, order, texts, sorted lists. -/
namespace Go.V.L2
open Go.Proofs Go.RowKit Go.V
abbrev uv (t : U) : Value := .agg #[.string t.1.1.1, .string t.1.1.2, .string t.1.2, .string t.2.1.1, .string t.2.1.2, .string t.2.2]
abbrev tyU : TypeId := 52
/-- A slice of tuples that is seen. -/
abbrev US (l : List U) (fu : Bool) : Value → Heap → Prop := SlV tyU 6 (l.flatMap ucs) l.length fu
theorem us_at {l : List U} {i : Nat} {t : U} (h : l[i]? = some t) : ((l.flatMap ucs).drop (i * 6)).take 6 = [.string t.1.1.1, .string t.1.1.2, .string t.1.2, .string t.2.1.1, .string t.2.1.2, .string t.2.2] := flatMap_at ucs_len l i t h
attribute [local irreducible] V N X VO Par StepOK Has Ret RetL Src
theorem tcheck_ret {t : U} (hz : TZ t) {w : World} {B : Heap} (hB : B.Le (hp w)) : Ret Try.prog 60 [uv t] w B (fun v _ => v = .int .i64 (tE t)) := by
  obtain ⟨⟨z1, z2, z3⟩, z4, z5, z6⟩ := hz
  unfold tE
  refine V_enter Try.func60 rfl Try.ntmps60 (Nat.le_of_ble_eq_true rfl) hB ?_
  by_cases h : allE [t.1.1.1, t.1.1.2, t.1.2] = 0
  · rw [if_pos h]
    refine V_seq ?_; refine V_region (id := 0) ?_; refine vo_step (ok_box rfl rfl rfl rfl) rfl ?_; refine vo_step (ok_assign rfl rfl rfl) rfl ?_; refine vo_nil ?_; refine N_seq ?_; refine V_seq ?_; refine V_seq ?_; refine V_region (id := 1) ?_; refine vo_step (ok_fieldAt L rfl rfl rfl rfl) rfl ?_; refine vo_step (ok_loadA L (vs := [_, _, _]) (src_at rfl) rfl rfl rfl rfl ⟨_, rfl⟩) rfl ?_; refine vo_step (ok_callx L rfl rfl (blt_lt rfl) rfl rfl rfl (fun u H hH _ _ => goal_ret (by first | assumption | omega | decide) (by first | assumption | omega | decide) (by first | assumption | omega | decide) hH)) rfl ?_; refine vo_step (ok_assign rfl rfl rfl) rfl ?_; refine vo_nil ?_; refine N_seq ?_; refine V_seq ?_; refine V_region (id := 2) ?_; refine vo_step (ok_move rfl rfl rfl) rfl ?_; refine vo_step (ok_neq rfl rfl rfl rfl (decide_eq_false (by omega))) rfl ?_; refine vo_nil ?_; refine N_seq ?_; refine V_false rfl ?_; refine V_skip ?_; refine N_seq ?_; refine V_seq ?_; refine V_region (id := 4) ?_; refine vo_step (ok_fieldAt L rfl rfl rfl rfl) rfl ?_; refine vo_step (ok_loadA L (vs := [_, _, _]) (src_at rfl) rfl rfl rfl rfl ⟨_, rfl⟩) rfl ?_; refine vo_step (ok_callx L rfl rfl (blt_lt rfl) rfl rfl rfl (fun u H hH _ _ => subject_ret (by first | assumption | omega | decide) (by first | assumption | omega | decide) (by first | assumption | omega | decide) hH)) rfl ?_; refine vo_step (ok_assign rfl rfl rfl) rfl ?_; refine vo_nil ?_; refine N_seq ?_
    refine V_ret L (rs := [.tmp 2]) rfl (fun _ _ h => h) Since.refl fun u H hH hle => ?_
    rfl
  · rw [if_neg h]
    refine V_seq ?_; refine V_region (id := 0) ?_; refine vo_step (ok_box rfl rfl rfl rfl) rfl ?_; refine vo_step (ok_assign rfl rfl rfl) rfl ?_; refine vo_nil ?_; refine N_seq ?_; refine V_seq ?_; refine V_seq ?_; refine V_region (id := 1) ?_; refine vo_step (ok_fieldAt L rfl rfl rfl rfl) rfl ?_; refine vo_step (ok_loadA L (vs := [_, _, _]) (src_at rfl) rfl rfl rfl rfl ⟨_, rfl⟩) rfl ?_; refine vo_step (ok_callx L rfl rfl (blt_lt rfl) rfl rfl rfl (fun u H hH _ _ => goal_ret (by first | assumption | omega | decide) (by first | assumption | omega | decide) (by first | assumption | omega | decide) hH)) rfl ?_; refine vo_step (ok_assign rfl rfl rfl) rfl ?_; refine vo_nil ?_; refine N_seq ?_; refine V_seq ?_; refine V_region (id := 2) ?_; refine vo_step (ok_move rfl rfl rfl) rfl ?_; refine vo_step (ok_neq rfl rfl rfl rfl (decide_eq_true (by omega))) rfl ?_; refine vo_nil ?_; refine N_seq ?_; refine V_true rfl ?_; refine V_seq ?_; refine V_region (id := 3) ?_; refine vo_step (ok_move rfl rfl rfl) rfl ?_; refine vo_step (ok_assign rfl rfl rfl) rfl ?_; refine vo_nil ?_; refine N_seq ?_
    refine V_ret L (rs := [.tmp 2]) rfl (fun _ _ h => h) Since.refl fun u H hH hle => ?_
    rfl
theorem tcmp_ret {a b : U} {w : World} {B : Heap} (hB : B.Le (hp w)) : Ret Try.prog 76 [uv a, uv b] w B (fun v _ => v = .int .i64 (cmpT a b)) := by
  refine V_enter Try.func76 rfl Try.ntmps76 (Nat.le_of_ble_eq_true rfl) hB ?_
  refine V_seq ?_; refine V_region (id := 0) ?_; refine vo_step (ok_box rfl rfl rfl rfl) rfl ?_; refine vo_step (ok_box rfl rfl rfl rfl) rfl ?_; refine vo_step (ok_assign rfl rfl rfl) rfl ?_; refine vo_nil ?_; refine N_seq ?_; refine V_seq ?_; refine V_regionD (id := 1) [] mixed (by kernel_rfl) ?_; refine par_step (ok_fieldAt L rfl rfl rfl rfl) rfl ?_; refine par_step (ok_loadA L (vs := [_, _, _]) (src_at rfl) rfl rfl rfl rfl ⟨_, rfl⟩) rfl ?_; refine par_step (ok_fieldAt L rfl rfl rfl rfl) rfl ?_; refine par_step (ok_loadA L (vs := [_, _, _]) (src_at rfl) rfl rfl rfl rfl ⟨_, rfl⟩) rfl ?_; refine par_step (ok_callx L rfl rfl (blt_lt rfl) rfl rfl rfl (fun u H hH _ _ => cmpG_ret hH)) rfl ?_; refine par_step (ok_fieldAt L rfl rfl rfl rfl) rfl ?_; refine par_step (ok_loadA L (vs := [_, _, _]) (src_at rfl) rfl rfl rfl rfl ⟨_, rfl⟩) rfl ?_; refine par_step (ok_fieldAt L rfl rfl rfl rfl) rfl ?_; refine par_step (ok_loadA L (vs := [_, _, _]) (src_at rfl) rfl rfl rfl rfl ⟨_, rfl⟩) rfl ?_; refine par_step (ok_callx L rfl rfl (blt_lt rfl) rfl rfl rfl (fun u H hH _ _ => cmpU_ret hH)) rfl ?_; refine par_step (ok_buildSlice L rfl rfl rfl rfl rfl rfl rfl rfl rfl) rfl ?_; refine par_step (ok_callx L rfl rfl (blt_lt rfl) rfl rfl rfl (fun u H hH _ _ v hv => or2_ret hH hv)) rfl ?_; refine par_step (ok_assign rfl rfl rfl) rfl ?_; refine par_nil ?_; refine N_seq ?_
  refine V_ret L (rs := [.tmp 4]) rfl (fun _ _ h => h) Since.refl fun u H hH hle => ?_
  rfl
end Go.V.L2
/- The walks of the definition of names. -/
namespace Go.V
open Go.Proofs Go.RowKit
attribute [local irreducible] V N X VO Par StepOK Has Ret RetL Src
set_option maxHeartbeats 1000000 in
theorem rcheck_ret {s : ByteArray} (hs : s.size ≤ 9223372036854775807) {w : World} {B : Heap} (hB : B.Le (hp w)) :
    Ret Try.prog 106 [.string s] w B (fun v _ => v = .int .i64 (chk s)) := by
  refine V_enter Try.func106 rfl Try.ntmps106 (Nat.le_of_ble_eq_true rfl) hB ?_
  by_cases h0 : 1 ≤ s.size ∧ s.size ≤ 16
  · obtain ⟨h1, h2⟩ := h0
    refine V_seq ?_; refine V_region (id := 0) ?_; refine vo_step (ok_assign rfl rfl rfl) rfl ?_; refine vo_nil ?_; refine N_seq ?_; refine V_seq ?_; refine V_region (id := 1) ?_; refine vo_step (ok_move rfl rfl rfl) rfl ?_; refine vo_step (ok_lenS L rfl rfl rfl rfl) rfl ?_; refine vo_step (ok_gtr rfl rfl rfl rfl (decide_eq_true (by omega))) rfl ?_; refine vo_step (ok_move rfl rfl rfl) rfl ?_; refine vo_step (ok_move rfl rfl rfl) rfl ?_; refine vo_step (ok_lenS L rfl rfl rfl rfl) rfl ?_; refine vo_step (ok_leq rfl rfl rfl rfl (decide_eq_true (by omega))) rfl ?_; refine vo_step (ok_pick rfl rfl rfl rfl) rfl ?_; refine vo_step (ok_assign rfl rfl rfl) rfl ?_; refine vo_nil ?_; refine N_seq ?_; refine V_seq ?_; refine V_seq ?_; refine V_region (id := 2) ?_; refine vo_step (ok_assign rfl rfl rfl) rfl ?_; refine vo_nil ?_; refine N_seq ?_; refine V_block ?_
    refine V_loop (fun p : Nat × Bool => [(0, .is (.string s)), (3, .is (.bool p.2)), (4, .is (.int .i64 p.1))])
      (fun p => p.1 ≤ s.size ∧ (p.2 = true → (s.data.toList.take p.1).all okB = true) ∧ (p.2 = false → chk s = 6)) (fun p => s.size - p.1) (0, true) ⟨Nat.zero_le _, fun _ => by simp, fun h => by cases h⟩ ⟨rfl, rfl, rfl, trivial⟩ ?_
    rintro ⟨k, b⟩ ⟨hk, hall, hbad⟩
    dsimp only at hk hall hbad ⊢
    by_cases hlt : k < s.size
    · cases b with
      | false =>
        refine V_seq ?_; refine V_seq ?_; refine V_region (id := 3) ?_; refine vo_step (ok_move rfl rfl rfl) rfl ?_; refine vo_step (ok_move rfl rfl rfl) rfl ?_; refine vo_step (ok_lenS L rfl rfl rfl rfl) rfl ?_; refine vo_step (ok_lss rfl rfl rfl rfl (decide_eq_true (by omega))) rfl ?_; refine vo_step (ok_move rfl rfl rfl) rfl ?_; refine vo_step (ok_move rfl rfl rfl) rfl ?_; refine vo_step (ok_pick rfl rfl rfl rfl) rfl ?_; refine vo_nil ?_; refine N_seq ?_; refine V_false rfl ?_; refine V_exit ?_; refine X_then ?_; refine X_then ?_; refine X_here ?_; refine N_seq ?_; refine V_seq ?_; refine V_seq ?_; refine V_region (id := 6) ?_; refine vo_step (ok_move rfl rfl rfl) rfl ?_; refine vo_nil ?_; refine N_seq ?_; refine V_false rfl ?_; refine V_skip ?_; refine N_seq ?_; refine V_seq ?_; refine V_region (id := 8) ?_; refine vo_step (ok_assign rfl rfl rfl) rfl ?_; refine vo_nil ?_; refine N_seq ?_
        refine V_ret L (rs := [.tmp 2]) rfl (fun _ _ h => h) Since.refl fun u H hH hle => ?_
        exact congrArg _ (hbad rfl).symm
      | true =>
        obtain ⟨c, hc⟩ := getElem?_lt hlt
        have hu := u8_lt c
        by_cases a1 : 97 ≤ (c.toNat : Int)
        · by_cases a4 : (c.toNat : Int) ≤ 122
          · refine V_seq ?_; refine V_seq ?_; refine V_region (id := 3) ?_; refine vo_step (ok_move rfl rfl rfl) rfl ?_; refine vo_step (ok_move rfl rfl rfl) rfl ?_; refine vo_step (ok_lenS L rfl rfl rfl rfl) rfl ?_; refine vo_step (ok_lss rfl rfl rfl rfl (decide_eq_true (by omega))) rfl ?_; refine vo_step (ok_move rfl rfl rfl) rfl ?_; refine vo_step (ok_move rfl rfl rfl) rfl ?_; refine vo_step (ok_pick rfl rfl rfl rfl) rfl ?_; refine vo_nil ?_; refine N_seq ?_; refine V_true rfl ?_; refine V_skip ?_; refine N_seq ?_; refine V_seq ?_; refine V_block ?_; refine V_region (id := 5) ?_; refine vo_step (ok_move rfl rfl rfl) rfl ?_; refine vo_step (ok_move rfl rfl rfl) rfl ?_; refine vo_step (ok_indexS L rfl rfl rfl rfl rfl (by assumption)) rfl ?_; refine vo_step (ok_geq rfl rfl rfl rfl (decide_eq_true (by omega))) rfl ?_; refine vo_step (ok_move rfl rfl rfl) rfl ?_; refine vo_step (ok_move rfl rfl rfl) rfl ?_; refine vo_step (ok_move rfl rfl rfl) rfl ?_; refine vo_step (ok_indexS L rfl rfl rfl rfl rfl (by assumption)) rfl ?_; refine vo_step (ok_leq rfl rfl rfl rfl (decide_eq_true (by omega))) rfl ?_; refine vo_step (ok_pick rfl rfl rfl rfl) rfl ?_; refine vo_step (ok_move rfl rfl rfl) rfl ?_; refine vo_step (ok_skip rfl (blt_lt rfl) rfl) rfl ?_; refine vo_step (ok_skip rfl (blt_lt rfl) rfl) rfl ?_; refine vo_step (ok_skip rfl (blt_lt rfl) rfl) rfl ?_; refine vo_step (ok_skip rfl (blt_lt rfl) rfl) rfl ?_; refine vo_step (ok_skip rfl (blt_lt rfl) rfl) rfl ?_; refine vo_step (ok_skip rfl (blt_lt rfl) rfl) rfl ?_; refine vo_step (ok_skip rfl (blt_lt rfl) rfl) rfl ?_; refine vo_step (ok_skip rfl (blt_lt rfl) rfl) rfl ?_; refine vo_step (ok_skip rfl (blt_lt rfl) rfl) rfl ?_; refine vo_step (ok_skip rfl (blt_lt rfl) rfl) rfl ?_; refine vo_step (ok_pick rfl rfl rfl rfl) rfl ?_; refine vo_step (ok_assign rfl rfl rfl) rfl ?_; refine vo_nil ?_; refine N_block ?_; refine N_seq ?_; refine V_region (id := 4) ?_; refine vo_step (ok_move rfl rfl rfl) rfl ?_; refine vo_step (ok_add rfl rfl rfl rfl (wrap_i64 (by omega) (by omega))) rfl ?_; refine vo_step (ok_assign rfl rfl rfl) rfl ?_; refine vo_nil ?_
            exact N_round (x := (k, true)) (k + 1, true) ⟨hlt, fun _ => take_all hc (okB_4 (by omega) (by omega)) (hall rfl), fun h => (by cases h)⟩ (by dsimp only; omega) ⟨rfl, rfl, rfl, trivial⟩
          · refine V_seq ?_; refine V_seq ?_; refine V_region (id := 3) ?_; refine vo_step (ok_move rfl rfl rfl) rfl ?_; refine vo_step (ok_move rfl rfl rfl) rfl ?_; refine vo_step (ok_lenS L rfl rfl rfl rfl) rfl ?_; refine vo_step (ok_lss rfl rfl rfl rfl (decide_eq_true (by omega))) rfl ?_; refine vo_step (ok_move rfl rfl rfl) rfl ?_; refine vo_step (ok_move rfl rfl rfl) rfl ?_; refine vo_step (ok_pick rfl rfl rfl rfl) rfl ?_; refine vo_nil ?_; refine N_seq ?_; refine V_true rfl ?_; refine V_skip ?_; refine N_seq ?_; refine V_seq ?_; refine V_block ?_; refine V_region (id := 5) ?_; refine vo_step (ok_move rfl rfl rfl) rfl ?_; refine vo_step (ok_move rfl rfl rfl) rfl ?_; refine vo_step (ok_indexS L rfl rfl rfl rfl rfl (by assumption)) rfl ?_; refine vo_step (ok_geq rfl rfl rfl rfl (decide_eq_true (by omega))) rfl ?_; refine vo_step (ok_move rfl rfl rfl) rfl ?_; refine vo_step (ok_move rfl rfl rfl) rfl ?_; refine vo_step (ok_move rfl rfl rfl) rfl ?_; refine vo_step (ok_indexS L rfl rfl rfl rfl rfl (by assumption)) rfl ?_; refine vo_step (ok_leq rfl rfl rfl rfl (decide_eq_false (by omega))) rfl ?_; refine vo_step (ok_pick rfl rfl rfl rfl) rfl ?_; refine vo_step (ok_move rfl rfl rfl) rfl ?_; refine vo_step (ok_move rfl rfl rfl) rfl ?_; refine vo_step (ok_move rfl rfl rfl) rfl ?_; refine vo_step (ok_indexS L rfl rfl rfl rfl rfl (by assumption)) rfl ?_; refine vo_step (ok_geq rfl rfl rfl rfl (decide_eq_true (by omega))) rfl ?_; refine vo_step (ok_move rfl rfl rfl) rfl ?_; refine vo_step (ok_move rfl rfl rfl) rfl ?_; refine vo_step (ok_move rfl rfl rfl) rfl ?_; refine vo_step (ok_indexS L rfl rfl rfl rfl rfl (by assumption)) rfl ?_; refine vo_step (ok_leq rfl rfl rfl rfl (decide_eq_false (by omega))) rfl ?_; refine vo_step (ok_pick rfl rfl rfl rfl) rfl ?_; refine vo_step (ok_pick rfl rfl rfl rfl) rfl ?_; refine vo_step (ok_assign rfl rfl rfl) rfl ?_; refine vo_nil ?_; refine N_block ?_; refine N_seq ?_; refine V_region (id := 4) ?_; refine vo_step (ok_move rfl rfl rfl) rfl ?_; refine vo_step (ok_add rfl rfl rfl rfl (wrap_i64 (by omega) (by omega))) rfl ?_; refine vo_step (ok_assign rfl rfl rfl) rfl ?_; refine vo_nil ?_
            exact N_round (x := (k, true)) (k + 1, false) ⟨hlt, fun h => (by cases h), fun _ => chk_at hc (okB_3 (by omega))⟩ (by dsimp only; omega) ⟨rfl, rfl, rfl, trivial⟩
        · by_cases a2 : 48 ≤ (c.toNat : Int)
          · by_cases a3 : (c.toNat : Int) ≤ 57
            · refine V_seq ?_; refine V_seq ?_; refine V_region (id := 3) ?_; refine vo_step (ok_move rfl rfl rfl) rfl ?_; refine vo_step (ok_move rfl rfl rfl) rfl ?_; refine vo_step (ok_lenS L rfl rfl rfl rfl) rfl ?_; refine vo_step (ok_lss rfl rfl rfl rfl (decide_eq_true (by omega))) rfl ?_; refine vo_step (ok_move rfl rfl rfl) rfl ?_; refine vo_step (ok_move rfl rfl rfl) rfl ?_; refine vo_step (ok_pick rfl rfl rfl rfl) rfl ?_; refine vo_nil ?_; refine N_seq ?_; refine V_true rfl ?_; refine V_skip ?_; refine N_seq ?_; refine V_seq ?_; refine V_block ?_; refine V_region (id := 5) ?_; refine vo_step (ok_move rfl rfl rfl) rfl ?_; refine vo_step (ok_move rfl rfl rfl) rfl ?_; refine vo_step (ok_indexS L rfl rfl rfl rfl rfl (by assumption)) rfl ?_; refine vo_step (ok_geq rfl rfl rfl rfl (decide_eq_false (by omega))) rfl ?_; refine vo_step (ok_move rfl rfl rfl) rfl ?_; refine vo_step (ok_skip rfl (blt_lt rfl) rfl) rfl ?_; refine vo_step (ok_skip rfl (blt_lt rfl) rfl) rfl ?_; refine vo_step (ok_skip rfl (blt_lt rfl) rfl) rfl ?_; refine vo_step (ok_skip rfl (blt_lt rfl) rfl) rfl ?_; refine vo_step (ok_pick rfl rfl rfl rfl) rfl ?_; refine vo_step (ok_move rfl rfl rfl) rfl ?_; refine vo_step (ok_move rfl rfl rfl) rfl ?_; refine vo_step (ok_move rfl rfl rfl) rfl ?_; refine vo_step (ok_indexS L rfl rfl rfl rfl rfl (by assumption)) rfl ?_; refine vo_step (ok_geq rfl rfl rfl rfl (decide_eq_true (by omega))) rfl ?_; refine vo_step (ok_move rfl rfl rfl) rfl ?_; refine vo_step (ok_move rfl rfl rfl) rfl ?_; refine vo_step (ok_move rfl rfl rfl) rfl ?_; refine vo_step (ok_indexS L rfl rfl rfl rfl rfl (by assumption)) rfl ?_; refine vo_step (ok_leq rfl rfl rfl rfl (decide_eq_true (by omega))) rfl ?_; refine vo_step (ok_pick rfl rfl rfl rfl) rfl ?_; refine vo_step (ok_pick rfl rfl rfl rfl) rfl ?_; refine vo_step (ok_assign rfl rfl rfl) rfl ?_; refine vo_nil ?_; refine N_block ?_; refine N_seq ?_; refine V_region (id := 4) ?_; refine vo_step (ok_move rfl rfl rfl) rfl ?_; refine vo_step (ok_add rfl rfl rfl rfl (wrap_i64 (by omega) (by omega))) rfl ?_; refine vo_step (ok_assign rfl rfl rfl) rfl ?_; refine vo_nil ?_
              exact N_round (x := (k, true)) (k + 1, true) ⟨hlt, fun _ => take_all hc (okB_5 (by omega) (by omega)) (hall rfl), fun h => (by cases h)⟩ (by dsimp only; omega) ⟨rfl, rfl, rfl, trivial⟩
            · refine V_seq ?_; refine V_seq ?_; refine V_region (id := 3) ?_; refine vo_step (ok_move rfl rfl rfl) rfl ?_; refine vo_step (ok_move rfl rfl rfl) rfl ?_; refine vo_step (ok_lenS L rfl rfl rfl rfl) rfl ?_; refine vo_step (ok_lss rfl rfl rfl rfl (decide_eq_true (by omega))) rfl ?_; refine vo_step (ok_move rfl rfl rfl) rfl ?_; refine vo_step (ok_move rfl rfl rfl) rfl ?_; refine vo_step (ok_pick rfl rfl rfl rfl) rfl ?_; refine vo_nil ?_; refine N_seq ?_; refine V_true rfl ?_; refine V_skip ?_; refine N_seq ?_; refine V_seq ?_; refine V_block ?_; refine V_region (id := 5) ?_; refine vo_step (ok_move rfl rfl rfl) rfl ?_; refine vo_step (ok_move rfl rfl rfl) rfl ?_; refine vo_step (ok_indexS L rfl rfl rfl rfl rfl (by assumption)) rfl ?_; refine vo_step (ok_geq rfl rfl rfl rfl (decide_eq_false (by omega))) rfl ?_; refine vo_step (ok_move rfl rfl rfl) rfl ?_; refine vo_step (ok_skip rfl (blt_lt rfl) rfl) rfl ?_; refine vo_step (ok_skip rfl (blt_lt rfl) rfl) rfl ?_; refine vo_step (ok_skip rfl (blt_lt rfl) rfl) rfl ?_; refine vo_step (ok_skip rfl (blt_lt rfl) rfl) rfl ?_; refine vo_step (ok_pick rfl rfl rfl rfl) rfl ?_; refine vo_step (ok_move rfl rfl rfl) rfl ?_; refine vo_step (ok_move rfl rfl rfl) rfl ?_; refine vo_step (ok_move rfl rfl rfl) rfl ?_; refine vo_step (ok_indexS L rfl rfl rfl rfl rfl (by assumption)) rfl ?_; refine vo_step (ok_geq rfl rfl rfl rfl (decide_eq_true (by omega))) rfl ?_; refine vo_step (ok_move rfl rfl rfl) rfl ?_; refine vo_step (ok_move rfl rfl rfl) rfl ?_; refine vo_step (ok_move rfl rfl rfl) rfl ?_; refine vo_step (ok_indexS L rfl rfl rfl rfl rfl (by assumption)) rfl ?_; refine vo_step (ok_leq rfl rfl rfl rfl (decide_eq_false (by omega))) rfl ?_; refine vo_step (ok_pick rfl rfl rfl rfl) rfl ?_; refine vo_step (ok_pick rfl rfl rfl rfl) rfl ?_; refine vo_step (ok_assign rfl rfl rfl) rfl ?_; refine vo_nil ?_; refine N_block ?_; refine N_seq ?_; refine V_region (id := 4) ?_; refine vo_step (ok_move rfl rfl rfl) rfl ?_; refine vo_step (ok_add rfl rfl rfl rfl (wrap_i64 (by omega) (by omega))) rfl ?_; refine vo_step (ok_assign rfl rfl rfl) rfl ?_; refine vo_nil ?_
              exact N_round (x := (k, true)) (k + 1, false) ⟨hlt, fun h => (by cases h), fun _ => chk_at hc (okB_2 (by omega) (by omega))⟩ (by dsimp only; omega) ⟨rfl, rfl, rfl, trivial⟩
          · refine V_seq ?_; refine V_seq ?_; refine V_region (id := 3) ?_; refine vo_step (ok_move rfl rfl rfl) rfl ?_; refine vo_step (ok_move rfl rfl rfl) rfl ?_; refine vo_step (ok_lenS L rfl rfl rfl rfl) rfl ?_; refine vo_step (ok_lss rfl rfl rfl rfl (decide_eq_true (by omega))) rfl ?_; refine vo_step (ok_move rfl rfl rfl) rfl ?_; refine vo_step (ok_move rfl rfl rfl) rfl ?_; refine vo_step (ok_pick rfl rfl rfl rfl) rfl ?_; refine vo_nil ?_; refine N_seq ?_; refine V_true rfl ?_; refine V_skip ?_; refine N_seq ?_; refine V_seq ?_; refine V_block ?_; refine V_region (id := 5) ?_; refine vo_step (ok_move rfl rfl rfl) rfl ?_; refine vo_step (ok_move rfl rfl rfl) rfl ?_; refine vo_step (ok_indexS L rfl rfl rfl rfl rfl (by assumption)) rfl ?_; refine vo_step (ok_geq rfl rfl rfl rfl (decide_eq_false (by omega))) rfl ?_; refine vo_step (ok_move rfl rfl rfl) rfl ?_; refine vo_step (ok_skip rfl (blt_lt rfl) rfl) rfl ?_; refine vo_step (ok_skip rfl (blt_lt rfl) rfl) rfl ?_; refine vo_step (ok_skip rfl (blt_lt rfl) rfl) rfl ?_; refine vo_step (ok_skip rfl (blt_lt rfl) rfl) rfl ?_; refine vo_step (ok_pick rfl rfl rfl rfl) rfl ?_; refine vo_step (ok_move rfl rfl rfl) rfl ?_; refine vo_step (ok_move rfl rfl rfl) rfl ?_; refine vo_step (ok_move rfl rfl rfl) rfl ?_; refine vo_step (ok_indexS L rfl rfl rfl rfl rfl (by assumption)) rfl ?_; refine vo_step (ok_geq rfl rfl rfl rfl (decide_eq_false (by omega))) rfl ?_; refine vo_step (ok_move rfl rfl rfl) rfl ?_; refine vo_step (ok_skip rfl (blt_lt rfl) rfl) rfl ?_; refine vo_step (ok_skip rfl (blt_lt rfl) rfl) rfl ?_; refine vo_step (ok_skip rfl (blt_lt rfl) rfl) rfl ?_; refine vo_step (ok_skip rfl (blt_lt rfl) rfl) rfl ?_; refine vo_step (ok_pick rfl rfl rfl rfl) rfl ?_; refine vo_step (ok_pick rfl rfl rfl rfl) rfl ?_; refine vo_step (ok_assign rfl rfl rfl) rfl ?_; refine vo_nil ?_; refine N_block ?_; refine N_seq ?_; refine V_region (id := 4) ?_; refine vo_step (ok_move rfl rfl rfl) rfl ?_; refine vo_step (ok_add rfl rfl rfl rfl (wrap_i64 (by omega) (by omega))) rfl ?_; refine vo_step (ok_assign rfl rfl rfl) rfl ?_; refine vo_nil ?_
            exact N_round (x := (k, true)) (k + 1, false) ⟨hlt, fun h => (by cases h), fun _ => chk_at hc (okB_1 (by omega) (by omega))⟩ (by dsimp only; omega) ⟨rfl, rfl, rfl, trivial⟩
    · cases b with
      | false =>
        refine V_seq ?_; refine V_seq ?_; refine V_region (id := 3) ?_; refine vo_step (ok_move rfl rfl rfl) rfl ?_; refine vo_step (ok_move rfl rfl rfl) rfl ?_; refine vo_step (ok_lenS L rfl rfl rfl rfl) rfl ?_; refine vo_step (ok_lss rfl rfl rfl rfl (decide_eq_false (by omega))) rfl ?_; refine vo_step (ok_move rfl rfl rfl) rfl ?_; refine vo_step (ok_skip rfl (blt_lt rfl) rfl) rfl ?_; refine vo_step (ok_pick rfl rfl rfl rfl) rfl ?_; refine vo_nil ?_; refine N_seq ?_; refine V_false rfl ?_; refine V_exit ?_; refine X_then ?_; refine X_then ?_; refine X_here ?_; refine N_seq ?_; refine V_seq ?_; refine V_seq ?_; refine V_region (id := 6) ?_; refine vo_step (ok_move rfl rfl rfl) rfl ?_; refine vo_nil ?_; refine N_seq ?_; refine V_false rfl ?_; refine V_skip ?_; refine N_seq ?_; refine V_seq ?_; refine V_region (id := 8) ?_; refine vo_step (ok_assign rfl rfl rfl) rfl ?_; refine vo_nil ?_; refine N_seq ?_
        refine V_ret L (rs := [.tmp 2]) rfl (fun _ _ h => h) Since.refl fun u H hH hle => ?_
        exact congrArg _ (hbad rfl).symm
      | true =>
        refine V_seq ?_; refine V_seq ?_; refine V_region (id := 3) ?_; refine vo_step (ok_move rfl rfl rfl) rfl ?_; refine vo_step (ok_move rfl rfl rfl) rfl ?_; refine vo_step (ok_lenS L rfl rfl rfl rfl) rfl ?_; refine vo_step (ok_lss rfl rfl rfl rfl (decide_eq_false (by omega))) rfl ?_; refine vo_step (ok_move rfl rfl rfl) rfl ?_; refine vo_step (ok_skip rfl (blt_lt rfl) rfl) rfl ?_; refine vo_step (ok_pick rfl rfl rfl rfl) rfl ?_; refine vo_nil ?_; refine N_seq ?_; refine V_false rfl ?_; refine V_exit ?_; refine X_then ?_; refine X_then ?_; refine X_here ?_; refine N_seq ?_; refine V_seq ?_; refine V_seq ?_; refine V_region (id := 6) ?_; refine vo_step (ok_move rfl rfl rfl) rfl ?_; refine vo_nil ?_; refine N_seq ?_; refine V_true rfl ?_; refine V_seq ?_; refine V_region (id := 7) ?_; refine vo_step (ok_assign rfl rfl rfl) rfl ?_; refine vo_nil ?_; refine N_seq ?_
        refine V_ret L (rs := [.tmp 2]) rfl (fun _ _ h => h) Since.refl fun u H hH hle => ?_
        exact congrArg _ (chk_all h1 h2 (all_take (by omega) (hall rfl))).symm
  · have hbad := chk_bad h0
    by_cases h1 : 1 ≤ s.size
    · have h2 : 16 < s.size := by omega
      refine V_seq ?_; refine V_region (id := 0) ?_; refine vo_step (ok_assign rfl rfl rfl) rfl ?_; refine vo_nil ?_; refine N_seq ?_; refine V_seq ?_; refine V_region (id := 1) ?_; refine vo_step (ok_move rfl rfl rfl) rfl ?_; refine vo_step (ok_lenS L rfl rfl rfl rfl) rfl ?_; refine vo_step (ok_gtr rfl rfl rfl rfl (decide_eq_true (by omega))) rfl ?_; refine vo_step (ok_move rfl rfl rfl) rfl ?_; refine vo_step (ok_move rfl rfl rfl) rfl ?_; refine vo_step (ok_lenS L rfl rfl rfl rfl) rfl ?_; refine vo_step (ok_leq rfl rfl rfl rfl (decide_eq_false (by omega))) rfl ?_; refine vo_step (ok_pick rfl rfl rfl rfl) rfl ?_; refine vo_step (ok_assign rfl rfl rfl) rfl ?_; refine vo_nil ?_; refine N_seq ?_; refine V_seq ?_; refine V_seq ?_; refine V_region (id := 2) ?_; refine vo_step (ok_assign rfl rfl rfl) rfl ?_; refine vo_nil ?_; refine N_seq ?_; refine V_block ?_
      refine V_loop (fun _ : Unit => [(0, .is (.string s)), (3, .is (.bool false)), (4, .is (.int .i64 0))]) (fun _ => True) (fun _ => 0) () trivial ⟨rfl, rfl, rfl, trivial⟩ ?_
      rintro _ _
      refine V_seq ?_; refine V_seq ?_; refine V_region (id := 3) ?_; refine vo_step (ok_move rfl rfl rfl) rfl ?_; refine vo_step (ok_move rfl rfl rfl) rfl ?_; refine vo_step (ok_lenS L rfl rfl rfl rfl) rfl ?_; refine vo_step (ok_lss rfl rfl rfl rfl (decide_eq_true (by omega))) rfl ?_; refine vo_step (ok_move rfl rfl rfl) rfl ?_; refine vo_step (ok_move rfl rfl rfl) rfl ?_; refine vo_step (ok_pick rfl rfl rfl rfl) rfl ?_; refine vo_nil ?_; refine N_seq ?_; refine V_false rfl ?_; refine V_exit ?_; refine X_then ?_; refine X_then ?_; refine X_here ?_; refine N_seq ?_; refine V_seq ?_; refine V_seq ?_; refine V_region (id := 6) ?_; refine vo_step (ok_move rfl rfl rfl) rfl ?_; refine vo_nil ?_; refine N_seq ?_; refine V_false rfl ?_; refine V_skip ?_; refine N_seq ?_; refine V_seq ?_; refine V_region (id := 8) ?_; refine vo_step (ok_assign rfl rfl rfl) rfl ?_; refine vo_nil ?_; refine N_seq ?_
      refine V_ret L (rs := [.tmp 2]) rfl (fun _ _ h => h) Since.refl fun u H hH hle => ?_
      exact congrArg _ hbad.symm
    · refine V_seq ?_; refine V_region (id := 0) ?_; refine vo_step (ok_assign rfl rfl rfl) rfl ?_; refine vo_nil ?_; refine N_seq ?_; refine V_seq ?_; refine V_region (id := 1) ?_; refine vo_step (ok_move rfl rfl rfl) rfl ?_; refine vo_step (ok_lenS L rfl rfl rfl rfl) rfl ?_; refine vo_step (ok_gtr rfl rfl rfl rfl (decide_eq_false (by omega))) rfl ?_; refine vo_step (ok_move rfl rfl rfl) rfl ?_; refine vo_step (ok_skip rfl (blt_lt rfl) rfl) rfl ?_; refine vo_step (ok_skip rfl (blt_lt rfl) rfl) rfl ?_; refine vo_step (ok_skip rfl (blt_lt rfl) rfl) rfl ?_; refine vo_step (ok_pick rfl rfl rfl rfl) rfl ?_; refine vo_step (ok_assign rfl rfl rfl) rfl ?_; refine vo_nil ?_; refine N_seq ?_; refine V_seq ?_; refine V_seq ?_; refine V_region (id := 2) ?_; refine vo_step (ok_assign rfl rfl rfl) rfl ?_; refine vo_nil ?_; refine N_seq ?_; refine V_block ?_
      refine V_loop (fun _ : Unit => [(0, .is (.string s)), (3, .is (.bool false)), (4, .is (.int .i64 0))]) (fun _ => True) (fun _ => 0) () trivial ⟨rfl, rfl, rfl, trivial⟩ ?_
      rintro _ _
      refine V_seq ?_; refine V_seq ?_; refine V_region (id := 3) ?_; refine vo_step (ok_move rfl rfl rfl) rfl ?_; refine vo_step (ok_move rfl rfl rfl) rfl ?_; refine vo_step (ok_lenS L rfl rfl rfl rfl) rfl ?_; refine vo_step (ok_lss rfl rfl rfl rfl (decide_eq_false (by omega))) rfl ?_; refine vo_step (ok_move rfl rfl rfl) rfl ?_; refine vo_step (ok_skip rfl (blt_lt rfl) rfl) rfl ?_; refine vo_step (ok_pick rfl rfl rfl rfl) rfl ?_; refine vo_nil ?_; refine N_seq ?_; refine V_false rfl ?_; refine V_exit ?_; refine X_then ?_; refine X_then ?_; refine X_here ?_; refine N_seq ?_; refine V_seq ?_; refine V_seq ?_; refine V_region (id := 6) ?_; refine vo_step (ok_move rfl rfl rfl) rfl ?_; refine vo_nil ?_; refine N_seq ?_; refine V_false rfl ?_; refine V_skip ?_; refine N_seq ?_; refine V_seq ?_; refine V_region (id := 8) ?_; refine vo_step (ok_assign rfl rfl rfl) rfl ?_; refine vo_nil ?_; refine N_seq ?_
      refine V_ret L (rs := [.tmp 2]) rfl (fun _ _ h => h) Since.refl fun u H hH hle => ?_
      exact congrArg _ hbad.symm
theorem max2 (a b : ByteArray) : (if chk b > chk a then chk b else chk a) = allE [a, b] := by
  simp only [allE]
  rcases chk_cases a with h | h <;> rcases chk_cases b with h' | h' <;> simp [h, h']
theorem max3 (a b c : ByteArray) : (if chk c > allE [a, b] then chk c else allE [a, b]) = allE [a, b, c] := by
  simp only [allE]
  rcases chk_cases a with h | h <;> rcases chk_cases b with h' | h' <;> rcases chk_cases c with h'' | h'' <;> simp [h, h', h'']
theorem robject_ret {a b : ByteArray} (ha : a.size ≤ 9223372036854775807) (hb : b.size ≤ 9223372036854775807) {w : World} {B : Heap} (hB : B.Le (hp w)) :
    Ret Try.prog 105 [.agg #[.string a, .string b]] w B (fun v _ => v = .int .i64 (allE [a, b])) := by
  refine V_enter Try.func105 rfl Try.ntmps105 (Nat.le_of_ble_eq_true rfl) hB ?_
  refine V_seq ?_; refine V_region (id := 0) ?_; refine vo_step (ok_box rfl rfl rfl rfl) rfl ?_; refine vo_step (ok_assign rfl rfl rfl) rfl ?_; refine vo_nil ?_; refine N_seq ?_; refine V_seq ?_; refine V_regionD (id := 1) [] mixed (by kernel_rfl) ?_; refine par_step (ok_fieldAt L rfl rfl rfl rfl) rfl ?_; refine par_step (ok_load1 L (src_at rfl) rfl rfl rfl rfl) rfl ?_; refine par_step (ok_callx L rfl rfl (blt_lt rfl) rfl rfl rfl (fun u H hH _ _ => rcheck_ret (by first | omega | decide) hH)) rfl ?_; refine par_step (ok_fieldAt L rfl rfl rfl rfl) rfl ?_; refine par_step (ok_load1 L (src_at rfl) rfl rfl rfl rfl) rfl ?_; refine par_step (ok_callx L rfl rfl (blt_lt rfl) rfl rfl rfl (fun u H hH _ _ => rcheck_ret (by first | omega | decide) hH)) rfl ?_; refine par_step (ok_max rfl rfl rfl rfl rfl) rfl ?_; refine par_step (ok_assign rfl rfl rfl) rfl ?_; refine par_nil ?_; refine N_seq ?_
  refine V_ret L (rs := [.tmp 2]) rfl (fun _ _ h => h) Since.refl fun u H hH hle => ?_
  exact congrArg _ (max2 a b)
end Go.V
/- The walks of the definition of tuples (chapter 2). -/
namespace Go.V.L2
open Go.Proofs Go.RowKit Go.V
theorem allE_two : ∀ (l : List ByteArray), allE l = 0 ∨ allE l = 6
  | [] => .inl rfl
  | s :: l => by
    simp only [allE]
    split
    · exact allE_two l
    · rename_i h; exact .inr ((chk_cases s).resolve_left h)
theorem subjE_two (a b c : ByteArray) : subjE a b c = 0 ∨ subjE a b c = 6 := by
  unfold subjE
  split <;> exact allE_two _
theorem eqU {t v : U} {r : Bool} (e : decide (t = v) = r) : eqCs [0, 0, 0, 0, 0, 0] [.string t.1.1.1, .string t.1.1.2, .string t.1.2, .string t.2.1.1, .string t.2.1.2, .string t.2.2] [.string v.1.1.1, .string v.1.1.2, .string v.1.2, .string v.2.1.1, .string v.2.1.2, .string v.2.2] = some r := by
  subst e
  simp only [eqCs, eqC]
  have h := @u_eq t v
  by_cases hh : t = v
  · subst hh; simp
  · rw [decide_eq_false hh]
    have h' := fun x => hh (h.1 x)
    by_cases a1 : t.1.1.1 = v.1.1.1
    · by_cases a2 : t.1.1.2 = v.1.1.2
      · by_cases a3 : t.1.2 = v.1.2
        · by_cases a4 : t.2.1.1 = v.2.1.1
          · by_cases a5 : t.2.1.2 = v.2.1.2
            · by_cases a6 : t.2.2 = v.2.2
              · exact absurd ⟨a1, a2, a3, a4, a5, a6⟩ h'
              · simp [a6]
            · simp [a5]
          · simp [a4]
        · simp [a3]
      · simp [a2]
    · simp [a1]
theorem drop_g {α : Type} {l : List α} {k : Nat} {g : α} (h : l[k]? = some g) : l.drop k = g :: l.drop (k + 1) := by
  obtain ⟨hl, he⟩ := List.getElem?_eq_some_iff.1 h
  rw [List.drop_eq_getElem_cons hl, he]
theorem ups_snoc {κ : Kap} {s : Nat} {r : List U} {t : U} (h : κ s = some (.own (SlR tyU 6 (r.length + 1) (r.flatMap ucs ++ [.string t.1.1.1, .string t.1.1.2, .string t.1.2, .string t.2.1.1, .string t.2.1.2, .string t.2.2])))) : κ s = some (.own (SlR tyU 6 (r ++ [t]).length ((r ++ [t]).flatMap ucs))) := by
  rw [h, List.flatMap_append, List.length_append]; rfl
attribute [local irreducible] V N X VO Par StepOK Has Ret RetL Src
end Go.V.L2
/- Plain words: the texts of valid names are read again. -/
namespace Go.V
open Go.RowKit
def noB (s : ByteArray) (c : UInt8) : Prop := c ∉ s.data.toList
theorem indexByte_mid (r : List UInt8) (c : UInt8) : ∀ (l : List UInt8), c ∉ l → Lib.indexByte (l ++ c :: r) c = l.length
  | [], _ => by simp [Lib.indexByte]
  | b :: l, h => by
    have h1 : ¬ (b == c) = true := fun e => h (by rw [beq_iff_eq] at e; rw [e]; exact List.mem_cons_self ..)
    have ih := indexByte_mid r c l (fun e => h (List.mem_cons_of_mem _ e))
    rw [List.cons_append, Lib.indexByte, if_neg h1, ih, if_neg (by rw [beq_iff_eq]; omega)]
    simp
theorem indexByte_no (c : UInt8) : ∀ (l : List UInt8), c ∉ l → Lib.indexByte l c = -1
  | [], _ => rfl
  | b :: l, h => by
    have h1 : ¬ (b == c) = true := fun e => h (by rw [beq_iff_eq] at e; rw [e]; exact List.mem_cons_self ..)
    rw [Lib.indexByte, if_neg h1, indexByte_no c l (fun e => h (List.mem_cons_of_mem _ e))]
    rfl
theorem cut_mid {l r : List UInt8} {c : UInt8} (h : c ∉ l) : Lib.cut (l ++ c :: r) [c] = (l, r, true) := by
  unfold Lib.cut
  rw [Lib.index_one, indexByte_mid r c l h, if_pos (by omega)]
  simp
theorem cut_no {l : List UInt8} {c : UInt8} (h : c ∉ l) : Lib.cut l [c] = (l, [], false) := by
  unfold Lib.cut
  rw [Lib.index_one, indexByte_no c l h, if_neg (by omega)]
theorem list_app (a b : ByteArray) : (a ++ b).data.toList = a.data.toList ++ b.data.toList := by
  rw [ByteArray.data_append, Array.toList_append]
theorem ba_ext' {a b : ByteArray} (h : a.data.toList = b.data.toList) : a = b := by
  obtain ⟨⟨x⟩⟩ := a; obtain ⟨⟨y⟩⟩ := b; simp at h; subst h; rfl
theorem cutA_mid {a b : ByteArray} {c : UInt8} (h : noB a c) : cutA (a ++ ⟨#[c]⟩ ++ b) c = (a, b, true) := by
  have e : (a ++ ⟨#[c]⟩ ++ b).data.toList = a.data.toList ++ c :: b.data.toList := by rw [list_app, list_app]; simp
  unfold cutA
  rw [e, cut_mid h]
theorem cutA_no {a : ByteArray} {c : UInt8} (h : noB a c) : cutA a c = (a, ⟨#[]⟩, false) := by
  unfold cutA
  rw [cut_no h]
theorem hasA_no {a : ByteArray} {c : UInt8} (h : noB a c) : hasA a c = false := by
  unfold hasA
  rw [indexByte_no c _ h]; rfl
theorem cntA_no {a : ByteArray} {c : UInt8} (h : noB a c) : cntA a c = 0 := by
  unfold cntA Lib.countByte
  exact List.count_eq_zero_of_not_mem h
theorem allE2 {a b : ByteArray} (h : allE [a, b] = 0) : chk a = 0 ∧ chk b = 0 := by
  simp only [allE] at h
  rcases chk_cases a with h1 | h1 <;> rcases chk_cases b with h2 | h2 <;> simp [h1, h2] at h ⊢
theorem allE3 {a b c : ByteArray} (h : allE [a, b, c] = 0) : chk a = 0 ∧ chk b = 0 ∧ chk c = 0 := by
  simp only [allE] at h
  rcases chk_cases a with h1 | h1 <;> rcases chk_cases b with h2 | h2 <;> rcases chk_cases c with h3 | h3 <;> simp [h1, h2, h3] at h ⊢
theorem allE2_of {a b : ByteArray} (ha : chk a = 0) (hb : chk b = 0) : allE [a, b] = 0 := by simp [allE, ha, hb]
theorem allE3_of {a b c : ByteArray} (ha : chk a = 0) (hb : chk b = 0) (hc : chk c = 0) : allE [a, b, c] = 0 := by simp [allE, ha, hb, hc]
theorem subjE_zero {a b c : ByteArray} (h : subjE a b c = 0) : chk a = 0 ∧ chk b = 0 ∧ (c = ⟨#[]⟩ ∨ chk c = 0) := by
  unfold subjE at h
  split at h
  · rename_i hc; exact ⟨(allE2 h).1, (allE2 h).2, .inl hc⟩
  · exact ⟨(allE3 h).1, (allE3 h).2.1, .inr (allE3 h).2.2⟩
end Go.V
/- The walks of the definition of names: texts are read. -/
namespace Go.V
open Go.Proofs Go.RowKit
/-- Where a byte is. -/
def fi (c : UInt8) : List UInt8 → Nat
  | [] => 0
  | x :: l => if x = c then 0 else fi c l + 1
theorem fi_no {c : UInt8} : ∀ {l : List UInt8}, c ∉ l → fi c l = l.length
  | [], _ => rfl
  | x :: l, h => by
    rw [fi, if_neg fun e => h (by rw [e]; exact List.mem_cons_self ..), fi_no fun e => h (List.mem_cons_of_mem _ e), List.length_cons]
theorem fi_app {c : UInt8} {q : List UInt8} : ∀ {p : List UInt8}, c ∉ p → fi c (p ++ q) = p.length + fi c q
  | [], _ => by simp
  | x :: p, h => by
    rw [List.cons_append, fi, if_neg fun e => h (by rw [e]; exact List.mem_cons_self ..), fi_app fun e => h (List.mem_cons_of_mem _ e), List.length_cons]; omega
theorem fi_lt {c : UInt8} {q : List UInt8} : ∀ {p : List UInt8}, c ∈ p → fi c (p ++ q) < p.length
  | x :: p, h => by
    rw [List.cons_append, fi]
    split
    · simp
    · rename_i hx
      have := fi_lt (q := q) ((List.mem_cons.1 h).resolve_left fun e => hx e.symm)
      simp only [List.length_cons]; omega
/-- A string that has a byte. -/
theorem split_b (s : ByteArray) (c : UInt8) : noB s c ∨ ∃ a b, s = a ++ ⟨#[c]⟩ ++ b ∧ noB a c := by
  by_cases h : c ∈ s.data.toList
  · obtain ⟨p, q, e, hp⟩ := List.eq_append_cons_of_mem h
    refine .inr ⟨⟨p.toArray⟩, ⟨q.toArray⟩, ba_ext' ?_, by unfold noB; simpa using hp⟩
    rw [list_app, list_app, e]
    simp
  · exact .inl h
theorem ext_mid (p q r : ByteArray) (i j : Nat) (hi : i = p.size) (hj : j = p.size + q.size) : (p ++ q ++ r).extract i j = q := by
  subst hi hj
  apply ba_ext'
  rw [ByteArray.data_extract, Array.toList_extract, List.extract, list_app, list_app]
  have h1 : p.data.toList.length = p.size := len_toList p
  have h2 : q.data.toList.length = q.size := len_toList q
  rw [List.append_assoc, ← h1, List.drop_left, List.take_left' (by omega)]
theorem hasA_yes {a : ByteArray} {c : UInt8} (h : ¬ noB a c) : hasA a c = true := by
  rcases split_b a c with h1 | ⟨p, q, rfl, hp⟩
  · exact absurd h1 h
  · unfold hasA
    have e : (p ++ ⟨#[c]⟩ ++ q).data.toList = p.data.toList ++ c :: q.data.toList := by rw [list_app, list_app]; simp
    rw [e, indexByte_mid _ _ _ hp]
    simp
/-- What the definition reads. -/
def rp1 (s : ByteArray) : ByteArray × ByteArray × ByteArray × Bool × Int :=
  match partsA s with
  | none => (sNil, sNil, sNil, false, 5)
  | some (x, y, z, d) => (x, y, z, d, if d = true then allE [x, y, z] else allE [x, y])
theorem mid_list (a b : ByteArray) (c : UInt8) : (a ++ ⟨#[c]⟩ ++ b).data.toList = a.data.toList ++ c :: b.data.toList := by rw [list_app, list_app]; simp
theorem mid_size (a b : ByteArray) (c : UInt8) : (a ++ ⟨#[c]⟩ ++ b).size = a.size + 1 + b.size := by rw [ByteArray.size_append, ByteArray.size_append]; rfl
theorem count_pos {s : ByteArray} {c : UInt8} (h : ¬ noB s c) : 0 < s.data.toList.count c := List.count_pos_iff.2 (Classical.not_not.1 h)
attribute [local irreducible] V N X VO Par StepOK Has Ret RetL Src
set_option maxHeartbeats 1000000 in
theorem place_ret {s : ByteArray} {c : UInt8} {a n : Nat} (ha : fi c s.data.toList = a) (hn : s.data.toList.count c = n) (hs : s.size ≤ 1000000) {w : World} {B : Heap} (hB : B.Le (hp w)) :
    Ret Try.prog 107 [.string s, .int .u8 c.toNat] w B (fun v _ => v = .tuple #[.int .i64 a, .int .i64 n]) := by
  subst ha hn
  have hlen := len_toList s
  refine V_enter Try.func107 rfl Try.ntmps107 (Nat.le_of_ble_eq_true rfl) hB ?_
  refine V_seq ?_; refine V_region (id := 0) ?_; refine vo_step (ok_assign rfl rfl rfl) rfl ?_; refine vo_step (ok_assign rfl rfl rfl) rfl ?_; refine vo_nil ?_; refine N_seq ?_; refine V_seq ?_; refine V_region (id := 1) ?_; refine vo_step (ok_move rfl rfl rfl) rfl ?_; refine vo_step (ok_lenS L rfl rfl rfl rfl) rfl ?_; refine vo_step (ok_assign rfl rfl rfl) rfl ?_; refine vo_step (ok_assign rfl rfl rfl) rfl ?_; refine vo_nil ?_; refine N_seq ?_; refine V_seq ?_; refine V_seq ?_; refine V_region (id := 2) ?_; refine vo_step (ok_move rfl rfl rfl) rfl ?_; refine vo_step (ok_lenS L rfl rfl rfl rfl) rfl ?_; refine vo_step (ok_sub rfl rfl rfl rfl (wrap_i64 (by omega) (by omega))) rfl ?_; refine vo_step (ok_assign rfl rfl rfl) rfl ?_; refine vo_nil ?_; refine N_seq ?_; refine V_block ?_
  refine V_loop (fun x : Nat × Nat × Nat × Int => [(0, .is (.string s)), (1, .is (.int .u8 c.toNat)), (6, .is (.int .i64 x.2.1)), (7, .is (.int .i64 x.2.2.1)), (8, .is (.int .i64 x.2.2.2))])
    (fun x => x.1 ≤ s.size ∧ x.2.1 = x.1 + fi c (s.data.toList.drop x.1) ∧ x.2.2.1 = (s.data.toList.drop x.1).count c ∧ x.2.2.2 = (x.1 : Int) - 1 ∧ x.2.2.1 ≤ s.size - x.1) (fun x => x.1) (s.size, s.size, 0, (s.size : Int) - 1)
    ⟨Nat.le_refl _, by rw [List.drop_eq_nil_of_le (by omega)]; rfl, by rw [List.drop_eq_nil_of_le (by omega)]; rfl, rfl, Nat.zero_le _⟩ ⟨rfl, rfl, rfl, rfl, rfl, trivial⟩ ?_
  rintro ⟨i, a, n, z⟩ ⟨hi, ha, hn, hz, hb⟩
  dsimp only at hi ha hn hz hb ⊢
  cases i with
  | zero =>
    rw [List.drop_zero] at ha hn
    have hz0 : z < 0 := by omega
    obtain rfl : a = fi c s.data.toList := by omega
    subst hn
    refine V_seq ?_; refine V_seq ?_; refine V_region (id := 3) ?_; refine vo_step (ok_move rfl rfl rfl) rfl ?_; refine vo_step (ok_geq rfl rfl rfl rfl (decide_eq_false (by omega))) rfl ?_; refine vo_nil ?_; refine N_seq ?_; refine V_false rfl ?_; refine V_exit ?_; refine X_then ?_; refine X_then ?_; refine X_here ?_; refine N_seq ?_; refine V_seq ?_; refine V_region (id := 8) ?_; refine vo_step (ok_move rfl rfl rfl) rfl ?_; refine vo_step (ok_move rfl rfl rfl) rfl ?_; refine vo_step (ok_assign rfl rfl rfl) rfl ?_; refine vo_step (ok_assign rfl rfl rfl) rfl ?_; refine vo_nil ?_; refine N_seq ?_
    refine V_ret L (rs := [.tmp 4, .tmp 5]) rfl (fun _ _ h => h) Since.refl fun u H hH hle => ?_
    rfl
  | succ k =>
    obtain rfl : z = (k : Int) := by omega
    obtain ⟨x, hc⟩ := getElem?_lt (show k < s.size by omega)
    have hd : s.data.toList[k]? = some x := by
      have : s.data[k]? = some x := hc
      simpa using this
    have hdr : s.data.toList.drop k = x :: s.data.toList.drop (k + 1) := by
      have h1 : k < s.data.toList.length := by omega
      rw [List.drop_eq_getElem_cons h1]
      rw [List.getElem?_eq_getElem h1] at hd
      rw [Option.some.inj hd]
    by_cases hx : x = c
    · subst hx
      refine V_seq ?_; refine V_seq ?_; refine V_region (id := 3) ?_; refine vo_step (ok_move rfl rfl rfl) rfl ?_; refine vo_step (ok_geq rfl rfl rfl rfl (decide_eq_true (by omega))) rfl ?_; refine vo_nil ?_; refine N_seq ?_; refine V_true rfl ?_; refine V_skip ?_; refine N_seq ?_; refine V_seq ?_; refine V_block ?_; refine V_seq ?_; refine V_region (id := 5) ?_; refine vo_step (ok_move rfl rfl rfl) rfl ?_; refine vo_step (ok_move rfl rfl rfl) rfl ?_; refine vo_step (ok_indexS L rfl rfl rfl rfl rfl (by assumption)) rfl ?_; refine vo_step (ok_move rfl rfl rfl) rfl ?_; refine vo_step (ok_eql rfl rfl rfl rfl (decide_eq_true (by omega))) rfl ?_; refine vo_nil ?_; refine N_seq ?_; refine V_true rfl ?_; refine V_seq ?_; refine V_region (id := 6) ?_; refine vo_step (ok_move rfl rfl rfl) rfl ?_; refine vo_step (ok_assign rfl rfl rfl) rfl ?_; refine vo_nil ?_; refine N_seq ?_; refine V_region (id := 7) ?_; refine vo_step (ok_move rfl rfl rfl) rfl ?_; refine vo_step (ok_add rfl rfl rfl rfl (wrap_i64 (by omega) (by omega))) rfl ?_; refine vo_step (ok_assign rfl rfl rfl) rfl ?_; refine vo_nil ?_; refine N_block ?_; refine N_seq ?_; refine V_region (id := 4) ?_; refine vo_step (ok_move rfl rfl rfl) rfl ?_; refine vo_step (ok_sub rfl rfl rfl rfl (wrap_i64 (by omega) (by omega))) rfl ?_; refine vo_step (ok_assign rfl rfl rfl) rfl ?_; refine vo_nil ?_
      exact N_round (x := (k + 1, a, n, (k : Int))) (k, k, n + 1, (k : Int) - 1) ⟨by dsimp only; omega, by dsimp only; rw [hdr, fi, if_pos rfl]; rfl, by dsimp only; rw [hdr, List.count_cons_self, hn], rfl, by dsimp only; omega⟩ (by dsimp only; omega) ⟨rfl, rfl, rfl, rfl, rfl, trivial⟩
    · have hxc : (x.toNat : Int) ≠ (c.toNat : Int) := fun e => hx (UInt8.toNat_inj.1 (by omega))
      refine V_seq ?_; refine V_seq ?_; refine V_region (id := 3) ?_; refine vo_step (ok_move rfl rfl rfl) rfl ?_; refine vo_step (ok_geq rfl rfl rfl rfl (decide_eq_true (by omega))) rfl ?_; refine vo_nil ?_; refine N_seq ?_; refine V_true rfl ?_; refine V_skip ?_; refine N_seq ?_; refine V_seq ?_; refine V_block ?_; refine V_seq ?_; refine V_region (id := 5) ?_; refine vo_step (ok_move rfl rfl rfl) rfl ?_; refine vo_step (ok_move rfl rfl rfl) rfl ?_; refine vo_step (ok_indexS L rfl rfl rfl rfl rfl (by assumption)) rfl ?_; refine vo_step (ok_move rfl rfl rfl) rfl ?_; refine vo_step (ok_eql rfl rfl rfl rfl (decide_eq_false (by omega))) rfl ?_; refine vo_nil ?_; refine N_seq ?_; refine V_false rfl ?_; refine V_skip ?_; refine N_block ?_; refine N_seq ?_; refine V_region (id := 4) ?_; refine vo_step (ok_move rfl rfl rfl) rfl ?_; refine vo_step (ok_sub rfl rfl rfl rfl (wrap_i64 (by omega) (by omega))) rfl ?_; refine vo_step (ok_assign rfl rfl rfl) rfl ?_; refine vo_nil ?_
      exact N_round (x := (k + 1, a, n, (k : Int))) (k, a, n, (k : Int) - 1) ⟨by dsimp only; omega, by dsimp only; rw [hdr, fi, if_neg hx, ha]; omega, by dsimp only; rw [hdr, List.count_cons_of_ne hx, hn], rfl, by dsimp only; omega⟩ (by dsimp only; omega) ⟨rfl, rfl, rfl, rfl, rfl, trivial⟩
set_option maxHeartbeats 2000000 in
theorem rparse1_ret {s : ByteArray} {r : ByteArray × ByteArray × ByteArray × Bool × Int} (hr : rp1 s = r) (hs : s.size ≤ 1000000) {w : World} {B : Heap} (hB : B.Le (hp w)) :
    Ret Try.prog 84 [.string s] w B (fun v _ => v = .tuple #[.agg #[.string r.1, .string r.2.1], .string r.2.2.1, .bool r.2.2.2.1, .int .i64 r.2.2.2.2]) := by
  subst hr
  have bad : partsA s = none → ∀ {m k m2 k2 : Nat}, fi 58 s.data.toList = m → s.data.toList.count 58 = k → fi 35 s.data.toList = m2 → s.data.toList.count 35 = k2 → (k ≠ 1 ∨ 1 < k2 ∨ m2 < m) →
      Ret Try.prog 84 [.string s] w B (fun v _ => v = .tuple #[.agg #[.string (rp1 s).1, .string (rp1 s).2.1], .string (rp1 s).2.2.1, .bool (rp1 s).2.2.2.1, .int .i64 (rp1 s).2.2.2.2]) := by
    intro hp m k m2 k2 e1 e2 e3 e4 hor
    have hr1 : rp1 s = (sNil, sNil, sNil, false, 5) := by unfold rp1; rw [hp]
    rw [hr1]
    refine V_enter Try.func84 rfl Try.ntmps84 (Nat.le_of_ble_eq_true rfl) hB ?_
    by_cases c1 : k = 1
    · by_cases c2 : 1 < k2
      · refine V_seq ?_; refine V_region (id := 0) ?_; refine vo_step (ok_alloc L rfl rfl rfl rfl) rfl ?_; refine vo_step (ok_assign rfl rfl rfl) rfl ?_; refine vo_step (ok_assign rfl rfl rfl) rfl ?_; refine vo_step (ok_assign rfl rfl rfl) rfl ?_; refine vo_nil ?_; refine N_seq ?_; refine V_seq ?_; refine V_region (id := 1) ?_; refine vo_step (ok_move rfl rfl rfl) rfl ?_; refine vo_step (ok_callx L rfl rfl (blt_lt rfl) rfl rfl rfl (fun u H hH _ _ => place_ret (c := 58) e1 e2 hs hH)) rfl ?_; refine vo_step (ok_move rfl rfl rfl) rfl ?_; refine vo_step (ok_extract rfl rfl rfl rfl) rfl ?_; refine vo_step (ok_extract rfl rfl rfl rfl) rfl ?_; refine vo_step (ok_assign rfl rfl rfl) rfl ?_; refine vo_step (ok_assign rfl rfl rfl) rfl ?_; refine vo_nil ?_; refine N_seq ?_; refine V_seq ?_; refine V_region (id := 2) ?_; refine vo_step (ok_move rfl rfl rfl) rfl ?_; refine vo_step (ok_callx L rfl rfl (blt_lt rfl) rfl rfl rfl (fun u H hH _ _ => place_ret (c := 35) e3 e4 hs hH)) rfl ?_; refine vo_step (ok_move rfl rfl rfl) rfl ?_; refine vo_step (ok_extract rfl rfl rfl rfl) rfl ?_; refine vo_step (ok_extract rfl rfl rfl rfl) rfl ?_; refine vo_step (ok_assign rfl rfl rfl) rfl ?_; refine vo_step (ok_assign rfl rfl rfl) rfl ?_; refine vo_nil ?_; refine N_seq ?_; refine V_seq ?_; refine V_seq ?_; refine V_region (id := 3) ?_; refine vo_step (ok_move rfl rfl rfl) rfl ?_; refine vo_step (ok_neq rfl rfl rfl rfl (decide_eq_false (by omega))) rfl ?_; refine vo_step (ok_move rfl rfl rfl) rfl ?_; refine vo_step (ok_move rfl rfl rfl) rfl ?_; refine vo_step (ok_gtr rfl rfl rfl rfl (decide_eq_true (by omega))) rfl ?_; refine vo_step (ok_pick rfl rfl rfl rfl) rfl ?_; refine vo_step (ok_move rfl rfl rfl) rfl ?_; refine vo_step (ok_skip rfl (blt_lt rfl) rfl) rfl ?_; refine vo_step (ok_skip rfl (blt_lt rfl) rfl) rfl ?_; refine vo_step (ok_skip rfl (blt_lt rfl) rfl) rfl ?_; refine vo_step (ok_pick rfl rfl rfl rfl) rfl ?_; refine vo_nil ?_; refine N_seq ?_; refine V_true rfl ?_; refine V_seq ?_; refine V_region (id := 4) ?_; refine vo_step (ok_build (cs := [_, _]) rfl rfl pl47 rfl rfl) rfl ?_; refine vo_step (ok_store L rfl rfl rfl rfl rfl rfl rfl rfl) rfl ?_; refine vo_step (ok_assign rfl rfl rfl) rfl ?_; refine vo_step (ok_assign rfl rfl rfl) rfl ?_; refine vo_step (ok_assign rfl rfl rfl) rfl ?_; refine vo_nil ?_; refine N_seq ?_
        refine V_ret L (rs := [.cell 2 47, .tmp 3, .tmp 4, .tmp 5]) rfl (fun _ _ h => h) Since.refl fun u H hH hle => ?_
        exact ⟨_, src_own rfl, rfl, rfl⟩
      · have c3 : m2 < m := by omega
        refine V_seq ?_; refine V_region (id := 0) ?_; refine vo_step (ok_alloc L rfl rfl rfl rfl) rfl ?_; refine vo_step (ok_assign rfl rfl rfl) rfl ?_; refine vo_step (ok_assign rfl rfl rfl) rfl ?_; refine vo_step (ok_assign rfl rfl rfl) rfl ?_; refine vo_nil ?_; refine N_seq ?_; refine V_seq ?_; refine V_region (id := 1) ?_; refine vo_step (ok_move rfl rfl rfl) rfl ?_; refine vo_step (ok_callx L rfl rfl (blt_lt rfl) rfl rfl rfl (fun u H hH _ _ => place_ret (c := 58) e1 e2 hs hH)) rfl ?_; refine vo_step (ok_move rfl rfl rfl) rfl ?_; refine vo_step (ok_extract rfl rfl rfl rfl) rfl ?_; refine vo_step (ok_extract rfl rfl rfl rfl) rfl ?_; refine vo_step (ok_assign rfl rfl rfl) rfl ?_; refine vo_step (ok_assign rfl rfl rfl) rfl ?_; refine vo_nil ?_; refine N_seq ?_; refine V_seq ?_; refine V_region (id := 2) ?_; refine vo_step (ok_move rfl rfl rfl) rfl ?_; refine vo_step (ok_callx L rfl rfl (blt_lt rfl) rfl rfl rfl (fun u H hH _ _ => place_ret (c := 35) e3 e4 hs hH)) rfl ?_; refine vo_step (ok_move rfl rfl rfl) rfl ?_; refine vo_step (ok_extract rfl rfl rfl rfl) rfl ?_; refine vo_step (ok_extract rfl rfl rfl rfl) rfl ?_; refine vo_step (ok_assign rfl rfl rfl) rfl ?_; refine vo_step (ok_assign rfl rfl rfl) rfl ?_; refine vo_nil ?_; refine N_seq ?_; refine V_seq ?_; refine V_seq ?_; refine V_region (id := 3) ?_; refine vo_step (ok_move rfl rfl rfl) rfl ?_; refine vo_step (ok_neq rfl rfl rfl rfl (decide_eq_false (by omega))) rfl ?_; refine vo_step (ok_move rfl rfl rfl) rfl ?_; refine vo_step (ok_move rfl rfl rfl) rfl ?_; refine vo_step (ok_gtr rfl rfl rfl rfl (decide_eq_false (by omega))) rfl ?_; refine vo_step (ok_pick rfl rfl rfl rfl) rfl ?_; refine vo_step (ok_move rfl rfl rfl) rfl ?_; refine vo_step (ok_move rfl rfl rfl) rfl ?_; refine vo_step (ok_move rfl rfl rfl) rfl ?_; refine vo_step (ok_lss rfl rfl rfl rfl (decide_eq_true (by omega))) rfl ?_; refine vo_step (ok_pick rfl rfl rfl rfl) rfl ?_; refine vo_nil ?_; refine N_seq ?_; refine V_true rfl ?_; refine V_seq ?_; refine V_region (id := 4) ?_; refine vo_step (ok_build (cs := [_, _]) rfl rfl pl47 rfl rfl) rfl ?_; refine vo_step (ok_store L rfl rfl rfl rfl rfl rfl rfl rfl) rfl ?_; refine vo_step (ok_assign rfl rfl rfl) rfl ?_; refine vo_step (ok_assign rfl rfl rfl) rfl ?_; refine vo_step (ok_assign rfl rfl rfl) rfl ?_; refine vo_nil ?_; refine N_seq ?_
        refine V_ret L (rs := [.cell 2 47, .tmp 3, .tmp 4, .tmp 5]) rfl (fun _ _ h => h) Since.refl fun u H hH hle => ?_
        exact ⟨_, src_own rfl, rfl, rfl⟩
    · refine V_seq ?_; refine V_region (id := 0) ?_; refine vo_step (ok_alloc L rfl rfl rfl rfl) rfl ?_; refine vo_step (ok_assign rfl rfl rfl) rfl ?_; refine vo_step (ok_assign rfl rfl rfl) rfl ?_; refine vo_step (ok_assign rfl rfl rfl) rfl ?_; refine vo_nil ?_; refine N_seq ?_; refine V_seq ?_; refine V_region (id := 1) ?_; refine vo_step (ok_move rfl rfl rfl) rfl ?_; refine vo_step (ok_callx L rfl rfl (blt_lt rfl) rfl rfl rfl (fun u H hH _ _ => place_ret (c := 58) e1 e2 hs hH)) rfl ?_; refine vo_step (ok_move rfl rfl rfl) rfl ?_; refine vo_step (ok_extract rfl rfl rfl rfl) rfl ?_; refine vo_step (ok_extract rfl rfl rfl rfl) rfl ?_; refine vo_step (ok_assign rfl rfl rfl) rfl ?_; refine vo_step (ok_assign rfl rfl rfl) rfl ?_; refine vo_nil ?_; refine N_seq ?_; refine V_seq ?_; refine V_region (id := 2) ?_; refine vo_step (ok_move rfl rfl rfl) rfl ?_; refine vo_step (ok_callx L rfl rfl (blt_lt rfl) rfl rfl rfl (fun u H hH _ _ => place_ret (c := 35) e3 e4 hs hH)) rfl ?_; refine vo_step (ok_move rfl rfl rfl) rfl ?_; refine vo_step (ok_extract rfl rfl rfl rfl) rfl ?_; refine vo_step (ok_extract rfl rfl rfl rfl) rfl ?_; refine vo_step (ok_assign rfl rfl rfl) rfl ?_; refine vo_step (ok_assign rfl rfl rfl) rfl ?_; refine vo_nil ?_; refine N_seq ?_; refine V_seq ?_; refine V_seq ?_; refine V_region (id := 3) ?_; refine vo_step (ok_move rfl rfl rfl) rfl ?_; refine vo_step (ok_neq rfl rfl rfl rfl (decide_eq_true (by omega))) rfl ?_; refine vo_step (ok_move rfl rfl rfl) rfl ?_; refine vo_step (ok_skip rfl (blt_lt rfl) rfl) rfl ?_; refine vo_step (ok_skip rfl (blt_lt rfl) rfl) rfl ?_; refine vo_step (ok_pick rfl rfl rfl rfl) rfl ?_; refine vo_step (ok_move rfl rfl rfl) rfl ?_; refine vo_step (ok_skip rfl (blt_lt rfl) rfl) rfl ?_; refine vo_step (ok_skip rfl (blt_lt rfl) rfl) rfl ?_; refine vo_step (ok_skip rfl (blt_lt rfl) rfl) rfl ?_; refine vo_step (ok_pick rfl rfl rfl rfl) rfl ?_; refine vo_nil ?_; refine N_seq ?_; refine V_true rfl ?_; refine V_seq ?_; refine V_region (id := 4) ?_; refine vo_step (ok_build (cs := [_, _]) rfl rfl pl47 rfl rfl) rfl ?_; refine vo_step (ok_store L rfl rfl rfl rfl rfl rfl rfl rfl) rfl ?_; refine vo_step (ok_assign rfl rfl rfl) rfl ?_; refine vo_step (ok_assign rfl rfl rfl) rfl ?_; refine vo_step (ok_assign rfl rfl rfl) rfl ?_; refine vo_nil ?_; refine N_seq ?_
      refine V_ret L (rs := [.cell 2 47, .tmp 3, .tmp 4, .tmp 5]) rfl (fun _ _ h => h) Since.refl fun u H hH hle => ?_
      exact ⟨_, src_own rfl, rfl, rfl⟩
  rcases split_b s 58 with h58 | ⟨a, b, rfl, ha⟩
  · refine bad ?_ rfl rfl rfl rfl (.inl ?_)
    · unfold partsA; rw [cutA_no h58]; simp
    · rw [List.count_eq_zero_of_not_mem h58]; decide
  · have hcut : cutA (a ++ ⟨#[58]⟩ ++ b) 58 = (a, b, true) := cutA_mid ha
    have hls := mid_list a b 58
    have hsz := mid_size a b 58
    by_cases hb : noB b 58
    · have hf1 : fi 58 (a ++ ⟨#[58]⟩ ++ b).data.toList = a.size := by rw [hls, fi_app ha, len_toList]; simp [fi]
      have hc1 : (a ++ ⟨#[58]⟩ ++ b).data.toList.count 58 = 1 := by rw [hls, List.count_append, List.count_cons_self, List.count_eq_zero_of_not_mem ha, List.count_eq_zero_of_not_mem hb]
      by_cases ha3 : noB a 35
      · have hf2 : fi 35 (a ++ ⟨#[58]⟩ ++ b).data.toList = a.size + 1 + fi 35 b.data.toList := by rw [hls, fi_app ha3, len_toList, fi, if_neg (by decide)]; omega
        have hc2 : (a ++ ⟨#[58]⟩ ++ b).data.toList.count 35 = b.data.toList.count 35 := by rw [hls, List.count_append, List.count_eq_zero_of_not_mem ha3, List.count_cons_of_ne (by decide)]; omega
        have hn1 := hasA_no ha3
        have hn2 := hasA_no hb
        have za : a.size ≤ 1099511627776 := by omega
        have zb : b.size ≤ 1099511627776 := by omega
        have hadd1 : IntKind.i64.wrap ((a.size : Int) + 1) = ((a.size + 1 : Nat) : Int) := wrap_i64 (by omega) (by omega) |>.trans (by omega)
        have x1 : (a ++ ⟨#[58]⟩ ++ b).extract 0 a.size = a := by
          have := ext_mid ⟨#[]⟩ a (⟨#[58]⟩ ++ b) 0 a.size rfl (by show _ = 0 + _; omega)
          conv => rhs; rw [← this]
          congr 1; apply ba_ext'; simp [list_app]
        rcases split_b b 35 with hb3 | ⟨c, e, rfl, hc3⟩
        · have hp : partsA (a ++ ⟨#[58]⟩ ++ b) = some (a, b, sNil, false) := by
            unfold partsA; rw [hcut]
            simp only [hn1, hn2, cntA_no hb3, cutA_no hb3]
            simp
          have hr1 : rp1 (a ++ ⟨#[58]⟩ ++ b) = (a, b, sNil, false, allE [a, b]) := by unfold rp1; rw [hp]; rfl
          rw [hr1]
          have hf3 : fi 35 (a ++ ⟨#[58]⟩ ++ b).data.toList = a.size + 1 + b.size := by rw [hf2, fi_no hb3, len_toList]
          have hc3 : (a ++ ⟨#[58]⟩ ++ b).data.toList.count 35 = 0 := by rw [hc2, List.count_eq_zero_of_not_mem hb3]
          have x2 : (a ++ ⟨#[58]⟩ ++ b).extract (a.size + 1) (a.size + 1 + b.size) = b := by
            have := ext_mid (a ++ ⟨#[58]⟩) b ⟨#[]⟩ (a.size + 1) (a.size + 1 + b.size) (by rw [ByteArray.size_append]; rfl) (by rw [ByteArray.size_append]; rfl)
            conv => rhs; rw [← this]
            congr 1; apply ba_ext'; simp [list_app]
          generalize a ++ ⟨#[58]⟩ ++ b = s at *
          refine V_enter Try.func84 rfl Try.ntmps84 (Nat.le_of_ble_eq_true rfl) hB ?_
          refine V_seq ?_; refine V_region (id := 0) ?_; refine vo_step (ok_alloc L rfl rfl rfl rfl) rfl ?_; refine vo_step (ok_assign rfl rfl rfl) rfl ?_; refine vo_step (ok_assign rfl rfl rfl) rfl ?_; refine vo_step (ok_assign rfl rfl rfl) rfl ?_; refine vo_nil ?_; refine N_seq ?_; refine V_seq ?_; refine V_region (id := 1) ?_; refine vo_step (ok_move rfl rfl rfl) rfl ?_; refine vo_step (ok_callx L rfl rfl (blt_lt rfl) rfl rfl rfl (fun u H hH _ _ => place_ret (c := 58) hf1 hc1 hs hH)) rfl ?_; refine vo_step (ok_move rfl rfl rfl) rfl ?_; refine vo_step (ok_extract rfl rfl rfl rfl) rfl ?_; refine vo_step (ok_extract rfl rfl rfl rfl) rfl ?_; refine vo_step (ok_assign rfl rfl rfl) rfl ?_; refine vo_step (ok_assign rfl rfl rfl) rfl ?_; refine vo_nil ?_; refine N_seq ?_; refine V_seq ?_; refine V_region (id := 2) ?_; refine vo_step (ok_move rfl rfl rfl) rfl ?_; refine vo_step (ok_callx L rfl rfl (blt_lt rfl) rfl rfl rfl (fun u H hH _ _ => place_ret (c := 35) hf3 hc3 hs hH)) rfl ?_; refine vo_step (ok_move rfl rfl rfl) rfl ?_; refine vo_step (ok_extract rfl rfl rfl rfl) rfl ?_; refine vo_step (ok_extract rfl rfl rfl rfl) rfl ?_; refine vo_step (ok_assign rfl rfl rfl) rfl ?_; refine vo_step (ok_assign rfl rfl rfl) rfl ?_; refine vo_nil ?_; refine N_seq ?_; refine V_seq ?_; refine V_seq ?_; refine V_region (id := 3) ?_; refine vo_step (ok_move rfl rfl rfl) rfl ?_; refine vo_step (ok_neq rfl rfl rfl rfl (decide_eq_false (by omega))) rfl ?_; refine vo_step (ok_move rfl rfl rfl) rfl ?_; refine vo_step (ok_move rfl rfl rfl) rfl ?_; refine vo_step (ok_gtr rfl rfl rfl rfl (decide_eq_false (by omega))) rfl ?_; refine vo_step (ok_pick rfl rfl rfl rfl) rfl ?_; refine vo_step (ok_move rfl rfl rfl) rfl ?_; refine vo_step (ok_move rfl rfl rfl) rfl ?_; refine vo_step (ok_move rfl rfl rfl) rfl ?_; refine vo_step (ok_lss rfl rfl rfl rfl (decide_eq_false (by omega))) rfl ?_; refine vo_step (ok_pick rfl rfl rfl rfl) rfl ?_; refine vo_nil ?_; refine N_seq ?_; refine V_false rfl ?_; refine V_skip ?_; refine N_seq ?_; refine V_seq ?_; refine V_regionD (id := 5) [] mixed (by kernel_rfl) ?_; refine par_step (ok_move rfl rfl rfl) rfl ?_; refine par_step (ok_move rfl rfl rfl) rfl ?_; refine par_step (ok_sliceS L (kl := .i64) (pl := 0) 0 a.size rfl rfl rfl rfl rfl ⟨rfl, rfl⟩ (by omega) (by omega) x1) rfl ?_; refine par_step (ok_move rfl rfl rfl) rfl ?_; refine par_step (ok_move rfl rfl rfl) rfl ?_; refine par_step (ok_add rfl rfl rfl rfl (by assumption)) rfl ?_; refine par_step (ok_move rfl rfl rfl) rfl ?_; refine par_step (ok_sliceS L (a.size + 1) (a.size + 1 + b.size) rfl rfl rfl rfl ⟨rfl, rfl⟩ ⟨rfl, rfl⟩ (by omega) (by omega) x2) rfl ?_; refine par_step (ok_build (cs := [_, _]) rfl rfl pl47 rfl rfl) rfl ?_; refine par_step (ok_alloc L rfl rfl rfl rfl) rfl ?_; refine par_step (ok_store L rfl rfl rfl rfl rfl rfl rfl rfl) rfl ?_; refine par_nil ?_; refine N_seq ?_; refine V_seq ?_; refine V_seq ?_; refine V_region (id := 6) ?_; refine vo_step (ok_move rfl rfl rfl) rfl ?_; refine vo_step (ok_eql rfl rfl rfl rfl (decide_eq_true (by omega))) rfl ?_; refine vo_nil ?_; refine N_seq ?_; refine V_true rfl ?_; refine V_seq ?_; refine V_regionD (id := 7) [] mixed (by kernel_rfl) ?_; refine par_step (ok_loadA L (vs := [_, _]) (src_own rfl) rfl rfl rfl rfl ⟨_, rfl⟩) rfl ?_; refine par_step (ok_loadA L (vs := [_, _]) (src_own rfl) rfl rfl rfl rfl ⟨_, rfl⟩) rfl ?_; refine par_step (ok_callx L rfl rfl (blt_lt rfl) rfl rfl rfl (fun u H hH _ _ => robject_ret (by first | assumption | omega | decide) (by first | assumption | omega | decide) hH)) rfl ?_; refine par_step (ok_store L rfl rfl rfl rfl rfl rfl rfl rfl) rfl ?_; refine par_step (ok_assign rfl rfl rfl) rfl ?_; refine par_step (ok_assign rfl rfl rfl) rfl ?_; refine par_step (ok_assign rfl rfl rfl) rfl ?_; refine par_nil ?_; refine N_seq ?_
          refine V_ret L (rs := [.cell 2 47, .tmp 3, .tmp 4, .tmp 5]) rfl (fun _ _ h => h) Since.refl fun u H hH hle => ?_
          exact ⟨_, src_own rfl, rfl, rfl⟩
        · have hls2 := mid_list c e 35
          have hsz2 := mid_size c e 35
          by_cases he3 : noB e 35
          · have hcn : (c ++ ⟨#[35]⟩ ++ e).data.toList.count 35 = 1 := by rw [hls2, List.count_append, List.count_cons_self, List.count_eq_zero_of_not_mem hc3, List.count_eq_zero_of_not_mem he3]
            have hp : partsA (a ++ ⟨#[58]⟩ ++ (c ++ ⟨#[35]⟩ ++ e)) = some (a, c, e, true) := by
              unfold partsA; rw [hcut]
              have h4 : cntA (c ++ ⟨#[35]⟩ ++ e) 35 = 1 := hcn
              simp only [hn1, hn2, h4, cutA_mid hc3]
              simp
            have hr1 : rp1 (a ++ ⟨#[58]⟩ ++ (c ++ ⟨#[35]⟩ ++ e)) = (a, c, e, true, allE [a, c, e]) := by unfold rp1; rw [hp]; rfl
            rw [hr1]
            have hf3 : fi 35 (a ++ ⟨#[58]⟩ ++ (c ++ ⟨#[35]⟩ ++ e)).data.toList = a.size + 1 + c.size := by rw [hf2, hls2, fi_app hc3, len_toList]; simp [fi]
            have hc4 : (a ++ ⟨#[58]⟩ ++ (c ++ ⟨#[35]⟩ ++ e)).data.toList.count 35 = 1 := by rw [hc2, hcn]
            have x2 : (a ++ ⟨#[58]⟩ ++ (c ++ ⟨#[35]⟩ ++ e)).extract (a.size + 1) (a.size + 1 + c.size) = c := by
              have := ext_mid (a ++ ⟨#[58]⟩) c (⟨#[35]⟩ ++ e) (a.size + 1) (a.size + 1 + c.size) (by rw [ByteArray.size_append]; rfl) (by rw [ByteArray.size_append]; rfl)
              conv => rhs; rw [← this]
              congr 1; apply ba_ext'; simp [list_app]
            have x3 : (a ++ ⟨#[58]⟩ ++ (c ++ ⟨#[35]⟩ ++ e)).extract (a.size + 1 + c.size + 1) (a ++ ⟨#[58]⟩ ++ (c ++ ⟨#[35]⟩ ++ e)).size = e := by
              have := ext_mid (a ++ ⟨#[58]⟩ ++ c ++ ⟨#[35]⟩) e ⟨#[]⟩ (a.size + 1 + c.size + 1) (a ++ ⟨#[58]⟩ ++ (c ++ ⟨#[35]⟩ ++ e)).size (by simp only [ByteArray.size_append]; rfl) (by simp only [ByteArray.size_append]; rw [show (⟨#[58]⟩ : ByteArray).size = 1 from rfl, show (⟨#[35]⟩ : ByteArray).size = 1 from rfl]; omega)
              conv => rhs; rw [← this]
              congr 1; apply ba_ext'; simp [list_app]
            have hsz3 : (a ++ ⟨#[58]⟩ ++ (c ++ ⟨#[35]⟩ ++ e)).size = a.size + 1 + (c.size + 1 + e.size) := by rw [hsz, hsz2]
            have zc : c.size ≤ 1099511627776 := by omega
            have ze : e.size ≤ 1099511627776 := by omega
            have hadd2 : IntKind.i64.wrap (((a.size + 1 + c.size : Nat) : Int) + 1) = ((a.size + 1 + c.size + 1 : Nat) : Int) := wrap_i64 (by omega) (by omega) |>.trans (by omega)
            have hmx := max3 a c e
            generalize a ++ ⟨#[58]⟩ ++ (c ++ ⟨#[35]⟩ ++ e) = s at *
            refine V_enter Try.func84 rfl Try.ntmps84 (Nat.le_of_ble_eq_true rfl) hB ?_
            refine V_seq ?_; refine V_region (id := 0) ?_; refine vo_step (ok_alloc L rfl rfl rfl rfl) rfl ?_; refine vo_step (ok_assign rfl rfl rfl) rfl ?_; refine vo_step (ok_assign rfl rfl rfl) rfl ?_; refine vo_step (ok_assign rfl rfl rfl) rfl ?_; refine vo_nil ?_; refine N_seq ?_; refine V_seq ?_; refine V_region (id := 1) ?_; refine vo_step (ok_move rfl rfl rfl) rfl ?_; refine vo_step (ok_callx L rfl rfl (blt_lt rfl) rfl rfl rfl (fun u H hH _ _ => place_ret (c := 58) hf1 hc1 hs hH)) rfl ?_; refine vo_step (ok_move rfl rfl rfl) rfl ?_; refine vo_step (ok_extract rfl rfl rfl rfl) rfl ?_; refine vo_step (ok_extract rfl rfl rfl rfl) rfl ?_; refine vo_step (ok_assign rfl rfl rfl) rfl ?_; refine vo_step (ok_assign rfl rfl rfl) rfl ?_; refine vo_nil ?_; refine N_seq ?_; refine V_seq ?_; refine V_region (id := 2) ?_; refine vo_step (ok_move rfl rfl rfl) rfl ?_; refine vo_step (ok_callx L rfl rfl (blt_lt rfl) rfl rfl rfl (fun u H hH _ _ => place_ret (c := 35) hf3 hc4 hs hH)) rfl ?_; refine vo_step (ok_move rfl rfl rfl) rfl ?_; refine vo_step (ok_extract rfl rfl rfl rfl) rfl ?_; refine vo_step (ok_extract rfl rfl rfl rfl) rfl ?_; refine vo_step (ok_assign rfl rfl rfl) rfl ?_; refine vo_step (ok_assign rfl rfl rfl) rfl ?_; refine vo_nil ?_; refine N_seq ?_; refine V_seq ?_; refine V_seq ?_; refine V_region (id := 3) ?_; refine vo_step (ok_move rfl rfl rfl) rfl ?_; refine vo_step (ok_neq rfl rfl rfl rfl (decide_eq_false (by omega))) rfl ?_; refine vo_step (ok_move rfl rfl rfl) rfl ?_; refine vo_step (ok_move rfl rfl rfl) rfl ?_; refine vo_step (ok_gtr rfl rfl rfl rfl (decide_eq_false (by omega))) rfl ?_; refine vo_step (ok_pick rfl rfl rfl rfl) rfl ?_; refine vo_step (ok_move rfl rfl rfl) rfl ?_; refine vo_step (ok_move rfl rfl rfl) rfl ?_; refine vo_step (ok_move rfl rfl rfl) rfl ?_; refine vo_step (ok_lss rfl rfl rfl rfl (decide_eq_false (by omega))) rfl ?_; refine vo_step (ok_pick rfl rfl rfl rfl) rfl ?_; refine vo_nil ?_; refine N_seq ?_; refine V_false rfl ?_; refine V_skip ?_; refine N_seq ?_; refine V_seq ?_; refine V_regionD (id := 5) [] mixed (by kernel_rfl) ?_; refine par_step (ok_move rfl rfl rfl) rfl ?_; refine par_step (ok_move rfl rfl rfl) rfl ?_; refine par_step (ok_sliceS L (kl := .i64) (pl := 0) 0 a.size rfl rfl rfl rfl rfl ⟨rfl, rfl⟩ (by omega) (by omega) x1) rfl ?_; refine par_step (ok_move rfl rfl rfl) rfl ?_; refine par_step (ok_move rfl rfl rfl) rfl ?_; refine par_step (ok_add rfl rfl rfl rfl (by assumption)) rfl ?_; refine par_step (ok_move rfl rfl rfl) rfl ?_; refine par_step (ok_sliceS L (a.size + 1) (a.size + 1 + c.size) rfl rfl rfl rfl ⟨rfl, rfl⟩ ⟨rfl, rfl⟩ (by omega) (by omega) x2) rfl ?_; refine par_step (ok_build (cs := [_, _]) rfl rfl pl47 rfl rfl) rfl ?_; refine par_step (ok_alloc L rfl rfl rfl rfl) rfl ?_; refine par_step (ok_store L rfl rfl rfl rfl rfl rfl rfl rfl) rfl ?_; refine par_nil ?_; refine N_seq ?_; refine V_seq ?_; refine V_seq ?_; refine V_region (id := 6) ?_; refine vo_step (ok_move rfl rfl rfl) rfl ?_; refine vo_step (ok_eql rfl rfl rfl rfl (decide_eq_false (by omega))) rfl ?_; refine vo_nil ?_; refine N_seq ?_; refine V_false rfl ?_; refine V_skip ?_; refine N_seq ?_; refine V_seq ?_; refine V_regionD (id := 8) [] mixed (by kernel_rfl) ?_; refine par_step (ok_loadA L (vs := [_, _]) (src_own rfl) rfl rfl rfl rfl ⟨_, rfl⟩) rfl ?_; refine par_step (ok_move rfl rfl rfl) rfl ?_; refine par_step (ok_move rfl rfl rfl) rfl ?_; refine par_step (ok_add rfl rfl rfl rfl (by assumption)) rfl ?_; refine par_step (ok_sliceS L (kh := .i64) (ph := 0) (a.size + 1 + c.size + 1) _ rfl rfl rfl rfl ⟨rfl, rfl⟩ rfl (by omega) (by omega) x3) rfl ?_; refine par_step (ok_loadA L (vs := [_, _]) (src_own rfl) rfl rfl rfl rfl ⟨_, rfl⟩) rfl ?_; refine par_step (ok_callx L rfl rfl (blt_lt rfl) rfl rfl rfl (fun u H hH _ _ => robject_ret (by first | assumption | omega | decide) (by first | assumption | omega | decide) hH)) rfl ?_; refine par_step (ok_move rfl rfl rfl) rfl ?_; refine par_step (ok_move rfl rfl rfl) rfl ?_; refine par_step (ok_add rfl rfl rfl rfl (by assumption)) rfl ?_; refine par_step (ok_sliceS L (kh := .i64) (ph := 0) (a.size + 1 + c.size + 1) _ rfl rfl rfl rfl ⟨rfl, rfl⟩ rfl (by omega) (by omega) x3) rfl ?_; refine par_step (ok_callx L rfl rfl (blt_lt rfl) rfl rfl rfl (fun u H hH _ _ => rcheck_ret (by first | omega | decide) hH)) rfl ?_; refine par_step (ok_max rfl rfl rfl rfl (by assumption)) rfl ?_; refine par_step (ok_store L rfl rfl rfl rfl rfl rfl rfl rfl) rfl ?_; refine par_step (ok_assign rfl rfl rfl) rfl ?_; refine par_step (ok_assign rfl rfl rfl) rfl ?_; refine par_step (ok_assign rfl rfl rfl) rfl ?_; refine par_nil ?_; refine N_seq ?_
            refine V_ret L (rs := [.cell 2 47, .tmp 3, .tmp 4, .tmp 5]) rfl (fun _ _ h => h) Since.refl fun u H hH hle => ?_
            exact ⟨_, src_own rfl, rfl, rfl⟩
          · have hcn : 1 < (c ++ ⟨#[35]⟩ ++ e).data.toList.count 35 := by have := count_pos he3; rw [hls2, List.count_append, List.count_cons_self]; omega
            refine bad ?_ rfl rfl rfl rfl (.inr (.inl (by rw [hc2]; exact hcn)))
            unfold partsA; rw [hcut]
            have h4 : ¬ cntA (c ++ ⟨#[35]⟩ ++ e) 35 ≤ 1 := by unfold cntA Lib.countByte; omega
            simp only [h4, and_false, if_false]
      · refine bad ?_ rfl rfl rfl rfl (.inr (.inr ?_))
        · unfold partsA; rw [hcut]
          simp only [hasA_yes ha3]
          simp
        · rw [hf1, hls, ← len_toList]
          exact fi_lt (Classical.not_not.1 ha3)
    · refine bad ?_ rfl rfl rfl rfl (.inl ?_)
      · unfold partsA; rw [hcut]
        simp only [hasA_yes hb]
        simp
      · have := count_pos hb
        rw [hls, List.count_append, List.count_cons_self]; omega
theorem rparse1_ret' {s x y z : ByteArray} {d : Bool} {e : Int} (hr : rp1 s = (x, y, z, d, e)) (hs : s.size ≤ 1000000) {w : World} {B : Heap} (hB : B.Le (hp w)) :
    Ret Try.prog 84 [.string s] w B (fun v _ => v = .tuple #[.agg #[.string x, .string y], .string z, .bool d, .int .i64 e]) := rparse1_ret hr hs hB
end Go.V
/- The walks of the definition of tuples (chapter 2): texts are read. -/
namespace Go.V.L2
open Go.Proofs Go.RowKit Go.V
theorem pg_rp (a : ByteArray) : pgA a = if (rp1 a).2.2.2.1 = false then (sNil, sNil, sNil, 5) else if (rp1 a).2.2.2.2 = 0 then ((rp1 a).1, (rp1 a).2.1, (rp1 a).2.2.1, 0) else (sNil, sNil, sNil, (rp1 a).2.2.2.2) := by
  unfold pgA rp1
  rcases partsA a with _ | ⟨x, y, z, d⟩
  · rfl
  · cases d
    · rfl
    · simp only [if_true]
theorem ps_rp (a : ByteArray) : psA a = if (rp1 a).2.2.2.2 = 0 then ((rp1 a).1, (rp1 a).2.1, (rp1 a).2.2.1, 0) else (sNil, sNil, sNil, (rp1 a).2.2.2.2) := by
  unfold psA rp1
  rcases partsA a with _ | ⟨x, y, z, d⟩
  · rfl
  · dsimp only
    cases d
    · simp
    · simp only [if_true, allE]
      rcases chk_cases x with h1 | h1 <;> rcases chk_cases y with h2 | h2 <;> rcases chk_cases z with h3 | h3 <;> simp [h1, h2, h3]
theorem at_of {l a b : List UInt8} {c : UInt8} {k : Nat} (e : l = a ++ c :: b) (ha : c ∉ a) (hb : c ∉ b) (hk : l[k]? = some c) : k = a.length := by
  subst e
  rcases Nat.lt_trichotomy k a.length with h | h | h
  · rw [List.getElem?_append_left h] at hk
    exact absurd (List.mem_of_getElem? hk) ha
  · exact h
  · rw [List.getElem?_append_right (by omega), show k - a.length = (k - a.length - 1) + 1 by omega, List.getElem?_cons_succ] at hk
    exact absurd (List.mem_of_getElem? hk) hb
attribute [local irreducible] V N X VO Par StepOK Has Ret RetL Src
set_option maxHeartbeats 4000000 in
theorem rtparse_ret {s : ByteArray} {r : U × Int} (hr : ptA s = r) (hs : s.size ≤ 1000000) {w : World} {B : Heap} (hB : B.Le (hp w)) :
    Ret Try.prog 62 [.string s] w B (fun v _ => v = .tuple #[uv r.1, .int .i64 r.2]) := by
  subst hr
  have hlen := len_toList s
  refine V_enter Try.func62 rfl Try.ntmps62 (Nat.le_of_ble_eq_true rfl) hB ?_
  refine V_seq ?_; refine V_region (id := 0) ?_; refine vo_step (ok_alloc L rfl rfl rfl rfl) rfl ?_; refine vo_step (ok_assign rfl rfl rfl) rfl ?_; refine vo_nil ?_; refine N_seq ?_; refine V_seq ?_; refine V_region (id := 1) ?_; refine vo_step (ok_assign rfl rfl rfl) rfl ?_; refine vo_step (ok_assign rfl rfl rfl) rfl ?_; refine vo_nil ?_; refine N_seq ?_; refine V_seq ?_; refine V_seq ?_; refine V_region (id := 2) ?_; refine vo_step (ok_assign rfl rfl rfl) rfl ?_; refine vo_nil ?_; refine N_seq ?_; refine V_block ?_
  refine V_loop (fun x : Nat × Nat × Nat => [(0, .is (.string s)), (2, .own (Cell [.string ⟨#[]⟩, .string ⟨#[]⟩, .string ⟨#[]⟩, .string ⟨#[]⟩, .string ⟨#[]⟩, .string ⟨#[]⟩] tyU)), (4, .is (.int .i64 x.2.1)), (5, .is (.int .i64 x.2.2)), (6, .is (.int .i64 x.1))])
    (fun x => x.1 ≤ s.size ∧ x.2.2 = (s.data.toList.take x.1).count 64 ∧ x.2.2 ≤ x.1 ∧ (x.2.2 = 1 → x.2.1 < s.size ∧ s.data.toList[x.2.1]? = some 64)) (fun x => s.size - x.1) (0, 0, 0)
    ⟨Nat.zero_le _, by simp, Nat.le_refl _, fun h => by cases h⟩ ⟨rfl, rfl, rfl, rfl, rfl, trivial⟩ ?_
  rintro ⟨i, k, n⟩ ⟨hi, hn, hni, hk⟩
  dsimp only at hi hn hni hk ⊢
  by_cases hlt : i < s.size
  · obtain ⟨x, hc⟩ := getElem?_lt hlt
    have hd : s.data.toList[i]? = some x := by
      have : s.data[i]? = some x := hc
      simpa using this
    have htk : s.data.toList.take (i + 1) = s.data.toList.take i ++ [x] := by rw [List.take_add_one, hd]; rfl
    by_cases hx : x = 64
    · subst hx
      refine V_seq ?_; refine V_seq ?_; refine V_region (id := 3) ?_; refine vo_step (ok_move rfl rfl rfl) rfl ?_; refine vo_step (ok_move rfl rfl rfl) rfl ?_; refine vo_step (ok_lenS L rfl rfl rfl rfl) rfl ?_; refine vo_step (ok_lss rfl rfl rfl rfl (decide_eq_true (by omega))) rfl ?_; refine vo_nil ?_; refine N_seq ?_; refine V_true rfl ?_; refine V_skip ?_; refine N_seq ?_; refine V_seq ?_; refine V_block ?_; refine V_seq ?_; refine V_region (id := 5) ?_; refine vo_step (ok_move rfl rfl rfl) rfl ?_; refine vo_step (ok_move rfl rfl rfl) rfl ?_; refine vo_step (ok_indexS L rfl rfl rfl rfl rfl (by assumption)) rfl ?_; refine vo_step (ok_eql rfl rfl rfl rfl rfl) rfl ?_; refine vo_nil ?_; refine N_seq ?_; refine V_true rfl ?_; refine V_seq ?_; refine V_region (id := 6) ?_; refine vo_step (ok_move rfl rfl rfl) rfl ?_; refine vo_step (ok_assign rfl rfl rfl) rfl ?_; refine vo_nil ?_; refine N_seq ?_; refine V_region (id := 7) ?_; refine vo_step (ok_move rfl rfl rfl) rfl ?_; refine vo_step (ok_add rfl rfl rfl rfl (wrap_i64 (by omega) (by omega))) rfl ?_; refine vo_step (ok_assign rfl rfl rfl) rfl ?_; refine vo_nil ?_; refine N_block ?_; refine N_seq ?_; refine V_region (id := 4) ?_; refine vo_step (ok_move rfl rfl rfl) rfl ?_; refine vo_step (ok_add rfl rfl rfl rfl (wrap_i64 (by omega) (by omega))) rfl ?_; refine vo_step (ok_assign rfl rfl rfl) rfl ?_; refine vo_nil ?_
      exact N_round (x := (i, k, n)) (i + 1, i, n + 1) ⟨hlt, by dsimp only; rw [htk, List.count_append, ← hn]; rfl, by dsimp only; omega, fun _ => ⟨hlt, hd⟩⟩ (by dsimp only; omega) ⟨rfl, rfl, rfl, rfl, rfl, trivial⟩
    · have hxc : (x.toNat : Int) ≠ 64 := fun e => hx (UInt8.toNat_inj.1 (by show x.toNat = 64; omega))
      refine V_seq ?_; refine V_seq ?_; refine V_region (id := 3) ?_; refine vo_step (ok_move rfl rfl rfl) rfl ?_; refine vo_step (ok_move rfl rfl rfl) rfl ?_; refine vo_step (ok_lenS L rfl rfl rfl rfl) rfl ?_; refine vo_step (ok_lss rfl rfl rfl rfl (decide_eq_true (by omega))) rfl ?_; refine vo_nil ?_; refine N_seq ?_; refine V_true rfl ?_; refine V_skip ?_; refine N_seq ?_; refine V_seq ?_; refine V_block ?_; refine V_seq ?_; refine V_region (id := 5) ?_; refine vo_step (ok_move rfl rfl rfl) rfl ?_; refine vo_step (ok_move rfl rfl rfl) rfl ?_; refine vo_step (ok_indexS L rfl rfl rfl rfl rfl (by assumption)) rfl ?_; refine vo_step (ok_eql rfl rfl rfl rfl (decide_eq_false (by omega))) rfl ?_; refine vo_nil ?_; refine N_seq ?_; refine V_false rfl ?_; refine V_skip ?_; refine N_block ?_; refine N_seq ?_; refine V_region (id := 4) ?_; refine vo_step (ok_move rfl rfl rfl) rfl ?_; refine vo_step (ok_add rfl rfl rfl rfl (wrap_i64 (by omega) (by omega))) rfl ?_; refine vo_step (ok_assign rfl rfl rfl) rfl ?_; refine vo_nil ?_
      exact N_round (x := (i, k, n)) (i + 1, k, n) ⟨hlt, by dsimp only; rw [htk, List.count_append, ← hn, List.count_cons_of_ne hx]; rfl, by dsimp only; omega, hk⟩ (by dsimp only; omega) ⟨rfl, rfl, rfl, rfl, rfl, trivial⟩
  · obtain rfl : i = s.size := by omega
    rw [List.take_of_length_le (by omega)] at hn
    by_cases h1 : n = 1
    · obtain ⟨hk1, hk2⟩ := hk h1
      rcases split_b s 64 with h64 | ⟨a, b, rfl, ha⟩
      · rw [List.count_eq_zero_of_not_mem h64] at hn; omega
      · have hls := mid_list a b 64
        have hsz := mid_size a b 64
        have hb : noB b 64 := fun hm => by
          have := List.count_pos_iff.2 hm
          rw [hls, List.count_append, List.count_cons_self] at hn
          omega
        obtain rfl : k = a.size := (at_of hls ha hb hk2).trans (len_toList a)
        have hcut : cutA (a ++ ⟨#[64]⟩ ++ b) 64 = (a, b, true) := cutA_mid ha
        have x1 : (a ++ ⟨#[64]⟩ ++ b).extract 0 a.size = a := by
          have := ext_mid ⟨#[]⟩ a (⟨#[64]⟩ ++ b) 0 a.size rfl (by show _ = 0 + _; omega)
          conv => rhs; rw [← this]
          congr 1; apply ba_ext'; simp [list_app]
        have x2 : (a ++ ⟨#[64]⟩ ++ b).extract (a.size + 1) (a ++ ⟨#[64]⟩ ++ b).size = b := by
          have := ext_mid (a ++ ⟨#[64]⟩) b ⟨#[]⟩ (a.size + 1) (a ++ ⟨#[64]⟩ ++ b).size (by rw [ByteArray.size_append]; rfl) (by rw [ByteArray.size_append])
          conv => rhs; rw [← this]
          congr 1; apply ba_ext'; simp [list_app]
        have za : a.size ≤ 1000000 := by omega
        have zb : b.size ≤ 1000000 := by omega
        have hadd : IntKind.i64.wrap ((a.size : Int) + 1) = ((a.size + 1 : Nat) : Int) := wrap_i64 (by omega) (by omega) |>.trans (by omega)
        have hpt : ptA (a ++ ⟨#[64]⟩ ++ b) = if (pgA a).2.2.2 = 0 then (if (psA b).2.2.2 = 0 then (((((pgA a).1, (pgA a).2.1), (pgA a).2.2.1), (((psA b).1, (psA b).2.1), (psA b).2.2.1)), 0) else ((((⟨#[]⟩, ⟨#[]⟩), ⟨#[]⟩), ((⟨#[]⟩, ⟨#[]⟩), ⟨#[]⟩)), (psA b).2.2.2)) else ((((⟨#[]⟩, ⟨#[]⟩), ⟨#[]⟩), ((⟨#[]⟩, ⟨#[]⟩), ⟨#[]⟩)), (pgA a).2.2.2) := by
          unfold ptA
          rw [hcut]
          dsimp only
          rw [if_pos ⟨rfl, hasA_no hb⟩]
        clear hk hk2 hn hcut
        generalize a ++ ⟨#[64]⟩ ++ b = s at *
        rcases hra : rp1 a with ⟨o1, o2, rel, has, e⟩
        rcases hrb : rp1 b with ⟨p1, p2, rel2, has2, e2⟩
        cases has
        · have g1 : pgA a = (sNil, sNil, sNil, 5) := by rw [pg_rp, hra]; rfl
          rw [hpt, g1, if_neg (by decide)]
          by_cases h5 : e = 5
          · skip
            refine V_seq ?_; refine V_seq ?_; refine V_region (id := 3) ?_; refine vo_step (ok_move rfl rfl rfl) rfl ?_; refine vo_step (ok_move rfl rfl rfl) rfl ?_; refine vo_step (ok_lenS L rfl rfl rfl rfl) rfl ?_; refine vo_step (ok_lss rfl rfl rfl rfl (decide_eq_false (by omega))) rfl ?_; refine vo_nil ?_; refine N_seq ?_; refine V_false rfl ?_; refine V_exit ?_; refine X_then ?_; refine X_then ?_; refine X_here ?_; refine N_seq ?_; refine V_seq ?_; refine V_seq ?_; refine V_region (id := 8) ?_; refine vo_step (ok_move rfl rfl rfl) rfl ?_; refine vo_step (ok_neq rfl rfl rfl rfl (decide_eq_false (by omega))) rfl ?_; refine vo_nil ?_; refine N_seq ?_; refine V_false rfl ?_; refine V_skip ?_; refine N_seq ?_; refine V_seq ?_; refine V_region (id := 10) ?_; refine vo_step (ok_move rfl rfl rfl) rfl ?_; refine vo_step (ok_move rfl rfl rfl) rfl ?_; refine vo_step (ok_sliceS L (kl := .i64) (pl := 0) 0 a.size rfl rfl rfl rfl rfl ⟨rfl, rfl⟩ (by omega) (by omega) x1) rfl ?_; refine vo_step (ok_callx L rfl rfl (blt_lt rfl) rfl rfl rfl (fun u H hH _ _ => rparse1_ret' hra za hH)) rfl ?_; refine vo_step (ok_move rfl rfl rfl) rfl ?_; refine vo_step (ok_extract rfl rfl rfl rfl) rfl ?_; refine vo_step (ok_extract rfl rfl rfl rfl) rfl ?_; refine vo_step (ok_extract rfl rfl rfl rfl) rfl ?_; refine vo_step (ok_extract rfl rfl rfl rfl) rfl ?_; refine vo_step (ok_alloc L rfl rfl rfl rfl) rfl ?_; refine vo_step (ok_store L rfl rfl rfl rfl rfl rfl rfl rfl) rfl ?_; refine vo_step (ok_assign rfl rfl rfl) rfl ?_; refine vo_step (ok_assign rfl rfl rfl) rfl ?_; refine vo_step (ok_assign rfl rfl rfl) rfl ?_; refine vo_nil ?_; refine N_seq ?_; refine V_seq ?_; refine V_seq ?_; refine V_region (id := 11) ?_; refine vo_step (ok_move rfl rfl rfl) rfl ?_; refine vo_step (ok_neq rfl rfl rfl rfl (decide_eq_false (by omega))) rfl ?_; refine vo_step (ok_move rfl rfl rfl) rfl ?_; refine vo_step (ok_skip rfl (blt_lt rfl) rfl) rfl ?_; refine vo_step (ok_skip rfl (blt_lt rfl) rfl) rfl ?_; refine vo_step (ok_pick rfl rfl rfl rfl) rfl ?_; refine vo_nil ?_; refine N_seq ?_; refine V_false rfl ?_; refine V_skip ?_; refine N_seq ?_; refine V_seq ?_; refine V_seq ?_; refine V_region (id := 13) ?_; refine vo_step (ok_move rfl rfl rfl) rfl ?_; refine vo_step (ok_neq rfl rfl rfl rfl (decide_eq_true (by omega))) rfl ?_; refine vo_nil ?_; refine N_seq ?_; refine V_true rfl ?_; refine V_seq ?_; refine V_region (id := 14) ?_; refine vo_step (ok_build (cs := [_, _, _, _, _, _]) rfl rfl pl52 rfl rfl) rfl ?_; refine vo_step (ok_move rfl rfl rfl) rfl ?_; refine vo_step (ok_store L rfl rfl rfl rfl rfl rfl rfl rfl) rfl ?_; refine vo_step (ok_assign rfl rfl rfl) rfl ?_; refine vo_nil ?_; refine N_seq ?_
            refine V_ret L (rs := [.cell 2 52, .tmp 3]) rfl (fun _ _ h => h) Since.refl fun u H hH hle => ?_
            refine ⟨_, src_own rfl, rfl, ?_⟩
            rw [h5]; rfl
          · refine V_seq ?_; refine V_seq ?_; refine V_region (id := 3) ?_; refine vo_step (ok_move rfl rfl rfl) rfl ?_; refine vo_step (ok_move rfl rfl rfl) rfl ?_; refine vo_step (ok_lenS L rfl rfl rfl rfl) rfl ?_; refine vo_step (ok_lss rfl rfl rfl rfl (decide_eq_false (by omega))) rfl ?_; refine vo_nil ?_; refine N_seq ?_; refine V_false rfl ?_; refine V_exit ?_; refine X_then ?_; refine X_then ?_; refine X_here ?_; refine N_seq ?_; refine V_seq ?_; refine V_seq ?_; refine V_region (id := 8) ?_; refine vo_step (ok_move rfl rfl rfl) rfl ?_; refine vo_step (ok_neq rfl rfl rfl rfl (decide_eq_false (by omega))) rfl ?_; refine vo_nil ?_; refine N_seq ?_; refine V_false rfl ?_; refine V_skip ?_; refine N_seq ?_; refine V_seq ?_; refine V_region (id := 10) ?_; refine vo_step (ok_move rfl rfl rfl) rfl ?_; refine vo_step (ok_move rfl rfl rfl) rfl ?_; refine vo_step (ok_sliceS L (kl := .i64) (pl := 0) 0 a.size rfl rfl rfl rfl rfl ⟨rfl, rfl⟩ (by omega) (by omega) x1) rfl ?_; refine vo_step (ok_callx L rfl rfl (blt_lt rfl) rfl rfl rfl (fun u H hH _ _ => rparse1_ret' hra za hH)) rfl ?_; refine vo_step (ok_move rfl rfl rfl) rfl ?_; refine vo_step (ok_extract rfl rfl rfl rfl) rfl ?_; refine vo_step (ok_extract rfl rfl rfl rfl) rfl ?_; refine vo_step (ok_extract rfl rfl rfl rfl) rfl ?_; refine vo_step (ok_extract rfl rfl rfl rfl) rfl ?_; refine vo_step (ok_alloc L rfl rfl rfl rfl) rfl ?_; refine vo_step (ok_store L rfl rfl rfl rfl rfl rfl rfl rfl) rfl ?_; refine vo_step (ok_assign rfl rfl rfl) rfl ?_; refine vo_step (ok_assign rfl rfl rfl) rfl ?_; refine vo_step (ok_assign rfl rfl rfl) rfl ?_; refine vo_nil ?_; refine N_seq ?_; refine V_seq ?_; refine V_seq ?_; refine V_region (id := 11) ?_; refine vo_step (ok_move rfl rfl rfl) rfl ?_; refine vo_step (ok_neq rfl rfl rfl rfl (decide_eq_true (by omega))) rfl ?_; refine vo_step (ok_move rfl rfl rfl) rfl ?_; refine vo_step (ok_move rfl rfl rfl) rfl ?_; refine vo_step (ok_not rfl rfl rfl rfl) rfl ?_; refine vo_step (ok_pick rfl rfl rfl rfl) rfl ?_; refine vo_nil ?_; refine N_seq ?_; refine V_true rfl ?_; refine V_region (id := 12) ?_; refine vo_step (ok_assign rfl rfl rfl) rfl ?_; refine vo_nil ?_; refine N_seq ?_; refine V_seq ?_; refine V_seq ?_; refine V_region (id := 13) ?_; refine vo_step (ok_move rfl rfl rfl) rfl ?_; refine vo_step (ok_neq rfl rfl rfl rfl (decide_eq_true (by omega))) rfl ?_; refine vo_nil ?_; refine N_seq ?_; refine V_true rfl ?_; refine V_seq ?_; refine V_region (id := 14) ?_; refine vo_step (ok_build (cs := [_, _, _, _, _, _]) rfl rfl pl52 rfl rfl) rfl ?_; refine vo_step (ok_move rfl rfl rfl) rfl ?_; refine vo_step (ok_store L rfl rfl rfl rfl rfl rfl rfl rfl) rfl ?_; refine vo_step (ok_assign rfl rfl rfl) rfl ?_; refine vo_nil ?_; refine N_seq ?_
            refine V_ret L (rs := [.cell 2 52, .tmp 3]) rfl (fun _ _ h => h) Since.refl fun u H hH hle => ?_
            exact ⟨_, src_own rfl, rfl, rfl⟩
        · by_cases h0 : e = 0
          · have g1 : pgA a = (o1, o2, rel, 0) := by rw [pg_rp, hra]; dsimp only; rw [if_neg (by decide), if_pos h0]
            by_cases h02 : e2 = 0
            · have g2 : psA b = (p1, p2, rel2, 0) := by rw [ps_rp, hrb]; dsimp only; rw [if_pos h02]
              rw [hpt, g1, g2, if_pos rfl, if_pos rfl]
              refine V_seq ?_; refine V_seq ?_; refine V_region (id := 3) ?_; refine vo_step (ok_move rfl rfl rfl) rfl ?_; refine vo_step (ok_move rfl rfl rfl) rfl ?_; refine vo_step (ok_lenS L rfl rfl rfl rfl) rfl ?_; refine vo_step (ok_lss rfl rfl rfl rfl (decide_eq_false (by omega))) rfl ?_; refine vo_nil ?_; refine N_seq ?_; refine V_false rfl ?_; refine V_exit ?_; refine X_then ?_; refine X_then ?_; refine X_here ?_; refine N_seq ?_; refine V_seq ?_; refine V_seq ?_; refine V_region (id := 8) ?_; refine vo_step (ok_move rfl rfl rfl) rfl ?_; refine vo_step (ok_neq rfl rfl rfl rfl (decide_eq_false (by omega))) rfl ?_; refine vo_nil ?_; refine N_seq ?_; refine V_false rfl ?_; refine V_skip ?_; refine N_seq ?_; refine V_seq ?_; refine V_region (id := 10) ?_; refine vo_step (ok_move rfl rfl rfl) rfl ?_; refine vo_step (ok_move rfl rfl rfl) rfl ?_; refine vo_step (ok_sliceS L (kl := .i64) (pl := 0) 0 a.size rfl rfl rfl rfl rfl ⟨rfl, rfl⟩ (by omega) (by omega) x1) rfl ?_; refine vo_step (ok_callx L rfl rfl (blt_lt rfl) rfl rfl rfl (fun u H hH _ _ => rparse1_ret' hra za hH)) rfl ?_; refine vo_step (ok_move rfl rfl rfl) rfl ?_; refine vo_step (ok_extract rfl rfl rfl rfl) rfl ?_; refine vo_step (ok_extract rfl rfl rfl rfl) rfl ?_; refine vo_step (ok_extract rfl rfl rfl rfl) rfl ?_; refine vo_step (ok_extract rfl rfl rfl rfl) rfl ?_; refine vo_step (ok_alloc L rfl rfl rfl rfl) rfl ?_; refine vo_step (ok_store L rfl rfl rfl rfl rfl rfl rfl rfl) rfl ?_; refine vo_step (ok_assign rfl rfl rfl) rfl ?_; refine vo_step (ok_assign rfl rfl rfl) rfl ?_; refine vo_step (ok_assign rfl rfl rfl) rfl ?_; refine vo_nil ?_; refine N_seq ?_; refine V_seq ?_; refine V_seq ?_; refine V_region (id := 11) ?_; refine vo_step (ok_move rfl rfl rfl) rfl ?_; refine vo_step (ok_neq rfl rfl rfl rfl (decide_eq_true (by omega))) rfl ?_; refine vo_step (ok_move rfl rfl rfl) rfl ?_; refine vo_step (ok_move rfl rfl rfl) rfl ?_; refine vo_step (ok_not rfl rfl rfl rfl) rfl ?_; refine vo_step (ok_pick rfl rfl rfl rfl) rfl ?_; refine vo_nil ?_; refine N_seq ?_; refine V_false rfl ?_; refine V_skip ?_; refine N_seq ?_; refine V_seq ?_; refine V_seq ?_; refine V_region (id := 13) ?_; refine vo_step (ok_move rfl rfl rfl) rfl ?_; refine vo_step (ok_neq rfl rfl rfl rfl (decide_eq_false (by omega))) rfl ?_; refine vo_nil ?_; refine N_seq ?_; refine V_false rfl ?_; refine V_skip ?_; refine N_seq ?_; refine V_seq ?_; refine V_region (id := 15) ?_; refine vo_step (ok_move rfl rfl rfl) rfl ?_; refine vo_step (ok_move rfl rfl rfl) rfl ?_; refine vo_step (ok_add rfl rfl rfl rfl (by assumption)) rfl ?_; refine vo_step (ok_sliceS L (kh := .i64) (ph := 0) (a.size + 1) _ rfl rfl rfl rfl ⟨rfl, rfl⟩ rfl (by omega) (by omega) x2) rfl ?_; refine vo_step (ok_callx L rfl rfl (blt_lt rfl) rfl rfl rfl (fun u H hH _ _ => rparse1_ret' hrb zb hH)) rfl ?_; refine vo_step (ok_move rfl rfl rfl) rfl ?_; refine vo_step (ok_extract rfl rfl rfl rfl) rfl ?_; refine vo_step (ok_extract rfl rfl rfl rfl) rfl ?_; refine vo_step (ok_extract rfl rfl rfl rfl) rfl ?_; refine vo_step (ok_extract rfl rfl rfl rfl) rfl ?_; refine vo_step (ok_alloc L rfl rfl rfl rfl) rfl ?_; refine vo_step (ok_store L rfl rfl rfl rfl rfl rfl rfl rfl) rfl ?_; refine vo_step (ok_assign rfl rfl rfl) rfl ?_; refine vo_step (ok_assign rfl rfl rfl) rfl ?_; refine vo_step (ok_assign rfl rfl rfl) rfl ?_; refine vo_nil ?_; refine N_seq ?_; refine V_seq ?_; refine V_seq ?_; refine V_region (id := 16) ?_; refine vo_step (ok_move rfl rfl rfl) rfl ?_; refine vo_step (ok_neq rfl rfl rfl rfl (decide_eq_false (by omega))) rfl ?_; refine vo_nil ?_; refine N_seq ?_; refine V_false rfl ?_; refine V_skip ?_; refine N_seq ?_; refine V_seq ?_; refine V_region (id := 18) ?_; refine vo_step (ok_loadA L (vs := [_, _]) (src_own rfl) rfl rfl rfl rfl ⟨_, rfl⟩) rfl ?_; refine vo_step (ok_move rfl rfl rfl) rfl ?_; refine vo_step (ok_build (cs := [_, _, _]) rfl rfl pl49 rfl rfl) rfl ?_; refine vo_step (ok_loadA L (vs := [_, _]) (src_own rfl) rfl rfl rfl rfl ⟨_, rfl⟩) rfl ?_; refine vo_step (ok_move rfl rfl rfl) rfl ?_; refine vo_step (ok_build (cs := [_, _, _]) rfl rfl pl50 rfl rfl) rfl ?_; refine vo_step (ok_build (cs := [_, _, _, _, _, _]) rfl rfl pl52 rfl rfl) rfl ?_; refine vo_step (ok_store L rfl rfl rfl rfl rfl rfl rfl rfl) rfl ?_; refine vo_step (ok_assign rfl rfl rfl) rfl ?_; refine vo_nil ?_; refine N_seq ?_
              refine V_ret L (rs := [.cell 2 52, .tmp 3]) rfl (fun _ _ h => h) Since.refl fun u H hH hle => ?_
              exact ⟨_, src_own rfl, rfl, rfl⟩
            · have g2 : psA b = (sNil, sNil, sNil, e2) := by rw [ps_rp, hrb]; dsimp only; rw [if_neg h02]
              rw [hpt, g1, g2, if_pos rfl, if_neg h02]
              refine V_seq ?_; refine V_seq ?_; refine V_region (id := 3) ?_; refine vo_step (ok_move rfl rfl rfl) rfl ?_; refine vo_step (ok_move rfl rfl rfl) rfl ?_; refine vo_step (ok_lenS L rfl rfl rfl rfl) rfl ?_; refine vo_step (ok_lss rfl rfl rfl rfl (decide_eq_false (by omega))) rfl ?_; refine vo_nil ?_; refine N_seq ?_; refine V_false rfl ?_; refine V_exit ?_; refine X_then ?_; refine X_then ?_; refine X_here ?_; refine N_seq ?_; refine V_seq ?_; refine V_seq ?_; refine V_region (id := 8) ?_; refine vo_step (ok_move rfl rfl rfl) rfl ?_; refine vo_step (ok_neq rfl rfl rfl rfl (decide_eq_false (by omega))) rfl ?_; refine vo_nil ?_; refine N_seq ?_; refine V_false rfl ?_; refine V_skip ?_; refine N_seq ?_; refine V_seq ?_; refine V_region (id := 10) ?_; refine vo_step (ok_move rfl rfl rfl) rfl ?_; refine vo_step (ok_move rfl rfl rfl) rfl ?_; refine vo_step (ok_sliceS L (kl := .i64) (pl := 0) 0 a.size rfl rfl rfl rfl rfl ⟨rfl, rfl⟩ (by omega) (by omega) x1) rfl ?_; refine vo_step (ok_callx L rfl rfl (blt_lt rfl) rfl rfl rfl (fun u H hH _ _ => rparse1_ret' hra za hH)) rfl ?_; refine vo_step (ok_move rfl rfl rfl) rfl ?_; refine vo_step (ok_extract rfl rfl rfl rfl) rfl ?_; refine vo_step (ok_extract rfl rfl rfl rfl) rfl ?_; refine vo_step (ok_extract rfl rfl rfl rfl) rfl ?_; refine vo_step (ok_extract rfl rfl rfl rfl) rfl ?_; refine vo_step (ok_alloc L rfl rfl rfl rfl) rfl ?_; refine vo_step (ok_store L rfl rfl rfl rfl rfl rfl rfl rfl) rfl ?_; refine vo_step (ok_assign rfl rfl rfl) rfl ?_; refine vo_step (ok_assign rfl rfl rfl) rfl ?_; refine vo_step (ok_assign rfl rfl rfl) rfl ?_; refine vo_nil ?_; refine N_seq ?_; refine V_seq ?_; refine V_seq ?_; refine V_region (id := 11) ?_; refine vo_step (ok_move rfl rfl rfl) rfl ?_; refine vo_step (ok_neq rfl rfl rfl rfl (decide_eq_true (by omega))) rfl ?_; refine vo_step (ok_move rfl rfl rfl) rfl ?_; refine vo_step (ok_move rfl rfl rfl) rfl ?_; refine vo_step (ok_not rfl rfl rfl rfl) rfl ?_; refine vo_step (ok_pick rfl rfl rfl rfl) rfl ?_; refine vo_nil ?_; refine N_seq ?_; refine V_false rfl ?_; refine V_skip ?_; refine N_seq ?_; refine V_seq ?_; refine V_seq ?_; refine V_region (id := 13) ?_; refine vo_step (ok_move rfl rfl rfl) rfl ?_; refine vo_step (ok_neq rfl rfl rfl rfl (decide_eq_false (by omega))) rfl ?_; refine vo_nil ?_; refine N_seq ?_; refine V_false rfl ?_; refine V_skip ?_; refine N_seq ?_; refine V_seq ?_; refine V_region (id := 15) ?_; refine vo_step (ok_move rfl rfl rfl) rfl ?_; refine vo_step (ok_move rfl rfl rfl) rfl ?_; refine vo_step (ok_add rfl rfl rfl rfl (by assumption)) rfl ?_; refine vo_step (ok_sliceS L (kh := .i64) (ph := 0) (a.size + 1) _ rfl rfl rfl rfl ⟨rfl, rfl⟩ rfl (by omega) (by omega) x2) rfl ?_; refine vo_step (ok_callx L rfl rfl (blt_lt rfl) rfl rfl rfl (fun u H hH _ _ => rparse1_ret' hrb zb hH)) rfl ?_; refine vo_step (ok_move rfl rfl rfl) rfl ?_; refine vo_step (ok_extract rfl rfl rfl rfl) rfl ?_; refine vo_step (ok_extract rfl rfl rfl rfl) rfl ?_; refine vo_step (ok_extract rfl rfl rfl rfl) rfl ?_; refine vo_step (ok_extract rfl rfl rfl rfl) rfl ?_; refine vo_step (ok_alloc L rfl rfl rfl rfl) rfl ?_; refine vo_step (ok_store L rfl rfl rfl rfl rfl rfl rfl rfl) rfl ?_; refine vo_step (ok_assign rfl rfl rfl) rfl ?_; refine vo_step (ok_assign rfl rfl rfl) rfl ?_; refine vo_step (ok_assign rfl rfl rfl) rfl ?_; refine vo_nil ?_; refine N_seq ?_; refine V_seq ?_; refine V_seq ?_; refine V_region (id := 16) ?_; refine vo_step (ok_move rfl rfl rfl) rfl ?_; refine vo_step (ok_neq rfl rfl rfl rfl (decide_eq_true (by omega))) rfl ?_; refine vo_nil ?_; refine N_seq ?_; refine V_true rfl ?_; refine V_seq ?_; refine V_region (id := 17) ?_; refine vo_step (ok_build (cs := [_, _, _, _, _, _]) rfl rfl pl52 rfl rfl) rfl ?_; refine vo_step (ok_move rfl rfl rfl) rfl ?_; refine vo_step (ok_store L rfl rfl rfl rfl rfl rfl rfl rfl) rfl ?_; refine vo_step (ok_assign rfl rfl rfl) rfl ?_; refine vo_nil ?_; refine N_seq ?_
              refine V_ret L (rs := [.cell 2 52, .tmp 3]) rfl (fun _ _ h => h) Since.refl fun u H hH hle => ?_
              exact ⟨_, src_own rfl, rfl, rfl⟩
          · have g1 : pgA a = (sNil, sNil, sNil, e) := by rw [pg_rp, hra]; dsimp only; rw [if_neg (by decide), if_neg h0]
            rw [hpt, g1, if_neg h0]
            by_cases h5 : e = 5
            · refine V_seq ?_; refine V_seq ?_; refine V_region (id := 3) ?_; refine vo_step (ok_move rfl rfl rfl) rfl ?_; refine vo_step (ok_move rfl rfl rfl) rfl ?_; refine vo_step (ok_lenS L rfl rfl rfl rfl) rfl ?_; refine vo_step (ok_lss rfl rfl rfl rfl (decide_eq_false (by omega))) rfl ?_; refine vo_nil ?_; refine N_seq ?_; refine V_false rfl ?_; refine V_exit ?_; refine X_then ?_; refine X_then ?_; refine X_here ?_; refine N_seq ?_; refine V_seq ?_; refine V_seq ?_; refine V_region (id := 8) ?_; refine vo_step (ok_move rfl rfl rfl) rfl ?_; refine vo_step (ok_neq rfl rfl rfl rfl (decide_eq_false (by omega))) rfl ?_; refine vo_nil ?_; refine N_seq ?_; refine V_false rfl ?_; refine V_skip ?_; refine N_seq ?_; refine V_seq ?_; refine V_region (id := 10) ?_; refine vo_step (ok_move rfl rfl rfl) rfl ?_; refine vo_step (ok_move rfl rfl rfl) rfl ?_; refine vo_step (ok_sliceS L (kl := .i64) (pl := 0) 0 a.size rfl rfl rfl rfl rfl ⟨rfl, rfl⟩ (by omega) (by omega) x1) rfl ?_; refine vo_step (ok_callx L rfl rfl (blt_lt rfl) rfl rfl rfl (fun u H hH _ _ => rparse1_ret' hra za hH)) rfl ?_; refine vo_step (ok_move rfl rfl rfl) rfl ?_; refine vo_step (ok_extract rfl rfl rfl rfl) rfl ?_; refine vo_step (ok_extract rfl rfl rfl rfl) rfl ?_; refine vo_step (ok_extract rfl rfl rfl rfl) rfl ?_; refine vo_step (ok_extract rfl rfl rfl rfl) rfl ?_; refine vo_step (ok_alloc L rfl rfl rfl rfl) rfl ?_; refine vo_step (ok_store L rfl rfl rfl rfl rfl rfl rfl rfl) rfl ?_; refine vo_step (ok_assign rfl rfl rfl) rfl ?_; refine vo_step (ok_assign rfl rfl rfl) rfl ?_; refine vo_step (ok_assign rfl rfl rfl) rfl ?_; refine vo_nil ?_; refine N_seq ?_; refine V_seq ?_; refine V_seq ?_; refine V_region (id := 11) ?_; refine vo_step (ok_move rfl rfl rfl) rfl ?_; refine vo_step (ok_neq rfl rfl rfl rfl (decide_eq_false (by omega))) rfl ?_; refine vo_step (ok_move rfl rfl rfl) rfl ?_; refine vo_step (ok_skip rfl (blt_lt rfl) rfl) rfl ?_; refine vo_step (ok_skip rfl (blt_lt rfl) rfl) rfl ?_; refine vo_step (ok_pick rfl rfl rfl rfl) rfl ?_; refine vo_nil ?_; refine N_seq ?_; refine V_false rfl ?_; refine V_skip ?_; refine N_seq ?_; refine V_seq ?_; refine V_seq ?_; refine V_region (id := 13) ?_; refine vo_step (ok_move rfl rfl rfl) rfl ?_; refine vo_step (ok_neq rfl rfl rfl rfl (decide_eq_true (by omega))) rfl ?_; refine vo_nil ?_; refine N_seq ?_; refine V_true rfl ?_; refine V_seq ?_; refine V_region (id := 14) ?_; refine vo_step (ok_build (cs := [_, _, _, _, _, _]) rfl rfl pl52 rfl rfl) rfl ?_; refine vo_step (ok_move rfl rfl rfl) rfl ?_; refine vo_step (ok_store L rfl rfl rfl rfl rfl rfl rfl rfl) rfl ?_; refine vo_step (ok_assign rfl rfl rfl) rfl ?_; refine vo_nil ?_; refine N_seq ?_
              refine V_ret L (rs := [.cell 2 52, .tmp 3]) rfl (fun _ _ h => h) Since.refl fun u H hH hle => ?_
              exact ⟨_, src_own rfl, rfl, rfl⟩
            · refine V_seq ?_; refine V_seq ?_; refine V_region (id := 3) ?_; refine vo_step (ok_move rfl rfl rfl) rfl ?_; refine vo_step (ok_move rfl rfl rfl) rfl ?_; refine vo_step (ok_lenS L rfl rfl rfl rfl) rfl ?_; refine vo_step (ok_lss rfl rfl rfl rfl (decide_eq_false (by omega))) rfl ?_; refine vo_nil ?_; refine N_seq ?_; refine V_false rfl ?_; refine V_exit ?_; refine X_then ?_; refine X_then ?_; refine X_here ?_; refine N_seq ?_; refine V_seq ?_; refine V_seq ?_; refine V_region (id := 8) ?_; refine vo_step (ok_move rfl rfl rfl) rfl ?_; refine vo_step (ok_neq rfl rfl rfl rfl (decide_eq_false (by omega))) rfl ?_; refine vo_nil ?_; refine N_seq ?_; refine V_false rfl ?_; refine V_skip ?_; refine N_seq ?_; refine V_seq ?_; refine V_region (id := 10) ?_; refine vo_step (ok_move rfl rfl rfl) rfl ?_; refine vo_step (ok_move rfl rfl rfl) rfl ?_; refine vo_step (ok_sliceS L (kl := .i64) (pl := 0) 0 a.size rfl rfl rfl rfl rfl ⟨rfl, rfl⟩ (by omega) (by omega) x1) rfl ?_; refine vo_step (ok_callx L rfl rfl (blt_lt rfl) rfl rfl rfl (fun u H hH _ _ => rparse1_ret' hra za hH)) rfl ?_; refine vo_step (ok_move rfl rfl rfl) rfl ?_; refine vo_step (ok_extract rfl rfl rfl rfl) rfl ?_; refine vo_step (ok_extract rfl rfl rfl rfl) rfl ?_; refine vo_step (ok_extract rfl rfl rfl rfl) rfl ?_; refine vo_step (ok_extract rfl rfl rfl rfl) rfl ?_; refine vo_step (ok_alloc L rfl rfl rfl rfl) rfl ?_; refine vo_step (ok_store L rfl rfl rfl rfl rfl rfl rfl rfl) rfl ?_; refine vo_step (ok_assign rfl rfl rfl) rfl ?_; refine vo_step (ok_assign rfl rfl rfl) rfl ?_; refine vo_step (ok_assign rfl rfl rfl) rfl ?_; refine vo_nil ?_; refine N_seq ?_; refine V_seq ?_; refine V_seq ?_; refine V_region (id := 11) ?_; refine vo_step (ok_move rfl rfl rfl) rfl ?_; refine vo_step (ok_neq rfl rfl rfl rfl (decide_eq_true (by omega))) rfl ?_; refine vo_step (ok_move rfl rfl rfl) rfl ?_; refine vo_step (ok_move rfl rfl rfl) rfl ?_; refine vo_step (ok_not rfl rfl rfl rfl) rfl ?_; refine vo_step (ok_pick rfl rfl rfl rfl) rfl ?_; refine vo_nil ?_; refine N_seq ?_; refine V_false rfl ?_; refine V_skip ?_; refine N_seq ?_; refine V_seq ?_; refine V_seq ?_; refine V_region (id := 13) ?_; refine vo_step (ok_move rfl rfl rfl) rfl ?_; refine vo_step (ok_neq rfl rfl rfl rfl (decide_eq_true (by omega))) rfl ?_; refine vo_nil ?_; refine N_seq ?_; refine V_true rfl ?_; refine V_seq ?_; refine V_region (id := 14) ?_; refine vo_step (ok_build (cs := [_, _, _, _, _, _]) rfl rfl pl52 rfl rfl) rfl ?_; refine vo_step (ok_move rfl rfl rfl) rfl ?_; refine vo_step (ok_store L rfl rfl rfl rfl rfl rfl rfl rfl) rfl ?_; refine vo_step (ok_assign rfl rfl rfl) rfl ?_; refine vo_nil ?_; refine N_seq ?_
              refine V_ret L (rs := [.cell 2 52, .tmp 3]) rfl (fun _ _ h => h) Since.refl fun u H hH hle => ?_
              exact ⟨_, src_own rfl, rfl, rfl⟩
    · have hpt : ptA s = ((((⟨#[]⟩, ⟨#[]⟩), ⟨#[]⟩), ((⟨#[]⟩, ⟨#[]⟩), ⟨#[]⟩)), 5) := by
        unfold ptA
        rw [if_neg]
        rintro ⟨hc1, hc2⟩
        rcases split_b s 64 with h64 | ⟨a, b, rfl, ha⟩
        · rw [cutA_no h64] at hc1; cases hc1
        · rw [cutA_mid ha] at hc2
          by_cases hb : noB b 64
          · apply h1
            rw [hn, mid_list, List.count_append, List.count_cons_self, List.count_eq_zero_of_not_mem ha, List.count_eq_zero_of_not_mem hb]
          · rw [show hasA b 64 = true from hasA_yes hb] at hc2
            cases hc2
      rw [hpt]
      refine V_seq ?_; refine V_seq ?_; refine V_region (id := 3) ?_; refine vo_step (ok_move rfl rfl rfl) rfl ?_; refine vo_step (ok_move rfl rfl rfl) rfl ?_; refine vo_step (ok_lenS L rfl rfl rfl rfl) rfl ?_; refine vo_step (ok_lss rfl rfl rfl rfl (decide_eq_false (by omega))) rfl ?_; refine vo_nil ?_; refine N_seq ?_; refine V_false rfl ?_; refine V_exit ?_; refine X_then ?_; refine X_then ?_; refine X_here ?_; refine N_seq ?_; refine V_seq ?_; refine V_seq ?_; refine V_region (id := 8) ?_; refine vo_step (ok_move rfl rfl rfl) rfl ?_; refine vo_step (ok_neq rfl rfl rfl rfl (decide_eq_true (by omega))) rfl ?_; refine vo_nil ?_; refine N_seq ?_; refine V_true rfl ?_; refine V_seq ?_; refine V_region (id := 9) ?_; refine vo_step (ok_build (cs := [_, _, _, _, _, _]) rfl rfl pl52 rfl rfl) rfl ?_; refine vo_step (ok_store L rfl rfl rfl rfl rfl rfl rfl rfl) rfl ?_; refine vo_step (ok_assign rfl rfl rfl) rfl ?_; refine vo_nil ?_; refine N_seq ?_
      refine V_ret L (rs := [.cell 2 52, .tmp 3]) rfl (fun _ _ h => h) Since.refl fun u H hH hle => ?_
      exact ⟨_, src_own rfl, rfl, rfl⟩
end Go.V.L2
/- The kit's floor of sorting: what a slot owns is sorted, by the library's contract. -/
namespace Go.V
open Go.Proofs Go.RowKit
section
variable {α : Type} [Inhabited α] {enc : α → List Value} {k : Nat}
end
section
variable {P : Program} {F : Fr} {B : Heap} {O : Boxes} {n : Nat} {ops : Array Oper} {κ : Kap} {ty : TypeId} {pos : String} {aft : Array Edge} {g : Option (Nat × Bool)}
end
end Go.V
/- Sorted lists once more: equal neighbours are taken out; where a thing is. Plain laws. -/
namespace Go.V
open Go.Proofs Go.RowKit
section
variable {α : Type} [DecidableEq α]
/-- Of equal neighbours one stays. -/
def dd : List α → List α
  | [] => []
  | [x] => [x]
  | x :: y :: l => if x = y then dd (y :: l) else x :: dd (y :: l)
variable {c : α → α → Int}
end
section
variable {α : Type} {c : α → α → Int}
end
end Go.V
/- Tuples (chapter 2): what was read has its text; texts of valid tuples are read again. Plain laws. -/
namespace Go.V.L2
open Go.Proofs Go.RowKit Go.V
end Go.V.L2
/- Filters (chapter 3): plain laws. -/
namespace Go.V.L3
open Go.Proofs Go.RowKit Go.V Go.V.L2
/-- A filter: its space, ID and relation, its subject, and whether it has one. -/
abbrev FT := Str3 × Str3 × Bool
/-! ### orders that do not part everything -/
structure WOrd {α : Type} (c : α → α → Int) : Prop where
  refl : ∀ a, c a a = 0
  anti : ∀ a b, c b a = - c a b
  trans : ∀ a b d, c a b ≤ 0 → c b d ≤ 0 → c a d ≤ 0
theorem WOrd.zero {α : Type} : WOrd (fun _ _ : α => (0 : Int)) := ⟨fun _ => rfl, fun _ _ => rfl, fun _ _ _ _ _ => Int.le_refl _⟩
theorem WOrd.lex {α β : Type} {c : α → α → Int} {e : β → β → Int} (h : WOrd c) (k : WOrd e) : WOrd (lexC c e) where
  refl a := by unfold lexC; rw [orL2, h.refl, if_pos rfl, k.refl]
  anti a b := by
    unfold lexC
    rw [orL2, orL2]
    have h1 := h.anti a.1 b.1
    have h2 := k.anti a.2 b.2
    by_cases e1 : c a.1 b.1 = 0
    · rw [if_pos e1, if_pos (by omega)]; exact h2
    · rw [if_neg e1, if_neg (by omega)]; exact h1
  trans a b d h1 h2 := by
    unfold lexC at *
    rw [orL2] at *
    have a1 := h.anti a.1 b.1
    have a2 := h.anti b.1 d.1
    have a3 := h.anti a.1 d.1
    have t1 := h.trans a.1 b.1 d.1
    have t2 := h.trans d.1 b.1 a.1
    have t3 := h.trans b.1 d.1 a.1
    have t4 := h.trans d.1 a.1 b.1
    have t5 := k.trans a.2 b.2 d.2
    by_cases e1 : c a.1 b.1 = 0
    · rw [if_pos e1] at h1
      by_cases e2 : c b.1 d.1 = 0
      · rw [if_pos e2] at h2
        rw [if_pos (by have := t1 (by omega) (by omega); have := t2 (by omega) (by omega); omega)]
        exact t5 h1 h2
      · rw [if_neg e2] at h2
        have e3 : c a.1 d.1 ≠ 0 := fun e => by have := t4 (by omega) (by omega); omega
        rw [if_neg e3]
        exact t1 (by omega) h2
    · rw [if_neg e1] at h1
      by_cases e2 : c b.1 d.1 = 0
      · rw [if_pos e2] at h2
        have e3 : c a.1 d.1 ≠ 0 := fun e => by have := t3 (by omega) (by omega); omega
        rw [if_neg e3]
        exact t1 h1 (by omega)
      · rw [if_neg e2] at h2
        have e3 : c a.1 d.1 ≠ 0 := fun e => by have := t4 (by omega) (by omega); omega
        rw [if_neg e3]
        exact t1 h1 h2
end Go.V.L3
/- Filters (chapter 3): what is selected, and what both take. Plain laws. -/
namespace Go.V.L3
open Go.Proofs Go.RowKit Go.V Go.V.L2
/-! ### what both take -/
end Go.V.L3
/- The walks of the definition of tuples (chapter 2): sorted lists. -/
namespace Go.V.L2
open Go.Proofs Go.RowKit Go.V
attribute [local irreducible] V N X VO Par StepOK Has Ret RetL Src
end Go.V.L2
/- Trees as plain data: what the code computes; how a tree lies in memory. -/
namespace Go.V
inductive Tr (K V : Type) where
  | nil
  | node (k : K) (v : V) (l r : Tr K V)
namespace Tr
variable {K V : Type}
def size : Tr K V → Nat
  | nil => 0
  | node _ _ l r => size l + 1 + size r
def deep : Tr K V → Nat
  | nil => 0
  | node _ _ l r => 1 + max (deep l) (deep r)
theorem deep_le : ∀ t : Tr K V, deep t ≤ size t
  | nil => Nat.le_refl _
  | node _ _ l r => by have := deep_le l; have := deep_le r; simp only [deep, size]; omega
def bal (k : K) (v : V) (l r : Tr K V) : Tr K V :=
  if deep l > deep r + 1 then
    match l with
    | nil => nil
    | node lk lv ll lr =>
      if deep ll ≥ deep lr then node lk lv ll (node k v lr r)
      else match lr with
        | nil => nil
        | node mk mv ml mr => node mk mv (node lk lv ll ml) (node k v mr r)
  else if deep r > deep l + 1 then
    match r with
    | nil => nil
    | node rk rv rl rr =>
      if deep rr ≥ deep rl then node rk rv (node k v l rl) rr
      else match rl with
        | nil => nil
        | node mk mv ml mr => node mk mv (node k v l ml) (node rk rv mr rr)
  else node k v l r
def put (c : K → K → Int) (k : K) (v : V) : Tr K V → Tr K V
  | nil => node k v nil nil
  | node nk nv l r => if c k nk < 0 then bal nk nv (put c k v l) r else if c k nk > 0 then bal nk nv l (put c k v r) else node nk v l r
def first : K → V → Tr K V → Tr K V → (K × V) × Tr K V
  | k, v, nil, r => ((k, v), r)
  | k, v, node lk lv ll lr, r => ((first lk lv ll lr).1, bal k v (first lk lv ll lr).2 r)
def drop (c : K → K → Int) (k : K) : Tr K V → Tr K V × Bool
  | nil => (nil, false)
  | node nk nv l r => if c k nk < 0 then (bal nk nv (drop c k l).1 r, (drop c k l).2) else if c k nk > 0 then (bal nk nv l (drop c k r).1, (drop c k r).2)
    else match r with
      | nil => (l, true)
      | node rk rv rl rr => (bal (first rk rv rl rr).1.1 (first rk rv rl rr).1.2 l (first rk rv rl rr).2, true)
def get (c : K → K → Int) (k : K) : Tr K V → Option V
  | nil => none
  | node nk nv l r => if c k nk = 0 then some nv else if c k nk < 0 then get c k l else get c k r
def list : Tr K V → List (K × V)
  | nil => []
  | node k v l r => list l ++ (k, v) :: list r
theorem get_eq {c : K → K → Int} {k nk : K} {nv : V} {l r : Tr K V} (h : c k nk = 0) : get c k (node nk nv l r) = some nv := if_pos h
theorem get_lt {c : K → K → Int} {k nk : K} {nv : V} {l r : Tr K V} (h : c k nk < 0) : get c k (node nk nv l r) = get c k l := (if_neg (by omega)).trans (if_pos h)
theorem get_gt {c : K → K → Int} {k nk : K} {nv : V} {l r : Tr K V} (h0 : ¬ c k nk = 0) (h : ¬ c k nk < 0) : get c k (node nk nv l r) = get c k r := (if_neg h0).trans (if_neg h)
theorem size_list : ∀ t : Tr K V, (list t).length = size t
  | nil => rfl
  | node _ _ l r => by simp only [list, List.length_append, List.length_cons, size_list l, size_list r, size]; omega
theorem size_node (k : K) (v : V) (l r : Tr K V) : size (node k v l r) = size l + 1 + size r := rfl
theorem deep_node (k : K) (v : V) (l r : Tr K V) : deep (node k v l r) = 1 + max (deep l) (deep r) := rfl
theorem list_bal (k : K) (v : V) (l r : Tr K V) : list (bal k v l r) = list l ++ (k, v) :: list r := by
  unfold bal
  split
  · rename_i h
    cases l with
    | nil => simp [deep] at h
    | node lk lv ll lr =>
      dsimp only
      split
      · simp [list]
      · rename_i h2
        cases lr with
        | nil => simp [deep] at h2
        | node mk mv ml mr => simp [list]
  · split
    · rename_i h
      cases r with
      | nil => simp [deep] at h
      | node rk rv rl rr =>
        dsimp only
        split
        · simp [list]
        · rename_i h2
          cases rl with
          | nil => simp [deep] at h2
          | node mk mv ml mr => simp [list]
    · simp [list]
theorem size_bal (k : K) (v : V) (l r : Tr K V) : size (bal k v l r) = size l + 1 + size r := by
  rw [← size_list, list_bal, List.length_append, List.length_cons, size_list, size_list]; omega
theorem list_first : ∀ (k : K) (v : V) (l r : Tr K V), (first k v l r).1 :: list (first k v l r).2 = list l ++ (k, v) :: list r
  | k, v, nil, r => rfl
  | k, v, node lk lv ll lr, r => by
    simp only [first, list_bal, list]
    rw [← List.cons_append, list_first lk lv ll lr]
theorem size_first (k : K) (v : V) (l r : Tr K V) : size (first k v l r).2 = size l + size r := by
  have := congrArg List.length (list_first k v l r)
  simp only [List.length_cons, List.length_append, size_list] at this
  omega
theorem size_put (c : K → K → Int) (k : K) (v : V) : ∀ t : Tr K V, size (put c k v t) ≤ size t + 1
  | nil => by simp [put, size]
  | node nk nv l r => by
    have := size_put c k v l
    have := size_put c k v r
    simp only [put]
    split
    · rw [size_bal, size_node]; omega
    · split
      · rw [size_bal, size_node]; omega
      · rw [size_node, size_node]; omega
theorem size_drop (c : K → K → Int) (k : K) : ∀ t : Tr K V, size (drop c k t).1 ≤ size t
  | nil => Nat.le_refl _
  | node nk nv l r => by
    have := size_drop c k l
    have := size_drop c k r
    simp only [drop]
    split
    · rw [size_bal, size_node]; omega
    · split
      · rw [size_bal, size_node]; omega
      · cases r with
        | nil => simp only [size]; omega
        | node rk rv rl rr => rw [size_bal, size_first, size_node, size_node]; omega
/-- A tree in memory. -/
def TreeAt (nl : K → V → Value → Value → Int → Int → List Value) (ty : TypeId) : Tr K V → Value → Heap → Prop
  | nil, v, _ => v = .pointer none
  | node k x l r, v, H => ∃ b lv rv, v = .pointer (some ⟨b, 0, none⟩) ∧ H b = some (.cells (nl k x lv rv (size (node k x l r)) (deep (node k x l r))).toArray ty) ∧ TreeAt nl ty l lv H ∧ TreeAt nl ty r rv H
theorem TreeAt.mono {nl : K → V → Value → Value → Int → Int → List Value} {ty : TypeId} : ∀ {t : Tr K V}, Kn.mono (.sat (TreeAt nl ty t))
  | nil, _, _, _, h, _ => h
  | node k x l r, _, _, _, ⟨b, lv, rv, h1, h2, h3, h4⟩, hle => ⟨b, lv, rv, h1, hle _ _ h2, TreeAt.mono _ _ _ h3 hle, TreeAt.mono _ _ _ h4 hle⟩
theorem TreeAt.le {nl : K → V → Value → Value → Int → Int → List Value} {ty : TypeId} {t : Tr K V} {v : Value} {H H' : Heap} (h : TreeAt nl ty t v H) (hle : H.Le H') : TreeAt nl ty t v H' := TreeAt.mono _ _ _ h hle
end Tr
end Go.V
/- Plain laws of trees: sorted lists, balance. -/
namespace Go.V
structure Ordr {K : Type} (c : K → K → Int) : Prop where
  anti : ∀ a b, c a b < 0 ↔ 0 < c b a
  trans : ∀ {a b d}, c a b < 0 → c b d < 0 → c a d < 0
  eql : ∀ {a b} (d), c a b = 0 → (c a d < 0 ↔ c b d < 0)
namespace Ordr
variable {K : Type} {c : K → K → Int}
theorem refl (h : Ordr c) (a : K) : c a a = 0 := by
  have := h.anti a a
  omega
theorem symm (h : Ordr c) {a b : K} (e : c a b = 0) : c b a = 0 := by
  have := h.anti a b
  have := h.anti b a
  omega
end Ordr
namespace Tr
variable {K V : Type} (c : K → K → Int)
def Srt (l : List (K × V)) : Prop := l.Pairwise fun x y => c x.1 y.1 < 0
def putS (k : K) (v : V) : List (K × V) → List (K × V)
  | [] => [(k, v)]
  | y :: l => if c k y.1 < 0 then (k, v) :: y :: l else if c k y.1 > 0 then y :: putS k v l else (y.1, v) :: l
def dropS (k : K) : List (K × V) → List (K × V)
  | [] => []
  | y :: l => if c k y.1 < 0 then y :: l else if c k y.1 > 0 then y :: dropS k l else l
def getS (k : K) : List (K × V) → Option V
  | [] => none
  | y :: l => if c k y.1 = 0 then some y.2 else getS k l
variable {c} (h : Ordr c)
include h
theorem putS_append {k : K} {v : V} : ∀ {l1 l2 : List (K × V)} {y : K × V}, (∀ x ∈ l1, c x.1 y.1 < 0) →
    putS c k v (l1 ++ y :: l2) = if c k y.1 < 0 then putS c k v l1 ++ y :: l2 else if c k y.1 > 0 then l1 ++ y :: putS c k v l2 else l1 ++ (y.1, v) :: l2
  | [], l2, y, _ => by simp only [List.nil_append, putS]; split <;> simp
  | x :: l1, l2, y, hl => by
    have ih := putS_append (k := k) (v := v) (l1 := l1) (l2 := l2) (y := y) fun z hz => hl z (List.mem_cons_of_mem _ hz)
    have hx := hl x (List.mem_cons_self ..)
    simp only [List.cons_append, putS]
    by_cases h1 : c k x.1 < 0
    · have : c k y.1 < 0 := h.trans h1 hx
      rw [if_pos h1, if_pos this, if_pos h1]; rfl
    · rw [if_neg h1]
      by_cases h2 : c k x.1 > 0
      · rw [if_pos h2, ih, if_neg h1, if_pos h2]
        split
        · rfl
        · split <;> rfl
      · have h0 : c k x.1 = 0 := by omega
        have : c k y.1 < 0 := (h.eql _ h0).2 hx
        rw [if_neg h2, if_pos this, if_neg h1, if_neg h2]; rfl
theorem dropS_append {k : K} : ∀ {l1 l2 : List (K × V)} {y : K × V}, (∀ x ∈ l1, c x.1 y.1 < 0) →
    dropS c k (l1 ++ y :: l2) = if c k y.1 < 0 then dropS c k l1 ++ y :: l2 else if c k y.1 > 0 then l1 ++ y :: dropS c k l2 else l1 ++ l2
  | [], l2, y, _ => by simp only [List.nil_append, dropS]
  | x :: l1, l2, y, hl => by
    have ih := dropS_append (k := k) (l1 := l1) (l2 := l2) (y := y) fun z hz => hl z (List.mem_cons_of_mem _ hz)
    have hx := hl x (List.mem_cons_self ..)
    simp only [List.cons_append, dropS]
    by_cases h1 : c k x.1 < 0
    · have : c k y.1 < 0 := h.trans h1 hx
      rw [if_pos h1, if_pos this, if_pos h1]; rfl
    · rw [if_neg h1]
      by_cases h2 : c k x.1 > 0
      · rw [if_pos h2, ih, if_neg h1, if_pos h2]
        split
        · rfl
        · split <;> rfl
      · have h0 : c k x.1 = 0 := by omega
        have : c k y.1 < 0 := (h.eql _ h0).2 hx
        rw [if_neg h2, if_pos this, if_neg h1, if_neg h2]
omit h in
theorem srt_split {l1 l2 : List (K × V)} {y : K × V} (hs : Srt c (l1 ++ y :: l2)) : Srt c l1 ∧ Srt c l2 ∧ (∀ x ∈ l1, c x.1 y.1 < 0) ∧ (∀ x ∈ l2, c y.1 x.1 < 0) := by
  have h1 := List.pairwise_append.1 hs
  have h2 := List.pairwise_cons.1 h1.2.1
  exact ⟨h1.1, h2.2, fun x hx => h1.2.2 x hx y (List.mem_cons_self ..), h2.1⟩
theorem list_put (k : K) (v : V) : ∀ {t : Tr K V}, Srt c (list t) → list (put c k v t) = putS c k v (list t)
  | nil, _ => rfl
  | node nk nv l r, hs => by
    obtain ⟨hl, hr, hx, _⟩ := srt_split (y := (nk, nv)) hs
    simp only [list, put]
    rw [putS_append h hx]
    split
    · rw [list_bal, list_put k v hl]
    · split
      · rw [list_bal, list_put k v hr]
      · rfl
theorem list_drop (k : K) : ∀ {t : Tr K V}, Srt c (list t) → list (if (drop c k t).2 = true then (drop c k t).1 else t) = dropS c k (list t) ∧ ((drop c k t).2 = false → (drop c k t).1 = t ∨ list (drop c k t).1 = list t) ∧ ((drop c k t).2 = true → list (drop c k t).1 = dropS c k (list t)) ∧ ((drop c k t).2 = false → dropS c k (list t) = list t)
  | nil, _ => ⟨rfl, fun _ => .inl rfl, fun h => (by cases h), fun _ => rfl⟩
  | node nk nv l r, hs => by
    obtain ⟨hl, hr, hx, _⟩ := srt_split (y := (nk, nv)) hs
    have il := list_drop k hl
    have ir := list_drop k hr
    have key : ((drop c k (node nk nv l r)).2 = true → list (drop c k (node nk nv l r)).1 = dropS c k (list (node nk nv l r))) ∧ ((drop c k (node nk nv l r)).2 = false → dropS c k (list (node nk nv l r)) = list (node nk nv l r) ∧ list (drop c k (node nk nv l r)).1 = list (node nk nv l r)) := by
      simp only [list, drop]
      rw [dropS_append h hx]
      split
      · refine ⟨fun ht => ?_, fun hf => ?_⟩
        · dsimp only at ht ⊢; rw [list_bal, il.2.2.1 ht]
        · dsimp only at hf ⊢
          have e := il.2.2.2 hf
          refine ⟨by rw [e], ?_⟩
          rw [list_bal]
          rcases il.2.1 hf with e1 | e1 <;> rw [e1]
      · split
        · refine ⟨fun ht => ?_, fun hf => ?_⟩
          · dsimp only at ht ⊢; rw [list_bal, ir.2.2.1 ht]
          · dsimp only at hf ⊢
            have e := ir.2.2.2 hf
            refine ⟨by rw [e], ?_⟩
            rw [list_bal]
            rcases ir.2.1 hf with e1 | e1 <;> rw [e1]
        · cases r with
          | nil => exact ⟨fun _ => by simp [list], fun hf => by cases hf⟩
          | node rk rv rl rr =>
            refine ⟨fun _ => ?_, fun hf => by cases hf⟩
            dsimp only
            rw [list_bal]
            have := list_first rk rv rl rr
            rw [show ((first rk rv rl rr).1.1, (first rk rv rl rr).1.2) = (first rk rv rl rr).1 from rfl, this]
            rfl
    refine ⟨?_, fun hf => .inr (key.2 hf).2, key.1, fun hf => (key.2 hf).1⟩
    split
    · rename_i ht; exact key.1 ht
    · rename_i ht
      have hf : (drop c k (node nk nv l r)).2 = false := by simpa using ht
      exact (key.2 hf).1.symm
theorem getS_append {k : K} : ∀ {l1 l2 : List (K × V)} {y : K × V}, (∀ x ∈ l1, c x.1 y.1 < 0) → (∀ x ∈ l2, c y.1 x.1 < 0) →
    getS c k (l1 ++ y :: l2) = if c k y.1 = 0 then some y.2 else if c k y.1 < 0 then getS c k l1 else getS c k l2
  | [], l2, y, _, h2 => by
    simp only [List.nil_append, getS]
    split
    · rfl
    · split
      · rename_i h1
        have : ∀ (l : List (K × V)), (∀ x ∈ l, c y.1 x.1 < 0) → getS c k l = none := by
          intro l
          induction l with
          | nil => intro _; rfl
          | cons z l ih =>
            intro hz
            have := h.trans h1 (hz z (List.mem_cons_self ..))
            simp only [getS]
            rw [if_neg (by omega)]
            exact ih fun x hx => hz x (List.mem_cons_of_mem _ hx)
        exact this l2 h2
      · rfl
  | x :: l1, l2, y, hl, h2 => by
    have ih := getS_append (k := k) (l1 := l1) (l2 := l2) (y := y) (fun z hz => hl z (List.mem_cons_of_mem _ hz)) h2
    have hx := hl x (List.mem_cons_self ..)
    simp only [List.cons_append, getS]
    by_cases h0 : c k x.1 = 0
    · have : c k y.1 < 0 := (h.eql _ h0).2 hx
      rw [if_pos h0, if_neg (by omega), if_pos this, if_pos h0]
    · rw [if_neg h0, ih, if_neg h0]
theorem get_list (k : K) : ∀ {t : Tr K V}, Srt c (list t) → get c k t = getS c k (list t)
  | nil, _ => rfl
  | node nk nv l r, hs => by
    obtain ⟨hl, hr, hx, hy⟩ := srt_split (y := (nk, nv)) hs
    simp only [list, get]
    rw [getS_append h hx hy, get_list k hl, get_list k hr]
/-! ### balance -/
end Tr
end Go.V
/- Sets of tuples (chapter 6): plain laws. -/
namespace Go.V.L6
open Go.Proofs Go.RowKit Go.V Go.V.L2 Go.V.L3
theorem ordr_of {α : Type} {c : α → α → Int} (h : Ord3 c) : Ordr c := by
  refine ⟨fun a b => ?_, fun {a b d} h1 h2 => ?_, fun {a b} d e => ?_⟩
  · have := h.anti a b; omega
  · exact h.tr h1 h2
  · rw [h.eq _ _ e]
/-- The order by subjects, and then by goals. -/
def cmpS (a b : U) : Int := cmpT (a.2, a.1) (b.2, b.1)
theorem cmpS_ord : Ord3 cmpS where
  refl a := cmpT_ord.refl _
  eq a b h := by
    have := cmpT_ord.eq _ _ h
    exact Prod.ext (congrArg Prod.snd this) (congrArg Prod.fst this)
  anti a b := cmpT_ord.anti _ _
  trans a b d := cmpT_ord.trans _ _ _
/-! ### keys of sorted lists of pairs -/
set_option linter.unusedSectionVars false
section keys
variable {α : Type} [DecidableEq α] {c : α → α → Int}
abbrev kS (L : List (α × Unit)) : List α := L.map (·.1)
theorem k_srt {L : List (α × Unit)} : Tr.Srt c L ↔ Sst c (kS L) := by unfold Tr.Srt Sst kS; rw [List.pairwise_map]
theorem k_put (h : Ord3 c) {k : α} : ∀ {L : List (α × Unit)}, k ∉ kS L → kS (Tr.putS c k () L) = insS c k (kS L)
  | [], _ => rfl
  | y :: L, hk => by
    simp only [kS, List.map_cons, List.mem_cons, not_or] at hk
    simp only [Tr.putS]
    by_cases h1 : c k y.1 < 0
    · rw [if_pos h1]
      simp [kS, insS, h1]
    · have h2 := h.tri h1 hk.1
      have h3 := h.anti k y.1
      rw [if_neg h1, if_pos (by omega)]
      have ih := k_put h (L := L) hk.2
      simp only [kS, List.map_cons, insS] at ih ⊢
      rw [if_neg h1, ih]
theorem k_drop (h : Ord3 c) {k : α} : ∀ {L : List (α × Unit)}, Sst c (kS L) → kS (Tr.dropS c k L) = (kS L).filter fun z => decide (z ≠ k)
  | [], _ => rfl
  | y :: L, hs => by
    simp only [kS, List.map_cons] at hs
    obtain ⟨hy, hs'⟩ := List.pairwise_cons.1 hs
    simp only [Tr.dropS]
    have all : ∀ {d : α}, (c k d < 0 ∨ k = d) → (∀ z ∈ kS L, c d z < 0) → (kS L).filter (fun z => decide (z ≠ k)) = kS L := fun {d} hd hz => List.filter_eq_self.2 fun z hm => by
      have h4 := hz z hm
      simp only [decide_eq_true_eq]
      intro e
      subst e
      rcases hd with hd | hd
      · exact h.asym hd h4
      · subst hd; exact h.irr _ h4
    by_cases h1 : c k y.1 < 0
    · rw [if_pos h1]
      simp only [kS, List.map_cons, List.filter_cons]
      rw [if_pos (by simpa using (h.ne h1).symm)]
      have := all (.inl h1) hy
      unfold kS at this
      rw [this]
    · rw [if_neg h1]
      by_cases h2 : c k y.1 > 0
      · rw [if_pos h2]
        have ih := k_drop h (k := k) (L := L) hs'
        simp only [kS, List.map_cons, List.filter_cons] at ih ⊢
        have hne : y.1 ≠ k := fun e => by rw [e, h.refl] at h2; omega
        rw [if_pos (by simpa using hne), ih]
      · rw [if_neg h2]
        have e := h.eq _ _ (show c k y.1 = 0 by omega)
        simp only [kS, List.map_cons, List.filter_cons]
        rw [if_neg (by simpa using e.symm)]
        have := all (.inr e) hy
        unfold kS at this
        rw [this]
theorem k_get (h : Ord3 c) {k : α} : ∀ {L : List (α × Unit)}, (k ∈ kS L → Tr.getS c k L = some ()) ∧ (k ∉ kS L → Tr.getS c k L = none)
  | [] => ⟨fun h => (by cases h), fun _ => rfl⟩
  | y :: L => by
    have ih := k_get h (k := k) (L := L)
    simp only [Tr.getS, kS, List.map_cons, List.mem_cons]
    by_cases e : k = y.1
    · subst e; rw [if_pos (h.refl _)]; exact ⟨fun _ => rfl, fun hn => absurd (.inl rfl) hn⟩
    · have : ¬ c k y.1 = 0 := fun h0 => e (h.eq _ _ h0)
      rw [if_neg this]
      exact ⟨fun hm => ih.1 (hm.resolve_left e), fun hn => ih.2 fun hm => hn (.inr hm)⟩
theorem len_drop : ∀ {l : List α} {x : α}, l.Nodup → x ∈ l → (l.filter fun z => decide (z ≠ x)).length + 1 = l.length
  | [], _, _, h => by cases h
  | y :: l, x, hn, h => by
    obtain ⟨h1, h2⟩ := List.nodup_cons.1 hn
    rw [List.filter_cons]
    by_cases e : y = x
    · subst e
      rw [if_neg (by simp)]
      have : (l.filter fun z => decide (z ≠ y)) = l := List.filter_eq_self.2 fun z hz => by
        simp only [decide_eq_true_eq]
        exact fun e => h1 (e ▸ hz)
      rw [this, List.length_cons]
    · rw [if_pos (by simpa using e), List.length_cons, List.length_cons, len_drop h2 (by
        rcases List.mem_cons.1 h with h | h
        · exact absurd h.symm e
        · exact h)]
theorem filter_out {l : List α} {x : α} (h : x ∉ l) : (l.filter fun z => decide (z ≠ x)) = l := List.filter_eq_self.2 fun z hz => by
  simp only [decide_eq_true_eq]
  exact fun e => h (e ▸ hz)
end keys
/-! ### the two trees of a set -/
structure TS (l : List U) (t u : Tr U Unit) : Prop where
  kt : kS t.list = l
  st : Sst cmpT l
  su : Sst cmpS (kS u.list)
  mu : ∀ z, z ∈ kS u.list ↔ z ∈ l
  zu : u.size = l.length
theorem cmpT_ordr : Ordr cmpT := ordr_of cmpT_ord
theorem cmpS_ordr : Ordr cmpS := ordr_of cmpS_ord
theorem ts_nil : TS [] .nil .nil := ⟨rfl, Sst.nil, Sst.nil, fun _ => Iff.rfl, rfl⟩
section ts
variable {l : List U} {t u : Tr U Unit}
theorem TS.size (h : TS l t u) : t.size = l.length := by rw [← Tr.size_list, ← h.kt]; simp
theorem TS.srt (h : TS l t u) : Tr.Srt cmpT t.list := k_srt.2 (h.kt ▸ h.st)
theorem TS.srtu (h : TS l t u) : Tr.Srt cmpS u.list := k_srt.2 h.su
theorem TS.put (h : TS l t u) {x : U} (hx : x ∉ l) : TS (insS cmpT x l) (Tr.put cmpT x () t) (Tr.put cmpS x () u) := by
  have hxt : x ∉ kS t.list := by rw [h.kt]; exact hx
  have hxu : x ∉ kS u.list := fun hm => hx ((h.mu x).1 hm)
  have e1 : kS (Tr.put cmpT x () t).list = insS cmpT x l := by
    rw [Tr.list_put cmpT_ordr x () h.srt, k_put cmpT_ord hxt, h.kt]
  have e2 : kS (Tr.put cmpS x () u).list = insS cmpS x (kS u.list) := by
    rw [Tr.list_put cmpS_ordr x () h.srtu, k_put cmpS_ord hxu]
  refine ⟨e1, sst_insS cmpT_ord h.st hx, ?_, fun z => ?_, ?_⟩
  · rw [e2]; exact sst_insS cmpS_ord h.su hxu
  · rw [e2, mem_insS, mem_insS, h.mu]
  · have := congrArg List.length e2
    simp only [kS, List.length_map, insS_length, Tr.size_list] at this
    rw [this, insS_length, h.zu]
theorem TS.drop (h : TS l t u) {x : U} (hx : x ∈ l) : TS (l.filter fun z => decide (z ≠ x)) (if (Tr.drop cmpT x t).2 = true then (Tr.drop cmpT x t).1 else t) (if (Tr.drop cmpS x u).2 = true then (Tr.drop cmpS x u).1 else u) := by
  have e1 : kS (if (Tr.drop cmpT x t).2 = true then (Tr.drop cmpT x t).1 else t).list = l.filter fun z => decide (z ≠ x) := by
    rw [(Tr.list_drop cmpT_ordr x h.srt).1, k_drop cmpT_ord (by rw [h.kt]; exact h.st), h.kt]
  have e2 : kS (if (Tr.drop cmpS x u).2 = true then (Tr.drop cmpS x u).1 else u).list = (kS u.list).filter fun z => decide (z ≠ x) := by
    rw [(Tr.list_drop cmpS_ordr x h.srtu).1, k_drop cmpS_ord h.su]
  refine ⟨e1, h.st.sublist List.filter_sublist, ?_, fun z => ?_, ?_⟩
  · rw [e2]; exact h.su.sublist List.filter_sublist
  · rw [e2, List.mem_filter, List.mem_filter, h.mu]
  · have h1 := congrArg List.length e2
    have h2 := len_drop (h.su.nodup cmpS_ord) ((h.mu x).2 hx)
    have h3 := len_drop (h.st.nodup cmpT_ord) hx
    have h4 := h.zu
    simp only [kS, List.length_map, Tr.size_list] at h1 h2
    omega
theorem TS.get (h : TS l t u) (x : U) : Tr.get cmpT x t = if x ∈ l then some () else none := by
  have hk := k_get cmpT_ord (k := x) (L := t.list)
  rw [h.kt] at hk
  rw [Tr.get_list cmpT_ordr x h.srt]
  by_cases hx : x ∈ l
  · rw [if_pos hx]; exact hk.1 hx
  · rw [if_neg hx]; exact hk.2 hx
end ts
/-! ### what a set is asked -/
/-- A set after a change: the list, and the error. -/
def withU (l : List U) (x : U) (d : Bool) : List U × Int :=
  if tE x = 0 then (if d = true then (l.filter fun z => decide (z ≠ x), 0) else if x ∈ l then (l, 0) else if l.length ≥ 4096 then ([], 3) else (insS cmpT x l, 0)) else ([], tE x)
theorem withU_len {l : List U} (hl : l.length ≤ 4096) (x : U) (d : Bool) : (withU l x d).1.length ≤ 4096 := by
  unfold withU
  split
  · split
    · exact Nat.le_trans (List.length_filter_le _ _) hl
    · split
      · exact hl
      · split
        · exact Nat.zero_le _
        · rw [insS_length]; omega
  · exact Nat.zero_le _
/-- A set of tuples, one after the other. -/
def ofU : List U → List U → List U × Int
  | l, [] => (l, 0)
  | l, x :: r => if (withU l x false).2 = 0 then ofU (withU l x false).1 r else ([], (withU l x false).2)
end Go.V.L6
/- Musts (chapter 8): plain laws. -/
namespace Go.V.L8
open Go.Proofs Go.RowKit Go.V Go.V.L2 Go.V.L3 Go.V.L6
abbrev CH := U × Bool
/-- The error of a list of musts or changes. -/
def cE (n : Nat) (l : List CH) : Int := if n < l.length then 3 else if (l.any fun c => !decide (tE c.1 = 0)) = true then 6 else 0
def holdB (s : List U) (m : CH) : Bool := decide (m.1 ∈ s) != m.2
def firstI (s : List U) : List CH → Nat → Nat × Int
  | [], i => (i, 0)
  | m :: r, i => if holdB s m = true then firstI s r (i + 1) else (i, 13)
/-- The first must that does not hold. -/
def firstR (s : List U) (l : List CH) : Nat × Int := if cE 32 l = 0 then firstI s l 0 else (0, cE 32 l)
theorem firstI_add (s : List U) : ∀ (l : List CH) (i : Nat), firstI s l i = ((firstI s l 0).1 + i, (firstI s l 0).2)
  | [], i => by simp [firstI]
  | m :: r, i => by
    by_cases h : holdB s m = true
    · have e1 : firstI s (m :: r) i = firstI s r (i + 1) := by rw [firstI, if_pos h]
      have e2 : firstI s (m :: r) 0 = firstI s r (0 + 1) := by rw [firstI, if_pos h]
      rw [e1, e2, firstI_add s r (i + 1), firstI_add s r (0 + 1)]
      exact Prod.ext (by show (firstI s r 0).1 + (i + 1) = (firstI s r 0).1 + (0 + 1) + i; omega) rfl
    · rw [firstI, firstI, if_neg h, if_neg h]; simp
theorem firstI_hit {s : List U} {l : List CH} {i : Nat} {m : CH} (h : ∀ (j : Nat) x, j < i → l[j]? = some x → holdB s x = true) (hm : l[i]? = some m) (hh : holdB s m = false) : firstI s l 0 = (i, 13) := by
  induction l generalizing i with
  | nil => simp at hm
  | cons y r ih =>
    cases i with
    | zero =>
      simp at hm; subst hm
      unfold firstI
      rw [if_neg (by rw [hh]; decide)]
    | succ i =>
      have hy := h 0 y (Nat.succ_pos _) rfl
      unfold firstI
      rw [if_pos hy, firstI_add, ih (i := i) (fun j x hj hx => h (j + 1) x (by omega) hx) (by simpa using hm)]
theorem firstI_all {s : List U} {l : List CH} (h : ∀ x ∈ l, holdB s x = true) : firstI s l 0 = (l.length, 0) := by
  induction l with
  | nil => rfl
  | cons y r ih =>
    unfold firstI
    rw [if_pos (h y (by simp)), firstI_add, ih (fun x hx => h x (by simp [hx]))]
    rfl
/-- Changes made one after the other, those that made a difference told. -/
def writeL : List U → List CH → List CH → List U × List CH × Int
  | s, made, [] => (s, made, 0)
  | s, made, c :: r => if (withU s c.1 c.2).2 = 0 then writeL (withU s c.1 c.2).1 (if decide (c.1 ∈ s) = c.2 then made ++ [c] else made) r else ([], [], (withU s c.1 c.2).2)
def writeR (s : List U) (l cs : List CH) : List U × List CH × Int :=
  if cE 32 l = 0 then (if cE 32 cs = 0 then (if (firstR s l).2 = 0 then writeL s [] cs else ([], [], (firstR s l).2)) else ([], [], cE 32 cs)) else ([], [], cE 32 l)
/-- Is the must at place i possible, those ahead of it being so? -/
def posAt (l : List CH) (i : Nat) : Bool := match l[i]? with
  | none => true
  | some m => (m.2 || decide (tE m.1 = 0)) && (l.take i).all fun p => !decide (p.1 = m.1) || p.2 == m.2
def possB (l : List CH) : Bool := (List.range l.length).all (posAt l)
theorem possB_iff (l : List CH) : possB l = true ↔ ∀ i, posAt l i = true := by
  unfold possB
  rw [List.all_eq_true]
  constructor
  · intro h i
    by_cases hi : i < l.length
    · exact h i (List.mem_range.2 hi)
    · unfold posAt
      rw [List.getElem?_eq_none (by omega)]
  · exact fun h i _ => h i
theorem possB_no {l : List CH} {i : Nat} (h : posAt l i = false) : possB l = false := by
  cases hp : possB l
  · rfl
  · rw [(possB_iff l).1 hp i] at h; cases h
theorem posAt_some {l : List CH} {i : Nat} {m : CH} (hm : l[i]? = some m) : posAt l i = true ↔ (m.2 = false → tE m.1 = 0) ∧ ∀ p ∈ l.take i, p.1 = m.1 → p.2 = m.2 := by
  unfold posAt
  rw [hm]
  dsimp only
  rw [Bool.and_eq_true, List.all_eq_true]
  constructor
  · rintro ⟨h1, h2⟩
    refine ⟨fun hf => ?_, fun p hp he => ?_⟩
    · rw [hf] at h1; simpa using h1
    · have := h2 p hp
      rw [decide_eq_true he] at this
      simpa using this
  · rintro ⟨h1, h2⟩
    refine ⟨?_, fun p hp => ?_⟩
    · cases hm2 : m.2
      · simpa using h1 hm2
      · rfl
    · by_cases he : p.1 = m.1
      · rw [decide_eq_true he, h2 p hp he]; simp
      · rw [decide_eq_false he]; rfl
end Go.V.L8
/- The kit: fields of no size. -/
namespace Go.V
open Go.RowKit
/-- A field of no size can be pointed to. -/
def fzI (P : Program) (t' st : TypeId) (off i : Nat) : Bool :=
  match P.underlying st with
  | some (.struct fs) => match fs[i]? with
    | some f => (match P.info? f.type with | some j => j.size == 0 | none => false) && (!(P.cellsOf t' == 0) && ((byteOfCell P P.depth t' (off % P.cellsOf t')).isSome && (byteOfCell P P.depth t' ((off + f.offset) % P.cellsOf t')).isSome))
    | none => false
  | _ => false
def PtrS : Value → Heap → Prop := fun v _ => ∃ a, v = .pointer (some a)
theorem PtrS.mono : Kn.mono (.sat PtrS) := fun _ _ _ h _ => h
section
variable {P : Program} {F : Fr} {B : Heap} {O : Boxes} {n : Nat} {ops : Array Oper} {κ : Kap} {d : Nat} {ty : TypeId} {pos : String} {aft : Array Edge} {g : Option (Nat × Bool)}
theorem run_byteOf {u : World} {b off k : Nat} {cs : Array Value} {e : TypeId} {fr : Nat × Nat} (h : u.heap[b]? = some (.cells cs e fr)) (hs : P.cellsOf e ≠ 0) (hb : byteOfCell P P.depth e (off % P.cellsOf e) = some k) :
    (byteOf ⟨b, off, none⟩).run P u = .ok (off / P.cellsOf e * P.bytesOf e + k) u := by
  have hsh : u.shape? b = some (e, cs.size) := by unfold World.shape?; rw [h]
  simp only [byteOf, Sem.run_bind, run_program, Result.andThen_ok, noView, viewAt, shape, Sem.run, hsh, Option.isSome_some, if_true, Sem.run_pure, Option.isSome_none, Bool.false_eq_true, if_false, Option.isSome]
  simp [hs, hb, hsh]
theorem run_fieldZ {u : World} {st t' : TypeId} {b off i : Nat} {cs : Array Value} {fr : Nat × Nat} (hz : fzI P t' st off i = true) (hb : u.heap[b]? = some (.cells cs t' fr)) :
    ∃ a, (Instr.fieldAt st (.pointer (some ⟨b, off, none⟩)) i).run P u = .ok (.pointer (some a)) u := by
  unfold fzI at hz
  split at hz
  · rename_i fs hu
    split at hz
    · rename_i f hf
      split at hz
      · rename_i j hj
        simp only [Bool.and_eq_true, beq_iff_eq, Bool.not_eq_true', beq_eq_false_iff_ne, ne_eq, Option.isSome_iff_exists] at hz
        obtain ⟨hj0, hc, ⟨k1, h1⟩, k2, h2⟩ := hz
        have r1 := run_byteOf (P := P) hb hc h1
        have r2 := run_byteOf (P := P) hb hc h2
        have hsz : (sizeOf f.type).run P u = .ok 0 u := by simp [sizeOf, typeInfo, hj, hj0]
        have hun := run_underlying (P := P) (w := u) hu
        have hfp : ∃ a, (fieldPlace ⟨b, off, none⟩ f).run P u = .ok a u := by
          simp only [fieldPlace, Sem.run_bind, hsz, Result.andThen_ok, if_true, partAt, r1, r2, Sem.run_pure]
          exact ⟨_, rfl⟩
        obtain ⟨a, ha⟩ := hfp
        refine ⟨a, ?_⟩
        simp only [Instr.fieldAt, Sem.run_bind, hun, Result.andThen_ok, hf, Instr.sureAddr, Sem.run_pure, ha]
      · simp at hz
    · cases hz
  · cases hz
theorem built_of {t : TypeId} {places : List (Nat × Nat)} {z cs : List Value} {vs : List (Nat × Value)} (hp : PL P t places z) (hc : buildL places z vs = some cs) : P.built t vs = some cs.toArray := by
  obtain ⟨zv, hz1, hz2⟩ := hp.zr
  have hpl := hp.pl
  unfold plI at hpl
  unfold zrI at hz1
  split at hz1
  · rename_i it hit
    unfold Program.built
    split at hpl
    · rename_i fs hu
      simp only [hit, hu, hz1, hpl]
      rw [cellsL_eq, hz2]
      exact fill_buildL (fun i p h => by simpa using h) vs z cs hc
    · rename_i m el hu
      split at hpl
      · rename_i ie hie
        simp only [hit, hu, hz1, hie]
        cases hpl
        rw [cellsL_eq, hz2]
        exact fill_buildL (fun i p h => by
          rw [List.getElem?_map] at h
          cases hr : (List.range m)[i]? with
          | none => rw [hr] at h; cases h
          | some j =>
            rw [hr] at h
            have : j = i := by
              have := List.getElem?_eq_some_iff.1 hr
              obtain ⟨h1, h2⟩ := this
              simpa using h2.symm
            subst this
            simpa using h) vs z cs hc
      · cases hpl
    · cases hpl
  · cases hz1
/-- The address of a field of no size, of a block that is seen. -/
theorem ok_fieldZA {t : Nat} {t' st : TypeId} {i off : Nat} {cs : List Value} (hx : κ t = some (.sat (At cs t' off))) (hn : Nat.blt d n = true) (hg : gK ops κ ⟨some d, .fieldAddr st (.tmp t) i, ty, pos, aft, g⟩ = some true)
    (hz : fzI P t' st off i = true) : StepOK P F B n ops O κ ⟨some d, .fieldAddr st (.tmp t) i, ty, pos, aft, g⟩ d (.sat PtrS) :=
  ok_pure rfl (blt_lt hn) hg PtrS.mono fun a u H fp e => by
    obtain ⟨b, hv, hb⟩ := e.sat_ t _ (by simp [Op.operands]) hx
    obtain ⟨ad, hr⟩ := run_fieldZ hz (e.sub _ _ hb)
    refine ⟨_, ?_, ad, rfl⟩
    simp only [execOp, hv, Sem.run_bind, hr, Result.andThen_ok]
    rfl
/-- .. of a block of the base. -/
theorem ok_fieldZP {x : Operand} {t' st : TypeId} {i b off : Nat} {cs : Array Value} {fr : Nat × Nat} (hb : B b = some (.cells cs t' fr)) (hx : evK κ x = some (.pointer (some ⟨b, off, none⟩))) (hn : Nat.blt d n = true) (hg : gK ops κ ⟨some d, .fieldAddr st x i, ty, pos, aft, g⟩ = some true)
    (hz : fzI P t' st off i = true) : StepOK P F B n ops O κ ⟨some d, .fieldAddr st x i, ty, pos, aft, g⟩ d (.sat PtrS) :=
  ok_pure rfl (blt_lt hn) hg PtrS.mono fun a u H fp e => by
    have hv := e.is_ x _ (by simp [Op.operands]) hx
    obtain ⟨ad, hr⟩ := run_fieldZ hz (e.sub _ _ (e.base _ _ hb))
    refine ⟨_, ?_, ad, rfl⟩
    simp only [execOp, hv, Sem.run_bind, hr, Result.andThen_ok]
    rfl
/-- A load of no size. -/
theorem ok_loadZ (L : Tabs P) {q : Nat} {t : TypeId} (hx : κ q = some (.sat PtrS)) (hn : Nat.blt d n = true) (hg : gK ops κ ⟨some d, .load t (.tmp q), ty, pos, aft, g⟩ = some true) (ht : L.ld t = some (true, 0)) :
    StepOK P F B n ops O κ ⟨some d, .load t (.tmp q), ty, pos, aft, g⟩ d (.is (.agg #[])) :=
  ok_pure rfl (blt_lt hn) hg trivial fun a u H fp e => by
    obtain ⟨ad, hv⟩ := e.sat_ q _ (by simp [Op.operands]) hx
    refine ⟨.agg #[], ?_, rfl⟩
    simp only [execOp, hv, Instr.loadAt, Instr.sureAddr, Sem.run_bind, Sem.run_pure, Result.andThen_ok]
    rw [run_loadVar_agg (Tabs.ld_spec ht) u ad [] rfl (fun j v hj => by simp at hj)]
    rfl
/-- A struct is put together of parts that are known by what they satisfy. -/
theorem ok_buildS {t : TypeId} {parts : Array (Nat × Operand)} {places : List (Nat × Nat)} {z : List Value} {ψ : Value → Heap → Prop} (hn : Nat.blt d n = true) (hg : gK ops κ ⟨some d, .build t parts, ty, pos, aft, g⟩ = some true)
    (hp : PL P t places z) (hm : Kn.mono (.sat ψ)) (h : ∀ H, B.Le H → Args κ H (parts.toList.map (·.2)) [] (fun vs => ∃ cs, buildL places z ((parts.toList.map (·.1)).zip vs) = some cs ∧ ψ (.agg cs.toArray) H)) :
    StepOK P F B n ops O κ ⟨some d, .build t parts, ty, pos, aft, g⟩ d (.sat ψ) := by
  rintro κ' a u hl ⟨H, fp, hh⟩
  unfold After
  rw [if_pos (wanted_gK hh hl hg)]
  have e := hh.env (o := ⟨some d, .build t parts, ty, pos, aft, g⟩) hl
  have hc := Args.use e (parts.toList.map (·.2)) [] (fun x hx => by
    simp only [Op.operands]
    obtain ⟨q, hq, rfl⟩ := List.mem_map.1 hx
    simp
    exact ⟨q.1, by simpa using hq⟩) (h H e.base)
  obtain ⟨cs, hb, hψ⟩ := hc
  simp only [List.reverse_nil, List.nil_append, List.map_map] at hb
  have hz : (parts.toList.map (·.1)).zip (parts.toList.map (a.eval ∘ (·.2))) = parts.toList.map fun p => (p.1, a.eval p.2) := by
    generalize parts.toList = l
    induction l with
    | nil => rfl
    | cons x l ih => simp only [List.map_cons, List.zip_cons_cons, ih]; rfl
  rw [hz] at hb
  have hbt := built_of hp hb
  have hr := run_build (P := P) u t (parts.toList.map fun p => (p.1, a.eval p.2)).toArray cs.toArray (by simpa using hbt)
  have harr : (parts.map fun (p : Nat × Operand) => (p.1, a.eval p.2)) = (parts.toList.map fun p => (p.1, a.eval p.2)).toArray := by
    rw [← List.map_toArray, Array.toArray_toList]
  have hrun : (execOp a.eval ⟨some d, .build t parts, ty, pos, aft, g⟩).run P u = .ok (.value (.agg cs.toArray)) u := by
    simp only [execOp, Sem.run_bind]
    show Result.andThen ((Instr.build t (parts.map fun (p : Nat × Operand) => (p.1, a.eval p.2))).run P u) _ = _
    rw [harr, hr]
    rfl
  rw [hrun]
  simp only [Upon]
  exact ⟨H, fp, hh.put (blt_lt hn) hm hψ⟩
end
end Go.V
/- The walks of trees at countersign/api.Tuple, struct{}: nodes, their balance. -/
namespace Go.V.UT
open Go.Proofs Go.RowKit Go.V
abbrev KT := ((ByteArray × ByteArray) × ByteArray) × ((ByteArray × ByteArray) × ByteArray)
abbrev VT := Unit
abbrev kv (k : KT) : Value := .agg #[.string k.1.1.1, .string k.1.1.2, .string k.1.2, .string k.2.1.1, .string k.2.1.2, .string k.2.2]
abbrev vv (x : VT) : Value := .agg #[]
abbrev pl (k : KT) (x : VT) : List Value := [.string k.1.1.1, .string k.1.1.2, .string k.1.2, .string k.2.1.1, .string k.2.1.2, .string k.2.2]
abbrev nl (k : KT) (x : VT) (l r : Value) (s d : Int) : List Value := [.string k.1.1.1, .string k.1.1.2, .string k.1.2, .string k.2.1.1, .string k.2.1.2, .string k.2.2] ++ [l, r, .int .i64 s, .int .i64 d]
abbrev TA (t : Tr KT VT) : Value → Heap → Prop := Tr.TreeAt nl 147 t
theorem TA.mono {t : Tr KT VT} : Kn.mono (.sat (TA t)) := Tr.TreeAt.mono
theorem TA.le {t : Tr KT VT} {v : Value} {H H' : Heap} (h : TA t v H) (hle : H.Le H') : TA t v H' := Tr.TreeAt.le h hle
theorem TA.ptr {t : Tr KT VT} {v : Value} {H : Heap} (h : TA t v H) : ∃ p, v = .pointer p := by
  cases t with
  | nil => exact ⟨_, h⟩
  | node k x l r => obtain ⟨b, lv, rv, h, _⟩ := h; exact ⟨_, h⟩
attribute [local irreducible] V N X VO Par StepOK Has Ret RetL Src
theorem size_ret (t : Tr KT VT) {v : Value} {w : World} {B : Heap} (hB : B.Le (hp w)) (hv : TA t v B) : Ret Try.prog 87 [v] w B (fun v _ => v = .int .i64 t.size) := by
  cases t with
  | nil =>
    obtain rfl : v = .pointer none := hv
    refine V_enter Try.func87 rfl Try.ntmps87 (Nat.le_of_ble_eq_true rfl) hB ?_
    refine V_seq ?_; refine V_region (id := 0) ?_; refine vo_step (ok_assign rfl rfl rfl) rfl ?_; refine vo_nil ?_; refine N_seq ?_; refine V_seq ?_; refine V_seq ?_; refine V_region (id := 1) ?_; refine vo_step (ok_move rfl rfl rfl) rfl ?_; refine vo_step (ok_neql rfl rfl rfl rfl nk35 rfl) rfl ?_; refine vo_nil ?_; refine N_seq ?_; refine V_true rfl ?_; refine V_seq ?_; refine V_region (id := 2) ?_; refine vo_step (ok_assign rfl rfl rfl) rfl ?_; refine vo_nil ?_; refine N_seq ?_
    refine V_ret L (rs := [.tmp 2]) rfl (fun _ _ h => h) Since.refl fun u H hH hle => ?_
    rfl
  | node k x l r =>
    obtain ⟨b, lv, rv, rfl, hb, _, _⟩ := hv
    refine V_enter Try.func87 rfl Try.ntmps87 (Nat.le_of_ble_eq_true rfl) hB ?_
    refine V_seq ?_; refine V_region (id := 0) ?_; refine vo_step (ok_assign rfl rfl rfl) rfl ?_; refine vo_nil ?_; refine N_seq ?_; refine V_seq ?_; refine V_seq ?_; refine V_region (id := 1) ?_; refine vo_step (ok_move rfl rfl rfl) rfl ?_; refine vo_step (ok_neql rfl rfl rfl rfl nk35 rfl) rfl ?_; refine vo_nil ?_; refine N_seq ?_; refine V_false rfl ?_; refine V_skip ?_; refine N_seq ?_; refine V_seq ?_; refine V_region (id := 3) ?_; refine vo_step (ok_move rfl rfl rfl) rfl ?_; refine vo_step (ok_nil rfl rfl rfl) rfl ?_; refine vo_step (ok_fieldP L rfl rfl rfl rfl) rfl ?_; refine vo_step (ok_load1 L (src_base rfl (by assumption)) rfl rfl rfl rfl) rfl ?_; refine vo_step (ok_assign rfl rfl rfl) rfl ?_; refine vo_nil ?_; refine N_seq ?_
    refine V_ret L (rs := [.tmp 2]) rfl (fun _ _ h => h) Since.refl fun u H hH hle => ?_
    rfl
theorem deep_ret (t : Tr KT VT) {v : Value} {w : World} {B : Heap} (hB : B.Le (hp w)) (hv : TA t v B) : Ret Try.prog 130 [v] w B (fun v _ => v = .int .i64 t.deep) := by
  cases t with
  | nil =>
    obtain rfl : v = .pointer none := hv
    refine V_enter Try.func130 rfl Try.ntmps130 (Nat.le_of_ble_eq_true rfl) hB ?_
    refine V_seq ?_; refine V_region (id := 0) ?_; refine vo_step (ok_assign rfl rfl rfl) rfl ?_; refine vo_nil ?_; refine N_seq ?_; refine V_seq ?_; refine V_seq ?_; refine V_region (id := 1) ?_; refine vo_step (ok_move rfl rfl rfl) rfl ?_; refine vo_step (ok_neql rfl rfl rfl rfl nk35 rfl) rfl ?_; refine vo_nil ?_; refine N_seq ?_; refine V_true rfl ?_; refine V_seq ?_; refine V_region (id := 2) ?_; refine vo_step (ok_assign rfl rfl rfl) rfl ?_; refine vo_nil ?_; refine N_seq ?_
    refine V_ret L (rs := [.tmp 2]) rfl (fun _ _ h => h) Since.refl fun u H hH hle => ?_
    rfl
  | node k x l r =>
    obtain ⟨b, lv, rv, rfl, hb, _, _⟩ := hv
    refine V_enter Try.func130 rfl Try.ntmps130 (Nat.le_of_ble_eq_true rfl) hB ?_
    refine V_seq ?_; refine V_region (id := 0) ?_; refine vo_step (ok_assign rfl rfl rfl) rfl ?_; refine vo_nil ?_; refine N_seq ?_; refine V_seq ?_; refine V_seq ?_; refine V_region (id := 1) ?_; refine vo_step (ok_move rfl rfl rfl) rfl ?_; refine vo_step (ok_neql rfl rfl rfl rfl nk35 rfl) rfl ?_; refine vo_nil ?_; refine N_seq ?_; refine V_false rfl ?_; refine V_skip ?_; refine N_seq ?_; refine V_seq ?_; refine V_region (id := 3) ?_; refine vo_step (ok_move rfl rfl rfl) rfl ?_; refine vo_step (ok_nil rfl rfl rfl) rfl ?_; refine vo_step (ok_fieldP L rfl rfl rfl rfl) rfl ?_; refine vo_step (ok_load1 L (src_base rfl (by assumption)) rfl rfl rfl rfl) rfl ?_; refine vo_step (ok_assign rfl rfl rfl) rfl ?_; refine vo_nil ?_; refine N_seq ?_
    refine V_ret L (rs := [.tmp 2]) rfl (fun _ _ h => h) Since.refl fun u H hH hle => ?_
    rfl
theorem max_int (a b : Nat) : (if ((b : Nat) : Int) > (a : Int) then ((b : Nat) : Int) else (a : Int)) = ((max a b : Nat) : Int) := by
  split <;> omega
theorem join_ret (k : KT) (x : VT) (l r : Tr KT VT) {lv rv : Value} {w : World} {B : Heap} (hB : B.Le (hp w)) (hl : TA l lv B) (hr : TA r rv B) (hs : l.size + r.size < 1099511627776) :
    Ret Try.prog 127 [.agg (pl k x).toArray, lv, rv] w B (TA (.node k x l r)) := by
  obtain ⟨pl', rfl⟩ := hl.ptr
  obtain ⟨pr, rfl⟩ := hr.ptr
  have hdl := l.deep_le
  have hdr := r.deep_le
  refine V_enter Try.func127 rfl Try.ntmps127 (Nat.le_of_ble_eq_true rfl) hB ?_
  refine V_seq ?_; refine V_region (id := 0) ?_; refine vo_step (ok_box rfl rfl rfl rfl) rfl ?_; refine vo_step (ok_assign rfl rfl rfl) rfl ?_; refine vo_nil ?_; refine N_seq ?_; refine V_seq ?_; refine V_regionD (id := 1) [] mixed (by kernel_rfl) ?_; refine par_step (ok_loadA L (vs := [_, _, _, _, _, _]) (src_at rfl) rfl rfl rfl rfl ⟨_, rfl⟩) rfl ?_; refine par_step (ok_move rfl rfl rfl) rfl ?_; refine par_step (ok_move rfl rfl rfl) rfl ?_; refine par_step (ok_move rfl rfl rfl) rfl ?_; refine par_step (ok_callx L rfl rfl (blt_lt rfl) rfl rfl rfl (fun u H hH hle _ => UT.size_ret _ hH (UT.TA.le (by assumption) hle))) rfl ?_; refine par_step (ok_add rfl rfl rfl rfl (wrap_i64 (by omega) (by omega))) rfl ?_; refine par_step (ok_move rfl rfl rfl) rfl ?_; refine par_step (ok_callx L rfl rfl (blt_lt rfl) rfl rfl rfl (fun u H hH hle _ => UT.size_ret _ hH (UT.TA.le (by assumption) hle))) rfl ?_; refine par_step (ok_add rfl rfl rfl rfl (wrap_i64 (by omega) (by omega))) rfl ?_; refine par_step (ok_move rfl rfl rfl) rfl ?_; refine par_step (ok_callx L rfl rfl (blt_lt rfl) rfl rfl rfl (fun u H hH hle _ => UT.deep_ret _ hH (UT.TA.le (by assumption) hle))) rfl ?_; refine par_step (ok_move rfl rfl rfl) rfl ?_; refine par_step (ok_callx L rfl rfl (blt_lt rfl) rfl rfl rfl (fun u H hH hle _ => UT.deep_ret _ hH (UT.TA.le (by assumption) hle))) rfl ?_; refine par_step (ok_max rfl rfl rfl rfl rfl) rfl ?_; refine par_step (ok_add rfl rfl rfl rfl (wrap_i64 (by omega) (by omega))) rfl ?_; refine par_step (ok_build (cs := [_, _, _, _, _, _, _, _, _, _]) rfl rfl pl147 rfl rfl) rfl ?_; refine par_step (ok_box rfl rfl rfl rfl) rfl ?_; refine par_step (ok_assigns' rfl rfl rfl) rfl ?_; refine par_nil ?_; refine N_seq ?_
  refine V_ret L (rs := [.tmp 6]) rfl (fun _ _ h => h) Since.refl fun u H hH hle => ?_
  rintro _ ⟨b, rfl, hb⟩
  refine ⟨b, _, _, rfl, ?_, TA.le hl hle, TA.le hr hle⟩
  rw [max_int] at hb
  simpa [Tr.size_node, Tr.deep_node] using hb
theorem bal_ret (k : KT) (x : VT) (l r : Tr KT VT) {lv rv : Value} {w : World} {B : Heap} (hB : B.Le (hp w)) (hl : TA l lv B) (hr : TA r rv B) (hs : l.size + r.size < 1099511627776) :
    Ret Try.prog 125 [.agg (pl k x).toArray, lv, rv] w B (TA (Tr.bal k x l r)) := by
  have hdl := l.deep_le
  have hdr := r.deep_le
  refine V_enter Try.func125 rfl Try.ntmps125 (Nat.le_of_ble_eq_true rfl) hB ?_
  unfold Tr.bal
  by_cases h1 : l.deep > r.deep + 1
  · rw [if_pos h1]
    cases l with
    | nil => simp [Tr.deep] at h1
    | node lk lx ll lr =>
      have hl0 := hl; obtain ⟨b1, v1, v2, rfl, hb1, hll, hlr⟩ := hl
      have hd1 := ll.deep_le
      have hd2 := lr.deep_le
      simp only [Tr.size_node] at hs hdl
      dsimp only
      by_cases h2 : ll.deep ≥ lr.deep
      · rw [if_pos h2]
        refine V_seq ?_; refine V_region (id := 0) ?_; refine vo_step (ok_box rfl rfl rfl rfl) rfl ?_; refine vo_step (ok_assign rfl rfl rfl) rfl ?_; refine vo_nil ?_; refine N_seq ?_; refine V_seq ?_; refine V_seq ?_; refine V_region (id := 1) ?_; refine vo_step (ok_move rfl rfl rfl) rfl ?_; refine vo_step (ok_callx L rfl rfl (blt_lt rfl) rfl rfl rfl (fun u H hH hle _ => UT.deep_ret _ hH (UT.TA.le (by assumption) hle))) rfl ?_; refine vo_step (ok_move rfl rfl rfl) rfl ?_; refine vo_step (ok_callx L rfl rfl (blt_lt rfl) rfl rfl rfl (fun u H hH hle _ => UT.deep_ret _ hH (UT.TA.le (by assumption) hle))) rfl ?_; refine vo_step (ok_sub rfl rfl rfl rfl (wrap_i64 (by omega) (by omega))) rfl ?_; refine vo_step (ok_assign rfl rfl rfl) rfl ?_; refine vo_nil ?_; refine N_seq ?_; refine V_block ?_; refine V_seq ?_; refine V_regionD (id := 2) [] mixed (by kernel_rfl) ?_; refine par_step (ok_move rfl rfl rfl) rfl ?_; refine par_step (ok_gtr rfl rfl rfl rfl (decide_eq_true (by omega))) rfl ?_; refine par_step (ok_move rfl rfl rfl) rfl ?_; refine par_step (ok_move rfl rfl rfl) rfl ?_; refine par_step (ok_nil rfl rfl rfl) rfl ?_; refine par_step (ok_fieldP L rfl rfl rfl rfl) rfl ?_; refine par_step (ok_load1 L (src_base rfl (by assumption)) rfl rfl rfl rfl) rfl ?_; refine par_step (ok_callx L rfl rfl (blt_lt rfl) rfl rfl rfl (fun u H hH hle _ => UT.deep_ret _ hH (UT.TA.le (by assumption) hle))) rfl ?_; refine par_step (ok_move rfl rfl rfl) rfl ?_; refine par_step (ok_nil rfl rfl rfl) rfl ?_; refine par_step (ok_fieldP L rfl rfl rfl rfl) rfl ?_; refine par_step (ok_load1 L (src_base rfl (by assumption)) rfl rfl rfl rfl) rfl ?_; refine par_step (ok_callx L rfl rfl (blt_lt rfl) rfl rfl rfl (fun u H hH hle _ => UT.deep_ret _ hH (UT.TA.le (by assumption) hle))) rfl ?_; refine par_step (ok_geq rfl rfl rfl rfl (decide_eq_true (by omega))) rfl ?_; refine par_step (ok_pick rfl rfl rfl rfl) rfl ?_; refine par_step (ok_assign rfl rfl rfl) rfl ?_; refine par_nil ?_; refine N_seq ?_; refine V_true rfl ?_; refine V_seq ?_; refine V_regionD (id := 3) [] mixed (by kernel_rfl) ?_; refine par_step (ok_move rfl rfl rfl) rfl ?_; refine par_step (ok_nil rfl rfl rfl) rfl ?_; refine par_step (ok_fieldP L rfl rfl rfl rfl) rfl ?_; refine par_step (ok_loadA L (vs := [_, _, _, _, _, _]) (src_base rfl (by assumption)) rfl rfl rfl rfl ⟨_, rfl⟩) rfl ?_; refine par_step (ok_move rfl rfl rfl) rfl ?_; refine par_step (ok_nil rfl rfl rfl) rfl ?_; refine par_step (ok_fieldP L rfl rfl rfl rfl) rfl ?_; refine par_step (ok_load1 L (src_base rfl (by assumption)) rfl rfl rfl rfl) rfl ?_; refine par_step (ok_loadA L (vs := [_, _, _, _, _, _]) (src_at rfl) rfl rfl rfl rfl ⟨_, rfl⟩) rfl ?_; refine par_step (ok_move rfl rfl rfl) rfl ?_; refine par_step (ok_nil rfl rfl rfl) rfl ?_; refine par_step (ok_fieldP L rfl rfl rfl rfl) rfl ?_; refine par_step (ok_load1 L (src_base rfl (by assumption)) rfl rfl rfl rfl) rfl ?_; refine par_step (ok_move rfl rfl rfl) rfl ?_; refine par_step (ok_call L rfl rfl (blt_lt rfl) rfl rfl rfl UT.TA.mono (fun u H hH hle _ => UT.join_ret _ () _ _ hH (UT.TA.le (by assumption) hle) (UT.TA.le (by assumption) hle) (by first | omega | (simp only [Tr.size_node]; omega)))) rfl ?_; refine par_step (ok_call L rfl rfl (blt_lt rfl) rfl rfl rfl UT.TA.mono (fun u H hH hle _ v1 hv1 => UT.join_ret _ () _ _ hH (UT.TA.le (by assumption) hle) hv1 (by first | omega | (simp only [Tr.size_node]; omega)))) rfl ?_; refine par_step (ok_assigns' rfl rfl rfl) rfl ?_; refine par_nil ?_; refine N_seq ?_
        refine V_ret L (rs := [.tmp 6]) rfl (fun _ _ h => h) Since.refl fun u H hH hle => ?_
        exact fun v hv => hv
      · rw [if_neg h2]
        cases lr with
        | nil => simp [Tr.deep] at h2
        | node mk mx ml mr =>
          have hlr0 := hlr; obtain ⟨b2, v3, v4, rfl, hb2, hml, hmr⟩ := hlr
          simp only [Tr.size_node] at hs hdl hd2
          refine V_seq ?_; refine V_region (id := 0) ?_; refine vo_step (ok_box rfl rfl rfl rfl) rfl ?_; refine vo_step (ok_assign rfl rfl rfl) rfl ?_; refine vo_nil ?_; refine N_seq ?_; refine V_seq ?_; refine V_seq ?_; refine V_region (id := 1) ?_; refine vo_step (ok_move rfl rfl rfl) rfl ?_; refine vo_step (ok_callx L rfl rfl (blt_lt rfl) rfl rfl rfl (fun u H hH hle _ => UT.deep_ret _ hH (UT.TA.le (by assumption) hle))) rfl ?_; refine vo_step (ok_move rfl rfl rfl) rfl ?_; refine vo_step (ok_callx L rfl rfl (blt_lt rfl) rfl rfl rfl (fun u H hH hle _ => UT.deep_ret _ hH (UT.TA.le (by assumption) hle))) rfl ?_; refine vo_step (ok_sub rfl rfl rfl rfl (wrap_i64 (by omega) (by omega))) rfl ?_; refine vo_step (ok_assign rfl rfl rfl) rfl ?_; refine vo_nil ?_; refine N_seq ?_; refine V_block ?_; refine V_seq ?_; refine V_regionD (id := 2) [] mixed (by kernel_rfl) ?_; refine par_step (ok_move rfl rfl rfl) rfl ?_; refine par_step (ok_gtr rfl rfl rfl rfl (decide_eq_true (by omega))) rfl ?_; refine par_step (ok_move rfl rfl rfl) rfl ?_; refine par_step (ok_move rfl rfl rfl) rfl ?_; refine par_step (ok_nil rfl rfl rfl) rfl ?_; refine par_step (ok_fieldP L rfl rfl rfl rfl) rfl ?_; refine par_step (ok_load1 L (src_base rfl (by assumption)) rfl rfl rfl rfl) rfl ?_; refine par_step (ok_callx L rfl rfl (blt_lt rfl) rfl rfl rfl (fun u H hH hle _ => UT.deep_ret _ hH (UT.TA.le (by assumption) hle))) rfl ?_; refine par_step (ok_move rfl rfl rfl) rfl ?_; refine par_step (ok_nil rfl rfl rfl) rfl ?_; refine par_step (ok_fieldP L rfl rfl rfl rfl) rfl ?_; refine par_step (ok_load1 L (src_base rfl (by assumption)) rfl rfl rfl rfl) rfl ?_; refine par_step (ok_callx L rfl rfl (blt_lt rfl) rfl rfl rfl (fun u H hH hle _ => UT.deep_ret _ hH (UT.TA.le (by assumption) hle))) rfl ?_; refine par_step (ok_geq rfl rfl rfl rfl (decide_eq_false (by omega))) rfl ?_; refine par_step (ok_pick rfl rfl rfl rfl) rfl ?_; refine par_step (ok_assign rfl rfl rfl) rfl ?_; refine par_nil ?_; refine N_seq ?_; refine V_false rfl ?_; refine V_seq ?_; refine V_region (id := 4) ?_; refine vo_step (ok_move rfl rfl rfl) rfl ?_; refine vo_step (ok_gtr rfl rfl rfl rfl (decide_eq_true (by omega))) rfl ?_; refine vo_step (ok_assign rfl rfl rfl) rfl ?_; refine vo_nil ?_; refine N_seq ?_; refine V_true rfl ?_; refine V_seq ?_; refine V_region (id := 5) ?_; refine vo_step (ok_move rfl rfl rfl) rfl ?_; refine vo_step (ok_nil rfl rfl rfl) rfl ?_; refine vo_step (ok_fieldP L rfl rfl rfl rfl) rfl ?_; refine vo_step (ok_load1 L (src_base rfl (by assumption)) rfl rfl rfl rfl) rfl ?_; refine vo_step (ok_assign rfl rfl rfl) rfl ?_; refine vo_nil ?_; refine N_seq ?_; refine V_seq ?_; refine V_regionD (id := 6) [] mixed (by kernel_rfl) ?_; refine par_step (ok_move rfl rfl rfl) rfl ?_; refine par_step (ok_nil rfl rfl rfl) rfl ?_; refine par_step (ok_fieldP L rfl rfl rfl rfl) rfl ?_; refine par_step (ok_loadA L (vs := [_, _, _, _, _, _]) (src_base rfl (by assumption)) rfl rfl rfl rfl ⟨_, rfl⟩) rfl ?_; refine par_step (ok_move rfl rfl rfl) rfl ?_; refine par_step (ok_nil rfl rfl rfl) rfl ?_; refine par_step (ok_fieldP L rfl rfl rfl rfl) rfl ?_; refine par_step (ok_loadA L (vs := [_, _, _, _, _, _]) (src_base rfl (by assumption)) rfl rfl rfl rfl ⟨_, rfl⟩) rfl ?_; refine par_step (ok_move rfl rfl rfl) rfl ?_; refine par_step (ok_nil rfl rfl rfl) rfl ?_; refine par_step (ok_fieldP L rfl rfl rfl rfl) rfl ?_; refine par_step (ok_load1 L (src_base rfl (by assumption)) rfl rfl rfl rfl) rfl ?_; refine par_step (ok_move rfl rfl rfl) rfl ?_; refine par_step (ok_nil rfl rfl rfl) rfl ?_; refine par_step (ok_fieldP L rfl rfl rfl rfl) rfl ?_; refine par_step (ok_load1 L (src_base rfl (by assumption)) rfl rfl rfl rfl) rfl ?_; refine par_step (ok_call L rfl rfl (blt_lt rfl) rfl rfl rfl UT.TA.mono (fun u H hH hle _ => UT.join_ret _ () _ _ hH (UT.TA.le (by assumption) hle) (UT.TA.le (by assumption) hle) (by first | omega | (simp only [Tr.size_node]; omega)))) rfl ?_; refine par_step (ok_loadA L (vs := [_, _, _, _, _, _]) (src_at rfl) rfl rfl rfl rfl ⟨_, rfl⟩) rfl ?_; refine par_step (ok_move rfl rfl rfl) rfl ?_; refine par_step (ok_nil rfl rfl rfl) rfl ?_; refine par_step (ok_fieldP L rfl rfl rfl rfl) rfl ?_; refine par_step (ok_load1 L (src_base rfl (by assumption)) rfl rfl rfl rfl) rfl ?_; refine par_step (ok_move rfl rfl rfl) rfl ?_; refine par_step (ok_call L rfl rfl (blt_lt rfl) rfl rfl rfl UT.TA.mono (fun u H hH hle _ => UT.join_ret _ () _ _ hH (UT.TA.le (by assumption) hle) (UT.TA.le (by assumption) hle) (by first | omega | (simp only [Tr.size_node]; omega)))) rfl ?_; refine par_step (ok_call L rfl rfl (blt_lt rfl) rfl rfl rfl UT.TA.mono (fun u H hH hle _ v1 hv1 v2 hv2 => UT.join_ret _ () _ _ hH hv1 hv2 (by first | omega | (simp only [Tr.size_node]; omega)))) rfl ?_; refine par_step (ok_assigns' rfl rfl rfl) rfl ?_; refine par_nil ?_; refine N_seq ?_
          refine V_ret L (rs := [.tmp 6]) rfl (fun _ _ h => h) Since.refl fun u H hH hle => ?_
          exact fun v hv => hv
  · rw [if_neg h1]
    by_cases h3 : r.deep > l.deep + 1
    · rw [if_pos h3]
      cases r with
      | nil => simp [Tr.deep] at h3
      | node rk rx rl rr =>
        have hr0 := hr; obtain ⟨b1, v1, v2, rfl, hb1, hrl, hrr⟩ := hr
        have hd1 := rl.deep_le
        have hd2 := rr.deep_le
        simp only [Tr.size_node] at hs hdr
        dsimp only
        by_cases h2 : rr.deep ≥ rl.deep
        · rw [if_pos h2]
          refine V_seq ?_; refine V_region (id := 0) ?_; refine vo_step (ok_box rfl rfl rfl rfl) rfl ?_; refine vo_step (ok_assign rfl rfl rfl) rfl ?_; refine vo_nil ?_; refine N_seq ?_; refine V_seq ?_; refine V_seq ?_; refine V_region (id := 1) ?_; refine vo_step (ok_move rfl rfl rfl) rfl ?_; refine vo_step (ok_callx L rfl rfl (blt_lt rfl) rfl rfl rfl (fun u H hH hle _ => UT.deep_ret _ hH (UT.TA.le (by assumption) hle))) rfl ?_; refine vo_step (ok_move rfl rfl rfl) rfl ?_; refine vo_step (ok_callx L rfl rfl (blt_lt rfl) rfl rfl rfl (fun u H hH hle _ => UT.deep_ret _ hH (UT.TA.le (by assumption) hle))) rfl ?_; refine vo_step (ok_sub rfl rfl rfl rfl (wrap_i64 (by omega) (by omega))) rfl ?_; refine vo_step (ok_assign rfl rfl rfl) rfl ?_; refine vo_nil ?_; refine N_seq ?_; refine V_block ?_; refine V_seq ?_; refine V_regionD (id := 2) [] mixed (by kernel_rfl) ?_; refine par_step (ok_move rfl rfl rfl) rfl ?_; refine par_step (ok_gtr rfl rfl rfl rfl (decide_eq_false (by omega))) rfl ?_; refine par_step (ok_move rfl rfl rfl) rfl ?_; refine par_step (ok_skip rfl (blt_lt rfl) rfl) rfl ?_; refine par_step (ok_skip rfl (blt_lt rfl) rfl) rfl ?_; refine par_step (ok_skip rfl (blt_lt rfl) rfl) rfl ?_; refine par_step (ok_skip rfl (blt_lt rfl) rfl) rfl ?_; refine par_step (ok_skip rfl (blt_lt rfl) rfl) rfl ?_; refine par_step (ok_skip rfl (blt_lt rfl) rfl) rfl ?_; refine par_step (ok_skip rfl (blt_lt rfl) rfl) rfl ?_; refine par_step (ok_skip rfl (blt_lt rfl) rfl) rfl ?_; refine par_step (ok_skip rfl (blt_lt rfl) rfl) rfl ?_; refine par_step (ok_skip rfl (blt_lt rfl) rfl) rfl ?_; refine par_step (ok_skip rfl (blt_lt rfl) rfl) rfl ?_; refine par_step (ok_pick rfl rfl rfl rfl) rfl ?_; refine par_step (ok_assign rfl rfl rfl) rfl ?_; refine par_nil ?_; refine N_seq ?_; refine V_false rfl ?_; refine V_seq ?_; refine V_region (id := 4) ?_; refine vo_step (ok_move rfl rfl rfl) rfl ?_; refine vo_step (ok_gtr rfl rfl rfl rfl (decide_eq_false (by omega))) rfl ?_; refine vo_step (ok_assign rfl rfl rfl) rfl ?_; refine vo_nil ?_; refine N_seq ?_; refine V_false rfl ?_; refine V_seq ?_; refine V_regionD (id := 7) [] mixed (by kernel_rfl) ?_; refine par_step (ok_move rfl rfl rfl) rfl ?_; refine par_step (ok_lss rfl rfl rfl rfl (decide_eq_true (by omega))) rfl ?_; refine par_step (ok_move rfl rfl rfl) rfl ?_; refine par_step (ok_move rfl rfl rfl) rfl ?_; refine par_step (ok_nil rfl rfl rfl) rfl ?_; refine par_step (ok_fieldP L rfl rfl rfl rfl) rfl ?_; refine par_step (ok_load1 L (src_base rfl (by assumption)) rfl rfl rfl rfl) rfl ?_; refine par_step (ok_callx L rfl rfl (blt_lt rfl) rfl rfl rfl (fun u H hH hle _ => UT.deep_ret _ hH (UT.TA.le (by assumption) hle))) rfl ?_; refine par_step (ok_move rfl rfl rfl) rfl ?_; refine par_step (ok_nil rfl rfl rfl) rfl ?_; refine par_step (ok_fieldP L rfl rfl rfl rfl) rfl ?_; refine par_step (ok_load1 L (src_base rfl (by assumption)) rfl rfl rfl rfl) rfl ?_; refine par_step (ok_callx L rfl rfl (blt_lt rfl) rfl rfl rfl (fun u H hH hle _ => UT.deep_ret _ hH (UT.TA.le (by assumption) hle))) rfl ?_; refine par_step (ok_geq rfl rfl rfl rfl (decide_eq_true (by omega))) rfl ?_; refine par_step (ok_pick rfl rfl rfl rfl) rfl ?_; refine par_step (ok_assign rfl rfl rfl) rfl ?_; refine par_nil ?_; refine N_seq ?_; refine V_true rfl ?_; refine V_seq ?_; refine V_regionD (id := 8) [] mixed (by kernel_rfl) ?_; refine par_step (ok_move rfl rfl rfl) rfl ?_; refine par_step (ok_nil rfl rfl rfl) rfl ?_; refine par_step (ok_fieldP L rfl rfl rfl rfl) rfl ?_; refine par_step (ok_loadA L (vs := [_, _, _, _, _, _]) (src_base rfl (by assumption)) rfl rfl rfl rfl ⟨_, rfl⟩) rfl ?_; refine par_step (ok_loadA L (vs := [_, _, _, _, _, _]) (src_at rfl) rfl rfl rfl rfl ⟨_, rfl⟩) rfl ?_; refine par_step (ok_move rfl rfl rfl) rfl ?_; refine par_step (ok_move rfl rfl rfl) rfl ?_; refine par_step (ok_nil rfl rfl rfl) rfl ?_; refine par_step (ok_fieldP L rfl rfl rfl rfl) rfl ?_; refine par_step (ok_load1 L (src_base rfl (by assumption)) rfl rfl rfl rfl) rfl ?_; refine par_step (ok_call L rfl rfl (blt_lt rfl) rfl rfl rfl UT.TA.mono (fun u H hH hle _ => UT.join_ret _ () _ _ hH (UT.TA.le (by assumption) hle) (UT.TA.le (by assumption) hle) (by first | omega | (simp only [Tr.size_node]; omega)))) rfl ?_; refine par_step (ok_move rfl rfl rfl) rfl ?_; refine par_step (ok_nil rfl rfl rfl) rfl ?_; refine par_step (ok_fieldP L rfl rfl rfl rfl) rfl ?_; refine par_step (ok_load1 L (src_base rfl (by assumption)) rfl rfl rfl rfl) rfl ?_; refine par_step (ok_call L rfl rfl (blt_lt rfl) rfl rfl rfl UT.TA.mono (fun u H hH hle _ v1 hv1 => UT.join_ret _ () _ _ hH hv1 (UT.TA.le (by assumption) hle) (by first | omega | (simp only [Tr.size_node]; omega)))) rfl ?_; refine par_step (ok_assigns' rfl rfl rfl) rfl ?_; refine par_nil ?_; refine N_seq ?_
          refine V_ret L (rs := [.tmp 6]) rfl (fun _ _ h => h) Since.refl fun u H hH hle => ?_
          exact fun v hv => hv
        · rw [if_neg h2]
          cases rl with
          | nil => simp [Tr.deep] at h2
          | node mk mx ml mr =>
            have hrl0 := hrl; obtain ⟨b2, v3, v4, rfl, hb2, hml, hmr⟩ := hrl
            simp only [Tr.size_node] at hs hdr hd1
            refine V_seq ?_; refine V_region (id := 0) ?_; refine vo_step (ok_box rfl rfl rfl rfl) rfl ?_; refine vo_step (ok_assign rfl rfl rfl) rfl ?_; refine vo_nil ?_; refine N_seq ?_; refine V_seq ?_; refine V_seq ?_; refine V_region (id := 1) ?_; refine vo_step (ok_move rfl rfl rfl) rfl ?_; refine vo_step (ok_callx L rfl rfl (blt_lt rfl) rfl rfl rfl (fun u H hH hle _ => UT.deep_ret _ hH (UT.TA.le (by assumption) hle))) rfl ?_; refine vo_step (ok_move rfl rfl rfl) rfl ?_; refine vo_step (ok_callx L rfl rfl (blt_lt rfl) rfl rfl rfl (fun u H hH hle _ => UT.deep_ret _ hH (UT.TA.le (by assumption) hle))) rfl ?_; refine vo_step (ok_sub rfl rfl rfl rfl (wrap_i64 (by omega) (by omega))) rfl ?_; refine vo_step (ok_assign rfl rfl rfl) rfl ?_; refine vo_nil ?_; refine N_seq ?_; refine V_block ?_; refine V_seq ?_; refine V_regionD (id := 2) [] mixed (by kernel_rfl) ?_; refine par_step (ok_move rfl rfl rfl) rfl ?_; refine par_step (ok_gtr rfl rfl rfl rfl (decide_eq_false (by omega))) rfl ?_; refine par_step (ok_move rfl rfl rfl) rfl ?_; refine par_step (ok_skip rfl (blt_lt rfl) rfl) rfl ?_; refine par_step (ok_skip rfl (blt_lt rfl) rfl) rfl ?_; refine par_step (ok_skip rfl (blt_lt rfl) rfl) rfl ?_; refine par_step (ok_skip rfl (blt_lt rfl) rfl) rfl ?_; refine par_step (ok_skip rfl (blt_lt rfl) rfl) rfl ?_; refine par_step (ok_skip rfl (blt_lt rfl) rfl) rfl ?_; refine par_step (ok_skip rfl (blt_lt rfl) rfl) rfl ?_; refine par_step (ok_skip rfl (blt_lt rfl) rfl) rfl ?_; refine par_step (ok_skip rfl (blt_lt rfl) rfl) rfl ?_; refine par_step (ok_skip rfl (blt_lt rfl) rfl) rfl ?_; refine par_step (ok_skip rfl (blt_lt rfl) rfl) rfl ?_; refine par_step (ok_pick rfl rfl rfl rfl) rfl ?_; refine par_step (ok_assign rfl rfl rfl) rfl ?_; refine par_nil ?_; refine N_seq ?_; refine V_false rfl ?_; refine V_seq ?_; refine V_region (id := 4) ?_; refine vo_step (ok_move rfl rfl rfl) rfl ?_; refine vo_step (ok_gtr rfl rfl rfl rfl (decide_eq_false (by omega))) rfl ?_; refine vo_step (ok_assign rfl rfl rfl) rfl ?_; refine vo_nil ?_; refine N_seq ?_; refine V_false rfl ?_; refine V_seq ?_; refine V_regionD (id := 7) [] mixed (by kernel_rfl) ?_; refine par_step (ok_move rfl rfl rfl) rfl ?_; refine par_step (ok_lss rfl rfl rfl rfl (decide_eq_true (by omega))) rfl ?_; refine par_step (ok_move rfl rfl rfl) rfl ?_; refine par_step (ok_move rfl rfl rfl) rfl ?_; refine par_step (ok_nil rfl rfl rfl) rfl ?_; refine par_step (ok_fieldP L rfl rfl rfl rfl) rfl ?_; refine par_step (ok_load1 L (src_base rfl (by assumption)) rfl rfl rfl rfl) rfl ?_; refine par_step (ok_callx L rfl rfl (blt_lt rfl) rfl rfl rfl (fun u H hH hle _ => UT.deep_ret _ hH (UT.TA.le (by assumption) hle))) rfl ?_; refine par_step (ok_move rfl rfl rfl) rfl ?_; refine par_step (ok_nil rfl rfl rfl) rfl ?_; refine par_step (ok_fieldP L rfl rfl rfl rfl) rfl ?_; refine par_step (ok_load1 L (src_base rfl (by assumption)) rfl rfl rfl rfl) rfl ?_; refine par_step (ok_callx L rfl rfl (blt_lt rfl) rfl rfl rfl (fun u H hH hle _ => UT.deep_ret _ hH (UT.TA.le (by assumption) hle))) rfl ?_; refine par_step (ok_geq rfl rfl rfl rfl (decide_eq_false (by omega))) rfl ?_; refine par_step (ok_pick rfl rfl rfl rfl) rfl ?_; refine par_step (ok_assign rfl rfl rfl) rfl ?_; refine par_nil ?_; refine N_seq ?_; refine V_false rfl ?_; refine V_seq ?_; refine V_region (id := 9) ?_; refine vo_step (ok_move rfl rfl rfl) rfl ?_; refine vo_step (ok_lss rfl rfl rfl rfl (decide_eq_true (by omega))) rfl ?_; refine vo_step (ok_assign rfl rfl rfl) rfl ?_; refine vo_nil ?_; refine N_seq ?_; refine V_true rfl ?_; refine V_seq ?_; refine V_region (id := 10) ?_; refine vo_step (ok_move rfl rfl rfl) rfl ?_; refine vo_step (ok_nil rfl rfl rfl) rfl ?_; refine vo_step (ok_fieldP L rfl rfl rfl rfl) rfl ?_; refine vo_step (ok_load1 L (src_base rfl (by assumption)) rfl rfl rfl rfl) rfl ?_; refine vo_step (ok_assign rfl rfl rfl) rfl ?_; refine vo_nil ?_; refine N_seq ?_; refine V_seq ?_; refine V_regionD (id := 11) [] mixed (by kernel_rfl) ?_; refine par_step (ok_move rfl rfl rfl) rfl ?_; refine par_step (ok_nil rfl rfl rfl) rfl ?_; refine par_step (ok_fieldP L rfl rfl rfl rfl) rfl ?_; refine par_step (ok_loadA L (vs := [_, _, _, _, _, _]) (src_base rfl (by assumption)) rfl rfl rfl rfl ⟨_, rfl⟩) rfl ?_; refine par_step (ok_loadA L (vs := [_, _, _, _, _, _]) (src_at rfl) rfl rfl rfl rfl ⟨_, rfl⟩) rfl ?_; refine par_step (ok_move rfl rfl rfl) rfl ?_; refine par_step (ok_move rfl rfl rfl) rfl ?_; refine par_step (ok_nil rfl rfl rfl) rfl ?_; refine par_step (ok_fieldP L rfl rfl rfl rfl) rfl ?_; refine par_step (ok_load1 L (src_base rfl (by assumption)) rfl rfl rfl rfl) rfl ?_; refine par_step (ok_call L rfl rfl (blt_lt rfl) rfl rfl rfl UT.TA.mono (fun u H hH hle _ => UT.join_ret _ () _ _ hH (UT.TA.le (by assumption) hle) (UT.TA.le (by assumption) hle) (by first | omega | (simp only [Tr.size_node]; omega)))) rfl ?_; refine par_step (ok_move rfl rfl rfl) rfl ?_; refine par_step (ok_nil rfl rfl rfl) rfl ?_; refine par_step (ok_fieldP L rfl rfl rfl rfl) rfl ?_; refine par_step (ok_loadA L (vs := [_, _, _, _, _, _]) (src_base rfl (by assumption)) rfl rfl rfl rfl ⟨_, rfl⟩) rfl ?_; refine par_step (ok_move rfl rfl rfl) rfl ?_; refine par_step (ok_nil rfl rfl rfl) rfl ?_; refine par_step (ok_fieldP L rfl rfl rfl rfl) rfl ?_; refine par_step (ok_load1 L (src_base rfl (by assumption)) rfl rfl rfl rfl) rfl ?_; refine par_step (ok_move rfl rfl rfl) rfl ?_; refine par_step (ok_nil rfl rfl rfl) rfl ?_; refine par_step (ok_fieldP L rfl rfl rfl rfl) rfl ?_; refine par_step (ok_load1 L (src_base rfl (by assumption)) rfl rfl rfl rfl) rfl ?_; refine par_step (ok_call L rfl rfl (blt_lt rfl) rfl rfl rfl UT.TA.mono (fun u H hH hle _ => UT.join_ret _ () _ _ hH (UT.TA.le (by assumption) hle) (UT.TA.le (by assumption) hle) (by first | omega | (simp only [Tr.size_node]; omega)))) rfl ?_; refine par_step (ok_call L rfl rfl (blt_lt rfl) rfl rfl rfl UT.TA.mono (fun u H hH hle _ v1 hv1 v2 hv2 => UT.join_ret _ () _ _ hH hv1 hv2 (by first | omega | (simp only [Tr.size_node]; omega)))) rfl ?_; refine par_step (ok_assigns' rfl rfl rfl) rfl ?_; refine par_nil ?_; refine N_seq ?_
            refine V_ret L (rs := [.tmp 6]) rfl (fun _ _ h => h) Since.refl fun u H hH hle => ?_
            exact fun v hv => hv
    · rw [if_neg h3]
      refine V_seq ?_; refine V_region (id := 0) ?_; refine vo_step (ok_box rfl rfl rfl rfl) rfl ?_; refine vo_step (ok_assign rfl rfl rfl) rfl ?_; refine vo_nil ?_; refine N_seq ?_; refine V_seq ?_; refine V_seq ?_; refine V_region (id := 1) ?_; refine vo_step (ok_move rfl rfl rfl) rfl ?_; refine vo_step (ok_callx L rfl rfl (blt_lt rfl) rfl rfl rfl (fun u H hH hle _ => UT.deep_ret _ hH (UT.TA.le (by assumption) hle))) rfl ?_; refine vo_step (ok_move rfl rfl rfl) rfl ?_; refine vo_step (ok_callx L rfl rfl (blt_lt rfl) rfl rfl rfl (fun u H hH hle _ => UT.deep_ret _ hH (UT.TA.le (by assumption) hle))) rfl ?_; refine vo_step (ok_sub rfl rfl rfl rfl (wrap_i64 (by omega) (by omega))) rfl ?_; refine vo_step (ok_assign rfl rfl rfl) rfl ?_; refine vo_nil ?_; refine N_seq ?_; refine V_block ?_; refine V_seq ?_; refine V_regionD (id := 2) [] mixed (by kernel_rfl) ?_; refine par_step (ok_move rfl rfl rfl) rfl ?_; refine par_step (ok_gtr rfl rfl rfl rfl (decide_eq_false (by omega))) rfl ?_; refine par_step (ok_move rfl rfl rfl) rfl ?_; refine par_step (ok_skip rfl (blt_lt rfl) rfl) rfl ?_; refine par_step (ok_skip rfl (blt_lt rfl) rfl) rfl ?_; refine par_step (ok_skip rfl (blt_lt rfl) rfl) rfl ?_; refine par_step (ok_skip rfl (blt_lt rfl) rfl) rfl ?_; refine par_step (ok_skip rfl (blt_lt rfl) rfl) rfl ?_; refine par_step (ok_skip rfl (blt_lt rfl) rfl) rfl ?_; refine par_step (ok_skip rfl (blt_lt rfl) rfl) rfl ?_; refine par_step (ok_skip rfl (blt_lt rfl) rfl) rfl ?_; refine par_step (ok_skip rfl (blt_lt rfl) rfl) rfl ?_; refine par_step (ok_skip rfl (blt_lt rfl) rfl) rfl ?_; refine par_step (ok_skip rfl (blt_lt rfl) rfl) rfl ?_; refine par_step (ok_pick rfl rfl rfl rfl) rfl ?_; refine par_step (ok_assign rfl rfl rfl) rfl ?_; refine par_nil ?_; refine N_seq ?_; refine V_false rfl ?_; refine V_seq ?_; refine V_region (id := 4) ?_; refine vo_step (ok_move rfl rfl rfl) rfl ?_; refine vo_step (ok_gtr rfl rfl rfl rfl (decide_eq_false (by omega))) rfl ?_; refine vo_step (ok_assign rfl rfl rfl) rfl ?_; refine vo_nil ?_; refine N_seq ?_; refine V_false rfl ?_; refine V_seq ?_; refine V_regionD (id := 7) [] mixed (by kernel_rfl) ?_; refine par_step (ok_move rfl rfl rfl) rfl ?_; refine par_step (ok_lss rfl rfl rfl rfl (decide_eq_false (by omega))) rfl ?_; refine par_step (ok_move rfl rfl rfl) rfl ?_; refine par_step (ok_skip rfl (blt_lt rfl) rfl) rfl ?_; refine par_step (ok_skip rfl (blt_lt rfl) rfl) rfl ?_; refine par_step (ok_skip rfl (blt_lt rfl) rfl) rfl ?_; refine par_step (ok_skip rfl (blt_lt rfl) rfl) rfl ?_; refine par_step (ok_skip rfl (blt_lt rfl) rfl) rfl ?_; refine par_step (ok_skip rfl (blt_lt rfl) rfl) rfl ?_; refine par_step (ok_skip rfl (blt_lt rfl) rfl) rfl ?_; refine par_step (ok_skip rfl (blt_lt rfl) rfl) rfl ?_; refine par_step (ok_skip rfl (blt_lt rfl) rfl) rfl ?_; refine par_step (ok_skip rfl (blt_lt rfl) rfl) rfl ?_; refine par_step (ok_skip rfl (blt_lt rfl) rfl) rfl ?_; refine par_step (ok_pick rfl rfl rfl rfl) rfl ?_; refine par_step (ok_assign rfl rfl rfl) rfl ?_; refine par_nil ?_; refine N_seq ?_; refine V_false rfl ?_; refine V_seq ?_; refine V_region (id := 9) ?_; refine vo_step (ok_move rfl rfl rfl) rfl ?_; refine vo_step (ok_lss rfl rfl rfl rfl (decide_eq_false (by omega))) rfl ?_; refine vo_step (ok_assign rfl rfl rfl) rfl ?_; refine vo_nil ?_; refine N_seq ?_; refine V_false rfl ?_; refine V_skip ?_; refine N_block ?_; refine N_seq ?_; refine V_seq ?_; refine V_region (id := 12) ?_; refine vo_step (ok_loadA L (vs := [_, _, _, _, _, _]) (src_at rfl) rfl rfl rfl rfl ⟨_, rfl⟩) rfl ?_; refine vo_step (ok_move rfl rfl rfl) rfl ?_; refine vo_step (ok_move rfl rfl rfl) rfl ?_; refine vo_step (ok_call L rfl rfl (blt_lt rfl) rfl rfl rfl UT.TA.mono (fun u H hH hle _ => UT.join_ret _ () _ _ hH (UT.TA.le (by assumption) hle) (UT.TA.le (by assumption) hle) (by first | omega | (simp only [Tr.size_node]; omega)))) rfl ?_; refine vo_step (ok_assigns' rfl rfl rfl) rfl ?_; refine vo_nil ?_; refine N_seq ?_
      refine V_ret L (rs := [.tmp 6]) rfl (fun _ _ h => h) Since.refl fun u H hH hle => ?_
      exact fun v hv => hv
end Go.V.UT
