/- The walks of trees at countersign/api.Goal, int: maps, and what is seen of them. -/
import Derived.Test.YtpnmjelhnacmlaaTreeXGI
namespace Go.V.GI
open Go.Proofs Go.RowKit Go.V
/-- A map. -/
def MA (fv : Value) (t : Tr KT VT) : Value → Heap → Prop := fun v H => ∃ p, v = .agg #[fv, .pointer p] ∧ TA t (.pointer p) H
theorem MA.mono {fv : Value} {t : Tr KT VT} : Kn.mono (.sat (MA fv t)) := fun _ _ _ ⟨p, hv, h⟩ hle => ⟨p, hv, h.le hle⟩
theorem MA.le {fv : Value} {t : Tr KT VT} {v : Value} {H H' : Heap} (h : MA fv t v H) (hle : H.Le H') : MA fv t v H' := MA.mono _ _ _ h hle
attribute [local irreducible] V N X VO Par StepOK Has Ret RetL Src
theorem new_ret (cf : Nat) {w : World} {B : Heap} (hB : B.Le (hp w)) : Ret Try.prog 99 [.func (.func cf) #[] #[]] w B (fun v _ => v = .agg #[.func (.func cf) #[] #[], .pointer none]) := by
  refine V_enter Try.func99 rfl Try.ntmps99 (Nat.le_of_ble_eq_true rfl) hB ?_
  refine V_seq ?_; refine V_region (id := 0) ?_; refine vo_step (ok_alloc L rfl rfl rfl rfl) rfl ?_; refine vo_nil ?_; refine N_seq ?_; refine V_seq ?_; refine V_region (id := 1) ?_; refine vo_step (ok_move rfl rfl rfl) rfl ?_; refine vo_step (ok_build (cs := [_, _]) rfl rfl pl34 rfl rfl) rfl ?_; refine vo_step (ok_store L rfl rfl rfl rfl rfl rfl rfl rfl) rfl ?_; refine vo_nil ?_; refine N_seq ?_
  refine V_ret L (rs := [.cell 2 34]) rfl (fun _ _ h => h) Since.refl fun u H hH hle => ?_
  refine resK_cellA (src_own rfl) rfl rfl ?_
  rfl
theorem new_nil {w : World} {B : Heap} (hB : B.Le (hp w)) : Ret Try.prog 99 [.nilFunc] w B (fun v _ => v = .agg #[.nilFunc, .pointer none]) := by
  refine V_enter Try.func99 rfl Try.ntmps99 (Nat.le_of_ble_eq_true rfl) hB ?_
  refine V_seq ?_; refine V_region (id := 0) ?_; refine vo_step (ok_alloc L rfl rfl rfl rfl) rfl ?_; refine vo_nil ?_; refine N_seq ?_; refine V_seq ?_; refine V_region (id := 1) ?_; refine vo_step (ok_move rfl rfl rfl) rfl ?_; refine vo_step (ok_build (cs := [_, _]) rfl rfl pl34 rfl rfl) rfl ?_; refine vo_step (ok_store L rfl rfl rfl rfl rfl rfl rfl rfl) rfl ?_; refine vo_nil ?_; refine N_seq ?_
  refine V_ret L (rs := [.cell 2 34]) rfl (fun _ _ h => h) Since.refl fun u H hH hle => ?_
  refine resK_cellA (src_own rfl) rfl rfl ?_
  rfl
theorem mput_nil {p : Option Addr} (k : KT) (x : VT) {w : World} {B : Heap} (hB : B.Le (hp w)) :
    Ret Try.prog 61 [.agg #[.nilFunc, .pointer p], kv k, vv x] w B (fun v _ => v = .agg #[.nilFunc, .pointer p]) := by
  refine V_enter Try.func61 rfl Try.ntmps61 (Nat.le_of_ble_eq_true rfl) hB ?_
  refine V_seq ?_; refine V_region (id := 0) ?_; refine vo_step (ok_boxR rfl rfl rfl rfl) rfl ?_; refine vo_step (ok_box rfl rfl rfl rfl) rfl ?_; refine vo_step (ok_alloc L rfl rfl rfl rfl) rfl ?_; refine vo_nil ?_; refine N_seq ?_; refine V_seq ?_; refine V_seq ?_; (refine V_box 3 rfl ?_; intro b3 hb3); refine V_region (id := 1) ?_; refine vo_step (ok_fieldP L rfl rfl rfl rfl) rfl ?_; refine vo_step (ok_load1 L (src_box rfl (List.Mem.head _)) rfl rfl rfl rfl) rfl ?_; refine vo_step (ok_nneq rfl rfl rfl rfl nk31 rfl rfl) rfl ?_; refine vo_nil ?_; refine N_seq ?_; refine V_false rfl ?_; refine V_skip ?_; refine N_seq ?_; refine V_seq ?_; refine V_region (id := 3) ?_; refine vo_step (ok_loadA L (vs := [_, _]) (src_box rfl (List.Mem.head _)) rfl rfl rfl rfl ⟨_, rfl⟩) rfl ?_; refine vo_step (ok_store L rfl rfl rfl rfl rfl rfl rfl rfl) rfl ?_; refine vo_nil ?_; refine N_seq ?_
  refine V_ret L (rs := [.cell 6 34]) rfl (fun _ _ h => h) Since.refl fun u H hH hle => ?_
  refine resK_cellA (src_own rfl) rfl rfl ?_
  rfl
theorem mput_ret {cf : Nat} {c : KT → KT → Int} (hc : Cmp cf c) {p : Option Addr} (k : KT) (x : VT) {t : Tr KT VT} {w : World} {B : Heap} (hB : B.Le (hp w)) (hv : TA t (.pointer p) B) (hs : t.size + 1 < 1099511627776) :
    Ret Try.prog 61 [mv cf (.pointer p), kv k, vv x] w B (MA (.func (.func cf) #[] #[]) (Tr.put c k x t)) := by
  refine V_enter Try.func61 rfl Try.ntmps61 (Nat.le_of_ble_eq_true rfl) hB ?_
  refine V_seq ?_; refine V_region (id := 0) ?_; refine vo_step (ok_boxR rfl rfl rfl rfl) rfl ?_; refine vo_step (ok_box rfl rfl rfl rfl) rfl ?_; refine vo_step (ok_alloc L rfl rfl rfl rfl) rfl ?_; refine vo_nil ?_; refine N_seq ?_; refine V_seq ?_; refine V_seq ?_; (refine V_box 3 rfl ?_; intro b3 hb3); refine V_region (id := 1) ?_; refine vo_step (ok_fieldP L rfl rfl rfl rfl) rfl ?_; refine vo_step (ok_load1 L (src_box rfl (List.Mem.head _)) rfl rfl rfl rfl) rfl ?_; refine vo_step (ok_nneq rfl rfl rfl rfl nk31 rfl rfl) rfl ?_; refine vo_nil ?_; refine N_seq ?_; refine V_true rfl ?_; refine V_region (id := 2) ?_; refine vo_step (ok_loadA L (vs := [_, _]) (src_box rfl (List.Mem.head _)) rfl rfl rfl rfl ⟨_, rfl⟩) rfl ?_; refine vo_step (ok_fieldP L rfl rfl rfl rfl) rfl ?_; refine vo_step (ok_load1 L (src_box rfl (List.Mem.head _)) rfl rfl rfl rfl) rfl ?_; refine vo_step (ok_loadA L (vs := [_, _, _]) (src_at rfl) rfl rfl rfl rfl ⟨_, rfl⟩) rfl ?_; refine vo_step (ok_move rfl rfl rfl) rfl ?_; refine vo_step (ok_build (cs := [_, _, _, _]) rfl rfl pl145 rfl rfl) rfl ?_; refine vo_step (ok_call L rfl rfl (blt_lt rfl) rfl rfl rfl TA.mono (fun u H hH hle _ => put_ret hc _ k x t hH (hv.le hle) hs)) rfl ?_; refine vo_opn 16 rfl ?_; intro p16 H16 hs16 hp16; obtain ⟨q16, rfl⟩ := TA.ptr hp16; refine vo_step (ok_fieldP L rfl rfl rfl rfl) rfl ?_; refine box_store L (O1 := []) rfl rfl rfl rfl rfl rfl rfl rfl rfl ?_; refine vo_nil ?_; refine N_seq ?_; refine V_seq ?_; refine V_region (id := 3) ?_; refine vo_step (ok_loadA L (vs := [_, _]) (src_box rfl (List.Mem.head _)) rfl rfl rfl rfl ⟨_, rfl⟩) rfl ?_; refine vo_step (ok_store L rfl rfl rfl rfl rfl rfl rfl rfl) rfl ?_; refine vo_nil ?_; refine N_seq ?_
  refine V_ret L (rs := [.cell 6 34]) rfl (fun _ _ h => h) hs16 fun u H hH hle => ?_
  refine resK_cellA (src_own rfl) rfl rfl ?_
  exact ⟨q16, rfl, hp16.le hle⟩
def getV : Option VT → List Value
  | some x => [vv x, .bool true]
  | none => [.int .i64 0, .bool false]
theorem get_ret {cf : Nat} {c : KT → KT → Int} (hc : Cmp cf c) (k : KT) {root : Value} {t : Tr KT VT} {w : World} {B : Heap} (hB : B.Le (hp w)) (hv : TA t root B) :
    Ret Try.prog 66 [mv cf root, kv k] w B (fun v _ => v = tup (getV (Tr.get c k t))) := by
  refine V_enter Try.func66 rfl Try.ntmps66 (Nat.le_of_ble_eq_true rfl) hB ?_
  refine V_seq ?_; refine V_region (id := 0) ?_; refine vo_step (ok_box rfl rfl rfl rfl) rfl ?_; refine vo_step (ok_box rfl rfl rfl rfl) rfl ?_; refine vo_step (ok_assign rfl rfl rfl) rfl ?_; refine vo_step (ok_assign rfl rfl rfl) rfl ?_; refine vo_nil ?_; refine N_seq ?_; refine V_seq ?_; refine V_region (id := 1) ?_; refine vo_step (ok_fieldAt L rfl rfl rfl rfl) rfl ?_; refine vo_step (ok_load1 L (src_at rfl) rfl rfl rfl rfl) rfl ?_; refine vo_step (ok_assign rfl rfl rfl) rfl ?_; refine vo_nil ?_; refine N_seq ?_; refine V_seq ?_; refine V_block ?_
  refine V_loop (fun s : Tr KT VT × Value => [(3, .sat (At [.string k.1.1, .string k.1.2, .string k.2] 44 0)), (2, .sat (At [.func (.func cf) #[] #[], root] 34 0)), (6, .is s.2)])
    (fun s => TA s.1 s.2 B ∧ Tr.get c k s.1 = Tr.get c k t) (fun s => s.1.size) (t, root) ⟨hv, rfl⟩ (by repeat (first | exact trivial | refine ⟨rfl, ?_⟩)) ?_
  rintro ⟨s, v⟩ ⟨hs, hg⟩
  dsimp only at hs hg ⊢
  cases s with
  | nil =>
    obtain rfl : v = .pointer none := hs
    refine V_seq ?_; refine V_seq ?_; refine V_region (id := 2) ?_; refine vo_step (ok_move rfl rfl rfl) rfl ?_; refine vo_step (ok_nneq rfl rfl rfl rfl nk32 rfl rfl) rfl ?_; refine vo_nil ?_; refine N_seq ?_; refine V_false rfl ?_; refine V_exit ?_; refine X_then ?_; refine X_then ?_; refine X_here ?_; refine N_seq ?_; refine V_seq ?_; refine V_region (id := 9) ?_; refine vo_step (ok_assign rfl rfl rfl) rfl ?_; refine vo_nil ?_; refine N_seq ?_; refine V_seq ?_; refine V_region (id := 10) ?_; refine vo_step (ok_move rfl rfl rfl) rfl ?_; refine vo_step (ok_assign rfl rfl rfl) rfl ?_; refine vo_step (ok_assign rfl rfl rfl) rfl ?_; refine vo_nil ?_; refine N_seq ?_
    refine V_ret L (rs := [.tmp 4, .tmp 5]) rfl (fun _ _ h => h) Since.refl fun u H hH hle => ?_
    first | (rw [← hg]; rfl) | (refine resK_cellA (src_own rfl) rfl rfl ?_; rw [← hg]; rfl)
  | node nk nx l r =>
    obtain ⟨b, lv, rv, rfl, hb, hl, hr⟩ := hs
    by_cases h0 : c k nk = 0
    · rw [Tr.get_eq h0] at hg
      refine V_seq ?_; refine V_seq ?_; refine V_region (id := 2) ?_; refine vo_step (ok_move rfl rfl rfl) rfl ?_; refine vo_step (ok_nneq rfl rfl rfl rfl nk32 rfl rfl) rfl ?_; refine vo_nil ?_; refine N_seq ?_; refine V_true rfl ?_; refine V_skip ?_; refine N_seq ?_; refine V_block ?_; refine V_seq ?_; refine V_regionD (id := 3) [] mixed (by kernel_rfl) ?_; refine par_step (ok_fieldAt L rfl rfl rfl rfl) rfl ?_; refine par_step (ok_load1 L (src_at rfl) rfl rfl rfl rfl) rfl ?_; refine par_step (ok_loadA L (vs := [_, _, _]) (src_at rfl) rfl rfl rfl rfl ⟨_, rfl⟩) rfl ?_; refine par_step (ok_move rfl rfl rfl) rfl ?_; refine par_step (ok_nil rfl rfl rfl) rfl ?_; refine par_step (ok_fieldP L rfl rfl rfl rfl) rfl ?_; refine par_step (ok_fieldP L rfl rfl rfl rfl) rfl ?_; refine par_step (ok_loadA L (vs := [_, _, _]) (src_base rfl (by assumption)) rfl rfl rfl rfl ⟨_, rfl⟩) rfl ?_; refine par_step (ok_callx L rfl rfl (blt_lt rfl) rfl rfl hc.fn (fun u H hH _ _ => hc.ret _ _ u H hH)) rfl ?_; refine par_step (ok_assign rfl rfl rfl) rfl ?_; refine par_nil ?_; refine N_seq ?_; refine V_seq ?_; refine V_seq ?_; refine V_region (id := 4) ?_; refine vo_step (ok_move rfl rfl rfl) rfl ?_; refine vo_step (ok_eql rfl rfl rfl rfl (decide_eq_true (by omega))) rfl ?_; refine vo_nil ?_; refine N_seq ?_; refine V_true rfl ?_; refine V_seq ?_; refine V_region (id := 5) ?_; refine vo_step (ok_move rfl rfl rfl) rfl ?_; refine vo_step (ok_nil rfl rfl rfl) rfl ?_; refine vo_step (ok_fieldP L rfl rfl rfl rfl) rfl ?_; refine vo_step (ok_fieldP L rfl rfl rfl rfl) rfl ?_; refine vo_step (ok_load1 L (src_base rfl (by assumption)) rfl rfl rfl rfl) rfl ?_; refine vo_step (ok_assign rfl rfl rfl) rfl ?_; refine vo_step (ok_assign rfl rfl rfl) rfl ?_; refine vo_nil ?_; refine N_seq ?_
      refine V_ret L (rs := [.tmp 4, .tmp 5]) rfl (fun _ _ h => h) Since.refl fun u H hH hle => ?_
      first | (rw [← hg]; rfl) | (refine resK_cellA (src_own rfl) rfl rfl ?_; rw [← hg]; rfl)
    · by_cases h1 : c k nk < 0
      · rw [Tr.get_lt h1] at hg
        refine V_seq ?_; refine V_seq ?_; refine V_region (id := 2) ?_; refine vo_step (ok_move rfl rfl rfl) rfl ?_; refine vo_step (ok_nneq rfl rfl rfl rfl nk32 rfl rfl) rfl ?_; refine vo_nil ?_; refine N_seq ?_; refine V_true rfl ?_; refine V_skip ?_; refine N_seq ?_; refine V_block ?_; refine V_seq ?_; refine V_regionD (id := 3) [] mixed (by kernel_rfl) ?_; refine par_step (ok_fieldAt L rfl rfl rfl rfl) rfl ?_; refine par_step (ok_load1 L (src_at rfl) rfl rfl rfl rfl) rfl ?_; refine par_step (ok_loadA L (vs := [_, _, _]) (src_at rfl) rfl rfl rfl rfl ⟨_, rfl⟩) rfl ?_; refine par_step (ok_move rfl rfl rfl) rfl ?_; refine par_step (ok_nil rfl rfl rfl) rfl ?_; refine par_step (ok_fieldP L rfl rfl rfl rfl) rfl ?_; refine par_step (ok_fieldP L rfl rfl rfl rfl) rfl ?_; refine par_step (ok_loadA L (vs := [_, _, _]) (src_base rfl (by assumption)) rfl rfl rfl rfl ⟨_, rfl⟩) rfl ?_; refine par_step (ok_callx L rfl rfl (blt_lt rfl) rfl rfl hc.fn (fun u H hH _ _ => hc.ret _ _ u H hH)) rfl ?_; refine par_step (ok_assign rfl rfl rfl) rfl ?_; refine par_nil ?_; refine N_seq ?_; refine V_seq ?_; refine V_seq ?_; refine V_region (id := 4) ?_; refine vo_step (ok_move rfl rfl rfl) rfl ?_; refine vo_step (ok_eql rfl rfl rfl rfl (decide_eq_false (by omega))) rfl ?_; refine vo_nil ?_; refine N_seq ?_; refine V_false rfl ?_; refine V_skip ?_; refine N_seq ?_; refine V_seq ?_; refine V_region (id := 6) ?_; refine vo_step (ok_move rfl rfl rfl) rfl ?_; refine vo_step (ok_lss rfl rfl rfl rfl (decide_eq_true (by omega))) rfl ?_; refine vo_nil ?_; refine N_seq ?_; refine V_true rfl ?_; refine V_region (id := 7) ?_; refine vo_step (ok_move rfl rfl rfl) rfl ?_; refine vo_step (ok_nil rfl rfl rfl) rfl ?_; refine vo_step (ok_fieldP L rfl rfl rfl rfl) rfl ?_; refine vo_step (ok_load1 L (src_base rfl (by assumption)) rfl rfl rfl rfl) rfl ?_; refine vo_step (ok_assign rfl rfl rfl) rfl ?_; refine vo_nil ?_; refine N_block ?_
        exact N_round (x := (Tr.node nk nx l r, Value.pointer (some ⟨b, 0, none⟩))) (l, lv) ⟨hl, hg⟩ (by simp only [Tr.size_node]; omega) (by repeat (first | exact trivial | refine ⟨rfl, ?_⟩))
      · rw [Tr.get_gt h0 h1] at hg
        refine V_seq ?_; refine V_seq ?_; refine V_region (id := 2) ?_; refine vo_step (ok_move rfl rfl rfl) rfl ?_; refine vo_step (ok_nneq rfl rfl rfl rfl nk32 rfl rfl) rfl ?_; refine vo_nil ?_; refine N_seq ?_; refine V_true rfl ?_; refine V_skip ?_; refine N_seq ?_; refine V_block ?_; refine V_seq ?_; refine V_regionD (id := 3) [] mixed (by kernel_rfl) ?_; refine par_step (ok_fieldAt L rfl rfl rfl rfl) rfl ?_; refine par_step (ok_load1 L (src_at rfl) rfl rfl rfl rfl) rfl ?_; refine par_step (ok_loadA L (vs := [_, _, _]) (src_at rfl) rfl rfl rfl rfl ⟨_, rfl⟩) rfl ?_; refine par_step (ok_move rfl rfl rfl) rfl ?_; refine par_step (ok_nil rfl rfl rfl) rfl ?_; refine par_step (ok_fieldP L rfl rfl rfl rfl) rfl ?_; refine par_step (ok_fieldP L rfl rfl rfl rfl) rfl ?_; refine par_step (ok_loadA L (vs := [_, _, _]) (src_base rfl (by assumption)) rfl rfl rfl rfl ⟨_, rfl⟩) rfl ?_; refine par_step (ok_callx L rfl rfl (blt_lt rfl) rfl rfl hc.fn (fun u H hH _ _ => hc.ret _ _ u H hH)) rfl ?_; refine par_step (ok_assign rfl rfl rfl) rfl ?_; refine par_nil ?_; refine N_seq ?_; refine V_seq ?_; refine V_seq ?_; refine V_region (id := 4) ?_; refine vo_step (ok_move rfl rfl rfl) rfl ?_; refine vo_step (ok_eql rfl rfl rfl rfl (decide_eq_false (by omega))) rfl ?_; refine vo_nil ?_; refine N_seq ?_; refine V_false rfl ?_; refine V_skip ?_; refine N_seq ?_; refine V_seq ?_; refine V_region (id := 6) ?_; refine vo_step (ok_move rfl rfl rfl) rfl ?_; refine vo_step (ok_lss rfl rfl rfl rfl (decide_eq_false (by omega))) rfl ?_; refine vo_nil ?_; refine N_seq ?_; refine V_false rfl ?_; refine V_region (id := 8) ?_; refine vo_step (ok_move rfl rfl rfl) rfl ?_; refine vo_step (ok_nil rfl rfl rfl) rfl ?_; refine vo_step (ok_fieldP L rfl rfl rfl rfl) rfl ?_; refine vo_step (ok_load1 L (src_base rfl (by assumption)) rfl rfl rfl rfl) rfl ?_; refine vo_step (ok_assign rfl rfl rfl) rfl ?_; refine vo_nil ?_; refine N_block ?_
        exact N_round (x := (Tr.node nk nx l r, Value.pointer (some ⟨b, 0, none⟩))) (r, rv) ⟨hr, hg⟩ (by simp only [Tr.size_node]; omega) (by repeat (first | exact trivial | refine ⟨rfl, ?_⟩))
theorem get_nil (k : KT) {fv : Value} {w : World} {B : Heap} (hB : B.Le (hp w)) :
    Ret Try.prog 66 [.agg #[fv, .pointer none], kv k] w B (fun v _ => v = tup (getV none)) := by
  refine V_enter Try.func66 rfl Try.ntmps66 (Nat.le_of_ble_eq_true rfl) hB ?_
  refine V_seq ?_; refine V_region (id := 0) ?_; refine vo_step (ok_box rfl rfl rfl rfl) rfl ?_; refine vo_step (ok_box rfl rfl rfl rfl) rfl ?_; refine vo_step (ok_assign rfl rfl rfl) rfl ?_; refine vo_step (ok_assign rfl rfl rfl) rfl ?_; refine vo_nil ?_; refine N_seq ?_; refine V_seq ?_; refine V_region (id := 1) ?_; refine vo_step (ok_fieldAt L rfl rfl rfl rfl) rfl ?_; refine vo_step (ok_load1 L (src_at rfl) rfl rfl rfl rfl) rfl ?_; refine vo_step (ok_assign rfl rfl rfl) rfl ?_; refine vo_nil ?_; refine N_seq ?_; refine V_seq ?_; refine V_block ?_
  refine V_loop (fun _ : Unit => [(6, .is (.pointer none))]) (fun _ => True) (fun _ => 0) () trivial (by repeat (first | exact trivial | refine ⟨rfl, ?_⟩)) ?_
  rintro _ _
  refine V_seq ?_; refine V_seq ?_; refine V_region (id := 2) ?_; refine vo_step (ok_move rfl rfl rfl) rfl ?_; refine vo_step (ok_nneq rfl rfl rfl rfl nk32 rfl rfl) rfl ?_; refine vo_nil ?_; refine N_seq ?_; refine V_false rfl ?_; refine V_exit ?_; refine X_then ?_; refine X_then ?_; refine X_here ?_; refine N_seq ?_; refine V_seq ?_; refine V_region (id := 9) ?_; refine vo_step (ok_assign rfl rfl rfl) rfl ?_; refine vo_nil ?_; refine N_seq ?_; refine V_seq ?_; refine V_region (id := 10) ?_; refine vo_step (ok_move rfl rfl rfl) rfl ?_; refine vo_step (ok_assign rfl rfl rfl) rfl ?_; refine vo_step (ok_assign rfl rfl rfl) rfl ?_; refine vo_nil ?_; refine N_seq ?_
  refine V_ret L (rs := [.tmp 4, .tmp 5]) rfl (fun _ _ h => h) Since.refl fun u H hH hle => ?_
  first | rfl | (refine resK_cellA (src_own rfl) rfl rfl ?_; rfl)
def atV : Option (KT × VT) → List Value
  | some y => [.agg (pl y.1 y.2).toArray, .int .i64 0]
  | none => [.agg #[.string ⟨#[]⟩, .string ⟨#[]⟩, .string ⟨#[]⟩, .int .i64 0], .int .i64 4]
def atO (t : Tr KT VT) (i : Int) : Option (KT × VT) := if i < 0 then none else Tr.at' t i.toNat
theorem at_none : ∀ (t : Tr KT VT) (i : Nat), t.size ≤ i → Tr.at' t i = none
  | .nil, _, _ => rfl
  | .node k x l r, i, h => by
    simp only [Tr.size_node] at h
    rw [Tr.at_gt (by omega)]
    exact at_none r _ (by omega)
end Go.V.GI
