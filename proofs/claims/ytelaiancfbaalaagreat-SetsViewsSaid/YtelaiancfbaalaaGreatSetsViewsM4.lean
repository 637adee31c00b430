/- Texts on the way to SetsViews, part 4: one behind another. -/
import Derived.Test.YtelaiancfbaalaaGreatSetsViewsM3
set_option linter.unusedVariables false
set_option linter.unusedSimpArgs false
namespace Go.V.UT
open Go.Proofs Go.RowKit Go.V
def MA (fv : Value) (t : Tr KT VT) : Value → Heap → Prop := fun v H => ∃ p, v = .agg #[fv, .pointer p] ∧ TA t (.pointer p) H
theorem MA.mono {fv : Value} {t : Tr KT VT} : Kn.mono (.sat (MA fv t)) := fun _ _ _ ⟨p, hv, h⟩ hle => ⟨p, hv, h.le hle⟩
theorem MA.le {fv : Value} {t : Tr KT VT} {v : Value} {H H' : Heap} (h : MA fv t v H) (hle : H.Le H') : MA fv t v H' := MA.mono _ _ _ h hle
attribute [local irreducible] V N X VO Par StepOK Has Ret RetL Src
theorem new_ret (cf : Nat) {w : World} {B : Heap} (hB : B.Le (hp w)) : Ret Tryz.prog 76 [.func (.func cf) #[] #[]] w B (fun v _ => v = .agg #[.func (.func cf) #[] #[], .pointer none]) := by
  refine qx Tryz.func76 rfl Tryz.ntmps76 (Nat.le_of_ble_eq_true rfl) hB ?_
  refine zg ?_; refine z8 (id := 0) ?_; refine z7 (qm L rfl rfl rfl rfl) rfl ?_; refine zh ?_; refine zj ?_; refine zg ?_; refine z8 (id := 1) ?_; refine z7 (zf rfl rfl rfl) rfl ?_; refine z7 (qv (cs := [_, _]) rfl rfl pl36 rfl rfl) rfl ?_; refine z7 (qg L rfl rfl rfl rfl rfl rfl rfl rfl) rfl ?_; refine zh ?_; refine zj ?_
  refine qi L (rs := [.cell 2 36]) rfl (fun _ _ h => h) Since.refl fun u H hH hle => ?_
  refine resK_cellA (ql rfl) rfl rfl ?_
  rfl
theorem len_ret {fv root : Value} {t : Tr KT VT} {w : World} {B : Heap} (hB : B.Le (hp w)) (hv : TA t root B) : Ret Tryz.prog 61 [.agg #[fv, root]] w B (fun v _ => v = .int .i64 t.size) := by
  refine qx Tryz.func61 rfl Tryz.ntmps61 (Nat.le_of_ble_eq_true rfl) hB ?_
  refine zg ?_; refine z8 (id := 0) ?_; refine z7 (qf rfl rfl rfl rfl) rfl ?_; refine z7 (zi rfl rfl rfl) rfl ?_; refine zh ?_; refine zj ?_; refine zg ?_; refine z8 (id := 1) ?_; refine z7 (zk L rfl rfl rfl rfl) rfl ?_; refine z7 (zo L (zq rfl) rfl rfl rfl rfl) rfl ?_; refine z7 (q6 L rfl rfl (zm rfl) rfl rfl rfl (fun u H hH hle _ => UT.size_ret _ hH (UT.TA.le (by assumption) hle))) rfl ?_; refine z7 (zi rfl rfl rfl) rfl ?_; refine zh ?_; refine zj ?_
  refine qi L (rs := [.tmp 2]) rfl (fun _ _ h => h) Since.refl fun u H hH hle => ?_
  rfl
theorem mput_ret {cf : Nat} {c : KT → KT → Int} (hc : Cmp cf c) {p : Option Addr} (k : KT) (x : VT) {t : Tr KT VT} {w : World} {B : Heap} (hB : B.Le (hp w)) (hv : TA t (.pointer p) B) (hs : t.size + 1 < 1099511627776) :
    Ret Tryz.prog 78 [mv cf (.pointer p), kv k, vv x] w B (MA (.func (.func cf) #[] #[]) (Tr.put c k x t)) := by
  refine qx Tryz.func78 rfl Tryz.ntmps78 (Nat.le_of_ble_eq_true rfl) hB ?_
  refine zg ?_; refine z8 (id := 0) ?_; refine z7 (ok_boxR rfl rfl rfl rfl) rfl ?_; refine z7 (qf rfl rfl rfl rfl) rfl ?_; refine z7 (qf rfl rfl rfl rfl) rfl ?_; refine z7 (qm L rfl rfl rfl rfl) rfl ?_; refine zh ?_; refine zj ?_; refine zg ?_; refine zg ?_; (refine V_box 3 rfl ?_; intro b3 hb3); refine z8 (id := 1) ?_; refine z7 (q0 L rfl rfl rfl rfl) rfl ?_; refine z7 (zo L (qk rfl (List.Mem.head _)) rfl rfl rfl rfl) rfl ?_; refine z7 (ok_nneq rfl rfl rfl rfl nk33 rfl rfl) rfl ?_; refine zh ?_; refine zj ?_; refine qa rfl ?_; refine z8 (id := 2) ?_; refine z7 (zz L (vs := [_, _]) (qk rfl (List.Mem.head _)) rfl rfl rfl rfl ⟨_, rfl⟩) rfl ?_; refine z7 (q0 L rfl rfl rfl rfl) rfl ?_; refine z7 (zo L (qk rfl (List.Mem.head _)) rfl rfl rfl rfl) rfl ?_; refine z7 (zz L (vs := [_, _, _, _, _, _]) (zq rfl) rfl rfl rfl rfl ⟨_, rfl⟩) rfl ?_; refine z7 (zz L (vs := []) (zq rfl) rfl rfl rfl rfl ⟨_, rfl⟩) rfl ?_; refine z7 (qv (cs := [_, _, _, _, _, _]) rfl rfl pl104 rfl rfl) rfl ?_; refine z7 (ya L rfl rfl (zm rfl) rfl rfl rfl TA.mono (fun u H hH hle _ => put_ret hc _ k x t hH (hv.le hle) hs)) rfl ?_; refine vo_opn 16 rfl ?_; intro p16 H16 hs16 hp16; obtain ⟨q16, rfl⟩ := TA.ptr hp16; refine z7 (q0 L rfl rfl rfl rfl) rfl ?_; refine box_store L (O1 := []) rfl rfl rfl rfl rfl rfl rfl rfl rfl ?_; refine zh ?_; refine zj ?_; refine zg ?_; refine z8 (id := 3) ?_; refine z7 (zz L (vs := [_, _]) (qk rfl (List.Mem.head _)) rfl rfl rfl rfl ⟨_, rfl⟩) rfl ?_; refine z7 (qg L rfl rfl rfl rfl rfl rfl rfl rfl) rfl ?_; refine zh ?_; refine zj ?_
  refine qi L (rs := [.cell 6 36]) rfl (fun _ _ h => h) hs16 fun u H hH hle => ?_
  refine resK_cellA (ql rfl) rfl rfl ?_
  exact ⟨q16, rfl, hp16.le hle⟩
theorem mdrop_ret {cf : Nat} {c : KT → KT → Int} (hc : Cmp cf c) {p : Option Addr} (k : KT) {t : Tr KT VT} {w : World} {B : Heap} (hB : B.Le (hp w)) (hv : TA t (.pointer p) B) (hs : t.size < 1099511627776) :
    Ret Tryz.prog 77 [mv cf (.pointer p), kv k] w B (MA (.func (.func cf) #[] #[]) (if (Tr.drop c k t).2 = true then (Tr.drop c k t).1 else t)) := by
  have hD := fun (u : World) (H : Heap) (hH : H.Le (hp u)) (hle : B.Le H) => drop_ret hc (.pointer p) k t hH (hv.le hle) hs
  rcases hq : Tr.drop c k t with ⟨t', was⟩
  rw [hq] at hD
  have hm := TA.mono (t := t')
  cases was
  · rw [if_neg (by simp)]
    refine qx Tryz.func77 rfl Tryz.ntmps77 (Nat.le_of_ble_eq_true rfl) hB ?_
    refine zg ?_; refine z8 (id := 0) ?_; refine z7 (ok_boxR rfl rfl rfl rfl) rfl ?_; refine z7 (qf rfl rfl rfl rfl) rfl ?_; refine z7 (qm L rfl rfl rfl rfl) rfl ?_; refine zh ?_; refine zj ?_; refine zg ?_; refine zg ?_; (refine V_box 2 rfl ?_; intro b2 hb2); refine z8 (id := 1) ?_; refine z7 (zz L (vs := [_, _]) (qk rfl (List.Mem.head _)) rfl rfl rfl rfl ⟨_, rfl⟩) rfl ?_; refine z7 (q0 L rfl rfl rfl rfl) rfl ?_; refine z7 (zo L (qk rfl (List.Mem.head _)) rfl rfl rfl rfl) rfl ?_; refine z7 (zz L (vs := [_, _, _, _, _, _]) (zq rfl) rfl rfl rfl rfl ⟨_, rfl⟩) rfl ?_; refine z7 (ya L rfl rfl (zm rfl) rfl rfl rfl DropS.mono (fun u H hH hle _ => hD u H hH hle)) rfl ?_; refine z7 (q7 rfl rfl rfl) rfl ?_; refine z7 (ok_extracts rfl rfl rfl rfl (by assumption)) rfl ?_; refine z7 (ok_extractx rfl rfl rfl rfl) rfl ?_; refine z7 (qz rfl rfl rfl) rfl ?_; refine z7 (zi rfl rfl rfl) rfl ?_; refine zh ?_; refine zj ?_; refine zg ?_; refine z8 (id := 2) ?_; refine z7 (zf rfl rfl rfl) rfl ?_; refine zh ?_; refine zj ?_; refine q8 rfl ?_; refine q9 ?_; refine zj ?_; refine zg ?_; refine z8 (id := 4) ?_; refine z7 (zz L (vs := [_, _]) (qk rfl (List.Mem.head _)) rfl rfl rfl rfl ⟨_, rfl⟩) rfl ?_; refine z7 (qg L rfl rfl rfl rfl rfl rfl rfl rfl) rfl ?_; refine zh ?_; refine zj ?_
    refine qi L (rs := [.cell 4 36]) rfl (fun _ _ h => h) Since.refl fun u H hH hle => ?_
    refine resK_cellA (ql rfl) rfl rfl ?_
    exact ⟨p, rfl, hv.le hle⟩
  · rw [if_pos rfl]
    refine qx Tryz.func77 rfl Tryz.ntmps77 (Nat.le_of_ble_eq_true rfl) hB ?_
    refine zg ?_; refine z8 (id := 0) ?_; refine z7 (ok_boxR rfl rfl rfl rfl) rfl ?_; refine z7 (qf rfl rfl rfl rfl) rfl ?_; refine z7 (qm L rfl rfl rfl rfl) rfl ?_; refine zh ?_; refine zj ?_; refine zg ?_; refine zg ?_; (refine V_box 2 rfl ?_; intro b2 hb2); refine z8 (id := 1) ?_; refine z7 (zz L (vs := [_, _]) (qk rfl (List.Mem.head _)) rfl rfl rfl rfl ⟨_, rfl⟩) rfl ?_; refine z7 (q0 L rfl rfl rfl rfl) rfl ?_; refine z7 (zo L (qk rfl (List.Mem.head _)) rfl rfl rfl rfl) rfl ?_; refine z7 (zz L (vs := [_, _, _, _, _, _]) (zq rfl) rfl rfl rfl rfl ⟨_, rfl⟩) rfl ?_; refine z7 (ya L rfl rfl (zm rfl) rfl rfl rfl DropS.mono (fun u H hH hle _ => hD u H hH hle)) rfl ?_; refine z7 (q7 rfl rfl rfl) rfl ?_; refine z7 (ok_extracts rfl rfl rfl rfl (by assumption)) rfl ?_; refine z7 (ok_extractx rfl rfl rfl rfl) rfl ?_; refine z7 (qz rfl rfl rfl) rfl ?_; refine z7 (zi rfl rfl rfl) rfl ?_; refine zh ?_; refine zj ?_; refine zg ?_; refine z8 (id := 2) ?_; refine z7 (zf rfl rfl rfl) rfl ?_; refine zh ?_; refine zj ?_; refine qa rfl ?_; refine z8 (id := 3) ?_; refine z7 (q7 rfl rfl rfl) rfl ?_; refine vo_opn 16 rfl ?_; intro p16 H16 hs16 hp16; obtain ⟨q16, rfl⟩ := TA.ptr hp16; refine z7 (q0 L rfl rfl rfl rfl) rfl ?_; refine box_store L (O1 := []) rfl rfl rfl rfl rfl rfl rfl rfl rfl ?_; refine zh ?_; refine zj ?_; refine zg ?_; refine z8 (id := 4) ?_; refine z7 (zz L (vs := [_, _]) (qk rfl (List.Mem.head _)) rfl rfl rfl rfl ⟨_, rfl⟩) rfl ?_; refine z7 (qg L rfl rfl rfl rfl rfl rfl rfl rfl) rfl ?_; refine zh ?_; refine zj ?_
    refine qi L (rs := [.cell 4 36]) rfl (fun _ _ h => h) hs16 fun u H hH hle => ?_
    refine resK_cellA (ql rfl) rfl rfl ?_
    exact ⟨q16, rfl, hp16.le hle⟩
def getV : Option VT → List Value
  | some x => [vv x, .bool true]
  | none => [.agg #[], .bool false]
theorem get_ret {cf : Nat} {c : KT → KT → Int} (hc : Cmp cf c) (k : KT) {root : Value} {t : Tr KT VT} {w : World} {B : Heap} (hB : B.Le (hp w)) (hv : TA t root B) :
    Ret Tryz.prog 48 [mv cf root, kv k] w B (fun v _ => v = tup (getV (Tr.get c k t))) := by
  refine qx Tryz.func48 rfl Tryz.ntmps48 (Nat.le_of_ble_eq_true rfl) hB ?_
  refine zg ?_; refine z8 (id := 0) ?_; refine z7 (qf rfl rfl rfl rfl) rfl ?_; refine z7 (qf rfl rfl rfl rfl) rfl ?_; refine z7 (qm L rfl rfl rfl rfl) rfl ?_; refine z7 (zi rfl rfl rfl) rfl ?_; refine zh ?_; refine zj ?_; refine zg ?_; refine z8 (id := 1) ?_; refine z7 (zk L rfl rfl rfl rfl) rfl ?_; refine z7 (zo L (zq rfl) rfl rfl rfl rfl) rfl ?_; refine z7 (zi rfl rfl rfl) rfl ?_; refine zh ?_; refine zj ?_; refine zg ?_; refine qd ?_
  refine V_loop (fun s : Tr KT VT × Value => [(3, .sat (At [.string k.1.1.1, .string k.1.1.2, .string k.1.2, .string k.2.1.1, .string k.2.1.2, .string k.2.2] 50 0)), (4, .own (Cell [] 91)), (2, .sat (At [.func (.func cf) #[] #[], root] 36 0)), (6, .is s.2)])
    (fun s => TA s.1 s.2 B ∧ Tr.get c k s.1 = Tr.get c k t) (fun s => s.1.size) (t, root) ⟨hv, rfl⟩ (by repeat (first | exact trivial | refine ⟨rfl, ?_⟩)) ?_
  rintro ⟨s, v⟩ ⟨hs, hg⟩
  dsimp only at hs hg ⊢
  cases s with
  | nil =>
    obtain rfl : v = .pointer none := hs
    refine zg ?_; refine zg ?_; refine z8 (id := 2) ?_; refine z7 (zf rfl rfl rfl) rfl ?_; refine z7 (ok_nneq rfl rfl rfl rfl nk34 rfl rfl) rfl ?_; refine zh ?_; refine zj ?_; refine q8 rfl ?_; refine yi ?_; refine qu ?_; refine qu ?_; refine yh ?_; refine zj ?_; refine zg ?_; refine z8 (id := 9) ?_; refine z7 (qm L rfl rfl rfl rfl) rfl ?_; refine zh ?_; refine zj ?_; refine zg ?_; refine z8 (id := 10) ?_; refine z7 (zz L (vs := []) (ql rfl) rfl rfl rfl rfl ⟨_, rfl⟩) rfl ?_; refine z7 (qg L rfl rfl rfl rfl rfl rfl rfl rfl) rfl ?_; refine z7 (zi rfl rfl rfl) rfl ?_; refine zh ?_; refine zj ?_
    refine qi L (rs := [.cell 4 91, .tmp 5]) rfl (fun _ _ h => h) Since.refl fun u H hH hle => ?_
    first | (rw [← hg]; rfl) | (refine resK_cellA (ql rfl) rfl rfl ?_; rw [← hg]; rfl)
  | node nk nx l r =>
    obtain ⟨b, lv, rv, rfl, hb, hl, hr⟩ := hs
    by_cases h0 : c k nk = 0
    · rw [Tr.get_eq h0] at hg
      refine zg ?_; refine zg ?_; refine z8 (id := 2) ?_; refine z7 (zf rfl rfl rfl) rfl ?_; refine z7 (ok_nneq rfl rfl rfl rfl nk34 rfl rfl) rfl ?_; refine zh ?_; refine zj ?_; refine qa rfl ?_; refine q9 ?_; refine zj ?_; refine qd ?_; refine zg ?_; refine qj (id := 3) [] mixed (by kernel_rfl) ?_; refine zd (zk L rfl rfl rfl rfl) rfl ?_; refine zd (zo L (zq rfl) rfl rfl rfl rfl) rfl ?_; refine zd (zz L (vs := [_, _, _, _, _, _]) (zq rfl) rfl rfl rfl rfl ⟨_, rfl⟩) rfl ?_; refine zd (zf rfl rfl rfl) rfl ?_; refine zd (yd rfl rfl rfl) rfl ?_; refine zd (q0 L rfl rfl rfl rfl) rfl ?_; refine zd (q0 L rfl rfl rfl rfl) rfl ?_; refine zd (zz L (vs := [_, _, _, _, _, _]) (qh rfl (by assumption)) rfl rfl rfl rfl ⟨_, rfl⟩) rfl ?_; refine zd (q6 L rfl rfl (zm rfl) rfl rfl hc.fn (fun u H hH _ _ => hc.ret _ _ u H hH)) rfl ?_; refine zd (zi rfl rfl rfl) rfl ?_; refine qq ?_; refine zj ?_; refine zg ?_; refine zg ?_; refine z8 (id := 4) ?_; refine z7 (zf rfl rfl rfl) rfl ?_; refine z7 (qp rfl rfl rfl rfl (decide_eq_true (by omega))) rfl ?_; refine zh ?_; refine zj ?_; refine qa rfl ?_; refine zg ?_; refine z8 (id := 5) ?_; refine z7 (zf rfl rfl rfl) rfl ?_; refine z7 (yd rfl rfl rfl) rfl ?_; refine z7 (q0 L rfl rfl rfl rfl) rfl ?_; refine z7 (ok_fieldZP (by assumption) rfl rfl rfl (by kernel_rfl)) rfl ?_; refine z7 (ok_loadZ L rfl rfl rfl rfl) rfl ?_; refine z7 (qg L rfl rfl rfl rfl rfl rfl rfl rfl) rfl ?_; refine z7 (zi rfl rfl rfl) rfl ?_; refine zh ?_; refine zj ?_
      refine qi L (rs := [.cell 4 91, .tmp 5]) rfl (fun _ _ h => h) Since.refl fun u H hH hle => ?_
      first | (rw [← hg]; rfl) | (refine resK_cellA (ql rfl) rfl rfl ?_; rw [← hg]; rfl)
    · by_cases h1 : c k nk < 0
      · rw [Tr.get_lt h1] at hg
        refine zg ?_; refine zg ?_; refine z8 (id := 2) ?_; refine z7 (zf rfl rfl rfl) rfl ?_; refine z7 (ok_nneq rfl rfl rfl rfl nk34 rfl rfl) rfl ?_; refine zh ?_; refine zj ?_; refine qa rfl ?_; refine q9 ?_; refine zj ?_; refine qd ?_; refine zg ?_; refine qj (id := 3) [] mixed (by kernel_rfl) ?_; refine zd (zk L rfl rfl rfl rfl) rfl ?_; refine zd (zo L (zq rfl) rfl rfl rfl rfl) rfl ?_; refine zd (zz L (vs := [_, _, _, _, _, _]) (zq rfl) rfl rfl rfl rfl ⟨_, rfl⟩) rfl ?_; refine zd (zf rfl rfl rfl) rfl ?_; refine zd (yd rfl rfl rfl) rfl ?_; refine zd (q0 L rfl rfl rfl rfl) rfl ?_; refine zd (q0 L rfl rfl rfl rfl) rfl ?_; refine zd (zz L (vs := [_, _, _, _, _, _]) (qh rfl (by assumption)) rfl rfl rfl rfl ⟨_, rfl⟩) rfl ?_; refine zd (q6 L rfl rfl (zm rfl) rfl rfl hc.fn (fun u H hH _ _ => hc.ret _ _ u H hH)) rfl ?_; refine zd (zi rfl rfl rfl) rfl ?_; refine qq ?_; refine zj ?_; refine zg ?_; refine zg ?_; refine z8 (id := 4) ?_; refine z7 (zf rfl rfl rfl) rfl ?_; refine z7 (qp rfl rfl rfl rfl (decide_eq_false (by omega))) rfl ?_; refine zh ?_; refine zj ?_; refine q8 rfl ?_; refine q9 ?_; refine zj ?_; refine zg ?_; refine z8 (id := 6) ?_; refine z7 (zf rfl rfl rfl) rfl ?_; refine z7 (qe rfl rfl rfl rfl (decide_eq_true (by omega))) rfl ?_; refine zh ?_; refine zj ?_; refine qa rfl ?_; refine z8 (id := 7) ?_; refine z7 (zf rfl rfl rfl) rfl ?_; refine z7 (yd rfl rfl rfl) rfl ?_; refine z7 (q0 L rfl rfl rfl rfl) rfl ?_; refine z7 (zo L (qh rfl (by assumption)) rfl rfl rfl rfl) rfl ?_; refine z7 (zi rfl rfl rfl) rfl ?_; refine zh ?_; refine qr ?_
        exact y7 (x := (Tr.node nk nx l r, Value.pointer (some ⟨b, 0, none⟩))) (l, lv) ⟨hl, hg⟩ (by simp only [Tr.size_node]; omega) (by repeat (first | exact trivial | refine ⟨rfl, ?_⟩))
      · rw [Tr.get_gt h0 h1] at hg
        refine zg ?_; refine zg ?_; refine z8 (id := 2) ?_; refine z7 (zf rfl rfl rfl) rfl ?_; refine z7 (ok_nneq rfl rfl rfl rfl nk34 rfl rfl) rfl ?_; refine zh ?_; refine zj ?_; refine qa rfl ?_; refine q9 ?_; refine zj ?_; refine qd ?_; refine zg ?_; refine qj (id := 3) [] mixed (by kernel_rfl) ?_; refine zd (zk L rfl rfl rfl rfl) rfl ?_; refine zd (zo L (zq rfl) rfl rfl rfl rfl) rfl ?_; refine zd (zz L (vs := [_, _, _, _, _, _]) (zq rfl) rfl rfl rfl rfl ⟨_, rfl⟩) rfl ?_; refine zd (zf rfl rfl rfl) rfl ?_; refine zd (yd rfl rfl rfl) rfl ?_; refine zd (q0 L rfl rfl rfl rfl) rfl ?_; refine zd (q0 L rfl rfl rfl rfl) rfl ?_; refine zd (zz L (vs := [_, _, _, _, _, _]) (qh rfl (by assumption)) rfl rfl rfl rfl ⟨_, rfl⟩) rfl ?_; refine zd (q6 L rfl rfl (zm rfl) rfl rfl hc.fn (fun u H hH _ _ => hc.ret _ _ u H hH)) rfl ?_; refine zd (zi rfl rfl rfl) rfl ?_; refine qq ?_; refine zj ?_; refine zg ?_; refine zg ?_; refine z8 (id := 4) ?_; refine z7 (zf rfl rfl rfl) rfl ?_; refine z7 (qp rfl rfl rfl rfl (decide_eq_false (by omega))) rfl ?_; refine zh ?_; refine zj ?_; refine q8 rfl ?_; refine q9 ?_; refine zj ?_; refine zg ?_; refine z8 (id := 6) ?_; refine z7 (zf rfl rfl rfl) rfl ?_; refine z7 (qe rfl rfl rfl rfl (decide_eq_false (by omega))) rfl ?_; refine zh ?_; refine zj ?_; refine q8 rfl ?_; refine z8 (id := 8) ?_; refine z7 (zf rfl rfl rfl) rfl ?_; refine z7 (yd rfl rfl rfl) rfl ?_; refine z7 (q0 L rfl rfl rfl rfl) rfl ?_; refine z7 (zo L (qh rfl (by assumption)) rfl rfl rfl rfl) rfl ?_; refine z7 (zi rfl rfl rfl) rfl ?_; refine zh ?_; refine qr ?_
        exact y7 (x := (Tr.node nk nx l r, Value.pointer (some ⟨b, 0, none⟩))) (r, rv) ⟨hr, hg⟩ (by simp only [Tr.size_node]; omega) (by repeat (first | exact trivial | refine ⟨rfl, ?_⟩))
theorem rank_ret {cf : Nat} {c : KT → KT → Int} (hc : Cmp cf c) (k : KT) {root : Value} {t : Tr KT VT} {w : World} {B : Heap} (hB : B.Le (hp w)) (hv : TA t root B) (hs : t.size < 1099511627776) :
    Ret Tryz.prog 60 [mv cf root, kv k] w B (fun v _ => v = .int .i64 (Tr.rank c k t)) := by
  refine qx Tryz.func60 rfl Tryz.ntmps60 (Nat.le_of_ble_eq_true rfl) hB ?_
  refine zg ?_; refine z8 (id := 0) ?_; refine z7 (qf rfl rfl rfl rfl) rfl ?_; refine z7 (qf rfl rfl rfl rfl) rfl ?_; refine z7 (zi rfl rfl rfl) rfl ?_; refine zh ?_; refine zj ?_; refine zg ?_; refine z8 (id := 1) ?_; refine z7 (zi rfl rfl rfl) rfl ?_; refine zh ?_; refine zj ?_; refine zg ?_; refine zg ?_; refine z8 (id := 2) ?_; refine z7 (zk L rfl rfl rfl rfl) rfl ?_; refine z7 (zo L (zq rfl) rfl rfl rfl rfl) rfl ?_; refine z7 (zi rfl rfl rfl) rfl ?_; refine zh ?_; refine zj ?_; refine qd ?_
  refine V_loop (fun s : Tr KT VT × Value × Nat => [(3, .sat (At [.string k.1.1.1, .string k.1.1.2, .string k.1.2, .string k.2.1.1, .string k.2.1.2, .string k.2.2] 50 0)), (2, .sat (At [.func (.func cf) #[] #[], root] 36 0)), (5, .is (.int .i64 s.2.2)), (6, .is s.2.1)])
    (fun s => TA s.1 s.2.1 B ∧ Tr.rank c k t = s.2.2 + Tr.rank c k s.1 ∧ s.2.2 + s.1.size ≤ t.size) (fun s => s.1.size) (t, root, 0) ⟨hv, by simp, by simp⟩ (by repeat (first | exact trivial | refine ⟨rfl, ?_⟩)) ?_
  rintro ⟨s, v, m⟩ ⟨hs', hg, hz⟩
  dsimp only at hs' hg hz ⊢
  cases s with
  | nil =>
    obtain rfl : v = .pointer none := hs'
    refine zg ?_; refine zg ?_; refine z8 (id := 3) ?_; refine z7 (zf rfl rfl rfl) rfl ?_; refine z7 (ok_nneq rfl rfl rfl rfl nk34 rfl rfl) rfl ?_; refine zh ?_; refine zj ?_; refine q8 rfl ?_; refine yi ?_; refine qu ?_; refine qu ?_; refine yh ?_; refine zj ?_; refine zg ?_; refine z8 (id := 8) ?_; refine z7 (zf rfl rfl rfl) rfl ?_; refine z7 (zi rfl rfl rfl) rfl ?_; refine zh ?_; refine zj ?_
    refine qi L (rs := [.tmp 4]) rfl (fun _ _ h => h) Since.refl fun u H hH hle => ?_
    rw [hg]; rfl
  | node nk nx l r =>
    obtain ⟨b, lv, rv, rfl, hb, hl, hr⟩ := hs'
    simp only [Tr.size_node] at hz
    by_cases h1 : c nk k < 0
    · rw [Tr.rank_lt h1] at hg
      refine zg ?_; refine zg ?_; refine z8 (id := 3) ?_; refine z7 (zf rfl rfl rfl) rfl ?_; refine z7 (ok_nneq rfl rfl rfl rfl nk34 rfl rfl) rfl ?_; refine zh ?_; refine zj ?_; refine qa rfl ?_; refine q9 ?_; refine zj ?_; refine qd ?_; refine zg ?_; refine qj (id := 4) [] mixed (by kernel_rfl) ?_; refine zd (zk L rfl rfl rfl rfl) rfl ?_; refine zd (zo L (zq rfl) rfl rfl rfl rfl) rfl ?_; refine zd (zf rfl rfl rfl) rfl ?_; refine zd (yd rfl rfl rfl) rfl ?_; refine zd (q0 L rfl rfl rfl rfl) rfl ?_; refine zd (q0 L rfl rfl rfl rfl) rfl ?_; refine zd (zz L (vs := [_, _, _, _, _, _]) (qh rfl (by assumption)) rfl rfl rfl rfl ⟨_, rfl⟩) rfl ?_; refine zd (zz L (vs := [_, _, _, _, _, _]) (zq rfl) rfl rfl rfl rfl ⟨_, rfl⟩) rfl ?_; refine zd (q6 L rfl rfl (zm rfl) rfl rfl hc.fn (fun u H hH _ _ => hc.ret _ _ u H hH)) rfl ?_; refine zd (qe rfl rfl rfl rfl (decide_eq_true (by omega))) rfl ?_; refine qq ?_; refine zj ?_; refine qa rfl ?_; refine zg ?_; refine z8 (id := 5) ?_; refine z7 (zf rfl rfl rfl) rfl ?_; refine z7 (zf rfl rfl rfl) rfl ?_; refine z7 (yd rfl rfl rfl) rfl ?_; refine z7 (q0 L rfl rfl rfl rfl) rfl ?_; refine z7 (zo L (qh rfl (by assumption)) rfl rfl rfl rfl) rfl ?_; refine z7 (q6 L rfl rfl (zm rfl) rfl rfl rfl (fun u H hH hle _ => UT.size_ret _ hH (UT.TA.le (by assumption) hle))) rfl ?_; refine z7 (qy rfl rfl rfl rfl (wrap_i64 (by omega) (by omega))) rfl ?_; refine z7 (qy rfl rfl rfl rfl (wrap_i64 (by omega) (by omega))) rfl ?_; refine z7 (zi rfl rfl rfl) rfl ?_; refine zh ?_; refine zj ?_; refine z8 (id := 6) ?_; refine z7 (zf rfl rfl rfl) rfl ?_; refine z7 (yd rfl rfl rfl) rfl ?_; refine z7 (q0 L rfl rfl rfl rfl) rfl ?_; refine z7 (zo L (qh rfl (by assumption)) rfl rfl rfl rfl) rfl ?_; refine z7 (zi rfl rfl rfl) rfl ?_; refine zh ?_; refine qr ?_
      exact y7 (x := (Tr.node nk nx l r, Value.pointer (some ⟨b, 0, none⟩), m)) (r, rv, m + (l.size + 1)) ⟨hr, by dsimp only; omega, by dsimp only; omega⟩ (by simp only [Tr.size_node]; omega) (by repeat (first | exact trivial | refine ⟨rfl, ?_⟩))
    · rw [Tr.rank_ge h1] at hg
      refine zg ?_; refine zg ?_; refine z8 (id := 3) ?_; refine z7 (zf rfl rfl rfl) rfl ?_; refine z7 (ok_nneq rfl rfl rfl rfl nk34 rfl rfl) rfl ?_; refine zh ?_; refine zj ?_; refine qa rfl ?_; refine q9 ?_; refine zj ?_; refine qd ?_; refine zg ?_; refine qj (id := 4) [] mixed (by kernel_rfl) ?_; refine zd (zk L rfl rfl rfl rfl) rfl ?_; refine zd (zo L (zq rfl) rfl rfl rfl rfl) rfl ?_; refine zd (zf rfl rfl rfl) rfl ?_; refine zd (yd rfl rfl rfl) rfl ?_; refine zd (q0 L rfl rfl rfl rfl) rfl ?_; refine zd (q0 L rfl rfl rfl rfl) rfl ?_; refine zd (zz L (vs := [_, _, _, _, _, _]) (qh rfl (by assumption)) rfl rfl rfl rfl ⟨_, rfl⟩) rfl ?_; refine zd (zz L (vs := [_, _, _, _, _, _]) (zq rfl) rfl rfl rfl rfl ⟨_, rfl⟩) rfl ?_; refine zd (q6 L rfl rfl (zm rfl) rfl rfl hc.fn (fun u H hH _ _ => hc.ret _ _ u H hH)) rfl ?_; refine zd (qe rfl rfl rfl rfl (decide_eq_false (by omega))) rfl ?_; refine qq ?_; refine zj ?_; refine q8 rfl ?_; refine z8 (id := 7) ?_; refine z7 (zf rfl rfl rfl) rfl ?_; refine z7 (yd rfl rfl rfl) rfl ?_; refine z7 (q0 L rfl rfl rfl rfl) rfl ?_; refine z7 (zo L (qh rfl (by assumption)) rfl rfl rfl rfl) rfl ?_; refine z7 (zi rfl rfl rfl) rfl ?_; refine zh ?_; refine qr ?_
      exact y7 (x := (Tr.node nk nx l r, Value.pointer (some ⟨b, 0, none⟩), m)) (l, lv, m) ⟨hl, hg, by dsimp only; omega⟩ (by simp only [Tr.size_node]; omega) (by repeat (first | exact trivial | refine ⟨rfl, ?_⟩))
theorem rank_nil (k : KT) {fv : Value} {w : World} {B : Heap} (hB : B.Le (hp w)) :
    Ret Tryz.prog 60 [.agg #[fv, .pointer none], kv k] w B (fun v _ => v = .int .i64 0) := by
  refine qx Tryz.func60 rfl Tryz.ntmps60 (Nat.le_of_ble_eq_true rfl) hB ?_
  refine zg ?_; refine z8 (id := 0) ?_; refine z7 (qf rfl rfl rfl rfl) rfl ?_; refine z7 (qf rfl rfl rfl rfl) rfl ?_; refine z7 (zi rfl rfl rfl) rfl ?_; refine zh ?_; refine zj ?_; refine zg ?_; refine z8 (id := 1) ?_; refine z7 (zi rfl rfl rfl) rfl ?_; refine zh ?_; refine zj ?_; refine zg ?_; refine zg ?_; refine z8 (id := 2) ?_; refine z7 (zk L rfl rfl rfl rfl) rfl ?_; refine z7 (zo L (zq rfl) rfl rfl rfl rfl) rfl ?_; refine z7 (zi rfl rfl rfl) rfl ?_; refine zh ?_; refine zj ?_; refine qd ?_
  refine V_loop (fun _ : Unit => [(5, .is (.int .i64 0)), (6, .is (.pointer none))]) (fun _ => True) (fun _ => 0) () trivial (by repeat (first | exact trivial | refine ⟨rfl, ?_⟩)) ?_
  rintro _ _
  refine zg ?_; refine zg ?_; refine z8 (id := 3) ?_; refine z7 (zf rfl rfl rfl) rfl ?_; refine z7 (ok_nneq rfl rfl rfl rfl nk34 rfl rfl) rfl ?_; refine zh ?_; refine zj ?_; refine q8 rfl ?_; refine yi ?_; refine qu ?_; refine qu ?_; refine yh ?_; refine zj ?_; refine zg ?_; refine z8 (id := 8) ?_; refine z7 (zf rfl rfl rfl) rfl ?_; refine z7 (zi rfl rfl rfl) rfl ?_; refine zh ?_; refine zj ?_
  refine qi L (rs := [.tmp 4]) rfl (fun _ _ h => h) Since.refl fun u H hH hle => ?_
  rfl
def atV : Option (KT × VT) → List Value
  | some y => [.agg (pl y.1 y.2).toArray, .int .i64 0]
  | none => [.agg #[.string ⟨#[]⟩, .string ⟨#[]⟩, .string ⟨#[]⟩, .string ⟨#[]⟩, .string ⟨#[]⟩, .string ⟨#[]⟩], .int .i64 4]
def atO (t : Tr KT VT) (i : Int) : Option (KT × VT) := if i < 0 then none else Tr.at' t i.toNat
theorem at_none : ∀ (t : Tr KT VT) (i : Nat), t.size ≤ i → Tr.at' t i = none
  | .nil, _, _ => rfl
  | .node k x l r, i, h => by
    simp only [Tr.size_node] at h
    rw [Tr.at_gt (by omega)]
    exact at_none r _ (by omega)
theorem at_ret {fv root : Value} {t : Tr KT VT} (i : Int) {w : World} {B : Heap} (hB : B.Le (hp w)) (hv : TA t root B) (hs : t.size < 1099511627776) :
    Ret Tryz.prog 62 [.agg #[fv, root], .int .i64 i] w B (fun v _ => v = tup (atV (atO t i))) := by
  refine qx Tryz.func62 rfl Tryz.ntmps62 (Nat.le_of_ble_eq_true rfl) hB ?_
  by_cases h0 : i < 0
  · refine zg ?_; refine z8 (id := 0) ?_; refine z7 (qf rfl rfl rfl rfl) rfl ?_; refine z7 (qm L rfl rfl rfl rfl) rfl ?_; refine z7 (zi rfl rfl rfl) rfl ?_; refine zh ?_; refine zj ?_; refine zg ?_; refine zg ?_; refine z8 (id := 1) ?_; refine z7 (zf rfl rfl rfl) rfl ?_; refine z7 (qe rfl rfl rfl rfl (decide_eq_true (by omega))) rfl ?_; refine z7 (zf rfl rfl rfl) rfl ?_; refine z7 (zn rfl (zm rfl) rfl) rfl ?_; refine z7 (zn rfl (zm rfl) rfl) rfl ?_; refine z7 (zn rfl (zm rfl) rfl) rfl ?_; refine z7 (zn rfl (zm rfl) rfl) rfl ?_; refine z7 (zw rfl rfl rfl rfl) rfl ?_; refine zh ?_; refine zj ?_; refine qa rfl ?_; refine zg ?_; refine z8 (id := 2) ?_; refine z7 (qv (cs := [_, _, _, _, _, _]) rfl rfl pl104 rfl rfl) rfl ?_; refine z7 (qg L rfl rfl rfl rfl rfl rfl rfl rfl) rfl ?_; refine z7 (zi rfl rfl rfl) rfl ?_; refine zh ?_; refine zj ?_
    refine qi L (rs := [.cell 4 104, .tmp 5]) rfl (fun _ _ h => h) Since.refl fun u H hH hle => ?_
    refine resK_cellA (ql rfl) rfl rfl ?_
    rw [atO, if_pos h0]; rfl
  · by_cases h1 : i ≥ t.size
    · refine zg ?_; refine z8 (id := 0) ?_; refine z7 (qf rfl rfl rfl rfl) rfl ?_; refine z7 (qm L rfl rfl rfl rfl) rfl ?_; refine z7 (zi rfl rfl rfl) rfl ?_; refine zh ?_; refine zj ?_; refine zg ?_; refine zg ?_; refine z8 (id := 1) ?_; refine z7 (zf rfl rfl rfl) rfl ?_; refine z7 (qe rfl rfl rfl rfl (decide_eq_false (by omega))) rfl ?_; refine z7 (zf rfl rfl rfl) rfl ?_; refine z7 (zf rfl rfl rfl) rfl ?_; refine z7 (zz L (vs := [_, _]) (zq rfl) rfl rfl rfl rfl ⟨_, rfl⟩) rfl ?_; refine z7 (q6 L rfl rfl (zm rfl) rfl rfl rfl (fun u H hH hle _ => len_ret hH (hv.le hle))) rfl ?_; refine z7 (ok_geq rfl rfl rfl rfl (decide_eq_true (by omega))) rfl ?_; refine z7 (zw rfl rfl rfl rfl) rfl ?_; refine zh ?_; refine zj ?_; refine qa rfl ?_; refine zg ?_; refine z8 (id := 2) ?_; refine z7 (qv (cs := [_, _, _, _, _, _]) rfl rfl pl104 rfl rfl) rfl ?_; refine z7 (qg L rfl rfl rfl rfl rfl rfl rfl rfl) rfl ?_; refine z7 (zi rfl rfl rfl) rfl ?_; refine zh ?_; refine zj ?_
      refine qi L (rs := [.cell 4 104, .tmp 5]) rfl (fun _ _ h => h) Since.refl fun u H hH hle => ?_
      refine resK_cellA (ql rfl) rfl rfl ?_
      rw [atO, if_neg h0, at_none t _ (by omega)]; rfl
    · obtain ⟨j, rfl⟩ := Int.eq_ofNat_of_zero_le (by omega : 0 ≤ i)
      refine zg ?_; refine z8 (id := 0) ?_; refine z7 (qf rfl rfl rfl rfl) rfl ?_; refine z7 (qm L rfl rfl rfl rfl) rfl ?_; refine z7 (zi rfl rfl rfl) rfl ?_; refine zh ?_; refine zj ?_; refine zg ?_; refine zg ?_; refine z8 (id := 1) ?_; refine z7 (zf rfl rfl rfl) rfl ?_; refine z7 (qe rfl rfl rfl rfl (decide_eq_false (by omega))) rfl ?_; refine z7 (zf rfl rfl rfl) rfl ?_; refine z7 (zf rfl rfl rfl) rfl ?_; refine z7 (zz L (vs := [_, _]) (zq rfl) rfl rfl rfl rfl ⟨_, rfl⟩) rfl ?_; refine z7 (q6 L rfl rfl (zm rfl) rfl rfl rfl (fun u H hH hle _ => len_ret hH (hv.le hle))) rfl ?_; refine z7 (ok_geq rfl rfl rfl rfl (decide_eq_false (by omega))) rfl ?_; refine z7 (zw rfl rfl rfl rfl) rfl ?_; refine zh ?_; refine zj ?_; refine q8 rfl ?_; refine q9 ?_; refine zj ?_; refine zg ?_; refine z8 (id := 3) ?_; refine z7 (zk L rfl rfl rfl rfl) rfl ?_; refine z7 (zo L (zq rfl) rfl rfl rfl rfl) rfl ?_; refine z7 (zi rfl rfl rfl) rfl ?_; refine zh ?_; refine zj ?_; refine qd ?_
      refine V_loop (fun s : Tr KT VT × Value × Nat => [(1, .is (.int .i64 s.2.2)), (4, .own (Cell [.string ⟨#[]⟩, .string ⟨#[]⟩, .string ⟨#[]⟩, .string ⟨#[]⟩, .string ⟨#[]⟩, .string ⟨#[]⟩] 104)), (6, .is s.2.1)])
        (fun s => TA s.1 s.2.1 B ∧ Tr.at' t j = Tr.at' s.1 s.2.2 ∧ s.2.2 < s.1.size ∧ s.1.size ≤ t.size) (fun s => s.1.size) (t, root, j) ⟨hv, rfl, by dsimp only; omega, Nat.le_refl _⟩ ⟨rfl, rfl, rfl, trivial⟩ ?_
      rintro ⟨s, v, m⟩ ⟨hs', hg, hlt, hz⟩
      dsimp only at hs' hg hlt hz ⊢
      cases s with
      | nil => cases hlt
      | node nk nx l r =>
        obtain ⟨b, lv, rv, rfl, hb, hl, hr⟩ := hs'
        simp only [Tr.size_node] at hlt hz
        by_cases h2 : m < l.size
        · rw [Tr.at_lt h2] at hg
          refine qd ?_; refine zg ?_; refine z8 (id := 4) ?_; refine z7 (zf rfl rfl rfl) rfl ?_; refine z7 (yd rfl rfl rfl) rfl ?_; refine z7 (q0 L rfl rfl rfl rfl) rfl ?_; refine z7 (zo L (qh rfl (by assumption)) rfl rfl rfl rfl) rfl ?_; refine z7 (q6 L rfl rfl (zm rfl) rfl rfl rfl (fun u H hH hle _ => UT.size_ret _ hH (UT.TA.le (by assumption) hle))) rfl ?_; refine z7 (zi rfl rfl rfl) rfl ?_; refine zh ?_; refine zj ?_; refine qd ?_; refine zg ?_; refine z8 (id := 6) ?_; refine z7 (zf rfl rfl rfl) rfl ?_; refine z7 (zf rfl rfl rfl) rfl ?_; refine z7 (qe rfl rfl rfl rfl (decide_eq_true (by omega))) rfl ?_; refine z7 (zi rfl rfl rfl) rfl ?_; refine zh ?_; refine zj ?_; refine qa rfl ?_; refine z8 (id := 7) ?_; refine z7 (zf rfl rfl rfl) rfl ?_; refine z7 (yd rfl rfl rfl) rfl ?_; refine z7 (q0 L rfl rfl rfl rfl) rfl ?_; refine z7 (zo L (qh rfl (by assumption)) rfl rfl rfl rfl) rfl ?_; refine z7 (zi rfl rfl rfl) rfl ?_; refine zh ?_; refine qr ?_; refine qr ?_
          exact y7 (x := (Tr.node nk nx l r, Value.pointer (some ⟨b, 0, none⟩), m)) (l, lv, m) ⟨hl, hg, h2, by dsimp only; omega⟩ (by simp only [Tr.size_node]; omega) ⟨rfl, rfl, rfl, trivial⟩
        · by_cases h3 : m > l.size
          · rw [Tr.at_gt h3] at hg
            refine qd ?_; refine zg ?_; refine z8 (id := 4) ?_; refine z7 (zf rfl rfl rfl) rfl ?_; refine z7 (yd rfl rfl rfl) rfl ?_; refine z7 (q0 L rfl rfl rfl rfl) rfl ?_; refine z7 (zo L (qh rfl (by assumption)) rfl rfl rfl rfl) rfl ?_; refine z7 (q6 L rfl rfl (zm rfl) rfl rfl rfl (fun u H hH hle _ => UT.size_ret _ hH (UT.TA.le (by assumption) hle))) rfl ?_; refine z7 (zi rfl rfl rfl) rfl ?_; refine zh ?_; refine zj ?_; refine qd ?_; refine zg ?_; refine z8 (id := 6) ?_; refine z7 (zf rfl rfl rfl) rfl ?_; refine z7 (zf rfl rfl rfl) rfl ?_; refine z7 (qe rfl rfl rfl rfl (decide_eq_false (by omega))) rfl ?_; refine z7 (zi rfl rfl rfl) rfl ?_; refine zh ?_; refine zj ?_; refine q8 rfl ?_; refine zg ?_; refine z8 (id := 8) ?_; refine z7 (zf rfl rfl rfl) rfl ?_; refine z7 (zf rfl rfl rfl) rfl ?_; refine z7 (ok_gtr rfl rfl rfl rfl (decide_eq_true (by omega))) rfl ?_; refine z7 (zi rfl rfl rfl) rfl ?_; refine zh ?_; refine zj ?_; refine qa rfl ?_; refine zg ?_; refine z8 (id := 9) ?_; refine z7 (zf rfl rfl rfl) rfl ?_; refine z7 (zf rfl rfl rfl) rfl ?_; refine z7 (qy rfl rfl rfl rfl (wrap_i64 (by omega) (by omega))) rfl ?_; refine z7 (ok_sub rfl rfl rfl rfl (wrap_i64 (by omega) (by omega))) rfl ?_; refine z7 (zi rfl rfl rfl) rfl ?_; refine zh ?_; refine zj ?_; refine z8 (id := 10) ?_; refine z7 (zf rfl rfl rfl) rfl ?_; refine z7 (yd rfl rfl rfl) rfl ?_; refine z7 (q0 L rfl rfl rfl rfl) rfl ?_; refine z7 (zo L (qh rfl (by assumption)) rfl rfl rfl rfl) rfl ?_; refine z7 (zi rfl rfl rfl) rfl ?_; refine zh ?_; refine qr ?_; refine qr ?_
            have e : ((m : Int) - ((l.size : Int) + 1)) = ((m - (l.size + 1) : Nat) : Int) := by omega
            rw [e]
            exact y7 (x := (Tr.node nk nx l r, Value.pointer (some ⟨b, 0, none⟩), m)) (r, rv, m - (l.size + 1)) ⟨hr, hg, by dsimp only; omega, by dsimp only; omega⟩ (by simp only [Tr.size_node]; omega) ⟨rfl, rfl, rfl, trivial⟩
          · rw [Tr.at_eq (by omega)] at hg
            refine qd ?_; refine zg ?_; refine z8 (id := 4) ?_; refine z7 (zf rfl rfl rfl) rfl ?_; refine z7 (yd rfl rfl rfl) rfl ?_; refine z7 (q0 L rfl rfl rfl rfl) rfl ?_; refine z7 (zo L (qh rfl (by assumption)) rfl rfl rfl rfl) rfl ?_; refine z7 (q6 L rfl rfl (zm rfl) rfl rfl rfl (fun u H hH hle _ => UT.size_ret _ hH (UT.TA.le (by assumption) hle))) rfl ?_; refine z7 (zi rfl rfl rfl) rfl ?_; refine zh ?_; refine zj ?_; refine qd ?_; refine zg ?_; refine z8 (id := 6) ?_; refine z7 (zf rfl rfl rfl) rfl ?_; refine z7 (zf rfl rfl rfl) rfl ?_; refine z7 (qe rfl rfl rfl rfl (decide_eq_false (by omega))) rfl ?_; refine z7 (zi rfl rfl rfl) rfl ?_; refine zh ?_; refine zj ?_; refine q8 rfl ?_; refine zg ?_; refine z8 (id := 8) ?_; refine z7 (zf rfl rfl rfl) rfl ?_; refine z7 (zf rfl rfl rfl) rfl ?_; refine z7 (ok_gtr rfl rfl rfl rfl (decide_eq_false (by omega))) rfl ?_; refine z7 (zi rfl rfl rfl) rfl ?_; refine zh ?_; refine zj ?_; refine q8 rfl ?_; refine zg ?_; refine z8 (id := 5) ?_; refine z7 (zf rfl rfl rfl) rfl ?_; refine z7 (yd rfl rfl rfl) rfl ?_; refine z7 (q0 L rfl rfl rfl rfl) rfl ?_; refine z7 (zz L (vs := [_, _, _, _, _, _]) (qh rfl (by assumption)) rfl rfl rfl rfl ⟨_, rfl⟩) rfl ?_; refine z7 (qg L rfl rfl rfl rfl rfl rfl rfl rfl) rfl ?_; refine z7 (zi rfl rfl rfl) rfl ?_; refine zh ?_; refine zj ?_
            refine qi L (rs := [.cell 4 104, .tmp 5]) rfl (fun _ _ h => h) Since.refl fun u H hH hle => ?_
            refine resK_cellA (ql rfl) rfl rfl ?_
            rw [atO, if_neg h0, Int.toNat_natCast, hg]; rfl
end Go.V.UT
namespace Go.V.UT
open Go.Proofs Go.RowKit Go.V
def encP (y : KT × VT) : List Value := [.agg (pl y.1 y.2).toArray]
def PairsAt (t : Tr KT VT) (a f e : Int) : Value → Heap → Prop := fun v H => ∃ b1 b2 b3 b4 root, v = .func (.func 115) #[] #[.pointer (some ⟨b1, 0, none⟩), .pointer (some ⟨b2, 0, none⟩), .pointer (some ⟨b3, 0, none⟩), .pointer (some ⟨b4, 0, none⟩)] ∧
  H b1 = some (.cells [root].toArray 34) ∧ H b2 = some (.cells [.int .i64 a].toArray 3) ∧ H b3 = some (.cells [.int .i64 f].toArray 3) ∧ H b4 = some (.cells [.int .i64 e].toArray 3) ∧ TA t root H
theorem PairsAt.mono {t : Tr KT VT} {a f e : Int} : Kn.mono (.sat (PairsAt t a f e)) := fun _ _ _ ⟨b1, b2, b3, b4, root, h0, h1, h2, h3, h4, h5⟩ hle => ⟨b1, b2, b3, b4, root, h0, hle _ _ h1, hle _ _ h2, hle _ _ h3, hle _ _ h4, h5.le hle⟩
attribute [local irreducible] V N X VO Par StepOK Has Ret RetL Src
theorem pairs_ret (t : Tr KT VT) (a f e : Int) {root : Value} {w : World} {B : Heap} (hB : B.Le (hp w)) (hv : TA t root B) :
    Ret Tryz.prog 102 [root, .int .i64 a, .int .i64 f, .int .i64 e] w B (PairsAt t a f e) := by
  obtain ⟨p, rfl⟩ := hv.ptr
  refine qx Tryz.func102 rfl Tryz.ntmps102 (Nat.le_of_ble_eq_true rfl) hB ?_
  refine zg ?_; refine z8 (id := 0) ?_; refine z7 (qf rfl rfl rfl rfl) rfl ?_; refine z7 (qf rfl rfl rfl rfl) rfl ?_; refine z7 (qf rfl rfl rfl rfl) rfl ?_; refine z7 (qf rfl rfl rfl rfl) rfl ?_; refine z7 (zi rfl rfl rfl) rfl ?_; refine zh ?_; refine zj ?_; refine zg ?_
  refine V_opn 4 rfl fun v1 H1 hs1 ⟨b1, e1, h1⟩ => ?_
  subst e1
  refine V_opn 5 rfl fun v2 H2 hs2 ⟨b2, e2, h2⟩ => ?_
  subst e2
  refine V_opn 6 rfl fun v3 H3 hs3 ⟨b3, e3, h3⟩ => ?_
  subst e3
  refine V_opn 7 rfl fun v4 H4 hs4 ⟨b4, e4, h4⟩ => ?_
  subst e4
  refine z8 (id := 1) ?_; refine z7 (ok_makeFunc rfl rfl rfl rfl) rfl ?_; refine z7 (zi rfl rfl rfl) rfl ?_; refine zh ?_; refine zj ?_
  refine qi L (rs := [.tmp 8]) rfl (fun _ _ h => h) (hs1.trans (hs2.trans (hs3.trans hs4))) fun u H hH hle => ?_
  exact ⟨b1, b2, b3, b4, _, rfl, hle _ _ (hs4.le _ _ (hs3.le _ _ (hs2.le _ _ h1))), hle _ _ (hs4.le _ _ (hs3.le _ _ h2)), hle _ _ (hs4.le _ _ h3), hle _ _ h4, (((hv.le hs1.le).le hs2.le).le (hs3.le.trans hs4.le)).le hle⟩
theorem encP_of {l : List (KT × VT)} {x : List Value} {pre : Seqs} (h : pre ++ [x] <+: l.map encP) : ∃ y, x = encP y := by
  have : x ∈ l.map encP := h.subset (by simp)
  obtain ⟨y, _, rfl⟩ := List.mem_map.1 this
  exact ⟨y, rfl⟩
abbrev cellsX : List Value → List Value
  | [.agg cs] => cs.toList
  | _ => []
set_option maxHeartbeats 2000000 in
set_option maxRecDepth 10000 in
theorem iter_ret : ∀ (t : Tr KT VT) (a f e : Int) {b1 b2 b3 b4 : Nat} {root : Value} {w : World} {B : Heap}, 0 ≤ a → a + t.size < 1099511627776 → B.Le (hp w) →
    B b1 = some (.cells [root].toArray 34) → B b2 = some (.cells [.int .i64 a].toArray 3) → B b3 = some (.cells [.int .i64 f].toArray 3) → B b4 = some (.cells [.int .i64 e].toArray 3) → TA t root B →
    Iter Tryz.prog 115 [.pointer (some ⟨b1, 0, none⟩), .pointer (some ⟨b2, 0, none⟩), .pointer (some ⟨b3, 0, none⟩), .pointer (some ⟨b4, 0, none⟩)] w B ((Tr.prs t a f e).map encP) := by
  intro t
  induction t with
  | nil =>
    intro a f e b1 b2 b3 b4 root w B ha hsz hB g1 g2 g3 g4 hv ly J stop C hst hY hJ hC
    obtain rfl : root = .pointer none := hv
    refine V_enterG 77 (J []) Tryz.func115 rfl Tryz.ntmps115 (Nat.le_of_ble_eq_true rfl) hB hJ hC ?_
    refine zg ?_; refine z8 (id := 0) ?_; refine z7 (qf rfl rfl rfl rfl) rfl ?_; refine zh ?_; refine zj ?_; refine zg ?_; refine zg ?_; refine qj (id := 1) [] mixed (by kernel_rfl) ?_; refine zd (zo L (qh rfl (by assumption)) rfl rfl rfl rfl) rfl ?_; refine zd (ok_neql rfl rfl rfl rfl nk34 rfl) rfl ?_; refine zd (zf rfl rfl rfl) rfl ?_; refine zd (zn rfl (zm rfl) rfl) rfl ?_; refine zd (zn rfl (zm rfl) rfl) rfl ?_; refine zd (zn rfl (zm rfl) rfl) rfl ?_; refine zd (zn rfl (zm rfl) rfl) rfl ?_; refine zd (zn rfl (zm rfl) rfl) rfl ?_; refine zd (zn rfl (zm rfl) rfl) rfl ?_; refine zd (zn rfl (zm rfl) rfl) rfl ?_; refine zd (zn rfl (zm rfl) rfl) rfl ?_; refine zd (zw rfl rfl rfl rfl) rfl ?_; refine zd (zf rfl rfl rfl) rfl ?_; refine zd (zn rfl (zm rfl) rfl) rfl ?_; refine zd (zn rfl (zm rfl) rfl) rfl ?_; refine zd (zn rfl (zm rfl) rfl) rfl ?_; refine zd (zw rfl rfl rfl rfl) rfl ?_; refine qq ?_; refine zj ?_; refine qa rfl ?_
    exact V_retGhost L 77 rfl (fun _ _ h => h) Since.refl rfl rfl
  | node k x l r ihl ihr =>
    intro a f e b1 b2 b3 b4 root w B ha hsz hB g1 g2 g3 g4 hv ly J stop C hst hY hJ hC
    obtain ⟨b, lv, rv, rfl, hb, hl, hr⟩ := hv
    have hsn : (Tr.node k x l r).size = l.size + 1 + r.size := rfl
    rw [hsn] at hsz
    refine V_enterG 77 (J []) Tryz.func115 rfl Tryz.ntmps115 (Nat.le_of_ble_eq_true rfl) hB hJ hC ?_
    by_cases h1 : a + ((Tr.node k x l r).size : Int) ≤ f
    · have hx : Tr.prs (.node k x l r) a f e = [] := if_pos (.inl h1)
      refine zg ?_; refine z8 (id := 0) ?_; refine z7 (qf rfl rfl rfl rfl) rfl ?_; refine zh ?_; refine zj ?_; refine zg ?_; refine zg ?_; refine qj (id := 1) [] mixed (by kernel_rfl) ?_; refine zd (zo L (qh rfl (by assumption)) rfl rfl rfl rfl) rfl ?_; refine zd (ok_neql rfl rfl rfl rfl nk34 rfl) rfl ?_; refine zd (zf rfl rfl rfl) rfl ?_; refine zd (zo L (qh rfl (by assumption)) rfl rfl rfl rfl) rfl ?_; refine zd (zo L (qh rfl (by assumption)) rfl rfl rfl rfl) rfl ?_; refine zd (yd rfl rfl rfl) rfl ?_; refine zd (q0 L rfl rfl rfl rfl) rfl ?_; refine zd (zo L (qh rfl (by assumption)) rfl rfl rfl rfl) rfl ?_; refine zd (qy rfl rfl rfl rfl (wrap_i64 (by omega) (by omega))) rfl ?_; refine zd (zo L (qh rfl (by assumption)) rfl rfl rfl rfl) rfl ?_; refine zd (ok_leq rfl rfl rfl rfl (decide_eq_true (by omega))) rfl ?_; refine zd (zw rfl rfl rfl rfl) rfl ?_; refine zd (zf rfl rfl rfl) rfl ?_; refine zd (zn rfl (zm rfl) rfl) rfl ?_; refine zd (zn rfl (zm rfl) rfl) rfl ?_; refine zd (zn rfl (zm rfl) rfl) rfl ?_; refine zd (zw rfl rfl rfl rfl) rfl ?_; refine qq ?_; refine zj ?_; refine qa rfl ?_
      exact V_retGhost L 77 rfl (fun _ _ h => h) Since.refl rfl (by rw [hx]; rfl)
    · by_cases h2 : a ≥ e
      · have hx : Tr.prs (.node k x l r) a f e = [] := if_pos (.inr h2)
        refine zg ?_; refine z8 (id := 0) ?_; refine z7 (qf rfl rfl rfl rfl) rfl ?_; refine zh ?_; refine zj ?_; refine zg ?_; refine zg ?_; refine qj (id := 1) [] mixed (by kernel_rfl) ?_; refine zd (zo L (qh rfl (by assumption)) rfl rfl rfl rfl) rfl ?_; refine zd (ok_neql rfl rfl rfl rfl nk34 rfl) rfl ?_; refine zd (zf rfl rfl rfl) rfl ?_; refine zd (zo L (qh rfl (by assumption)) rfl rfl rfl rfl) rfl ?_; refine zd (zo L (qh rfl (by assumption)) rfl rfl rfl rfl) rfl ?_; refine zd (yd rfl rfl rfl) rfl ?_; refine zd (q0 L rfl rfl rfl rfl) rfl ?_; refine zd (zo L (qh rfl (by assumption)) rfl rfl rfl rfl) rfl ?_; refine zd (qy rfl rfl rfl rfl (wrap_i64 (by omega) (by omega))) rfl ?_; refine zd (zo L (qh rfl (by assumption)) rfl rfl rfl rfl) rfl ?_; refine zd (ok_leq rfl rfl rfl rfl (decide_eq_false (by omega))) rfl ?_; refine zd (zw rfl rfl rfl rfl) rfl ?_; refine zd (zf rfl rfl rfl) rfl ?_; refine zd (zo L (qh rfl (by assumption)) rfl rfl rfl rfl) rfl ?_; refine zd (zo L (qh rfl (by assumption)) rfl rfl rfl rfl) rfl ?_; refine zd (ok_geq rfl rfl rfl rfl (decide_eq_true (by omega))) rfl ?_; refine zd (zw rfl rfl rfl rfl) rfl ?_; refine qq ?_; refine zj ?_; refine qa rfl ?_
        exact V_retGhost L 77 rfl (fun _ _ h => h) Since.refl rfl (by rw [hx]; rfl)
      · have hx : Tr.prs (.node k x l r) a f e = Tr.prs l a f e ++ ((if a + (l.size : Int) ≥ f ∧ a + (l.size : Int) < e then [(k, x)] else []) ++ Tr.prs r (a + l.size + 1) f e) :=
          if_neg (by rintro (h | h); exact h1 h; exact h2 h)
        rw [hx] at hY ⊢
        simp only [List.map_append] at hY ⊢
        refine zg ?_; refine z8 (id := 0) ?_; refine z7 (qf rfl rfl rfl rfl) rfl ?_; refine zh ?_; refine zj ?_; refine zg ?_; refine zg ?_; refine qj (id := 1) [] mixed (by kernel_rfl) ?_; refine zd (zo L (qh rfl (by assumption)) rfl rfl rfl rfl) rfl ?_; refine zd (ok_neql rfl rfl rfl rfl nk34 rfl) rfl ?_; refine zd (zf rfl rfl rfl) rfl ?_; refine zd (zo L (qh rfl (by assumption)) rfl rfl rfl rfl) rfl ?_; refine zd (zo L (qh rfl (by assumption)) rfl rfl rfl rfl) rfl ?_; refine zd (yd rfl rfl rfl) rfl ?_; refine zd (q0 L rfl rfl rfl rfl) rfl ?_; refine zd (zo L (qh rfl (by assumption)) rfl rfl rfl rfl) rfl ?_; refine zd (qy rfl rfl rfl rfl (wrap_i64 (by omega) (by omega))) rfl ?_; refine zd (zo L (qh rfl (by assumption)) rfl rfl rfl rfl) rfl ?_; refine zd (ok_leq rfl rfl rfl rfl (decide_eq_false (by omega))) rfl ?_; refine zd (zw rfl rfl rfl rfl) rfl ?_; refine zd (zf rfl rfl rfl) rfl ?_; refine zd (zo L (qh rfl (by assumption)) rfl rfl rfl rfl) rfl ?_; refine zd (zo L (qh rfl (by assumption)) rfl rfl rfl rfl) rfl ?_; refine zd (ok_geq rfl rfl rfl rfl (decide_eq_false (by omega))) rfl ?_; refine zd (zw rfl rfl rfl rfl) rfl ?_; refine qq ?_; refine zj ?_; refine q8 rfl ?_; refine q9 ?_; refine zj ?_; refine zg ?_; refine qj (id := 2) [] mixed (by kernel_rfl) ?_; refine zd (zo L (qh rfl (by assumption)) rfl rfl rfl rfl) rfl ?_; refine zd (zo L (qh rfl (by assumption)) rfl rfl rfl rfl) rfl ?_; refine zd (yd rfl rfl rfl) rfl ?_; refine zd (q0 L rfl rfl rfl rfl) rfl ?_; refine zd (zo L (qh rfl (by assumption)) rfl rfl rfl rfl) rfl ?_; refine zd (q6 L rfl rfl (zm rfl) rfl rfl rfl (fun u H hH hle _ => UT.size_ret _ hH (UT.TA.le (by assumption) hle))) rfl ?_; refine zd (qy rfl rfl rfl rfl (wrap_i64 (by omega) (by omega))) rfl ?_; refine zd (zi rfl rfl rfl) rfl ?_; refine qq ?_; refine zj ?_; refine zg ?_; refine zg ?_; refine qj (id := 3) [] mixed (by kernel_rfl) ?_; refine zd (zo L (qh rfl (by assumption)) rfl rfl rfl rfl) rfl ?_; refine zd (yd rfl rfl rfl) rfl ?_; refine zd (q0 L rfl rfl rfl rfl) rfl ?_; refine zd (zo L (qh rfl (by assumption)) rfl rfl rfl rfl) rfl ?_; refine zd (zo L (qh rfl (by assumption)) rfl rfl rfl rfl) rfl ?_; refine zd (zo L (qh rfl (by assumption)) rfl rfl rfl rfl) rfl ?_; refine zd (zo L (qh rfl (by assumption)) rfl rfl rfl rfl) rfl ?_; refine zd (ya L rfl rfl (zm rfl) rfl rfl rfl PairsAt.mono (fun u H hH hle _ => pairs_ret l a f e hH (TA.le hl hle))) rfl ?_; refine qq ?_; refine zj ?_; refine qd ?_
        refine V_opn 5 rfl fun v5 H5 hs5 ⟨b5, e5, g5⟩ => ?_
        subst e5
        refine V_opn 40 rfl fun v40 H40 hs40 ⟨c1, c2, c3, c4, r1, e40, d1, d2, d3, d4, d5⟩ => ?_
        subst e40
        have hsB := hs5.trans hs40
        have gg5 := hs40.le _ _ g5
        refine V_rangeFunc L (gf := 115) (caps := [.pointer (some ⟨c1, 0, none⟩), .pointer (some ⟨c2, 0, none⟩), .pointer (some ⟨c3, 0, none⟩), .pointer (some ⟨c4, 0, none⟩)])
          [(1, .pointer (some ⟨b1, 0, none⟩)), (2, .pointer (some ⟨b2, 0, none⟩)), (3, .pointer (some ⟨b3, 0, none⟩)), (4, .pointer (some ⟨b4, 0, none⟩)), (5, .pointer (some ⟨b5, 0, none⟩)), (6, .int .i64 (a + l.size))]
          (fun pre => [(77, (J pre).res)]) (fun pre x => [(77, .own (J pre).res), (7, .own (Cell (cellsX x) 104)), (5, .is (.pointer (some ⟨b5, 0, none⟩)))])
          ((Tr.prs l a f e).map encP) stop (fun _ => .ret) rfl rfl rfl ⟨rfl, rfl, rfl, rfl, rfl, rfl, rfl, trivial⟩
          (fun pre p hp => by simp only [List.mem_singleton] at hp; subst hp; exact Nat.le_refl _) hst (fun x hx => by obtain ⟨y, _, rfl⟩ := List.mem_map.1 hx; rfl) (by decide)
          (fun u H hH hle => ihl a f e ha (by omega) hH (hle _ _ d1) (hle _ _ d2) (hle _ _ d3) (hle _ _ d4) (d5.le hle)) ?asg ?bd ?dn ?st
        case asg =>
          intro w1 Ln B' l' D' o pre x' hpre hstp hBB
          obtain ⟨y, rfl⟩ := encP_of hpre
          refine z8 (id := 4) ?_; refine z7 (qm L rfl rfl rfl rfl) rfl ?_; refine z7 (qg L rfl rfl rfl rfl rfl rfl rfl rfl) rfl ?_; refine zh ?_
          exact N_has Since.refl ⟨rfl, rfl, rfl, trivial⟩
        case bd =>
          intro w1 Ln B' l' D' o pre x' hpre hstp hBB
          obtain ⟨y, rfl⟩ := encP_of hpre
          have q5 := hBB _ _ gg5
          have hpre' := hpre.trans (List.prefix_append ((Tr.prs l a f e).map encP) (((if a + (l.size : Int) ≥ f ∧ a + (l.size : Int) < e then [(k, x)] else [])).map encP ++ (Tr.prs r (a + l.size + 1) f e).map encP))
          cases hb' : stop (pre ++ [encP y])
          · refine qd ?_; refine zg ?_; refine z8 (id := 5) ?_; refine z7 (zo L (qh rfl (by assumption)) rfl rfl rfl rfl) rfl ?_; refine z7 (zz L (vs := [_, _, _, _, _, _]) (ql rfl) rfl rfl rfl rfl ⟨_, rfl⟩) rfl ?_; refine qn (ok_yield (gs := 77) hY hpre' hstp (congrArg Bool.not hb') rfl rfl rfl rfl rfl) ?_; refine z7 (yk rfl rfl rfl rfl) rfl ?_; refine zh ?_; refine zj ?_; refine q8 rfl ?_; refine q9 ?_; refine qr ?_
            exact N_fin Since.refl hb' ⟨rfl, trivial⟩
          · refine qd ?_; refine zg ?_; refine z8 (id := 5) ?_; refine z7 (zo L (qh rfl (by assumption)) rfl rfl rfl rfl) rfl ?_; refine z7 (zz L (vs := [_, _, _, _, _, _]) (ql rfl) rfl rfl rfl rfl ⟨_, rfl⟩) rfl ?_; refine qn (ok_yield (gs := 77) hY hpre' hstp (congrArg Bool.not hb') rfl rfl rfl rfl rfl) ?_; refine z7 (yk rfl rfl rfl rfl) rfl ?_; refine zh ?_; refine zj ?_; refine qa rfl ?_
            exact V_rets (R_block (R_fin Since.refl hb' rfl ⟨rfl, trivial⟩))
        case st =>
          intro l' D' o hstop
          exact V_retGhost L 77 rfl (fun _ _ h => h) hsB rfl (by rw [taken_stop _ _ _ hstop hst])
        case dn =>
          intro l' D' o hgo
          have htk := taken_go (stop := stop) ((Tr.prs l a f e).map encP) [] hgo
          simp only [List.nil_append] at htk
          rw [htk] at hgo ⊢
          have gg1 := hsB.le _ _ g1
          have gg2 := hsB.le _ _ g2
          have gg3 := hsB.le _ _ g3
          have gg4 := hsB.le _ _ g4
          have ggb := hsB.le _ _ hb
          have ggr := TA.le hr hsB.le
          refine qr ?_
          refine zj ?_
          refine V_seq_mid (fun M : Seqs => [(77, .own (J M).res), (1, .is (.pointer (some ⟨b1, 0, none⟩))), (2, .is (.pointer (some ⟨b2, 0, none⟩))), (3, .is (.pointer (some ⟨b3, 0, none⟩))), (4, .is (.pointer (some ⟨b4, 0, none⟩))), (5, .is (.pointer (some ⟨b5, 0, none⟩))), (6, .is (.int .i64 (a + l.size)))])
            (fun M => stop M = false ∧ taken stop [] M = M ∧ M ++ (Tr.prs r (a + l.size + 1) f e).map encP = (Tr.prs l a f e).map encP ++ (((if a + (l.size : Int) ≥ f ∧ a + (l.size : Int) < e then [(k, x)] else [])).map encP ++ (Tr.prs r (a + l.size + 1) f e).map encP)) ?one ?two
          case one =>
            by_cases hy1 : a + (l.size : Int) ≥ f
            · by_cases hy2 : a + (l.size : Int) < e
              · rw [if_pos ⟨hy1, hy2⟩] at hY ⊢
                have hpre : (Tr.prs l a f e).map encP ++ [encP (k, x)] <+: (Tr.prs l a f e).map encP ++ ([(k, x)].map encP ++ (Tr.prs r (a + l.size + 1) f e).map encP) := ⟨(Tr.prs r (a + l.size + 1) f e).map encP, by simp⟩
                cases hb' : stop ((Tr.prs l a f e).map encP ++ [encP (k, x)])
                · refine zg ?_; refine qj (id := 6) [(60, [77])] mixed (by kernel_rfl) ?_; refine zd (zf rfl rfl rfl) rfl ?_; refine zd (zo L (qh rfl (by assumption)) rfl rfl rfl rfl) rfl ?_; refine zd (ok_geq rfl rfl rfl rfl (decide_eq_true (by omega))) rfl ?_; refine zd (zf rfl rfl rfl) rfl ?_; refine zd (zf rfl rfl rfl) rfl ?_; refine zd (zo L (qh rfl (by assumption)) rfl rfl rfl rfl) rfl ?_; refine zd (qe rfl rfl rfl rfl (decide_eq_true (by omega))) rfl ?_; refine zd (zw rfl rfl rfl rfl) rfl ?_; refine zd (zf rfl rfl rfl) rfl ?_; refine zd (zo L (qh rfl (by assumption)) rfl rfl rfl rfl) rfl ?_; refine zd (zo L (qh rfl (by assumption)) rfl rfl rfl rfl) rfl ?_; refine zd (yd rfl rfl rfl) rfl ?_; refine zd (q0 L rfl rfl rfl rfl) rfl ?_; refine zd (zz L (vs := [_, _, _, _, _, _]) (qh rfl (by assumption)) rfl rfl rfl rfl ⟨_, rfl⟩) rfl ?_; refine par_step2 (ok_yield (gs := 77) hY hpre hgo (congrArg Bool.not hb') rfl rfl rfl rfl rfl) rfl rfl ?_; refine zd (yk rfl rfl rfl rfl) rfl ?_; refine zd (zw rfl rfl rfl rfl) rfl ?_; refine qq ?_; refine zj ?_; refine q8 rfl ?_; refine q9 ?_
                  refine N_mid ((Tr.prs l a f e).map encP ++ [encP (k, x)]) Since.refl ⟨hb', ?_, by simp⟩ ⟨rfl, rfl, rfl, rfl, rfl, rfl, rfl, trivial⟩
                  rw [taken_more _ _ _ (by rw [htk]; exact hgo), List.nil_append]
                  simp only [taken]
                  split <;> rfl
                · refine zg ?_; refine qj (id := 6) [(60, [77])] mixed (by kernel_rfl) ?_; refine zd (zf rfl rfl rfl) rfl ?_; refine zd (zo L (qh rfl (by assumption)) rfl rfl rfl rfl) rfl ?_; refine zd (ok_geq rfl rfl rfl rfl (decide_eq_true (by omega))) rfl ?_; refine zd (zf rfl rfl rfl) rfl ?_; refine zd (zf rfl rfl rfl) rfl ?_; refine zd (zo L (qh rfl (by assumption)) rfl rfl rfl rfl) rfl ?_; refine zd (qe rfl rfl rfl rfl (decide_eq_true (by omega))) rfl ?_; refine zd (zw rfl rfl rfl rfl) rfl ?_; refine zd (zf rfl rfl rfl) rfl ?_; refine zd (zo L (qh rfl (by assumption)) rfl rfl rfl rfl) rfl ?_; refine zd (zo L (qh rfl (by assumption)) rfl rfl rfl rfl) rfl ?_; refine zd (yd rfl rfl rfl) rfl ?_; refine zd (q0 L rfl rfl rfl rfl) rfl ?_; refine zd (zz L (vs := [_, _, _, _, _, _]) (qh rfl (by assumption)) rfl rfl rfl rfl ⟨_, rfl⟩) rfl ?_; refine par_step2 (ok_yield (gs := 77) hY hpre hgo (congrArg Bool.not hb') rfl rfl rfl rfl rfl) rfl rfl ?_; refine zd (yk rfl rfl rfl rfl) rfl ?_; refine zd (zw rfl rfl rfl rfl) rfl ?_; refine qq ?_; refine zj ?_; refine qa rfl ?_
                  refine V_retGhost L 77 rfl (fun _ _ h => h) hsB rfl ?_
                  rw [taken_more _ _ _ (by rw [htk]; exact hgo), List.nil_append]
                  simp only [List.map_cons, List.map_nil, List.cons_append, taken]
                  rw [if_pos hb']
              · rw [if_neg (by rintro ⟨_, h⟩; exact hy2 h)]
                refine zg ?_; refine qj (id := 6) [(60, [77])] mixed (by kernel_rfl) ?_; refine zd (zf rfl rfl rfl) rfl ?_; refine zd (zo L (qh rfl (by assumption)) rfl rfl rfl rfl) rfl ?_; refine zd (ok_geq rfl rfl rfl rfl (decide_eq_true (by omega))) rfl ?_; refine zd (zf rfl rfl rfl) rfl ?_; refine zd (zf rfl rfl rfl) rfl ?_; refine zd (zo L (qh rfl (by assumption)) rfl rfl rfl rfl) rfl ?_; refine zd (qe rfl rfl rfl rfl (decide_eq_false (by omega))) rfl ?_; refine zd (zw rfl rfl rfl rfl) rfl ?_; refine zd (zf rfl rfl rfl) rfl ?_; refine zd (zn rfl (zm rfl) rfl) rfl ?_; refine zd (zn rfl (zm rfl) rfl) rfl ?_; refine zd (zn rfl (zm rfl) rfl) rfl ?_; refine zd (zn rfl (zm rfl) rfl) rfl ?_; refine zd (zn rfl (zm rfl) rfl) rfl ?_; refine zd (zn rfl (zm rfl) rfl) rfl ?_; refine zd (zn rfl (zm rfl) rfl) rfl ?_; refine zd (zw rfl rfl rfl rfl) rfl ?_; refine qq ?_; refine zj ?_; refine q8 rfl ?_; refine q9 ?_
                exact N_mid ((Tr.prs l a f e).map encP) Since.refl ⟨hgo, htk, by simp⟩ ⟨rfl, rfl, rfl, rfl, rfl, rfl, rfl, trivial⟩
            · rw [if_neg (by rintro ⟨h, _⟩; exact hy1 h)]
              refine zg ?_; refine qj (id := 6) [(60, [77])] mixed (by kernel_rfl) ?_; refine zd (zf rfl rfl rfl) rfl ?_; refine zd (zo L (qh rfl (by assumption)) rfl rfl rfl rfl) rfl ?_; refine zd (ok_geq rfl rfl rfl rfl (decide_eq_false (by omega))) rfl ?_; refine zd (zf rfl rfl rfl) rfl ?_; refine zd (zn rfl (zm rfl) rfl) rfl ?_; refine zd (zn rfl (zm rfl) rfl) rfl ?_; refine zd (zn rfl (zm rfl) rfl) rfl ?_; refine zd (zw rfl rfl rfl rfl) rfl ?_; refine zd (zf rfl rfl rfl) rfl ?_; refine zd (zn rfl (zm rfl) rfl) rfl ?_; refine zd (zn rfl (zm rfl) rfl) rfl ?_; refine zd (zn rfl (zm rfl) rfl) rfl ?_; refine zd (zn rfl (zm rfl) rfl) rfl ?_; refine zd (zn rfl (zm rfl) rfl) rfl ?_; refine zd (zn rfl (zm rfl) rfl) rfl ?_; refine zd (zn rfl (zm rfl) rfl) rfl ?_; refine zd (zw rfl rfl rfl rfl) rfl ?_; refine qq ?_; refine zj ?_; refine q8 rfl ?_; refine q9 ?_
              exact N_mid ((Tr.prs l a f e).map encP) Since.refl ⟨hgo, htk, by simp⟩ ⟨rfl, rfl, rfl, rfl, rfl, rfl, rfl, trivial⟩
          case two =>
            rintro M ⟨hM1, hM2, hM3⟩
            rw [← hM3] at hY ⊢
            refine zg ?_; refine qj (id := 7) [] mixed (by kernel_rfl) ?_; refine zd (zo L (qh rfl (by assumption)) rfl rfl rfl rfl) rfl ?_; refine zd (yd rfl rfl rfl) rfl ?_; refine zd (q0 L rfl rfl rfl rfl) rfl ?_; refine zd (zo L (qh rfl (by assumption)) rfl rfl rfl rfl) rfl ?_; refine zd (zf rfl rfl rfl) rfl ?_; refine zd (qy rfl rfl rfl rfl (wrap_i64 (by omega) (by omega))) rfl ?_; refine zd (zo L (qh rfl (by assumption)) rfl rfl rfl rfl) rfl ?_; refine zd (zo L (qh rfl (by assumption)) rfl rfl rfl rfl) rfl ?_; refine zd (ya L rfl rfl (zm rfl) rfl rfl rfl PairsAt.mono (fun u H hH hle _ => pairs_ret r (a + l.size + 1) f e hH (TA.le ggr hle))) rfl ?_; refine qq ?_; refine zj ?_; refine qd ?_
            refine V_opn 71 rfl fun v71 H71 hs71 ⟨c1, c2, c3, c4, r1, e71, d1, d2, d3, d4, d5⟩ => ?_
            subst e71
            have qq5 := hs71.le _ _ gg5
            have htot : taken stop [] (M ++ (Tr.prs r (a + l.size + 1) f e).map encP) = M ++ taken (fun p => stop (M ++ p)) [] ((Tr.prs r (a + l.size + 1) f e).map encP) := by
              rw [taken_more _ _ _ (by rw [hM2]; exact hM1), taken_shift, List.nil_append, List.append_nil]
            refine V_rangeFunc L (gf := 115) (caps := [.pointer (some ⟨c1, 0, none⟩), .pointer (some ⟨c2, 0, none⟩), .pointer (some ⟨c3, 0, none⟩), .pointer (some ⟨c4, 0, none⟩)])
              [(5, .pointer (some ⟨b5, 0, none⟩))]
              (fun pre => [(77, (J (M ++ pre)).res)]) (fun pre x => [(77, .own (J (M ++ pre)).res), (8, .own (Cell (cellsX x) 104)), (5, .is (.pointer (some ⟨b5, 0, none⟩)))])
              ((Tr.prs r (a + l.size + 1) f e).map encP) (fun p => stop (M ++ p)) (fun _ => .ret) rfl rfl rfl ⟨by rw [List.append_nil]; rfl, rfl, trivial⟩
              (fun pre p hp => by simp only [List.mem_singleton] at hp; subst hp; exact Nat.le_refl _) (by show stop (M ++ []) = false; rw [List.append_nil]; exact hM1) (fun x hx => by obtain ⟨y, _, rfl⟩ := List.mem_map.1 hx; rfl) (by decide)
              (fun u H hH hle => ihr (a + l.size + 1) f e (by omega) (by omega) hH (hle _ _ d1) (hle _ _ d2) (hle _ _ d3) (hle _ _ d4) (d5.le hle)) ?asg2 ?bd2 ?dn2 ?st2
            case asg2 =>
              intro w1 Ln B' l' D' o pre x' hpre hstp hBB
              obtain ⟨y, rfl⟩ := encP_of hpre
              refine z8 (id := 8) ?_; refine z7 (qm L rfl rfl rfl rfl) rfl ?_; refine z7 (qg L rfl rfl rfl rfl rfl rfl rfl rfl) rfl ?_; refine zh ?_
              exact N_has Since.refl ⟨rfl, rfl, rfl, trivial⟩
            case bd2 =>
              intro w1 Ln B' l' D' o pre x' hpre hstp hBB
              obtain ⟨y, rfl⟩ := encP_of hpre
              have q5 := hBB _ _ qq5
              have hpre' : (M ++ pre) ++ [encP y] <+: M ++ (Tr.prs r (a + l.size + 1) f e).map encP := by rw [List.append_assoc]; exact (List.prefix_append_right_inj M).2 hpre
              cases hb' : stop ((M ++ pre) ++ [encP y])
              · refine qd ?_; refine zg ?_; refine z8 (id := 9) ?_; refine z7 (zo L (qh rfl (by assumption)) rfl rfl rfl rfl) rfl ?_; refine z7 (zz L (vs := [_, _, _, _, _, _]) (ql rfl) rfl rfl rfl rfl ⟨_, rfl⟩) rfl ?_; refine qn (ok_yield (gs := 77) hY hpre' hstp (congrArg Bool.not hb') rfl rfl rfl rfl rfl) ?_; refine z7 (yk rfl rfl rfl rfl) rfl ?_; refine zh ?_; refine zj ?_; refine q8 rfl ?_; refine q9 ?_; refine qr ?_
                exact N_fin Since.refl (by rw [← List.append_assoc]; exact hb') ⟨by rw [← List.append_assoc]; rfl, trivial⟩
              · refine qd ?_; refine zg ?_; refine z8 (id := 9) ?_; refine z7 (zo L (qh rfl (by assumption)) rfl rfl rfl rfl) rfl ?_; refine z7 (zz L (vs := [_, _, _, _, _, _]) (ql rfl) rfl rfl rfl rfl ⟨_, rfl⟩) rfl ?_; refine qn (ok_yield (gs := 77) hY hpre' hstp (congrArg Bool.not hb') rfl rfl rfl rfl rfl) ?_; refine z7 (yk rfl rfl rfl rfl) rfl ?_; refine zh ?_; refine zj ?_; refine qa rfl ?_
                exact V_rets (R_block (R_fin Since.refl (by rw [← List.append_assoc]; exact hb') rfl ⟨by rw [← List.append_assoc]; rfl, trivial⟩))
            case st2 =>
              intro l' D' o hstop
              exact V_retGhost L 77 rfl (fun _ _ h => h) (hsB.trans hs71) rfl (by rw [htot])
            case dn2 =>
              intro l' D' o hgo2
              refine qr ?_
              exact N_retGhost L 77 rfl (fun _ _ h => h) (hsB.trans hs71) rfl (by rw [htot])
end Go.V.UT
namespace Go.V.UT
open Go.Proofs Go.RowKit Go.V
abbrev tyP : TypeId := 104
abbrev tyS : TypeId := 135
def flat (l : List (KT × VT)) : List Value := l.flatMap fun y => pl y.1 y.2
abbrev PS (l : List (KT × VT)) (fu : Bool) : Value → Heap → Prop := SlV tyP 6 (flat l) l.length fu
theorem cells_flat : ∀ (pre : Seqs) (l : List (KT × VT)), pre <+: l.map encP → ∃ m : List (KT × VT), pre = m.map encP ∧ m.length = pre.length ∧ pre.flatMap cellsX = flat m := by
  intro pre l h
  refine ⟨l.take pre.length, ?_, ?_, ?_⟩
  · rw [List.map_take]; exact (List.prefix_iff_eq_take.1 h)
  · rw [List.length_take]
    have := h.length_le
    simp only [List.length_map] at this
    omega
  · conv => lhs; rw [List.prefix_iff_eq_take.1 h, ← List.map_take]
    generalize l.take pre.length = m
    induction m with
    | nil => rfl
    | cons y m ih => simp only [List.map_cons, List.flatMap_cons, flat] at ih ⊢; rw [ih]; rfl
theorem taken_never (xs : Seqs) : taken (fun _ => false) [] xs = xs := by
  have := taken_go (stop := fun _ => false) xs [] rfl
  simpa using this
attribute [local irreducible] V N X VO Par StepOK Has Ret RetL Src
theorem clip_ret (l : List (KT × VT)) (fu : Bool) {v : Value} {w : World} {B : Heap} (hB : B.Le (hp w)) (hv : PS l fu v B) : Ret Tryz.prog 100 [v] w B (PS l true) := by
  refine qx Tryz.func100 rfl Tryz.ntmps100 (Nat.le_of_ble_eq_true rfl) hB ?_
  refine V_seen 0 (PS l fu) rfl SlV.mono hv ?_
  refine zg ?_; refine z8 (id := 0) ?_; refine z7 (zi rfl rfl rfl) rfl ?_; refine zh ?_; refine zj ?_; refine zg ?_; refine z8 (id := 1) ?_; refine z7 (q7 rfl rfl rfl) rfl ?_; refine z7 (q7 rfl rfl rfl) rfl ?_; refine z7 (yc L rfl rfl rfl rfl) rfl ?_; refine z7 (q7 rfl rfl rfl) rfl ?_; refine z7 (yc L rfl rfl rfl rfl) rfl ?_; refine z7 (ok_clipV L rfl rfl rfl rfl rfl rfl rfl) rfl ?_; refine z7 (qz rfl rfl rfl) rfl ?_; refine zh ?_; refine zj ?_
  refine qi L (rs := [.tmp 2]) rfl (fun _ _ h => h) Since.refl fun u H hH hle => ?_
  exact fun v hv => hv
set_option maxHeartbeats 1000000 in
theorem aseq_ret (l : List (KT × VT)) (hl : l.length < 1099511627776) {x : Value} {gf : Nat} {caps : List Value} {w : World} {B : Heap} {C : Nat → Prop} (hB : B.Le (hp w)) (hx : (SlR tyP 6 0 []).P x B w C) (hC : ∀ k, C k → k < w.heap.size ∧ B k = none)
    (hfn : L.fn gf = some ()) (hit : ∀ u H, H.Le (hp u) → B.Le H → Iter Tryz.prog gf caps u H (l.map encP)) :
    RetL Tryz.prog 101 [x, .func (.func gf) #[] caps.toArray] w B C (fun v H _ => PS l false v H) := by
  refine V_enterA 0 (x := x) (SlR tyP 6 0 []) rfl Tryz.func101 rfl Tryz.ntmps101 (Nat.le_of_ble_eq_true rfl) hB hx hC ?_
  refine V_detach 0 13 _ rfl SlR.shape fun y hy => ?_
  obtain ⟨p, c, rfl⟩ := hy
  refine zg ?_; refine z8 (id := 0) ?_; refine z7 (ok_boxR rfl rfl rfl rfl) rfl ?_; refine z7 (zi rfl rfl rfl) rfl ?_; refine zh ?_; refine zj ?_; refine zg ?_; refine zg ?_; refine z8 (id := 1) ?_; refine z7 (zf rfl rfl rfl) rfl ?_; refine zh ?_; refine zj ?_; refine qd ?_
  refine V_box 2 rfl fun b2 hb2 => ?_
  refine V_closeBox 13 [] rfl rfl ?_
  refine V_rangeFunc L (gf := gf) (caps := caps) [(2, .pointer (some ⟨b2, 0, none⟩))] (fun pre => [(13, BoxR b2 tyS (SlR tyP 6 pre.length (pre.flatMap cellsX)))])
    (fun pre x => [(13, .own (BoxR b2 tyS (SlR tyP 6 pre.length (pre.flatMap cellsX)))), (2, .is (.pointer (some ⟨b2, 0, none⟩))), (5, .own (Cell (cellsX x) tyP))])
    (l.map encP) (fun _ => false) (fun _ => .ret) rfl rfl hfn ⟨rfl, rfl, trivial⟩
    (fun pre p hp => by simp only [List.mem_singleton] at hp; subst hp; exact Nat.le_refl _) rfl (fun x hx => by obtain ⟨y, _, rfl⟩ := List.mem_map.1 hx; rfl) (by decide) hit ?asg ?bd ?dn ?st
  case asg =>
    intro w1 Ln B' l' D' o pre x' hpre hstp hBB
    obtain ⟨y, rfl⟩ := encP_of hpre
    refine z8 (id := 2) ?_; refine z7 (qm L rfl rfl rfl rfl) rfl ?_; refine z7 (qg L rfl rfl rfl rfl rfl rfl rfl rfl) rfl ?_; refine zh ?_
    exact N_has Since.refl ⟨rfl, rfl, rfl, trivial⟩
  case bd =>
    intro w1 Ln B' l' D' o pre x' hpre hstp hBB
    obtain ⟨y, rfl⟩ := encP_of hpre
    have hlen := hpre.length_le
    simp only [List.length_append, List.length_map, List.length_cons, List.length_nil] at hlen
    refine qd ?_
    refine V_openBox 13 _ rfl SlR.shape fun z hz => ?_
    obtain ⟨p, c, rfl⟩ := hz
    refine z8 (id := 3) ?_; refine z7 (zo L (qk rfl (List.Mem.head _)) rfl rfl rfl rfl) rfl ?_; refine vo_attach 8 13 rfl rfl ?_; refine z7 (zz L (vs := [_, _, _, _, _, _]) (ql rfl) rfl rfl rfl rfl ⟨_, rfl⟩) rfl ?_; refine z7 (qw L rfl rfl rfl rfl rfl rfl rfl rfl rfl) rfl ?_; refine qn (ok_append L rfl rfl rfl (apd_B rfl) rfl el104 rfl rfl (by omega) (by omega)) ?_; refine vo_detach 11 13 _ rfl SlR.shape fun z hz => ?_; obtain ⟨p', c', rfl⟩ := hz; refine box_store L (O1 := []) rfl rfl rfl rfl rfl rfl rfl rfl rfl ?_; refine zh ?_; refine qr ?_
    refine N_closeBox 13 [] rfl rfl ?_
    refine N_fin Since.refl rfl ⟨?_, trivial⟩
    rw [List.flatMap_append, List.length_append]
    rfl
  case st =>
    intro l' D' o h
    cases h
  case dn =>
    intro l' D' o _
    rw [taken_never]
    refine qr ?_
    refine zj ?_
    refine V_openBox 13 _ rfl SlR.shape fun z hz => ?_
    obtain ⟨p, c, rfl⟩ := hz
    refine zg ?_; refine z8 (id := 4) ?_; refine z7 (zo L (qk rfl (List.Mem.head _)) rfl rfl rfl rfl) rfl ?_; refine z7 (zi rfl rfl rfl) rfl ?_; refine zh ?_; refine zj ?_
    refine V_attach 4 13 rfl rfl ?_
    refine V_pubR 4 rfl ?_
    refine V_retM L (rs := [.tmp 4]) rfl (fun _ _ h => h) Since.refl fun O' u H hH hle => ?_
    obtain ⟨m, h1, h2, h3⟩ := cells_flat _ l (List.prefix_refl _)
    have hm : m = l := by
      have := List.map_inj_right (f := encP) (fun a b h => by
        simp only [encP, List.cons.injEq, Value.agg.injEq, and_true] at h
        have h := congrArg Array.toList h
        simp at h
        first | exact Prod.ext h.1 h.2 | exact Prod.ext h.1 (Prod.ext (Prod.ext h.2.1 h.2.2.1) h.2.2.2) | exact Prod.ext (Prod.ext (Prod.ext h.1 h.2.1) h.2.2.1) h.2.2.2 | exact Prod.ext (Prod.ext (Prod.ext (Prod.ext h.1 h.2.1) h.2.2.1) (Prod.ext (Prod.ext h.2.2.2.1 h.2.2.2.2.1) h.2.2.2.2.2)) rfl) |>.1 h1
      exact this.symm
    subst hm
    rw [h3]
    simp only [List.length_map]
    exact fun v hv => hv
theorem PS.mono {l : List (KT × VT)} {fu : Bool} : Kn.mono (.sat (PS l fu)) := SlV.mono
theorem aseq_pairs {t : Tr KT VT} {f e : Int} {x v : Value} {w : World} {B : Heap} {C : Nat → Prop} (hB : B.Le (hp w)) (hx : (SlR tyP 6 0 []).P x B w C) (hC : ∀ k, C k → k < w.heap.size ∧ B k = none) (hv : PairsAt t 0 f e v B) (hs : t.size < 1099511627776) :
    RetL Tryz.prog 101 [x, v] w B C (fun v H _ => PS (Tr.prs t 0 f e) false v H) := by
  obtain ⟨b1, b2, b3, b4, root, rfl, h1, h2, h3, h4, h5⟩ := hv
  have hlen := Tr.prs_length_le t 0 f e
  exact aseq_ret (Tr.prs t 0 f e) (by omega) hB hx hC rfl fun u H hH hle => iter_ret t 0 f e (Int.le_refl _) (by omega) hH (hle _ _ h1) (hle _ _ h2) (hle _ _ h3) (hle _ _ h4) (h5.le hle)
theorem prs_range (t : Tr KT VT) {a f e : Int} : (Tr.prs t a f e).length ≤ t.size := Tr.prs_length_le t a f e
def rangeL (t : Tr KT VT) (f e : Int) : List (KT × VT) := if max f 0 ≥ min e t.size then [] else Tr.prs t 0 (max f 0) (min e t.size)
set_option maxRecDepth 10000 in
theorem range_ret {fv root : Value} {t : Tr KT VT} (f e : Int) {w : World} {B : Heap} (hB : B.Le (hp w)) (hv : TA t root B) (hs : t.size < 1099511627776) :
    Ret Tryz.prog 84 [.agg #[fv, root], .int .i64 f, .int .i64 e] w B (PS (rangeL t f e) true) := by
  refine qx Tryz.func84 rfl Tryz.ntmps84 (Nat.le_of_ble_eq_true rfl) hB ?_
  unfold rangeL
  by_cases h : max f 0 ≥ min e t.size
  · rw [if_pos h]
    refine zg ?_; refine z8 (id := 0) ?_; refine z7 (qf rfl rfl rfl rfl) rfl ?_; refine z7 (zi rfl rfl rfl) rfl ?_; refine zh ?_; refine zj ?_; refine zg ?_; refine z8 (id := 1) ?_; refine z7 (zf rfl rfl rfl) rfl ?_; refine z7 (ok_max rfl rfl rfl rfl rfl) rfl ?_; refine z7 (zf rfl rfl rfl) rfl ?_; refine z7 (zz L (vs := [_, _]) (zq rfl) rfl rfl rfl rfl ⟨_, rfl⟩) rfl ?_; refine z7 (q6 L rfl rfl (zm rfl) rfl rfl rfl (fun u H hH hle _ => len_ret hH (hv.le hle))) rfl ?_; refine z7 (ok_min rfl rfl rfl rfl rfl) rfl ?_; refine z7 (zi rfl rfl rfl) rfl ?_; refine z7 (zi rfl rfl rfl) rfl ?_; refine zh ?_; refine zj ?_; refine zg ?_; refine zg ?_; refine z8 (id := 2) ?_; refine z7 (zf rfl rfl rfl) rfl ?_; refine z7 (zf rfl rfl rfl) rfl ?_; refine z7 (ok_geq rfl rfl rfl rfl (decide_eq_true (by omega))) rfl ?_; refine zh ?_; refine zj ?_; refine qa rfl ?_; refine zg ?_; refine z8 (id := 3) ?_; refine z7 (zi rfl rfl rfl) rfl ?_; refine zh ?_; refine zj ?_
    refine qi L (rs := [.tmp 6]) rfl (fun _ _ h => h) Since.refl fun u H hH hle => ?_
    exact (SlV.nil (e := tyP))
  · rw [if_neg h]
    have hlen := prs_range t (a := 0) (f := max f 0) (e := min e t.size)
    have e1 : (if (0 : Int) > f then 0 else f) = max f 0 := by omega
    have e2 : (if (t.size : Int) < e then (t.size : Int) else e) = min e t.size := by omega
    refine zg ?_; refine z8 (id := 0) ?_; refine z7 (qf rfl rfl rfl rfl) rfl ?_; refine z7 (zi rfl rfl rfl) rfl ?_; refine zh ?_; refine zj ?_; refine zg ?_; refine z8 (id := 1) ?_; refine z7 (zf rfl rfl rfl) rfl ?_; refine z7 (ok_max rfl rfl rfl rfl (by assumption)) rfl ?_; refine z7 (zf rfl rfl rfl) rfl ?_; refine z7 (zz L (vs := [_, _]) (zq rfl) rfl rfl rfl rfl ⟨_, rfl⟩) rfl ?_; refine z7 (q6 L rfl rfl (zm rfl) rfl rfl rfl (fun u H hH hle _ => len_ret hH (hv.le hle))) rfl ?_; refine z7 (ok_min rfl rfl rfl rfl (by assumption)) rfl ?_; refine z7 (zi rfl rfl rfl) rfl ?_; refine z7 (zi rfl rfl rfl) rfl ?_; refine zh ?_; refine zj ?_; refine zg ?_; refine zg ?_; refine z8 (id := 2) ?_; refine z7 (zf rfl rfl rfl) rfl ?_; refine z7 (zf rfl rfl rfl) rfl ?_; refine z7 (ok_geq rfl rfl rfl rfl (decide_eq_false (by omega))) rfl ?_; refine zh ?_; refine zj ?_; refine q8 rfl ?_; refine q9 ?_; refine zj ?_; refine zg ?_
    obtain ⟨m, hm⟩ : ∃ m : Nat, min e (t.size : Int) - max f 0 = m := ⟨(min e (t.size : Int) - max f 0).toNat, by omega⟩
    refine qj (id := 4) [(25, [19])] mixed (by kernel_rfl) ?_; refine zd (zf rfl rfl rfl) rfl ?_; refine zd (zf rfl rfl rfl) rfl ?_; refine zd (ok_sub rfl rfl rfl rfl (wrap_i64 (by omega) (by omega))) rfl ?_; refine zd (ok_make0 L _ rfl rfl rfl el104 rfl rfl (by assumption) (by omega) (by simp only [maxLen]; omega)) rfl ?_; refine zd (zk L rfl rfl rfl rfl) rfl ?_; refine zd (zo L (zq rfl) rfl rfl rfl rfl) rfl ?_; refine zd (zf rfl rfl rfl) rfl ?_; refine zd (zf rfl rfl rfl) rfl ?_; refine zd (ya L rfl rfl (zm rfl) rfl rfl rfl PairsAt.mono (fun u H hH hle _ => pairs_ret t 0 (max f 0) (min e t.size) hH (TA.le hv hle))) rfl ?_; refine par_step2 (ok_callT (q := 19) (cap := []) L rfl rfl rfl rfl rfl PS.mono (fun u H C x hH hle hx hC v hv => aseq_pairs hH hx hC hv hs)) rfl rfl ?_; refine zd (ya L rfl rfl (zm rfl) rfl rfl rfl PS.mono (fun u H hH hle _ v hv => clip_ret _ _ hH hv)) rfl ?_; refine zd (qz rfl rfl rfl) rfl ?_; refine qq ?_; refine zj ?_
    refine qi L (rs := [.tmp 6]) rfl (fun _ _ h => h) Since.refl fun u H hH hle => ?_
    exact fun v hv => hv
end Go.V.UT
namespace Go.V.UT
open Go.Proofs Go.RowKit Go.V
abbrev MF (cf : Nat) (t : Tr KT VT) : Value → Heap → Prop := MA (.func (.func cf) #[] #[]) t
theorem mput_m {cf : Nat} {c : KT → KT → Int} (hc : Cmp cf c) (k : KT) (x : VT) {t : Tr KT VT} {v : Value} {w : World} {B : Heap} (hB : B.Le (hp w)) (hv : MF cf t v B) (hs : t.size + 1 < 1099511627776) :
    Ret Tryz.prog 78 [v, kv k, vv x] w B (MF cf (Tr.put c k x t)) := by
  obtain ⟨p, rfl, h⟩ := hv
  exact mput_ret hc k x hB h hs
theorem mdrop_m {cf : Nat} {c : KT → KT → Int} (hc : Cmp cf c) (k : KT) {t : Tr KT VT} {v : Value} {w : World} {B : Heap} (hB : B.Le (hp w)) (hv : MF cf t v B) (hs : t.size < 1099511627776) :
    Ret Tryz.prog 77 [v, kv k] w B (MF cf (if (Tr.drop c k t).2 = true then (Tr.drop c k t).1 else t)) := by
  obtain ⟨p, rfl, h⟩ := hv
  exact mdrop_ret hc k hB h hs
theorem len_m {fv : Value} {t : Tr KT VT} {v : Value} {w : World} {B : Heap} (hB : B.Le (hp w)) (hv : MA fv t v B) {n : Nat} (hn : t.size = n) : Ret Tryz.prog 61 [v] w B (fun v _ => v = .int .i64 n) := by
  obtain ⟨p, rfl, h⟩ := hv
  subst hn
  exact len_ret hB h
theorem get_m {cf : Nat} {c : KT → KT → Int} (hc : Cmp cf c) (k : KT) {t : Tr KT VT} {v : Value} {w : World} {B : Heap} (hB : B.Le (hp w)) (hv : MF cf t v B) {o : Option VT} (ho : Tr.get c k t = o) :
    Ret Tryz.prog 48 [v, kv k] w B (fun v _ => v = tup (getV o)) := by
  obtain ⟨p, rfl, h⟩ := hv
  subst ho
  exact get_ret hc k hB h
theorem rank_m {cf : Nat} {c : KT → KT → Int} (hc : Cmp cf c) (k : KT) {t : Tr KT VT} {v : Value} {w : World} {B : Heap} (hB : B.Le (hp w)) (hv : MF cf t v B) (hs : t.size < 1099511627776) {n : Nat} (hn : Tr.rank c k t = n) :
    Ret Tryz.prog 60 [v, kv k] w B (fun v _ => v = .int .i64 n) := by
  obtain ⟨p, rfl, h⟩ := hv
  subst hn
  exact rank_ret hc k hB h hs
theorem at_m {fv : Value} {t : Tr KT VT} (i : Int) {v : Value} {w : World} {B : Heap} (hB : B.Le (hp w)) (hv : MA fv t v B) (hs : t.size < 1099511627776) {o : Option (KT × VT)} (ho : atO t i = o) :
    Ret Tryz.prog 62 [v, .int .i64 i] w B (fun v _ => v = tup (atV o)) := by
  obtain ⟨p, rfl, h⟩ := hv
  subst ho
  exact at_ret i hB h hs
end Go.V.UT
namespace Go.V.UT
open Go.Proofs Go.RowKit Go.V
theorem range_m {fv : Value} {t : Tr KT VT} (f e : Int) {v : Value} {w : World} {B : Heap} (hB : B.Le (hp w)) (hv : MA fv t v B) (hs : t.size < 1099511627776) {l : List (KT × VT)} (hl : rangeL t f e = l) :
    Ret Tryz.prog 84 [v, .int .i64 f, .int .i64 e] w B (PS l true) := by
  obtain ⟨p, rfl, h⟩ := hv
  subst hl
  exact range_ret f e hB h hs
end Go.V.UT
namespace Go.V.L6
open Go.Proofs Go.RowKit Go.V Go.V.L2 Go.V.L3
abbrev fvC : Value := .func (.func 55) #[] #[]
abbrev fvS : Value := .func (.func 56) #[] #[]
abbrev tySet : TypeId := 40
abbrev chv (x : U) (d : Bool) : Value := .agg #[.string x.1.1.1, .string x.1.1.2, .string x.1.2, .string x.2.1.1, .string x.2.1.2, .string x.2.2, .bool d]
attribute [local irreducible] V N X VO Par StepOK Has Ret RetL RetO Src
theorem subj_ret {a b : U} {w : World} {B : Heap} (hB : B.Le (hp w)) : Ret Tryz.prog 56 [uv a, uv b] w B (fun v _ => v = .int .i64 (cmpS a b)) := by
  refine qx Tryz.func56 rfl Tryz.ntmps56 (Nat.le_of_ble_eq_true rfl) hB ?_
  refine zg ?_; refine z8 (id := 0) ?_; refine z7 (qf rfl rfl rfl rfl) rfl ?_; refine z7 (qf rfl rfl rfl rfl) rfl ?_; refine z7 (zi rfl rfl rfl) rfl ?_; refine zh ?_; refine zj ?_; refine zg ?_; refine qj (id := 1) [] mixed (by kernel_rfl) ?_; refine zd (zk L rfl rfl rfl rfl) rfl ?_; refine zd (zz L (vs := [_, _, _]) (zq rfl) rfl rfl rfl rfl ⟨_, rfl⟩) rfl ?_; refine zd (zk L rfl rfl rfl rfl) rfl ?_; refine zd (zz L (vs := [_, _, _]) (zq rfl) rfl rfl rfl rfl ⟨_, rfl⟩) rfl ?_; refine zd (q6 L rfl rfl (zm rfl) rfl rfl rfl (fun u H hH _ _ => cmpU_ret hH)) rfl ?_; refine zd (zk L rfl rfl rfl rfl) rfl ?_; refine zd (zz L (vs := [_, _, _]) (zq rfl) rfl rfl rfl rfl ⟨_, rfl⟩) rfl ?_; refine zd (zk L rfl rfl rfl rfl) rfl ?_; refine zd (zz L (vs := [_, _, _]) (zq rfl) rfl rfl rfl rfl ⟨_, rfl⟩) rfl ?_; refine zd (q6 L rfl rfl (zm rfl) rfl rfl rfl (fun u H hH _ _ => cmpG_ret hH)) rfl ?_; refine zd (qw L rfl rfl rfl rfl rfl rfl rfl rfl rfl) rfl ?_; refine zd (q6 L rfl rfl (zm rfl) rfl rfl rfl (fun u H hH _ _ v hv => or2_ret hH hv)) rfl ?_; refine zd (zi rfl rfl rfl) rfl ?_; refine qq ?_; refine zj ?_
  refine qi L (rs := [.tmp 4]) rfl (fun _ _ h => h) Since.refl fun u H hH hle => ?_
  rfl
theorem cmpUT : UT.Cmp 55 cmpT := ⟨rfl, fun _ _ _ _ hH => tcmp_ret hH⟩
theorem cmpUS : UT.Cmp 56 cmpS := ⟨rfl, fun _ _ _ _ hH => subj_ret hH⟩
def chT (c : U → U → Int) (x : U) (d : Bool) (t : Tr U Unit) : Tr U Unit := if d = true then (if (Tr.drop c x t).2 = true then (Tr.drop c x t).1 else t) else Tr.put c x () t
theorem change_ret {cf : Nat} {c : U → U → Int} (hc : UT.Cmp cf c) {f : Value} {p : Option Addr} {t : Tr U Unit} (hf : f = .func (.func cf) #[] #[] ∨ (f = .nilFunc ∧ t = .nil)) (x : U) (d : Bool) {w : World} {B : Heap} (hB : B.Le (hp w)) (ht : UT.TA t (.pointer p) B) (hs : t.size + 1 < 1099511627776) :
    Ret Tryz.prog 54 [.agg #[f, .pointer p], chv x d, .func (.func cf) #[] #[]] w B (UT.MF cf (chT c x d t)) := by
  by_cases h0 : t.size = 0
  · have hn : t = .nil := by
      cases t with
      | nil => rfl
      | node k y l r => simp only [Tr.size] at h0; omega
    subst hn
    have hz : UT.TA .nil (.pointer none) B := rfl
    refine qx Tryz.func54 rfl Tryz.ntmps54 (Nat.le_of_ble_eq_true rfl) hB ?_
    unfold chT
    cases d
    · refine zg ?_; refine z8 (id := 0) ?_; refine z7 (ok_boxR rfl rfl rfl rfl) rfl ?_; refine vo_box 3 rfl fun b hb => ?_; refine z7 (qf rfl rfl rfl rfl) rfl ?_; refine z7 (qm L rfl rfl rfl rfl) rfl ?_; refine zh ?_; refine zj ?_; refine zg ?_; refine zg ?_; refine z8 (id := 1) ?_; refine z7 (q0 L rfl rfl rfl rfl) rfl ?_; refine z7 (zz L (vs := [_, _]) (qk rfl (List.Mem.head _)) rfl rfl rfl rfl ⟨_, rfl⟩) rfl ?_; refine z7 (q6 L rfl rfl (zm rfl) rfl rfl rfl (fun u H hH hle _ => UT.len_m hH (⟨_, rfl, ht.le hle⟩) h0)) rfl ?_; refine z7 (qp rfl rfl rfl rfl (decide_eq_true (by omega))) rfl ?_; refine zh ?_; refine zj ?_; refine qa rfl ?_; refine z8 (id := 2) ?_; refine z7 (zf rfl rfl rfl) rfl ?_; refine z7 (q6 L rfl rfl (zm rfl) rfl rfl rfl (fun u H hH _ _ => UT.new_ret _ hH)) rfl ?_; refine z7 (q0 L rfl rfl rfl rfl) rfl ?_; refine box_store L (O1 := []) rfl rfl rfl rfl rfl rfl rfl rfl rfl ?_; refine zh ?_; refine zj ?_; refine zg ?_; refine zg ?_; refine z8 (id := 3) ?_; refine z7 (zk L rfl rfl rfl rfl) rfl ?_; refine z7 (zo L (zq rfl) rfl rfl rfl rfl) rfl ?_; refine zh ?_; refine zj ?_; refine q8 rfl ?_; refine q9 ?_; refine zj ?_; refine zg ?_; refine z8 (id := 5) ?_; refine z7 (q0 L rfl rfl rfl rfl) rfl ?_; refine z7 (zz L (vs := [_, _]) (qk rfl (List.Mem.head _)) rfl rfl rfl rfl ⟨_, rfl⟩) rfl ?_; refine z7 (zk L rfl rfl rfl rfl) rfl ?_; refine z7 (zz L (vs := [_, _, _, _, _, _]) (zq rfl) rfl rfl rfl rfl ⟨_, rfl⟩) rfl ?_; refine z7 (qv (cs := []) rfl rfl pl91 rfl rfl) rfl ?_; refine z7 (ya (φ := UT.MF cf (Tr.put c x () .nil)) L rfl rfl (zm rfl) rfl rfl rfl UT.MA.mono (fun u H hH hle _ => UT.mput_m hc x () hH (⟨_, rfl, hz.le hle⟩) hs)) rfl ?_; refine vo_opn 27 rfl ?_; rintro _ H27 hs27 ⟨q27, rfl, hp27⟩; refine z7 (qv (cs := [_, _]) rfl rfl pl38 rfl rfl) rfl ?_; refine z7 (qg L rfl rfl rfl rfl rfl rfl rfl rfl) rfl ?_; refine zh ?_; refine zj ?_
      refine qi L (rs := [.cell 6 38]) rfl (fun _ _ h => h) hs27 fun u H hH hle => ?_
      exact ⟨_, ql rfl, rfl, q27, rfl, hp27.le hle⟩
    · refine zg ?_; refine z8 (id := 0) ?_; refine z7 (ok_boxR rfl rfl rfl rfl) rfl ?_; refine vo_box 3 rfl fun b hb => ?_; refine z7 (qf rfl rfl rfl rfl) rfl ?_; refine z7 (qm L rfl rfl rfl rfl) rfl ?_; refine zh ?_; refine zj ?_; refine zg ?_; refine zg ?_; refine z8 (id := 1) ?_; refine z7 (q0 L rfl rfl rfl rfl) rfl ?_; refine z7 (zz L (vs := [_, _]) (qk rfl (List.Mem.head _)) rfl rfl rfl rfl ⟨_, rfl⟩) rfl ?_; refine z7 (q6 L rfl rfl (zm rfl) rfl rfl rfl (fun u H hH hle _ => UT.len_m hH (⟨_, rfl, ht.le hle⟩) h0)) rfl ?_; refine z7 (qp rfl rfl rfl rfl (decide_eq_true (by omega))) rfl ?_; refine zh ?_; refine zj ?_; refine qa rfl ?_; refine z8 (id := 2) ?_; refine z7 (zf rfl rfl rfl) rfl ?_; refine z7 (q6 L rfl rfl (zm rfl) rfl rfl rfl (fun u H hH _ _ => UT.new_ret _ hH)) rfl ?_; refine z7 (q0 L rfl rfl rfl rfl) rfl ?_; refine box_store L (O1 := []) rfl rfl rfl rfl rfl rfl rfl rfl rfl ?_; refine zh ?_; refine zj ?_; refine zg ?_; refine zg ?_; refine z8 (id := 3) ?_; refine z7 (zk L rfl rfl rfl rfl) rfl ?_; refine z7 (zo L (zq rfl) rfl rfl rfl rfl) rfl ?_; refine zh ?_; refine zj ?_; refine qa rfl ?_; refine zg ?_; refine z8 (id := 4) ?_; refine z7 (q0 L rfl rfl rfl rfl) rfl ?_; refine z7 (zz L (vs := [_, _]) (qk rfl (List.Mem.head _)) rfl rfl rfl rfl ⟨_, rfl⟩) rfl ?_; refine z7 (zk L rfl rfl rfl rfl) rfl ?_; refine z7 (zz L (vs := [_, _, _, _, _, _]) (zq rfl) rfl rfl rfl rfl ⟨_, rfl⟩) rfl ?_; refine z7 (ya (φ := UT.MF cf (if (Tr.drop c x .nil).2 = true then (Tr.drop c x .nil).1 else .nil)) L rfl rfl (zm rfl) rfl rfl rfl UT.MA.mono (fun u H hH hle _ => UT.mdrop_m hc x hH (⟨_, rfl, hz.le hle⟩) (by omega))) rfl ?_; refine vo_opn 20 rfl ?_; rintro _ H20 hs20 ⟨q20, rfl, hp20⟩; refine z7 (qv (cs := [_, _]) rfl rfl pl38 rfl rfl) rfl ?_; refine z7 (qg L rfl rfl rfl rfl rfl rfl rfl rfl) rfl ?_; refine zh ?_; refine zj ?_
      refine qi L (rs := [.cell 6 38]) rfl (fun _ _ h => h) hs20 fun u H hH hle => ?_
      exact ⟨_, ql rfl, rfl, q20, rfl, hp20.le hle⟩
  · obtain rfl : f = .func (.func cf) #[] #[] := by
      rcases hf with h | ⟨_, h⟩
      · exact h
      · subst h; exact absurd rfl h0
    refine qx Tryz.func54 rfl Tryz.ntmps54 (Nat.le_of_ble_eq_true rfl) hB ?_
    unfold chT
    cases d
    · refine zg ?_; refine z8 (id := 0) ?_; refine z7 (ok_boxR rfl rfl rfl rfl) rfl ?_; refine vo_box 3 rfl fun b hb => ?_; refine z7 (qf rfl rfl rfl rfl) rfl ?_; refine z7 (qm L rfl rfl rfl rfl) rfl ?_; refine zh ?_; refine zj ?_; refine zg ?_; refine zg ?_; refine z8 (id := 1) ?_; refine z7 (q0 L rfl rfl rfl rfl) rfl ?_; refine z7 (zz L (vs := [_, _]) (qk rfl (List.Mem.head _)) rfl rfl rfl rfl ⟨_, rfl⟩) rfl ?_; refine z7 (q6 L rfl rfl (zm rfl) rfl rfl rfl (fun u H hH hle _ => UT.len_m hH (⟨_, rfl, ht.le hle⟩) rfl)) rfl ?_; refine z7 (qp rfl rfl rfl rfl (decide_eq_false (by omega))) rfl ?_; refine zh ?_; refine zj ?_; refine q8 rfl ?_; refine q9 ?_; refine zj ?_; refine zg ?_; refine zg ?_; refine z8 (id := 3) ?_; refine z7 (zk L rfl rfl rfl rfl) rfl ?_; refine z7 (zo L (zq rfl) rfl rfl rfl rfl) rfl ?_; refine zh ?_; refine zj ?_; refine q8 rfl ?_; refine q9 ?_; refine zj ?_; refine zg ?_; refine z8 (id := 5) ?_; refine z7 (q0 L rfl rfl rfl rfl) rfl ?_; refine z7 (zz L (vs := [_, _]) (qk rfl (List.Mem.head _)) rfl rfl rfl rfl ⟨_, rfl⟩) rfl ?_; refine z7 (zk L rfl rfl rfl rfl) rfl ?_; refine z7 (zz L (vs := [_, _, _, _, _, _]) (zq rfl) rfl rfl rfl rfl ⟨_, rfl⟩) rfl ?_; refine z7 (qv (cs := []) rfl rfl pl91 rfl rfl) rfl ?_; refine z7 (ya (φ := UT.MF cf (Tr.put c x () t)) L rfl rfl (zm rfl) rfl rfl rfl UT.MA.mono (fun u H hH hle _ => UT.mput_m hc x () hH (⟨_, rfl, ht.le hle⟩) hs)) rfl ?_; refine vo_opn 27 rfl ?_; rintro _ H27 hs27 ⟨q27, rfl, hp27⟩; refine z7 (qv (cs := [_, _]) rfl rfl pl38 rfl rfl) rfl ?_; refine z7 (qg L rfl rfl rfl rfl rfl rfl rfl rfl) rfl ?_; refine zh ?_; refine zj ?_
      refine qi L (rs := [.cell 6 38]) rfl (fun _ _ h => h) hs27 fun u H hH hle => ?_
      exact ⟨_, ql rfl, rfl, q27, rfl, hp27.le hle⟩
    · refine zg ?_; refine z8 (id := 0) ?_; refine z7 (ok_boxR rfl rfl rfl rfl) rfl ?_; refine vo_box 3 rfl fun b hb => ?_; refine z7 (qf rfl rfl rfl rfl) rfl ?_; refine z7 (qm L rfl rfl rfl rfl) rfl ?_; refine zh ?_; refine zj ?_; refine zg ?_; refine zg ?_; refine z8 (id := 1) ?_; refine z7 (q0 L rfl rfl rfl rfl) rfl ?_; refine z7 (zz L (vs := [_, _]) (qk rfl (List.Mem.head _)) rfl rfl rfl rfl ⟨_, rfl⟩) rfl ?_; refine z7 (q6 L rfl rfl (zm rfl) rfl rfl rfl (fun u H hH hle _ => UT.len_m hH (⟨_, rfl, ht.le hle⟩) rfl)) rfl ?_; refine z7 (qp rfl rfl rfl rfl (decide_eq_false (by omega))) rfl ?_; refine zh ?_; refine zj ?_; refine q8 rfl ?_; refine q9 ?_; refine zj ?_; refine zg ?_; refine zg ?_; refine z8 (id := 3) ?_; refine z7 (zk L rfl rfl rfl rfl) rfl ?_; refine z7 (zo L (zq rfl) rfl rfl rfl rfl) rfl ?_; refine zh ?_; refine zj ?_; refine qa rfl ?_; refine zg ?_; refine z8 (id := 4) ?_; refine z7 (q0 L rfl rfl rfl rfl) rfl ?_; refine z7 (zz L (vs := [_, _]) (qk rfl (List.Mem.head _)) rfl rfl rfl rfl ⟨_, rfl⟩) rfl ?_; refine z7 (zk L rfl rfl rfl rfl) rfl ?_; refine z7 (zz L (vs := [_, _, _, _, _, _]) (zq rfl) rfl rfl rfl rfl ⟨_, rfl⟩) rfl ?_; refine z7 (ya (φ := UT.MF cf (if (Tr.drop c x t).2 = true then (Tr.drop c x t).1 else t)) L rfl rfl (zm rfl) rfl rfl rfl UT.MA.mono (fun u H hH hle _ => UT.mdrop_m hc x hH (⟨_, rfl, ht.le hle⟩) (by omega))) rfl ?_; refine vo_opn 20 rfl ?_; rintro _ H20 hs20 ⟨q20, rfl, hp20⟩; refine z7 (qv (cs := [_, _]) rfl rfl pl38 rfl rfl) rfl ?_; refine z7 (qg L rfl rfl rfl rfl rfl rfl rfl rfl) rfl ?_; refine zh ?_; refine zj ?_
      refine qi L (rs := [.cell 6 38]) rfl (fun _ _ h => h) hs20 fun u H hH hle => ?_
      exact ⟨_, ql rfl, rfl, q20, rfl, hp20.le hle⟩
end Go.V.L6
namespace Go.V
open Go.Proofs Go.RowKit
def OwnT (w : World) (C : Nat → Prop) (r : Res) (v : Value) (H : Heap) (u : World) : Prop := ∃ C' : Nat → Prop, r.P v H u C' ∧ ∀ k, C' k → (C k ∨ w.heap.size ≤ k) ∧ k < u.heap.size ∧ H k = none
def RetT (P : Program) (f : FuncId) (args : List Value) (w : World) (B : Heap) (C : Nat → Prop) (r : Res) : Prop := RetL P f args w B C (OwnT w C r)
theorem zeroCells_all {zs : Array Value} {m : Nat} (h : zs.all plainV = true) : ∀ v ∈ Builtin.zeroCells zs m, plainV v = true := by
  intro v hv
  unfold Builtin.zeroCells at hv
  obtain ⟨i, hi, rfl⟩ := Array.mem_map.1 hv
  have hi' : i < m * zs.size := by simpa using hi
  have hpos : 0 < zs.size := by
    rcases Nat.eq_zero_or_pos zs.size with e | e
    · rw [e] at hi'; simp at hi'
    · exact e
  have hlt := Nat.mod_lt i hpos
  rw [getElem!_pos zs _ hlt]
  exact Array.all_eq_true.1 h _ hlt
section
variable {P : Program} {F : Fr} {B : Heap} {O : Boxes} {n : Nat} {ops : Array Oper} {κ : Kap} {d : Nat} {ty : TypeId} {pos : String} {aft : Array Edge} {g : Option (Nat × Bool)} {a : Act} {u : World} {H : Heap} {fp : Nat → Nat → Prop} {Q : Exit → Act → World → Prop}
theorem ok_callTO (L : Tabs P) {q f : Nat} {args : Array Operand} {at_ : Array TypeId} {cap : List Value} {r r' : Res} {fo : Operand}
    (hn : Nat.blt d n = true) (hg : gK ops κ ⟨some d, .call { callee := .value fo, args := args, argTypes := at_ }, ty, pos, aft, g⟩ = some true)
    (hf : evK (upd κ q (.is undef)) fo = some (.func (.func f) #[] cap.toArray)) (hfn : L.fn f = some ()) (hq : κ q = some (.own r))
    (h : ∀ u H C x, H.Le (hp u) → B.Le H → r.P x H u C → (∀ k, C k → k < u.heap.size ∧ H k = none) → Args (upd κ q (.is x)) H args.toList [] (fun vs => RetT P f (vs ++ cap) u H C r')) :
    StepOK2 P F B n ops O κ ⟨some d, .call { callee := .value fo, args := args, argTypes := at_ }, ty, pos, aft, g⟩ q nilK d (.own r') := by
  rintro κ' a u hlk hks ⟨H, fp, hh⟩
  unfold After
  rw [if_pos (wanted_gK hh hlk hg)]
  have hk' : κ' q = some (.own r) := hks.trans hq
  obtain ⟨hown, hM⟩ := hh.slot q _ hk'
  have hh2 := hh.name q
  have e2 : Env F B O (upd κ q (.is (a.eval (.tmp q)))) ⟨some d, .call { callee := .value fo, args := args, argTypes := at_ }, ty, pos, aft, g⟩ a u H fp := hh2.env (ops := ops) fun t ht => by
    by_cases htq : t = q
    · subst htq; rw [upd_same, upd_same]
    · rw [upd_other _ _ htq, upd_other _ _ htq]; exact hlk t ht
  have hfe : a.eval fo = .func (.func f) #[] cap.toArray := by
    refine e2.is_ fo _ (by simp [Op.operands, Call.operands]) ?_
    cases fo with
    | tmp t =>
      simp only [evK] at hf ⊢
      by_cases htq : t = q
      · subst htq; rw [upd_same] at hf; cases hf
      · rw [upd_other _ _ htq] at hf ⊢; exact hf
    | _ => exact hf
  have hc := Args.use e2 args.toList [] (fun x hx => by simp [Op.operands, Call.operands] at hx ⊢; exact .inr hx) (h u H (fp q) _ hh.sub hh.base hown fun k hk => ⟨(hM k hk).1, (hM k hk).2.1⟩)
  simp only [List.reverse_nil, List.nil_append] at hc
  rw [run_call L rfl hfe hfn]
  simp only [Upon]
  refine Calls.mono hc fun e' u' hp => ?_
  obtain ⟨v, rfl, H', g', C', hv, hC'⟩ := hp
  exact ⟨v, rfl, H', _, hh.usePut (d := d) (a' := a.put (some d) v) hk' g' (by simp [Act.put]) rfl (fun t ht => eval_put_other ht) (by rw [eval_put_same (by rw [hh.size]; exact zm hn)]; exact hv) hC'⟩
theorem V_retT {fn : Func} {B0 : Heap} {t : Nat} {r : Res} (hrs : fn.results = #[.tmp t]) (hQ : ∀ a u, bodyPostM Fence.wide 0 P fn (PostL F.w0 B0 F.L (OwnT F.w0 F.L r)) .ret a u → Q .ret a u) (hs : Since F B0 B) (hk : κ t = some (.own r)) : V P F B n O κ .ret Q :=
  V_retG hQ hs fun O' a u H fp _ hh => by
    obtain ⟨hown, hM⟩ := hh.slot t _ hk
    refine ⟨a.eval (.tmp t), ?_, fp t, hown, fun k hk => ?_⟩
    · simp [results, hrs, Act.eval]
    · obtain ⟨h1, h2, h3, _⟩ := hM k hk
      exact ⟨h3.symm, h1, h2⟩
theorem V_holdR (t q : Nat) {e : TypeId} {s m : Nat} {xs : List Value} {c : Code} (hk : κ t = some (.own (SlR e s m xs)))
    (h0 : m = 0 → xs = [] → V P F B n O (upd κ t (.is (.slice none 0 0))) c Q)
    (h : ∀ b cap rest, xs.length = m * s → m ≤ cap → cap ≤ maxLen → (xs ++ rest).length = cap * s → V P F B n O (upd (upd (upd κ t nilK) q (.own (HeldR b (xs ++ rest) e))) t (.is (.slice (some ⟨b, 0, none⟩) m cap))) c Q) : V P F B n O κ c Q := fun a u hh => by
  obtain ⟨H, fp, hh⟩ := hh
  obtain ⟨⟨hl, hv⟩, hM⟩ := hh.slot t _ hk
  rcases hv with ⟨hm, hv, _⟩ | ⟨b, cap, rest, hv, hb, h3, h4, h5, hC⟩
  · have h3 := hh.name t
    rw [hv] at h3
    subst hm
    exact h0 rfl (List.eq_nil_of_length_eq_zero (by simpa using hl)) a u ⟨H, _, h3⟩
  · have h2 := hh.usePut (d := q) (a' := a) (r' := HeldR b (xs ++ rest) e) (C := fp t) hk ⟨Keep.refl _ _, hh.sub, Heap.Le.refl _, fun _ _ _ => rfl⟩ rfl rfl (fun _ _ => rfl) ⟨hb, hC⟩ fun k hk => ⟨.inl hk, (hM k hk).1, (hM k hk).2.1⟩
    have h3' := h2.name t
    rw [hv] at h3'
    exact h b cap rest hl h3 h4 h5 a u ⟨H, _, h3'⟩
theorem V_releaseR (t q : Nat) {b m cap : Nat} {e : TypeId} {s : Nat} {xs rest cs : List Value} {c : Code} (hcs : cs = xs ++ rest) (hk : κ q = some (.own (HeldR b cs e))) (ht : κ t = some (.is (.slice (some ⟨b, 0, none⟩) m cap))) (hl : xs.length = m * s) (hm : m ≤ cap) (hc : cap ≤ maxLen) (hcl : cs.length = cap * s)
    (h : V P F B n O (upd (upd κ q nilK) t (.own (SlR e s m xs))) c Q) : V P F B n O κ c Q := fun a u hh => by
  subst hcs
  obtain ⟨H, fp, hh⟩ := hh
  obtain ⟨⟨hb, hC⟩, hM⟩ := hh.slot q _ hk
  have hx : a.eval (.tmp t) = .slice (some ⟨b, 0, none⟩) m cap := hh.slot t _ ht
  exact h a u ⟨H, _, hh.usePut (d := t) (a' := a) (r' := SlR e s m xs) (C := fp q) hk ⟨Keep.refl _ _, hh.sub, Heap.Le.refl _, fun _ _ _ => rfl⟩ rfl rfl (fun _ _ => rfl) ⟨hl, .inr ⟨b, cap, rest, hx, hb, hm, hc, hcl, hC⟩⟩ fun k hk => ⟨.inl hk, (hM k hk).1, (hM k hk).2.1⟩⟩
theorem ok_sliceI (L : Tabs P) {x : Operand} {tt e : TypeId} {s m b off cap : Nat} {lo hi : Option Operand} {kl kh : IntKind} {ag : Bool} (i j : Nat) {pl ph : Int} (hn : Nat.blt d n = true) (hg : gK ops κ ⟨some d, .slice tt x lo hi none, ty, pos, aft, g⟩ = some true)
    (hx : evK κ x = some (.slice (some ⟨b, off, none⟩) m cap)) (ht : L.sl tt = some e) (hl : L.ld e = some (ag, s))
    (hlo : match lo with | some y => evK κ y = some (.int kl pl) ∧ pl = i | none => i = 0) (hhi : match hi with | some y => evK κ y = some (.int kh ph) ∧ ph = j | none => j = m)
    (hij : i ≤ j) (hjc : j ≤ cap) :
    StepOK P F B n ops O κ ⟨some d, .slice tt x lo hi none, ty, pos, aft, g⟩ d (.is (.slice (some (if cap = i then ⟨b, off, none⟩ else ⟨b, off + i * s, none⟩)) (j - i) (cap - i))) :=
  yl rfl (zm hn) hg trivial fun a u H fp en => ⟨_, by
    have hu := Tabs.sl_spec ht
    have h1 := en.is_ x _ (by simp [Op.operands]) hx
    have hrun : (Instr.sliceBounds true m cap (lo.map a.eval) (hi.map a.eval) none).run P u = .ok (i, j, cap) u := by
      cases hi with
      | none =>
        simp only at hhi
        subst hhi
        cases lo with
        | none => simp only at hlo; subst hlo; simp [Instr.sliceBounds]
        | some z =>
          obtain ⟨hz, rfl⟩ := hlo
          have h3 := en.is_ z _ (by simp [Op.operands]) hz
          simp [h3, Instr.sliceBounds, run_bound i kl _ _ hij]
      | some y =>
        obtain ⟨hy, rfl⟩ := hhi
        have h2 := en.is_ y _ (by simp [Op.operands]) hy
        cases lo with
        | none => simp only at hlo; subst hlo; simp [h2, Instr.sliceBounds, run_bound j kh cap _ hjc]
        | some z =>
          obtain ⟨hz, rfl⟩ := hlo
          have h3 := en.is_ z _ (by simp [Op.operands]) hz
          simp [h2, h3, Instr.sliceBounds, run_bound j kh cap _ hjc, run_bound i kl _ _ hij]
    simp only [execOp, h1, Instr.sliceAt, Instr.slice, Sem.run_bind, run_underlying hu, Result.andThen_ok, Option.map_none, hrun, run_sizeOf (Tabs.ld_spec hl), Sem.run_pure]
    congr 3
    split <;> simp [Addr.add], rfl⟩
theorem ok_clearH (L : Tabs P) {q : Nat} {y : Operand} {tt e t' : TypeId} {by_ s b off m cap : Nat} {z : Value} {cs cs' : List Value} (hg : gK ops κ ⟨none, .call ⟨.builtin .clear, #[y], #[tt]⟩, ty, pos, aft, g⟩ = some true)
    (hy : evK κ y = some (.slice (some ⟨b, off, none⟩) m cap)) (hq : κ q = some (.own (HeldR b cs t'))) (ht : L.sl tt = some e) (he : elI P e = some (s, by_)) (hz : L.zr e = some z) (hz1 : z.cells.toList.all plainV = true)
    (hcs : m = 0 ∨ off + m * s ≤ cs.length) (hr : m ≠ 0 → cs.take off ++ ((Builtin.zeroCells z.cells m).toList ++ cs.drop (off + m * s)) = cs') (hr0 : m = 0 → cs = cs') :
    StepOKS P F B n ops O κ ⟨none, .call ⟨.builtin .clear, #[y], #[tt]⟩, ty, pos, aft, g⟩ q (.own (HeldR b cs' t')) := by
  rintro κ' a u hlk hqk ⟨H, fp, hh⟩
  unfold After
  rw [if_pos (wanted_gK hh hlk hg)]
  have en := hh.env hlk
  have hye := en.is_ y _ (by simp [Op.operands, Call.operands]) hy
  have hqs := hqk.trans hq
  obtain ⟨⟨hb, hC⟩, hM⟩ := hh.slot q _ hqs
  by_cases hm : m = 0
  · subst hm
    obtain rfl := hr0 rfl
    have hrun : (execOp a.eval ⟨none, .call ⟨.builtin .clear, #[y], #[tt]⟩, ty, pos, aft, g⟩).run P u = .ok (.value (.tuple #[])) u := by
      simp [execOp, resolve, invoke, builtin, hye, Builtin.clear_, run_underlying (Tabs.sl_spec ht)]
    rw [hrun]
    simp only [Upon, Act.put]
    exact ⟨H, fp, by
      have : upd κ' q (.own (HeldR b cs t')) = κ' := by
        funext t
        by_cases h : t = q
        · subst h; rw [upd_same]; exact hqs.symm
        · rw [upd_other _ _ h]
      rw [this]; exact hh⟩
  · have hr := hr hm
    subst hr
    have hcs' := hcs.resolve_left hm
    obtain ⟨i, z', hi, hz', hs1, hs2, hs3, hs4⟩ := elI_spec he
    have hzz := Tabs.zr_spec hz
    have hzr : (zeroValue e).run P u = .ok z u := by
      unfold zrI at hzz
      split at hzz
      · rename_i it hit
        simp [zeroValue, typeInfo, hit, hzz]
      · cases hzz
    have hze : z' = z := by
      have h1 : (zeroValue e).run P u = .ok z' u := by simp [zeroValue, typeInfo, hi, hz']
      rw [hzr] at h1
      cases h1; rfl
    subst hze
    have hzl : (Builtin.zeroCells z'.cells m).toList.length = m * s := by rw [Array.length_toList, size_zeroCells, hs3]
    have hst := run_storeCells_at (P := P) b t' off (Builtin.zeroCells z'.cells m).toList 0 cs.toArray u hb (by rw [hzl]; simpa using hcs') (fun v hv => by
      have h1 : v ∈ Builtin.zeroCells z'.cells m := by simpa using hv
      exact plain_one (zeroCells_all (by rw [← Array.all_toList]; exact hz1) v h1))
    have hrun : (execOp a.eval ⟨none, .call ⟨.builtin .clear, #[y], #[tt]⟩, ty, pos, aft, g⟩).run P u = .ok (.value (.tuple #[])) (u.setRow b (cs.take off ++ ((Builtin.zeroCells z'.cells m).toList ++ cs.drop (off + m * s))).toArray) := by
      rw [hzl] at hst
      cases m with
      | zero => exact absurd rfl hm
      | succ m =>
        simp only [execOp, resolve, invoke, builtin, Sem.run_bind, Sem.run_pure, Result.andThen_ok, List.map_toArray, List.map_cons, List.map_nil, hye, Builtin.clear_, List.getElem?_toArray, List.getElem?_cons_zero, run_underlying (Tabs.sl_spec ht), hzr]
        rw [hst]
        simp
    rw [hrun]
    simp only [Upon, Act.put]
    have hset := setRow_heap u b cs.toArray (cs.take off ++ ((Builtin.zeroCells z'.cells m).toList ++ cs.drop (off + m * s))).toArray t' (0, 0) hb
    have hbm := hM b ((hC b).2 rfl)
    have := hh.usePut (d := q) (a' := a) (r' := HeldR b (cs.take off ++ ((Builtin.zeroCells z'.cells m).toList ++ cs.drop (off + m * s))) t') (C := fun k => k = b) hqs (grow_setRow hh.sub hb ((hC b).2 rfl) hbm.2.1 _) rfl rfl (fun _ _ => rfl) ⟨hset, fun _ => Iff.rfl⟩ (fun k hk => by
      subst hk; exact ⟨.inl ((hC k).2 rfl), by rw [setRow_size]; exact hbm.1, hbm.2.1⟩)
    rw [upd_upd] at this
    exact ⟨H, _, this⟩
end
end Go.V
namespace Go.V
open Go.Proofs Go.RowKit
section
variable {P : Program} {F : Fr} {B : Heap} {O : Boxes} {n : Nat} {ops : Array Oper} {κ : Kap} {d : Nat} {ty : TypeId} {pos : String} {aft : Array Edge} {g : Option (Nat × Bool)} {a : Act} {u : World} {H : Heap} {fp : Nat → Nat → Prop} {Q : Exit → Act → World → Prop}
theorem ext_list (cs : List Value) (i s : Nat) : cs.toArray.extract i (i + s) = ((cs.drop i).take s).toArray := by
  apply Array.ext'
  simp [List.extract]
theorem ok_indexAg (L : Tabs P) {x y : Operand} {tt e : TypeId} {s len : Nat} {k : IntKind} {p : Int} {cs ys : List Value} (j : Nat) (hn : Nat.blt d n = true) (hg : gK ops κ ⟨some d, .index tt x y, ty, pos, aft, g⟩ = some true)
    (hx : evK κ x = some (.agg cs.toArray)) (hy : evK κ y = some (.int k p)) (ht : arI P tt = some (len, e)) (hl : L.ld e = some (true, s)) (hj : p = j) (hi : j < len) (hys : (cs.drop (j * s)).take s = ys) :
    StepOK P F B n ops O κ ⟨some d, .index tt x y, ty, pos, aft, g⟩ d (.is (.agg ys.toArray)) :=
  yl rfl (by simpa using hn) hg trivial fun a u H fp en => ⟨_, by
    have h1 := en.is_ x _ (by simp [Op.operands]) hx
    have h2 := en.is_ y _ (by simp [Op.operands]) hy
    subst hj hys
    have hu := arI_spec ht
    have hg := run_isAgg (Tabs.ld_spec hl) u
    simp only [execOp, h1, h2, Instr.index, Sem.run_bind, asIntOf, Sem.run_pure, Result.andThen_ok, run_underlying hu]
    rw [if_pos (by omega)]
    simp only [Int.toNat_natCast, part, Sem.run_bind, run_sizeOf (Tabs.ld_spec hl), Result.andThen_ok, hg, if_true, Sem.run_pure, ext_list], rfl⟩
theorem ok_indexAg1 (L : Tabs P) {x y : Operand} {tt e : TypeId} {s len : Nat} {k : IntKind} {p : Int} {cs : List Value} {v : Value} (j : Nat) (hn : Nat.blt d n = true) (hg : gK ops κ ⟨some d, .index tt x y, ty, pos, aft, g⟩ = some true)
    (hx : evK κ x = some (.agg cs.toArray)) (hy : evK κ y = some (.int k p)) (ht : arI P tt = some (len, e)) (hl : L.ld e = some (false, s)) (hj : p = j) (hi : j < len) (hys : cs[j * s]? = some v) :
    StepOK P F B n ops O κ ⟨some d, .index tt x y, ty, pos, aft, g⟩ d (.is v) :=
  yl rfl (by simpa using hn) hg trivial fun a u H fp en => ⟨_, by
    have h1 := en.is_ x _ (by simp [Op.operands]) hx
    have h2 := en.is_ y _ (by simp [Op.operands]) hy
    subst hj
    have hu := arI_spec ht
    have hg := run_isAgg (Tabs.ld_spec hl) u
    simp only [execOp, h1, h2, Instr.index, Sem.run_bind, asIntOf, Sem.run_pure, Result.andThen_ok, run_underlying hu]
    rw [if_pos (by omega)]
    simp only [Int.toNat_natCast, part, Sem.run_bind, run_sizeOf (Tabs.ld_spec hl), Result.andThen_ok, hg, List.getElem?_toArray, hys, Sem.run_pure]
    rfl, rfl⟩
end
end Go.V
namespace Go.V.L3
open Go.Proofs Go.RowKit Go.V Go.V.L2
abbrev fv (f : FT) : Value := .agg #[.string f.1.1.1, .string f.1.1.2, .string f.1.2, .string f.2.1.1.1, .string f.2.1.1.2, .string f.2.1.2, .bool f.2.2]
abbrev tyF : TypeId := 53
abbrev fdv (f : FT) (t : U) : Value := .agg #[.string f.1.1.1, .string t.1.1.1, .string f.1.1.2, .string t.1.1.2, .string f.1.2, .string t.1.2]
def FZ (f : FT) : Prop := (f.1.1.1.size ≤ 1099511627776 ∧ f.1.1.2.size ≤ 1099511627776 ∧ f.1.2.size ≤ 1099511627776) ∧ f.2.1.1.1.size ≤ 1099511627776 ∧ f.2.1.1.2.size ≤ 1099511627776 ∧ f.2.1.2.size ≤ 1099511627776
instance (f : FT) : Decidable (FZ f) := inferInstanceAs (Decidable (_ ∧ _))
def FM (f : FT) : Prop := (f.1.1.1.size ≤ 9223372036854775807 ∧ f.1.1.2.size ≤ 9223372036854775807 ∧ f.1.2.size ≤ 9223372036854775807) ∧ f.2.1.1.1.size ≤ 9223372036854775807 ∧ f.2.1.1.2.size ≤ 9223372036854775807 ∧ f.2.1.2.size ≤ 9223372036854775807
attribute [local irreducible] V N X VO Par StepOK Has Ret RetL RetO RetT Src
theorem fields_ret {a b c d e g a' b' c' d' e' g' : ByteArray} {ex : Bool} {w : World} {B : Heap} (hB : B.Le (hp w)) :
    Ret Tryz.prog 63 [.agg #[.string a, .string b, .string c, .string d, .string e, .string g, .bool ex], .agg #[.string a', .string b', .string c', .string d', .string e', .string g']] w B (fun v _ => v = .agg #[.string a, .string a', .string b, .string b', .string c, .string c']) := by
  refine qx Tryz.func63 rfl Tryz.ntmps63 (Nat.le_of_ble_eq_true rfl) hB ?_
  refine zg ?_; refine z8 (id := 0) ?_; refine z7 (qf rfl rfl rfl rfl) rfl ?_; refine z7 (qf rfl rfl rfl rfl) rfl ?_; refine z7 (qm L rfl rfl rfl rfl) rfl ?_; refine zh ?_; refine zj ?_; refine zg ?_; refine z8 (id := 1) ?_; refine z7 (zk L rfl rfl rfl rfl) rfl ?_; refine z7 (zo L (zq rfl) rfl rfl rfl rfl) rfl ?_; refine z7 (zk L rfl rfl rfl rfl) rfl ?_; refine z7 (zk L rfl rfl rfl rfl) rfl ?_; refine z7 (zk L rfl rfl rfl rfl) rfl ?_; refine z7 (zo L (zq rfl) rfl rfl rfl rfl) rfl ?_; refine z7 (qv (cs := [_, _]) rfl rfl pl107 rfl rfl) rfl ?_; refine z7 (zk L rfl rfl rfl rfl) rfl ?_; refine z7 (zo L (zq rfl) rfl rfl rfl rfl) rfl ?_; refine z7 (zk L rfl rfl rfl rfl) rfl ?_; refine z7 (zk L rfl rfl rfl rfl) rfl ?_; refine z7 (zk L rfl rfl rfl rfl) rfl ?_; refine z7 (zo L (zq rfl) rfl rfl rfl rfl) rfl ?_; refine z7 (qv (cs := [_, _]) rfl rfl pl107 rfl rfl) rfl ?_; refine z7 (zk L rfl rfl rfl rfl) rfl ?_; refine z7 (zo L (zq rfl) rfl rfl rfl rfl) rfl ?_; refine z7 (zk L rfl rfl rfl rfl) rfl ?_; refine z7 (zk L rfl rfl rfl rfl) rfl ?_; refine z7 (zo L (zq rfl) rfl rfl rfl rfl) rfl ?_; refine z7 (qv (cs := [_, _]) rfl rfl pl107 rfl rfl) rfl ?_; refine z7 (qv (cs := [_, _, _, _, _, _]) rfl rfl pl108 rfl rfl) rfl ?_; refine z7 (qg L rfl rfl rfl rfl rfl rfl rfl rfl) rfl ?_; refine zh ?_; refine zj ?_
  refine qi L (rs := [.cell 4 108]) rfl (fun _ _ h => h) Since.refl fun u H hH hle => ?_
  refine resK_cellA (ql rfl) rfl rfl ?_
  rfl
-- printed by mkfilw.py
set_option maxHeartbeats 2000000 in
theorem takes_ret {f : FT} {t : U} {r : Bool} (hr : takesB f t = r) {w : World} {B : Heap} (hB : B.Le (hp w)) : Ret Tryz.prog 41 [fv f, uv t] w B (fun v _ => v = .bool r) := by
  subst hr
  refine qx Tryz.func41 rfl Tryz.ntmps41 (Nat.le_of_ble_eq_true rfl) hB ?_
  refine zg ?_; refine z8 (id := 0) ?_; refine z7 (qf rfl rfl rfl rfl) rfl ?_; refine z7 (qf rfl rfl rfl rfl) rfl ?_; refine z7 (zi rfl rfl rfl) rfl ?_; refine zh ?_; refine zj ?_; refine zg ?_; refine zg ?_; refine z8 (id := 1) ?_; refine z7 (zz L (vs := [_, _, _, _, _, _, _]) (zq rfl) rfl rfl rfl rfl ⟨_, rfl⟩) rfl ?_; refine z7 (zz L (vs := [_, _, _, _, _, _]) (zq rfl) rfl rfl rfl rfl ⟨_, rfl⟩) rfl ?_; refine z7 (q6 L rfl rfl (zm rfl) rfl rfl rfl (fun u H hH _ _ => fields_ret hH)) rfl ?_; refine z7 (zf rfl rfl rfl) rfl ?_; refine zh ?_; refine zj ?_; refine qd ?_
  refine V_loop (fun k : Nat => [(2, .sat (At (fcs f) tyF 0)), (3, .sat (At (ucs t) tyU 0)), (9, .is (fdv f t)), (10, .is (.int .i64 k))])
    (fun k => k ≤ 3 ∧ (0 < k → tkF f.1.1.1 t.1.1.1 = true) ∧ (1 < k → tkF f.1.1.2 t.1.1.2 = true) ∧ (2 < k → tkF f.1.2 t.1.2 = true)) (fun k => 3 - k) 0 ⟨Nat.zero_le _, fun h => (by omega), fun h => (by omega), fun h => (by omega)⟩ ⟨rfl, rfl, rfl, rfl, trivial⟩ ?_
  rintro k ⟨hk, i0, i1, i2⟩
  rcases k with _ | _ | _ | _ | k
  · refine zg ?_; refine z8 (id := 2) ?_; refine z7 (qe rfl rfl rfl rfl (decide_eq_true (by omega))) rfl ?_; refine zh ?_; refine zj ?_; refine zg ?_; refine qa rfl ?_; refine q9 ?_; refine zj ?_; refine zg ?_; refine qd ?_; refine zg ?_; refine z8 (id := 3) ?_; refine z7 (ok_indexAg (ys := [_, _]) L _ rfl rfl rfl rfl ar108 rfl rfl (by first | omega | decide) rfl) rfl ?_; refine z7 (qm L rfl rfl rfl rfl) rfl ?_; refine z7 (qg L rfl rfl rfl rfl rfl rfl rfl rfl) rfl ?_; refine zh ?_; refine zj ?_; refine zg ?_
    refine V_box 6 rfl fun b6 hb6 => ?_
    by_cases h1 : f.1.1.1 = ⟨#[]⟩
    · have h1' : ¬ f.1.1.1 ≠ ⟨#[]⟩ := fun h => h h1
      have ht : tkF f.1.1.1 t.1.1.1 = true := by unfold tkF; rw [decide_eq_true h1]; rfl
      refine z8 (id := 4) ?_; refine z7 (y8 L _ rfl rfl rfl rfl ar107 rfl rfl (by first | omega | decide)) rfl ?_; refine z7 (zo L (qk rfl (List.Mem.head _)) rfl rfl rfl rfl) rfl ?_; refine z7 (qc rfl rfl rfl rfl (decide_eq_false (by assumption))) rfl ?_; refine z7 (zf rfl rfl rfl) rfl ?_; refine z7 (zn rfl (zm rfl) rfl) rfl ?_; refine z7 (zn rfl (zm rfl) rfl) rfl ?_; refine z7 (zn rfl (zm rfl) rfl) rfl ?_; refine z7 (zn rfl (zm rfl) rfl) rfl ?_; refine z7 (zn rfl (zm rfl) rfl) rfl ?_; refine z7 (zw rfl rfl rfl rfl) rfl ?_; refine zh ?_; refine zj ?_; refine q8 rfl ?_; refine q9 ?_; refine qr ?_; refine zj ?_
      refine V_drop (O' := []) (List.nil_sublist _) ?_
      refine z8 (id := 6) ?_; refine z7 (qy rfl rfl rfl rfl (wrap_i64 (by omega) (by omega))) rfl ?_; refine z7 (zf rfl rfl rfl) rfl ?_; refine zh ?_
      exact y7 (x := 0) 1 ⟨by omega, fun _ => ht, fun h => (by omega), fun h => (by omega)⟩ (by decide) ⟨rfl, rfl, rfl, rfl, trivial⟩
    · have h1' : f.1.1.1 ≠ ⟨#[]⟩ := h1
      by_cases h2 : f.1.1.1 = t.1.1.1
      · have h2' : ¬ f.1.1.1 ≠ t.1.1.1 := fun h => h h2
        have ht : tkF f.1.1.1 t.1.1.1 = true := by unfold tkF; rw [decide_eq_true h2]; simp
        refine z8 (id := 4) ?_; refine z7 (y8 L _ rfl rfl rfl rfl ar107 rfl rfl (by first | omega | decide)) rfl ?_; refine z7 (zo L (qk rfl (List.Mem.head _)) rfl rfl rfl rfl) rfl ?_; refine z7 (qc rfl rfl rfl rfl (decide_eq_true (by assumption))) rfl ?_; refine z7 (zf rfl rfl rfl) rfl ?_; refine z7 (y8 L _ rfl rfl rfl rfl ar107 rfl rfl (by first | omega | decide)) rfl ?_; refine z7 (zo L (qk rfl (List.Mem.head _)) rfl rfl rfl rfl) rfl ?_; refine z7 (y8 L _ rfl rfl rfl rfl ar107 rfl rfl (by first | omega | decide)) rfl ?_; refine z7 (zo L (qk rfl (List.Mem.head _)) rfl rfl rfl rfl) rfl ?_; refine z7 (qc rfl rfl rfl rfl (decide_eq_false (by assumption))) rfl ?_; refine z7 (zw rfl rfl rfl rfl) rfl ?_; refine zh ?_; refine zj ?_; refine q8 rfl ?_; refine q9 ?_; refine qr ?_; refine zj ?_
        refine V_drop (O' := []) (List.nil_sublist _) ?_
        refine z8 (id := 6) ?_; refine z7 (qy rfl rfl rfl rfl (wrap_i64 (by omega) (by omega))) rfl ?_; refine z7 (zf rfl rfl rfl) rfl ?_; refine zh ?_
        exact y7 (x := 0) 1 ⟨by omega, fun _ => ht, fun h => (by omega), fun h => (by omega)⟩ (by decide) ⟨rfl, rfl, rfl, rfl, trivial⟩
      · have h2' : f.1.1.1 ≠ t.1.1.1 := h2
        have ht : takesB f t = false := by
          have : tkF f.1.1.1 t.1.1.1 = false := by unfold tkF; rw [decide_eq_false h1, decide_eq_false h2]; rfl
          unfold takesB; rw [this]; simp
        rw [ht]
        refine z8 (id := 4) ?_; refine z7 (y8 L _ rfl rfl rfl rfl ar107 rfl rfl (by first | omega | decide)) rfl ?_; refine z7 (zo L (qk rfl (List.Mem.head _)) rfl rfl rfl rfl) rfl ?_; refine z7 (qc rfl rfl rfl rfl (decide_eq_true (by assumption))) rfl ?_; refine z7 (zf rfl rfl rfl) rfl ?_; refine z7 (y8 L _ rfl rfl rfl rfl ar107 rfl rfl (by first | omega | decide)) rfl ?_; refine z7 (zo L (qk rfl (List.Mem.head _)) rfl rfl rfl rfl) rfl ?_; refine z7 (y8 L _ rfl rfl rfl rfl ar107 rfl rfl (by first | omega | decide)) rfl ?_; refine z7 (zo L (qk rfl (List.Mem.head _)) rfl rfl rfl rfl) rfl ?_; refine z7 (qc rfl rfl rfl rfl (decide_eq_true (by assumption))) rfl ?_; refine z7 (zw rfl rfl rfl rfl) rfl ?_; refine zh ?_; refine zj ?_; refine qa rfl ?_; refine zg ?_; refine z8 (id := 5) ?_; refine z7 (zi rfl rfl rfl) rfl ?_; refine zh ?_; refine zj ?_
        refine qi L (rs := [.tmp 4]) rfl (fun _ _ h => h) Since.refl fun u H hH hle => ?_
        rfl
  · refine zg ?_; refine z8 (id := 2) ?_; refine z7 (qe rfl rfl rfl rfl (decide_eq_true (by omega))) rfl ?_; refine zh ?_; refine zj ?_; refine zg ?_; refine qa rfl ?_; refine q9 ?_; refine zj ?_; refine zg ?_; refine qd ?_; refine zg ?_; refine z8 (id := 3) ?_; refine z7 (ok_indexAg (ys := [_, _]) L _ rfl rfl rfl rfl ar108 rfl rfl (by first | omega | decide) rfl) rfl ?_; refine z7 (qm L rfl rfl rfl rfl) rfl ?_; refine z7 (qg L rfl rfl rfl rfl rfl rfl rfl rfl) rfl ?_; refine zh ?_; refine zj ?_; refine zg ?_
    refine V_box 6 rfl fun b6 hb6 => ?_
    by_cases h1 : f.1.1.2 = ⟨#[]⟩
    · have h1' : ¬ f.1.1.2 ≠ ⟨#[]⟩ := fun h => h h1
      have ht : tkF f.1.1.2 t.1.1.2 = true := by unfold tkF; rw [decide_eq_true h1]; rfl
      refine z8 (id := 4) ?_; refine z7 (y8 L _ rfl rfl rfl rfl ar107 rfl rfl (by first | omega | decide)) rfl ?_; refine z7 (zo L (qk rfl (List.Mem.head _)) rfl rfl rfl rfl) rfl ?_; refine z7 (qc rfl rfl rfl rfl (decide_eq_false (by assumption))) rfl ?_; refine z7 (zf rfl rfl rfl) rfl ?_; refine z7 (zn rfl (zm rfl) rfl) rfl ?_; refine z7 (zn rfl (zm rfl) rfl) rfl ?_; refine z7 (zn rfl (zm rfl) rfl) rfl ?_; refine z7 (zn rfl (zm rfl) rfl) rfl ?_; refine z7 (zn rfl (zm rfl) rfl) rfl ?_; refine z7 (zw rfl rfl rfl rfl) rfl ?_; refine zh ?_; refine zj ?_; refine q8 rfl ?_; refine q9 ?_; refine qr ?_; refine zj ?_
      refine V_drop (O' := []) (List.nil_sublist _) ?_
      refine z8 (id := 6) ?_; refine z7 (qy rfl rfl rfl rfl (wrap_i64 (by omega) (by omega))) rfl ?_; refine z7 (zf rfl rfl rfl) rfl ?_; refine zh ?_
      exact y7 (x := 1) 2 ⟨by omega, fun _ => i0 (by omega), fun _ => ht, fun h => (by omega)⟩ (by decide) ⟨rfl, rfl, rfl, rfl, trivial⟩
    · have h1' : f.1.1.2 ≠ ⟨#[]⟩ := h1
      by_cases h2 : f.1.1.2 = t.1.1.2
      · have h2' : ¬ f.1.1.2 ≠ t.1.1.2 := fun h => h h2
        have ht : tkF f.1.1.2 t.1.1.2 = true := by unfold tkF; rw [decide_eq_true h2]; simp
        refine z8 (id := 4) ?_; refine z7 (y8 L _ rfl rfl rfl rfl ar107 rfl rfl (by first | omega | decide)) rfl ?_; refine z7 (zo L (qk rfl (List.Mem.head _)) rfl rfl rfl rfl) rfl ?_; refine z7 (qc rfl rfl rfl rfl (decide_eq_true (by assumption))) rfl ?_; refine z7 (zf rfl rfl rfl) rfl ?_; refine z7 (y8 L _ rfl rfl rfl rfl ar107 rfl rfl (by first | omega | decide)) rfl ?_; refine z7 (zo L (qk rfl (List.Mem.head _)) rfl rfl rfl rfl) rfl ?_; refine z7 (y8 L _ rfl rfl rfl rfl ar107 rfl rfl (by first | omega | decide)) rfl ?_; refine z7 (zo L (qk rfl (List.Mem.head _)) rfl rfl rfl rfl) rfl ?_; refine z7 (qc rfl rfl rfl rfl (decide_eq_false (by assumption))) rfl ?_; refine z7 (zw rfl rfl rfl rfl) rfl ?_; refine zh ?_; refine zj ?_; refine q8 rfl ?_; refine q9 ?_; refine qr ?_; refine zj ?_
        refine V_drop (O' := []) (List.nil_sublist _) ?_
        refine z8 (id := 6) ?_; refine z7 (qy rfl rfl rfl rfl (wrap_i64 (by omega) (by omega))) rfl ?_; refine z7 (zf rfl rfl rfl) rfl ?_; refine zh ?_
        exact y7 (x := 1) 2 ⟨by omega, fun _ => i0 (by omega), fun _ => ht, fun h => (by omega)⟩ (by decide) ⟨rfl, rfl, rfl, rfl, trivial⟩
      · have h2' : f.1.1.2 ≠ t.1.1.2 := h2
        have ht : takesB f t = false := by
          have : tkF f.1.1.2 t.1.1.2 = false := by unfold tkF; rw [decide_eq_false h1, decide_eq_false h2]; rfl
          unfold takesB; rw [this]; simp
        rw [ht]
        refine z8 (id := 4) ?_; refine z7 (y8 L _ rfl rfl rfl rfl ar107 rfl rfl (by first | omega | decide)) rfl ?_; refine z7 (zo L (qk rfl (List.Mem.head _)) rfl rfl rfl rfl) rfl ?_; refine z7 (qc rfl rfl rfl rfl (decide_eq_true (by assumption))) rfl ?_; refine z7 (zf rfl rfl rfl) rfl ?_; refine z7 (y8 L _ rfl rfl rfl rfl ar107 rfl rfl (by first | omega | decide)) rfl ?_; refine z7 (zo L (qk rfl (List.Mem.head _)) rfl rfl rfl rfl) rfl ?_; refine z7 (y8 L _ rfl rfl rfl rfl ar107 rfl rfl (by first | omega | decide)) rfl ?_; refine z7 (zo L (qk rfl (List.Mem.head _)) rfl rfl rfl rfl) rfl ?_; refine z7 (qc rfl rfl rfl rfl (decide_eq_true (by assumption))) rfl ?_; refine z7 (zw rfl rfl rfl rfl) rfl ?_; refine zh ?_; refine zj ?_; refine qa rfl ?_; refine zg ?_; refine z8 (id := 5) ?_; refine z7 (zi rfl rfl rfl) rfl ?_; refine zh ?_; refine zj ?_
        refine qi L (rs := [.tmp 4]) rfl (fun _ _ h => h) Since.refl fun u H hH hle => ?_
        rfl
  · refine zg ?_; refine z8 (id := 2) ?_; refine z7 (qe rfl rfl rfl rfl (decide_eq_true (by omega))) rfl ?_; refine zh ?_; refine zj ?_; refine zg ?_; refine qa rfl ?_; refine q9 ?_; refine zj ?_; refine zg ?_; refine qd ?_; refine zg ?_; refine z8 (id := 3) ?_; refine z7 (ok_indexAg (ys := [_, _]) L _ rfl rfl rfl rfl ar108 rfl rfl (by first | omega | decide) rfl) rfl ?_; refine z7 (qm L rfl rfl rfl rfl) rfl ?_; refine z7 (qg L rfl rfl rfl rfl rfl rfl rfl rfl) rfl ?_; refine zh ?_; refine zj ?_; refine zg ?_
    refine V_box 6 rfl fun b6 hb6 => ?_
    by_cases h1 : f.1.2 = ⟨#[]⟩
    · have h1' : ¬ f.1.2 ≠ ⟨#[]⟩ := fun h => h h1
      have ht : tkF f.1.2 t.1.2 = true := by unfold tkF; rw [decide_eq_true h1]; rfl
      refine z8 (id := 4) ?_; refine z7 (y8 L _ rfl rfl rfl rfl ar107 rfl rfl (by first | omega | decide)) rfl ?_; refine z7 (zo L (qk rfl (List.Mem.head _)) rfl rfl rfl rfl) rfl ?_; refine z7 (qc rfl rfl rfl rfl (decide_eq_false (by assumption))) rfl ?_; refine z7 (zf rfl rfl rfl) rfl ?_; refine z7 (zn rfl (zm rfl) rfl) rfl ?_; refine z7 (zn rfl (zm rfl) rfl) rfl ?_; refine z7 (zn rfl (zm rfl) rfl) rfl ?_; refine z7 (zn rfl (zm rfl) rfl) rfl ?_; refine z7 (zn rfl (zm rfl) rfl) rfl ?_; refine z7 (zw rfl rfl rfl rfl) rfl ?_; refine zh ?_; refine zj ?_; refine q8 rfl ?_; refine q9 ?_; refine qr ?_; refine zj ?_
      refine V_drop (O' := []) (List.nil_sublist _) ?_
      refine z8 (id := 6) ?_; refine z7 (qy rfl rfl rfl rfl (wrap_i64 (by omega) (by omega))) rfl ?_; refine z7 (zf rfl rfl rfl) rfl ?_; refine zh ?_
      exact y7 (x := 2) 3 ⟨by omega, fun _ => i0 (by omega), fun _ => i1 (by omega), fun _ => ht⟩ (by decide) ⟨rfl, rfl, rfl, rfl, trivial⟩
    · have h1' : f.1.2 ≠ ⟨#[]⟩ := h1
      by_cases h2 : f.1.2 = t.1.2
      · have h2' : ¬ f.1.2 ≠ t.1.2 := fun h => h h2
        have ht : tkF f.1.2 t.1.2 = true := by unfold tkF; rw [decide_eq_true h2]; simp
        refine z8 (id := 4) ?_; refine z7 (y8 L _ rfl rfl rfl rfl ar107 rfl rfl (by first | omega | decide)) rfl ?_; refine z7 (zo L (qk rfl (List.Mem.head _)) rfl rfl rfl rfl) rfl ?_; refine z7 (qc rfl rfl rfl rfl (decide_eq_true (by assumption))) rfl ?_; refine z7 (zf rfl rfl rfl) rfl ?_; refine z7 (y8 L _ rfl rfl rfl rfl ar107 rfl rfl (by first | omega | decide)) rfl ?_; refine z7 (zo L (qk rfl (List.Mem.head _)) rfl rfl rfl rfl) rfl ?_; refine z7 (y8 L _ rfl rfl rfl rfl ar107 rfl rfl (by first | omega | decide)) rfl ?_; refine z7 (zo L (qk rfl (List.Mem.head _)) rfl rfl rfl rfl) rfl ?_; refine z7 (qc rfl rfl rfl rfl (decide_eq_false (by assumption))) rfl ?_; refine z7 (zw rfl rfl rfl rfl) rfl ?_; refine zh ?_; refine zj ?_; refine q8 rfl ?_; refine q9 ?_; refine qr ?_; refine zj ?_
        refine V_drop (O' := []) (List.nil_sublist _) ?_
        refine z8 (id := 6) ?_; refine z7 (qy rfl rfl rfl rfl (wrap_i64 (by omega) (by omega))) rfl ?_; refine z7 (zf rfl rfl rfl) rfl ?_; refine zh ?_
        exact y7 (x := 2) 3 ⟨by omega, fun _ => i0 (by omega), fun _ => i1 (by omega), fun _ => ht⟩ (by decide) ⟨rfl, rfl, rfl, rfl, trivial⟩
      · have h2' : f.1.2 ≠ t.1.2 := h2
        have ht : takesB f t = false := by
          have : tkF f.1.2 t.1.2 = false := by unfold tkF; rw [decide_eq_false h1, decide_eq_false h2]; rfl
          unfold takesB; rw [this]; simp
        rw [ht]
        refine z8 (id := 4) ?_; refine z7 (y8 L _ rfl rfl rfl rfl ar107 rfl rfl (by first | omega | decide)) rfl ?_; refine z7 (zo L (qk rfl (List.Mem.head _)) rfl rfl rfl rfl) rfl ?_; refine z7 (qc rfl rfl rfl rfl (decide_eq_true (by assumption))) rfl ?_; refine z7 (zf rfl rfl rfl) rfl ?_; refine z7 (y8 L _ rfl rfl rfl rfl ar107 rfl rfl (by first | omega | decide)) rfl ?_; refine z7 (zo L (qk rfl (List.Mem.head _)) rfl rfl rfl rfl) rfl ?_; refine z7 (y8 L _ rfl rfl rfl rfl ar107 rfl rfl (by first | omega | decide)) rfl ?_; refine z7 (zo L (qk rfl (List.Mem.head _)) rfl rfl rfl rfl) rfl ?_; refine z7 (qc rfl rfl rfl rfl (decide_eq_true (by assumption))) rfl ?_; refine z7 (zw rfl rfl rfl rfl) rfl ?_; refine zh ?_; refine zj ?_; refine qa rfl ?_; refine zg ?_; refine z8 (id := 5) ?_; refine z7 (zi rfl rfl rfl) rfl ?_; refine zh ?_; refine zj ?_
        refine qi L (rs := [.tmp 4]) rfl (fun _ _ h => h) Since.refl fun u H hH hle => ?_
        rfl
  · have e1 := i0 (by omega)
    have e2 := i1 (by omega)
    have e3 := i2 (by omega)
    have ht : takesB f t = (!f.2.2 || decide (f.2.1 = t.2)) := by unfold takesB; rw [e1, e2, e3]; rfl
    rw [ht]
    cases hx : f.2.2
    · refine zg ?_; refine z8 (id := 2) ?_; refine z7 (qe rfl rfl rfl rfl (decide_eq_false (by omega))) rfl ?_; refine zh ?_; refine zj ?_; refine zg ?_; refine q8 rfl ?_; refine yi ?_; refine qu ?_; refine qu ?_; refine yh ?_; refine zj ?_; refine zg ?_; refine z8 (id := 7) ?_; refine z7 (zk L rfl rfl rfl rfl) rfl ?_; refine z7 (zo L (zq rfl) rfl rfl rfl rfl) rfl ?_; rw [hx]; refine z7 (yk rfl rfl rfl rfl) rfl ?_; refine z7 (zf rfl rfl rfl) rfl ?_; refine z7 (zn rfl (zm rfl) rfl) rfl ?_; refine z7 (zn rfl (zm rfl) rfl) rfl ?_; refine z7 (zn rfl (zm rfl) rfl) rfl ?_; refine z7 (zn rfl (zm rfl) rfl) rfl ?_; refine z7 (zn rfl (zm rfl) rfl) rfl ?_; refine z7 (zw rfl rfl rfl rfl) rfl ?_; refine z7 (zi rfl rfl rfl) rfl ?_; refine zh ?_; refine zj ?_
      refine qi L (rs := [.tmp 4]) rfl (fun _ _ h => h) Since.refl fun u H hH hle => ?_
      rfl
    · have hq := eq3 (g := f.2.1) (h := t.2) rfl
      refine zg ?_; refine z8 (id := 2) ?_; refine z7 (qe rfl rfl rfl rfl (decide_eq_false (by omega))) rfl ?_; refine zh ?_; refine zj ?_; refine zg ?_; refine q8 rfl ?_; refine yi ?_; refine qu ?_; refine qu ?_; refine yh ?_; refine zj ?_; refine zg ?_; refine z8 (id := 7) ?_; refine z7 (zk L rfl rfl rfl rfl) rfl ?_; refine z7 (zo L (zq rfl) rfl rfl rfl rfl) rfl ?_; rw [hx]; refine z7 (yk rfl rfl rfl rfl) rfl ?_; refine z7 (zf rfl rfl rfl) rfl ?_; refine z7 (zk L rfl rfl rfl rfl) rfl ?_; refine z7 (zz L (vs := [_, _, _]) (zq rfl) rfl rfl rfl rfl ⟨_, rfl⟩) rfl ?_; refine z7 (zk L rfl rfl rfl rfl) rfl ?_; refine z7 (zz L (vs := [_, _, _]) (zq rfl) rfl rfl rfl rfl ⟨_, rfl⟩) rfl ?_; refine z7 (ok_aeql rfl rfl rfl rfl eq48 (by assumption) rfl) rfl ?_; refine z7 (zw rfl rfl rfl rfl) rfl ?_; refine z7 (zi rfl rfl rfl) rfl ?_; refine zh ?_; refine zj ?_
      refine qi L (rs := [.tmp 4]) rfl (fun _ _ h => h) Since.refl fun u H hH hle => ?_
      rfl
  · omega
theorem bad_nil {x : ByteArray} (h : x = ⟨#[]⟩) : badF x = false := by unfold badF; rw [decide_eq_true h]; rfl
theorem bad_ok {x : ByteArray} (h : chk x = 0) : badF x = false := by unfold badF; rw [decide_eq_true h]; simp
theorem bad_yes {x : ByteArray} (h : ¬ x = ⟨#[]⟩) (h2 : ¬ chk x = 0) : badF x = true := by unfold badF; rw [decide_eq_false h, decide_eq_false h2]; rfl
set_option maxHeartbeats 4000000 in
theorem fcheck_ret {f : FT} (hz : FM f) {r : Int} (hr : fE f = r) {w : World} {B : Heap} (hB : B.Le (hp w)) : Ret Tryz.prog 38 [fv f] w B (fun v _ => v = .int .i64 r) := by
  subst hr
  obtain ⟨f1, s1, ex⟩ := f
  obtain ⟨⟨z1, z2, z3⟩, z4, z5, z6⟩ := hz
  dsimp only at z1 z2 z3 z4 z5 z6
  refine qx Tryz.func38 rfl Tryz.ntmps38 (Nat.le_of_ble_eq_true rfl) hB ?_
  by_cases hx : ex = false ∧ ¬ s1 = n3
  · obtain ⟨rfl, hx2⟩ := hx
    have hq := eq3 (decide_eq_false hx2)
    have he : fE (f1, s1, false) = 5 := if_pos ⟨rfl, hx2⟩
    rw [he]
    refine zg ?_; refine z8 (id := 0) ?_; refine z7 (qf rfl rfl rfl rfl) rfl ?_; refine z7 (zi rfl rfl rfl) rfl ?_; refine zh ?_; refine zj ?_; refine zg ?_; refine zg ?_; refine z8 (id := 1) ?_; refine z7 (zk L rfl rfl rfl rfl) rfl ?_; refine z7 (zo L (zq rfl) rfl rfl rfl rfl) rfl ?_; refine z7 (yk rfl rfl rfl rfl) rfl ?_; refine z7 (zf rfl rfl rfl) rfl ?_; refine z7 (zk L rfl rfl rfl rfl) rfl ?_; refine z7 (zz L (vs := [_, _, _]) (zq rfl) rfl rfl rfl rfl ⟨_, rfl⟩) rfl ?_; refine z7 (qv (cs := [_, _, _]) rfl rfl pl48 rfl rfl) rfl ?_; refine z7 (ok_aneq rfl rfl rfl rfl eq48 (by assumption) rfl) rfl ?_; refine z7 (zw rfl rfl rfl rfl) rfl ?_; refine zh ?_; refine zj ?_; refine qa rfl ?_; refine zg ?_; refine z8 (id := 2) ?_; refine z7 (zi rfl rfl rfl) rfl ?_; refine zh ?_; refine zj ?_
    refine qi L (rs := [.tmp 2]) rfl (fun _ _ h => h) Since.refl fun u H hH hle => ?_
    rfl
  · have he : fE (f1, s1, ex) = if (badF f1.1.1 || badF f1.1.2 || badF f1.2) = true then 6 else if ex = true then subjE s1.1.1 s1.1.2 s1.2 else 0 := if_neg hx
    rw [he]
    cases ex
    · have hs : s1 = n3 := Classical.not_not.1 fun h => hx ⟨rfl, h⟩
      have hq := eq3 (decide_eq_true hs)
      refine zg ?_; refine z8 (id := 0) ?_; refine z7 (qf rfl rfl rfl rfl) rfl ?_; refine z7 (zi rfl rfl rfl) rfl ?_; refine zh ?_; refine zj ?_; refine zg ?_; refine zg ?_; refine z8 (id := 1) ?_; refine z7 (zk L rfl rfl rfl rfl) rfl ?_; refine z7 (zo L (zq rfl) rfl rfl rfl rfl) rfl ?_; refine z7 (yk rfl rfl rfl rfl) rfl ?_; refine z7 (zf rfl rfl rfl) rfl ?_; refine z7 (zk L rfl rfl rfl rfl) rfl ?_; refine z7 (zz L (vs := [_, _, _]) (zq rfl) rfl rfl rfl rfl ⟨_, rfl⟩) rfl ?_; refine z7 (qv (cs := [_, _, _]) rfl rfl pl48 rfl rfl) rfl ?_; refine z7 (ok_aneq rfl rfl rfl rfl eq48 (by assumption) rfl) rfl ?_; refine z7 (zw rfl rfl rfl rfl) rfl ?_; refine zh ?_; refine zj ?_; refine q8 rfl ?_; refine q9 ?_; refine zj ?_; refine zg ?_; refine zg ?_; refine z8 (id := 3) ?_; refine z7 (zz L (vs := [_, _, _, _, _, _, _]) (zq rfl) rfl rfl rfl rfl ⟨_, rfl⟩) rfl ?_; refine z7 (qv (cs := [_, _, _, _, _, _]) rfl rfl pl50 rfl rfl) rfl ?_; refine z7 (q6 L rfl rfl (zm rfl) rfl rfl rfl (fun u H hH _ _ => fields_ret hH)) rfl ?_; refine z7 (zf rfl rfl rfl) rfl ?_; refine zh ?_; refine zj ?_; refine qd ?_
      refine V_loop (fun k : Nat => [(1, .sat (At [.string f1.1.1, .string f1.1.2, .string f1.2, .string s1.1.1, .string s1.1.2, .string s1.2, .bool false] tyF 0)), (16, .is (.agg #[.string f1.1.1, .string ⟨#[]⟩, .string f1.1.2, .string ⟨#[]⟩, .string f1.2, .string ⟨#[]⟩])), (17, .is (.int .i64 k))])
        (fun k => k ≤ 3 ∧ (0 < k → badF f1.1.1 = false) ∧ (1 < k → badF f1.1.2 = false) ∧ (2 < k → badF f1.2 = false)) (fun k => 3 - k) 0 ⟨Nat.zero_le _, fun h => (by omega), fun h => (by omega), fun h => (by omega)⟩ ⟨rfl, rfl, rfl, trivial⟩ ?_
      rintro k ⟨hk, i0, i1, i2⟩
      rcases k with _ | _ | _ | _ | k
      · refine zg ?_; refine z8 (id := 4) ?_; refine z7 (qe rfl rfl rfl rfl (decide_eq_true (by omega))) rfl ?_; refine zh ?_; refine zj ?_; refine zg ?_; refine qa rfl ?_; refine q9 ?_; refine zj ?_; refine zg ?_; refine qd ?_; refine zg ?_; refine z8 (id := 5) ?_; refine z7 (ok_indexAg (ys := [_, _]) L _ rfl rfl rfl rfl ar108 rfl rfl (by first | omega | decide) rfl) rfl ?_; refine z7 (qm L rfl rfl rfl rfl) rfl ?_; refine z7 (qg L rfl rfl rfl rfl rfl rfl rfl rfl) rfl ?_; refine zh ?_; refine zj ?_; refine zg ?_
        refine V_box 4 rfl fun b4 hb4 => ?_
        by_cases h1 : f1.1.1 = ⟨#[]⟩
        · have h1' : ¬ f1.1.1 ≠ ⟨#[]⟩ := fun h => h h1
          have ht := bad_nil h1
          refine z8 (id := 6) ?_; refine z7 (y8 L _ rfl rfl rfl rfl ar107 rfl rfl (by first | omega | decide)) rfl ?_; refine z7 (zo L (qk rfl (List.Mem.head _)) rfl rfl rfl rfl) rfl ?_; refine z7 (qc rfl rfl rfl rfl (decide_eq_false (by assumption))) rfl ?_; refine z7 (zf rfl rfl rfl) rfl ?_; refine z7 (zn rfl (zm rfl) rfl) rfl ?_; refine z7 (zn rfl (zm rfl) rfl) rfl ?_; refine z7 (zn rfl (zm rfl) rfl) rfl ?_; refine z7 (zn rfl (zm rfl) rfl) rfl ?_; refine z7 (zw rfl rfl rfl rfl) rfl ?_; refine zh ?_; refine zj ?_; refine q8 rfl ?_; refine q9 ?_; refine qr ?_; refine zj ?_
          refine V_drop (O' := []) (List.nil_sublist _) ?_
          refine z8 (id := 8) ?_; refine z7 (qy rfl rfl rfl rfl (wrap_i64 (by omega) (by omega))) rfl ?_; refine z7 (zf rfl rfl rfl) rfl ?_; refine zh ?_
          exact y7 (x := 0) 1 ⟨by omega, fun _ => ht, fun h => (by omega), fun h => (by omega)⟩ (by decide) ⟨rfl, rfl, rfl, trivial⟩
        · have h1' : f1.1.1 ≠ ⟨#[]⟩ := h1
          by_cases h2 : chk f1.1.1 = 0
          · have ht := bad_ok h2
            refine z8 (id := 6) ?_; refine z7 (y8 L _ rfl rfl rfl rfl ar107 rfl rfl (by first | omega | decide)) rfl ?_; refine z7 (zo L (qk rfl (List.Mem.head _)) rfl rfl rfl rfl) rfl ?_; refine z7 (qc rfl rfl rfl rfl (decide_eq_true (by assumption))) rfl ?_; refine z7 (zf rfl rfl rfl) rfl ?_; refine z7 (y8 L _ rfl rfl rfl rfl ar107 rfl rfl (by first | omega | decide)) rfl ?_; refine z7 (zo L (qk rfl (List.Mem.head _)) rfl rfl rfl rfl) rfl ?_; refine z7 (q6 L rfl rfl (zm rfl) rfl rfl rfl (fun u H hH _ _ => check_ret _ (by omega) hH)) rfl ?_; refine z7 (yb rfl rfl rfl rfl (decide_eq_false (by omega))) rfl ?_; refine z7 (zw rfl rfl rfl rfl) rfl ?_; refine zh ?_; refine zj ?_; refine q8 rfl ?_; refine q9 ?_; refine qr ?_; refine zj ?_
            refine V_drop (O' := []) (List.nil_sublist _) ?_
            refine z8 (id := 8) ?_; refine z7 (qy rfl rfl rfl rfl (wrap_i64 (by omega) (by omega))) rfl ?_; refine z7 (zf rfl rfl rfl) rfl ?_; refine zh ?_
            exact y7 (x := 0) 1 ⟨by omega, fun _ => ht, fun h => (by omega), fun h => (by omega)⟩ (by decide) ⟨rfl, rfl, rfl, trivial⟩
          · have ht : (badF f1.1.1 || badF f1.1.2 || badF f1.2) = true := by rw [bad_yes h1 h2]; simp
            rw [if_pos ht]
            refine z8 (id := 6) ?_; refine z7 (y8 L _ rfl rfl rfl rfl ar107 rfl rfl (by first | omega | decide)) rfl ?_; refine z7 (zo L (qk rfl (List.Mem.head _)) rfl rfl rfl rfl) rfl ?_; refine z7 (qc rfl rfl rfl rfl (decide_eq_true (by assumption))) rfl ?_; refine z7 (zf rfl rfl rfl) rfl ?_; refine z7 (y8 L _ rfl rfl rfl rfl ar107 rfl rfl (by first | omega | decide)) rfl ?_; refine z7 (zo L (qk rfl (List.Mem.head _)) rfl rfl rfl rfl) rfl ?_; refine z7 (q6 L rfl rfl (zm rfl) rfl rfl rfl (fun u H hH _ _ => check_ret _ (by omega) hH)) rfl ?_; refine z7 (yb rfl rfl rfl rfl (decide_eq_true (by omega))) rfl ?_; refine z7 (zw rfl rfl rfl rfl) rfl ?_; refine zh ?_; refine zj ?_; refine qa rfl ?_; refine zg ?_; refine z8 (id := 7) ?_; refine z7 (zi rfl rfl rfl) rfl ?_; refine zh ?_; refine zj ?_
            refine qi L (rs := [.tmp 2]) rfl (fun _ _ h => h) Since.refl fun u H hH hle => ?_
            rfl
      · refine zg ?_; refine z8 (id := 4) ?_; refine z7 (qe rfl rfl rfl rfl (decide_eq_true (by omega))) rfl ?_; refine zh ?_; refine zj ?_; refine zg ?_; refine qa rfl ?_; refine q9 ?_; refine zj ?_; refine zg ?_; refine qd ?_; refine zg ?_; refine z8 (id := 5) ?_; refine z7 (ok_indexAg (ys := [_, _]) L _ rfl rfl rfl rfl ar108 rfl rfl (by first | omega | decide) rfl) rfl ?_; refine z7 (qm L rfl rfl rfl rfl) rfl ?_; refine z7 (qg L rfl rfl rfl rfl rfl rfl rfl rfl) rfl ?_; refine zh ?_; refine zj ?_; refine zg ?_
        refine V_box 4 rfl fun b4 hb4 => ?_
        by_cases h1 : f1.1.2 = ⟨#[]⟩
        · have h1' : ¬ f1.1.2 ≠ ⟨#[]⟩ := fun h => h h1
          have ht := bad_nil h1
          refine z8 (id := 6) ?_; refine z7 (y8 L _ rfl rfl rfl rfl ar107 rfl rfl (by first | omega | decide)) rfl ?_; refine z7 (zo L (qk rfl (List.Mem.head _)) rfl rfl rfl rfl) rfl ?_; refine z7 (qc rfl rfl rfl rfl (decide_eq_false (by assumption))) rfl ?_; refine z7 (zf rfl rfl rfl) rfl ?_; refine z7 (zn rfl (zm rfl) rfl) rfl ?_; refine z7 (zn rfl (zm rfl) rfl) rfl ?_; refine z7 (zn rfl (zm rfl) rfl) rfl ?_; refine z7 (zn rfl (zm rfl) rfl) rfl ?_; refine z7 (zw rfl rfl rfl rfl) rfl ?_; refine zh ?_; refine zj ?_; refine q8 rfl ?_; refine q9 ?_; refine qr ?_; refine zj ?_
          refine V_drop (O' := []) (List.nil_sublist _) ?_
          refine z8 (id := 8) ?_; refine z7 (qy rfl rfl rfl rfl (wrap_i64 (by omega) (by omega))) rfl ?_; refine z7 (zf rfl rfl rfl) rfl ?_; refine zh ?_
          exact y7 (x := 1) 2 ⟨by omega, fun _ => i0 (by omega), fun _ => ht, fun h => (by omega)⟩ (by decide) ⟨rfl, rfl, rfl, trivial⟩
        · have h1' : f1.1.2 ≠ ⟨#[]⟩ := h1
          by_cases h2 : chk f1.1.2 = 0
          · have ht := bad_ok h2
            refine z8 (id := 6) ?_; refine z7 (y8 L _ rfl rfl rfl rfl ar107 rfl rfl (by first | omega | decide)) rfl ?_; refine z7 (zo L (qk rfl (List.Mem.head _)) rfl rfl rfl rfl) rfl ?_; refine z7 (qc rfl rfl rfl rfl (decide_eq_true (by assumption))) rfl ?_; refine z7 (zf rfl rfl rfl) rfl ?_; refine z7 (y8 L _ rfl rfl rfl rfl ar107 rfl rfl (by first | omega | decide)) rfl ?_; refine z7 (zo L (qk rfl (List.Mem.head _)) rfl rfl rfl rfl) rfl ?_; refine z7 (q6 L rfl rfl (zm rfl) rfl rfl rfl (fun u H hH _ _ => check_ret _ (by omega) hH)) rfl ?_; refine z7 (yb rfl rfl rfl rfl (decide_eq_false (by omega))) rfl ?_; refine z7 (zw rfl rfl rfl rfl) rfl ?_; refine zh ?_; refine zj ?_; refine q8 rfl ?_; refine q9 ?_; refine qr ?_; refine zj ?_
            refine V_drop (O' := []) (List.nil_sublist _) ?_
            refine z8 (id := 8) ?_; refine z7 (qy rfl rfl rfl rfl (wrap_i64 (by omega) (by omega))) rfl ?_; refine z7 (zf rfl rfl rfl) rfl ?_; refine zh ?_
            exact y7 (x := 1) 2 ⟨by omega, fun _ => i0 (by omega), fun _ => ht, fun h => (by omega)⟩ (by decide) ⟨rfl, rfl, rfl, trivial⟩
          · have ht : (badF f1.1.1 || badF f1.1.2 || badF f1.2) = true := by rw [bad_yes h1 h2]; simp
            rw [if_pos ht]
            refine z8 (id := 6) ?_; refine z7 (y8 L _ rfl rfl rfl rfl ar107 rfl rfl (by first | omega | decide)) rfl ?_; refine z7 (zo L (qk rfl (List.Mem.head _)) rfl rfl rfl rfl) rfl ?_; refine z7 (qc rfl rfl rfl rfl (decide_eq_true (by assumption))) rfl ?_; refine z7 (zf rfl rfl rfl) rfl ?_; refine z7 (y8 L _ rfl rfl rfl rfl ar107 rfl rfl (by first | omega | decide)) rfl ?_; refine z7 (zo L (qk rfl (List.Mem.head _)) rfl rfl rfl rfl) rfl ?_; refine z7 (q6 L rfl rfl (zm rfl) rfl rfl rfl (fun u H hH _ _ => check_ret _ (by omega) hH)) rfl ?_; refine z7 (yb rfl rfl rfl rfl (decide_eq_true (by omega))) rfl ?_; refine z7 (zw rfl rfl rfl rfl) rfl ?_; refine zh ?_; refine zj ?_; refine qa rfl ?_; refine zg ?_; refine z8 (id := 7) ?_; refine z7 (zi rfl rfl rfl) rfl ?_; refine zh ?_; refine zj ?_
            refine qi L (rs := [.tmp 2]) rfl (fun _ _ h => h) Since.refl fun u H hH hle => ?_
            rfl
      · refine zg ?_; refine z8 (id := 4) ?_; refine z7 (qe rfl rfl rfl rfl (decide_eq_true (by omega))) rfl ?_; refine zh ?_; refine zj ?_; refine zg ?_; refine qa rfl ?_; refine q9 ?_; refine zj ?_; refine zg ?_; refine qd ?_; refine zg ?_; refine z8 (id := 5) ?_; refine z7 (ok_indexAg (ys := [_, _]) L _ rfl rfl rfl rfl ar108 rfl rfl (by first | omega | decide) rfl) rfl ?_; refine z7 (qm L rfl rfl rfl rfl) rfl ?_; refine z7 (qg L rfl rfl rfl rfl rfl rfl rfl rfl) rfl ?_; refine zh ?_; refine zj ?_; refine zg ?_
        refine V_box 4 rfl fun b4 hb4 => ?_
        by_cases h1 : f1.2 = ⟨#[]⟩
        · have h1' : ¬ f1.2 ≠ ⟨#[]⟩ := fun h => h h1
          have ht := bad_nil h1
          refine z8 (id := 6) ?_; refine z7 (y8 L _ rfl rfl rfl rfl ar107 rfl rfl (by first | omega | decide)) rfl ?_; refine z7 (zo L (qk rfl (List.Mem.head _)) rfl rfl rfl rfl) rfl ?_; refine z7 (qc rfl rfl rfl rfl (decide_eq_false (by assumption))) rfl ?_; refine z7 (zf rfl rfl rfl) rfl ?_; refine z7 (zn rfl (zm rfl) rfl) rfl ?_; refine z7 (zn rfl (zm rfl) rfl) rfl ?_; refine z7 (zn rfl (zm rfl) rfl) rfl ?_; refine z7 (zn rfl (zm rfl) rfl) rfl ?_; refine z7 (zw rfl rfl rfl rfl) rfl ?_; refine zh ?_; refine zj ?_; refine q8 rfl ?_; refine q9 ?_; refine qr ?_; refine zj ?_
          refine V_drop (O' := []) (List.nil_sublist _) ?_
          refine z8 (id := 8) ?_; refine z7 (qy rfl rfl rfl rfl (wrap_i64 (by omega) (by omega))) rfl ?_; refine z7 (zf rfl rfl rfl) rfl ?_; refine zh ?_
          exact y7 (x := 2) 3 ⟨by omega, fun _ => i0 (by omega), fun _ => i1 (by omega), fun _ => ht⟩ (by decide) ⟨rfl, rfl, rfl, trivial⟩
        · have h1' : f1.2 ≠ ⟨#[]⟩ := h1
          by_cases h2 : chk f1.2 = 0
          · have ht := bad_ok h2
            refine z8 (id := 6) ?_; refine z7 (y8 L _ rfl rfl rfl rfl ar107 rfl rfl (by first | omega | decide)) rfl ?_; refine z7 (zo L (qk rfl (List.Mem.head _)) rfl rfl rfl rfl) rfl ?_; refine z7 (qc rfl rfl rfl rfl (decide_eq_true (by assumption))) rfl ?_; refine z7 (zf rfl rfl rfl) rfl ?_; refine z7 (y8 L _ rfl rfl rfl rfl ar107 rfl rfl (by first | omega | decide)) rfl ?_; refine z7 (zo L (qk rfl (List.Mem.head _)) rfl rfl rfl rfl) rfl ?_; refine z7 (q6 L rfl rfl (zm rfl) rfl rfl rfl (fun u H hH _ _ => check_ret _ (by omega) hH)) rfl ?_; refine z7 (yb rfl rfl rfl rfl (decide_eq_false (by omega))) rfl ?_; refine z7 (zw rfl rfl rfl rfl) rfl ?_; refine zh ?_; refine zj ?_; refine q8 rfl ?_; refine q9 ?_; refine qr ?_; refine zj ?_
            refine V_drop (O' := []) (List.nil_sublist _) ?_
            refine z8 (id := 8) ?_; refine z7 (qy rfl rfl rfl rfl (wrap_i64 (by omega) (by omega))) rfl ?_; refine z7 (zf rfl rfl rfl) rfl ?_; refine zh ?_
            exact y7 (x := 2) 3 ⟨by omega, fun _ => i0 (by omega), fun _ => i1 (by omega), fun _ => ht⟩ (by decide) ⟨rfl, rfl, rfl, trivial⟩
          · have ht : (badF f1.1.1 || badF f1.1.2 || badF f1.2) = true := by rw [bad_yes h1 h2]; simp
            rw [if_pos ht]
            refine z8 (id := 6) ?_; refine z7 (y8 L _ rfl rfl rfl rfl ar107 rfl rfl (by first | omega | decide)) rfl ?_; refine z7 (zo L (qk rfl (List.Mem.head _)) rfl rfl rfl rfl) rfl ?_; refine z7 (qc rfl rfl rfl rfl (decide_eq_true (by assumption))) rfl ?_; refine z7 (zf rfl rfl rfl) rfl ?_; refine z7 (y8 L _ rfl rfl rfl rfl ar107 rfl rfl (by first | omega | decide)) rfl ?_; refine z7 (zo L (qk rfl (List.Mem.head _)) rfl rfl rfl rfl) rfl ?_; refine z7 (q6 L rfl rfl (zm rfl) rfl rfl rfl (fun u H hH _ _ => check_ret _ (by omega) hH)) rfl ?_; refine z7 (yb rfl rfl rfl rfl (decide_eq_true (by omega))) rfl ?_; refine z7 (zw rfl rfl rfl rfl) rfl ?_; refine zh ?_; refine zj ?_; refine qa rfl ?_; refine zg ?_; refine z8 (id := 7) ?_; refine z7 (zi rfl rfl rfl) rfl ?_; refine zh ?_; refine zj ?_
            refine qi L (rs := [.tmp 2]) rfl (fun _ _ h => h) Since.refl fun u H hH hle => ?_
            rfl
      · have ht : ¬ (badF f1.1.1 || badF f1.1.2 || badF f1.2) = true := by rw [i0 (by omega), i1 (by omega), i2 (by omega)]; decide
        rw [if_neg ht, if_neg (by decide)]
        refine zg ?_; refine z8 (id := 4) ?_; refine z7 (qe rfl rfl rfl rfl (decide_eq_false (by omega))) rfl ?_; refine zh ?_; refine zj ?_; refine zg ?_; refine q8 rfl ?_; refine yi ?_; refine qu ?_; refine qu ?_; refine yh ?_; refine zj ?_; refine zg ?_; refine zg ?_; refine z8 (id := 9) ?_; refine z7 (zk L rfl rfl rfl rfl) rfl ?_; refine z7 (zo L (zq rfl) rfl rfl rfl rfl) rfl ?_; refine zh ?_; refine zj ?_; refine q8 rfl ?_; refine q9 ?_; refine zj ?_; refine zg ?_; refine z8 (id := 11) ?_; refine z7 (zi rfl rfl rfl) rfl ?_; refine zh ?_; refine zj ?_
        refine qi L (rs := [.tmp 2]) rfl (fun _ _ h => h) Since.refl fun u H hH hle => ?_
        rfl
      · omega
    · refine zg ?_; refine z8 (id := 0) ?_; refine z7 (qf rfl rfl rfl rfl) rfl ?_; refine z7 (zi rfl rfl rfl) rfl ?_; refine zh ?_; refine zj ?_; refine zg ?_; refine zg ?_; refine z8 (id := 1) ?_; refine z7 (zk L rfl rfl rfl rfl) rfl ?_; refine z7 (zo L (zq rfl) rfl rfl rfl rfl) rfl ?_; refine z7 (yk rfl rfl rfl rfl) rfl ?_; refine z7 (zf rfl rfl rfl) rfl ?_; refine z7 (zn rfl (zm rfl) rfl) rfl ?_; refine z7 (zn rfl (zm rfl) rfl) rfl ?_; refine z7 (zn rfl (zm rfl) rfl) rfl ?_; refine z7 (zn rfl (zm rfl) rfl) rfl ?_; refine z7 (zw rfl rfl rfl rfl) rfl ?_; refine zh ?_; refine zj ?_; refine q8 rfl ?_; refine q9 ?_; refine zj ?_; refine zg ?_; refine zg ?_; refine z8 (id := 3) ?_; refine z7 (zz L (vs := [_, _, _, _, _, _, _]) (zq rfl) rfl rfl rfl rfl ⟨_, rfl⟩) rfl ?_; refine z7 (qv (cs := [_, _, _, _, _, _]) rfl rfl pl50 rfl rfl) rfl ?_; refine z7 (q6 L rfl rfl (zm rfl) rfl rfl rfl (fun u H hH _ _ => fields_ret hH)) rfl ?_; refine z7 (zf rfl rfl rfl) rfl ?_; refine zh ?_; refine zj ?_; refine qd ?_
      refine V_loop (fun k : Nat => [(1, .sat (At [.string f1.1.1, .string f1.1.2, .string f1.2, .string s1.1.1, .string s1.1.2, .string s1.2, .bool true] tyF 0)), (16, .is (.agg #[.string f1.1.1, .string ⟨#[]⟩, .string f1.1.2, .string ⟨#[]⟩, .string f1.2, .string ⟨#[]⟩])), (17, .is (.int .i64 k))])
        (fun k => k ≤ 3 ∧ (0 < k → badF f1.1.1 = false) ∧ (1 < k → badF f1.1.2 = false) ∧ (2 < k → badF f1.2 = false)) (fun k => 3 - k) 0 ⟨Nat.zero_le _, fun h => (by omega), fun h => (by omega), fun h => (by omega)⟩ ⟨rfl, rfl, rfl, trivial⟩ ?_
      rintro k ⟨hk, i0, i1, i2⟩
      rcases k with _ | _ | _ | _ | k
      · refine zg ?_; refine z8 (id := 4) ?_; refine z7 (qe rfl rfl rfl rfl (decide_eq_true (by omega))) rfl ?_; refine zh ?_; refine zj ?_; refine zg ?_; refine qa rfl ?_; refine q9 ?_; refine zj ?_; refine zg ?_; refine qd ?_; refine zg ?_; refine z8 (id := 5) ?_; refine z7 (ok_indexAg (ys := [_, _]) L _ rfl rfl rfl rfl ar108 rfl rfl (by first | omega | decide) rfl) rfl ?_; refine z7 (qm L rfl rfl rfl rfl) rfl ?_; refine z7 (qg L rfl rfl rfl rfl rfl rfl rfl rfl) rfl ?_; refine zh ?_; refine zj ?_; refine zg ?_
        refine V_box 4 rfl fun b4 hb4 => ?_
        by_cases h1 : f1.1.1 = ⟨#[]⟩
        · have h1' : ¬ f1.1.1 ≠ ⟨#[]⟩ := fun h => h h1
          have ht := bad_nil h1
          refine z8 (id := 6) ?_; refine z7 (y8 L _ rfl rfl rfl rfl ar107 rfl rfl (by first | omega | decide)) rfl ?_; refine z7 (zo L (qk rfl (List.Mem.head _)) rfl rfl rfl rfl) rfl ?_; refine z7 (qc rfl rfl rfl rfl (decide_eq_false (by assumption))) rfl ?_; refine z7 (zf rfl rfl rfl) rfl ?_; refine z7 (zn rfl (zm rfl) rfl) rfl ?_; refine z7 (zn rfl (zm rfl) rfl) rfl ?_; refine z7 (zn rfl (zm rfl) rfl) rfl ?_; refine z7 (zn rfl (zm rfl) rfl) rfl ?_; refine z7 (zw rfl rfl rfl rfl) rfl ?_; refine zh ?_; refine zj ?_; refine q8 rfl ?_; refine q9 ?_; refine qr ?_; refine zj ?_
          refine V_drop (O' := []) (List.nil_sublist _) ?_
          refine z8 (id := 8) ?_; refine z7 (qy rfl rfl rfl rfl (wrap_i64 (by omega) (by omega))) rfl ?_; refine z7 (zf rfl rfl rfl) rfl ?_; refine zh ?_
          exact y7 (x := 0) 1 ⟨by omega, fun _ => ht, fun h => (by omega), fun h => (by omega)⟩ (by decide) ⟨rfl, rfl, rfl, trivial⟩
        · have h1' : f1.1.1 ≠ ⟨#[]⟩ := h1
          by_cases h2 : chk f1.1.1 = 0
          · have ht := bad_ok h2
            refine z8 (id := 6) ?_; refine z7 (y8 L _ rfl rfl rfl rfl ar107 rfl rfl (by first | omega | decide)) rfl ?_; refine z7 (zo L (qk rfl (List.Mem.head _)) rfl rfl rfl rfl) rfl ?_; refine z7 (qc rfl rfl rfl rfl (decide_eq_true (by assumption))) rfl ?_; refine z7 (zf rfl rfl rfl) rfl ?_; refine z7 (y8 L _ rfl rfl rfl rfl ar107 rfl rfl (by first | omega | decide)) rfl ?_; refine z7 (zo L (qk rfl (List.Mem.head _)) rfl rfl rfl rfl) rfl ?_; refine z7 (q6 L rfl rfl (zm rfl) rfl rfl rfl (fun u H hH _ _ => check_ret _ (by omega) hH)) rfl ?_; refine z7 (yb rfl rfl rfl rfl (decide_eq_false (by omega))) rfl ?_; refine z7 (zw rfl rfl rfl rfl) rfl ?_; refine zh ?_; refine zj ?_; refine q8 rfl ?_; refine q9 ?_; refine qr ?_; refine zj ?_
            refine V_drop (O' := []) (List.nil_sublist _) ?_
            refine z8 (id := 8) ?_; refine z7 (qy rfl rfl rfl rfl (wrap_i64 (by omega) (by omega))) rfl ?_; refine z7 (zf rfl rfl rfl) rfl ?_; refine zh ?_
            exact y7 (x := 0) 1 ⟨by omega, fun _ => ht, fun h => (by omega), fun h => (by omega)⟩ (by decide) ⟨rfl, rfl, rfl, trivial⟩
          · have ht : (badF f1.1.1 || badF f1.1.2 || badF f1.2) = true := by rw [bad_yes h1 h2]; simp
            rw [if_pos ht]
            refine z8 (id := 6) ?_; refine z7 (y8 L _ rfl rfl rfl rfl ar107 rfl rfl (by first | omega | decide)) rfl ?_; refine z7 (zo L (qk rfl (List.Mem.head _)) rfl rfl rfl rfl) rfl ?_; refine z7 (qc rfl rfl rfl rfl (decide_eq_true (by assumption))) rfl ?_; refine z7 (zf rfl rfl rfl) rfl ?_; refine z7 (y8 L _ rfl rfl rfl rfl ar107 rfl rfl (by first | omega | decide)) rfl ?_; refine z7 (zo L (qk rfl (List.Mem.head _)) rfl rfl rfl rfl) rfl ?_; refine z7 (q6 L rfl rfl (zm rfl) rfl rfl rfl (fun u H hH _ _ => check_ret _ (by omega) hH)) rfl ?_; refine z7 (yb rfl rfl rfl rfl (decide_eq_true (by omega))) rfl ?_; refine z7 (zw rfl rfl rfl rfl) rfl ?_; refine zh ?_; refine zj ?_; refine qa rfl ?_; refine zg ?_; refine z8 (id := 7) ?_; refine z7 (zi rfl rfl rfl) rfl ?_; refine zh ?_; refine zj ?_
            refine qi L (rs := [.tmp 2]) rfl (fun _ _ h => h) Since.refl fun u H hH hle => ?_
            rfl
      · refine zg ?_; refine z8 (id := 4) ?_; refine z7 (qe rfl rfl rfl rfl (decide_eq_true (by omega))) rfl ?_; refine zh ?_; refine zj ?_; refine zg ?_; refine qa rfl ?_; refine q9 ?_; refine zj ?_; refine zg ?_; refine qd ?_; refine zg ?_; refine z8 (id := 5) ?_; refine z7 (ok_indexAg (ys := [_, _]) L _ rfl rfl rfl rfl ar108 rfl rfl (by first | omega | decide) rfl) rfl ?_; refine z7 (qm L rfl rfl rfl rfl) rfl ?_; refine z7 (qg L rfl rfl rfl rfl rfl rfl rfl rfl) rfl ?_; refine zh ?_; refine zj ?_; refine zg ?_
        refine V_box 4 rfl fun b4 hb4 => ?_
        by_cases h1 : f1.1.2 = ⟨#[]⟩
        · have h1' : ¬ f1.1.2 ≠ ⟨#[]⟩ := fun h => h h1
          have ht := bad_nil h1
          refine z8 (id := 6) ?_; refine z7 (y8 L _ rfl rfl rfl rfl ar107 rfl rfl (by first | omega | decide)) rfl ?_; refine z7 (zo L (qk rfl (List.Mem.head _)) rfl rfl rfl rfl) rfl ?_; refine z7 (qc rfl rfl rfl rfl (decide_eq_false (by assumption))) rfl ?_; refine z7 (zf rfl rfl rfl) rfl ?_; refine z7 (zn rfl (zm rfl) rfl) rfl ?_; refine z7 (zn rfl (zm rfl) rfl) rfl ?_; refine z7 (zn rfl (zm rfl) rfl) rfl ?_; refine z7 (zn rfl (zm rfl) rfl) rfl ?_; refine z7 (zw rfl rfl rfl rfl) rfl ?_; refine zh ?_; refine zj ?_; refine q8 rfl ?_; refine q9 ?_; refine qr ?_; refine zj ?_
          refine V_drop (O' := []) (List.nil_sublist _) ?_
          refine z8 (id := 8) ?_; refine z7 (qy rfl rfl rfl rfl (wrap_i64 (by omega) (by omega))) rfl ?_; refine z7 (zf rfl rfl rfl) rfl ?_; refine zh ?_
          exact y7 (x := 1) 2 ⟨by omega, fun _ => i0 (by omega), fun _ => ht, fun h => (by omega)⟩ (by decide) ⟨rfl, rfl, rfl, trivial⟩
        · have h1' : f1.1.2 ≠ ⟨#[]⟩ := h1
          by_cases h2 : chk f1.1.2 = 0
          · have ht := bad_ok h2
            refine z8 (id := 6) ?_; refine z7 (y8 L _ rfl rfl rfl rfl ar107 rfl rfl (by first | omega | decide)) rfl ?_; refine z7 (zo L (qk rfl (List.Mem.head _)) rfl rfl rfl rfl) rfl ?_; refine z7 (qc rfl rfl rfl rfl (decide_eq_true (by assumption))) rfl ?_; refine z7 (zf rfl rfl rfl) rfl ?_; refine z7 (y8 L _ rfl rfl rfl rfl ar107 rfl rfl (by first | omega | decide)) rfl ?_; refine z7 (zo L (qk rfl (List.Mem.head _)) rfl rfl rfl rfl) rfl ?_; refine z7 (q6 L rfl rfl (zm rfl) rfl rfl rfl (fun u H hH _ _ => check_ret _ (by omega) hH)) rfl ?_; refine z7 (yb rfl rfl rfl rfl (decide_eq_false (by omega))) rfl ?_; refine z7 (zw rfl rfl rfl rfl) rfl ?_; refine zh ?_; refine zj ?_; refine q8 rfl ?_; refine q9 ?_; refine qr ?_; refine zj ?_
            refine V_drop (O' := []) (List.nil_sublist _) ?_
            refine z8 (id := 8) ?_; refine z7 (qy rfl rfl rfl rfl (wrap_i64 (by omega) (by omega))) rfl ?_; refine z7 (zf rfl rfl rfl) rfl ?_; refine zh ?_
            exact y7 (x := 1) 2 ⟨by omega, fun _ => i0 (by omega), fun _ => ht, fun h => (by omega)⟩ (by decide) ⟨rfl, rfl, rfl, trivial⟩
          · have ht : (badF f1.1.1 || badF f1.1.2 || badF f1.2) = true := by rw [bad_yes h1 h2]; simp
            rw [if_pos ht]
            refine z8 (id := 6) ?_; refine z7 (y8 L _ rfl rfl rfl rfl ar107 rfl rfl (by first | omega | decide)) rfl ?_; refine z7 (zo L (qk rfl (List.Mem.head _)) rfl rfl rfl rfl) rfl ?_; refine z7 (qc rfl rfl rfl rfl (decide_eq_true (by assumption))) rfl ?_; refine z7 (zf rfl rfl rfl) rfl ?_; refine z7 (y8 L _ rfl rfl rfl rfl ar107 rfl rfl (by first | omega | decide)) rfl ?_; refine z7 (zo L (qk rfl (List.Mem.head _)) rfl rfl rfl rfl) rfl ?_; refine z7 (q6 L rfl rfl (zm rfl) rfl rfl rfl (fun u H hH _ _ => check_ret _ (by omega) hH)) rfl ?_; refine z7 (yb rfl rfl rfl rfl (decide_eq_true (by omega))) rfl ?_; refine z7 (zw rfl rfl rfl rfl) rfl ?_; refine zh ?_; refine zj ?_; refine qa rfl ?_; refine zg ?_; refine z8 (id := 7) ?_; refine z7 (zi rfl rfl rfl) rfl ?_; refine zh ?_; refine zj ?_
            refine qi L (rs := [.tmp 2]) rfl (fun _ _ h => h) Since.refl fun u H hH hle => ?_
            rfl
      · refine zg ?_; refine z8 (id := 4) ?_; refine z7 (qe rfl rfl rfl rfl (decide_eq_true (by omega))) rfl ?_; refine zh ?_; refine zj ?_; refine zg ?_; refine qa rfl ?_; refine q9 ?_; refine zj ?_; refine zg ?_; refine qd ?_; refine zg ?_; refine z8 (id := 5) ?_; refine z7 (ok_indexAg (ys := [_, _]) L _ rfl rfl rfl rfl ar108 rfl rfl (by first | omega | decide) rfl) rfl ?_; refine z7 (qm L rfl rfl rfl rfl) rfl ?_; refine z7 (qg L rfl rfl rfl rfl rfl rfl rfl rfl) rfl ?_; refine zh ?_; refine zj ?_; refine zg ?_
        refine V_box 4 rfl fun b4 hb4 => ?_
        by_cases h1 : f1.2 = ⟨#[]⟩
        · have h1' : ¬ f1.2 ≠ ⟨#[]⟩ := fun h => h h1
          have ht := bad_nil h1
          refine z8 (id := 6) ?_; refine z7 (y8 L _ rfl rfl rfl rfl ar107 rfl rfl (by first | omega | decide)) rfl ?_; refine z7 (zo L (qk rfl (List.Mem.head _)) rfl rfl rfl rfl) rfl ?_; refine z7 (qc rfl rfl rfl rfl (decide_eq_false (by assumption))) rfl ?_; refine z7 (zf rfl rfl rfl) rfl ?_; refine z7 (zn rfl (zm rfl) rfl) rfl ?_; refine z7 (zn rfl (zm rfl) rfl) rfl ?_; refine z7 (zn rfl (zm rfl) rfl) rfl ?_; refine z7 (zn rfl (zm rfl) rfl) rfl ?_; refine z7 (zw rfl rfl rfl rfl) rfl ?_; refine zh ?_; refine zj ?_; refine q8 rfl ?_; refine q9 ?_; refine qr ?_; refine zj ?_
          refine V_drop (O' := []) (List.nil_sublist _) ?_
          refine z8 (id := 8) ?_; refine z7 (qy rfl rfl rfl rfl (wrap_i64 (by omega) (by omega))) rfl ?_; refine z7 (zf rfl rfl rfl) rfl ?_; refine zh ?_
          exact y7 (x := 2) 3 ⟨by omega, fun _ => i0 (by omega), fun _ => i1 (by omega), fun _ => ht⟩ (by decide) ⟨rfl, rfl, rfl, trivial⟩
        · have h1' : f1.2 ≠ ⟨#[]⟩ := h1
          by_cases h2 : chk f1.2 = 0
          · have ht := bad_ok h2
            refine z8 (id := 6) ?_; refine z7 (y8 L _ rfl rfl rfl rfl ar107 rfl rfl (by first | omega | decide)) rfl ?_; refine z7 (zo L (qk rfl (List.Mem.head _)) rfl rfl rfl rfl) rfl ?_; refine z7 (qc rfl rfl rfl rfl (decide_eq_true (by assumption))) rfl ?_; refine z7 (zf rfl rfl rfl) rfl ?_; refine z7 (y8 L _ rfl rfl rfl rfl ar107 rfl rfl (by first | omega | decide)) rfl ?_; refine z7 (zo L (qk rfl (List.Mem.head _)) rfl rfl rfl rfl) rfl ?_; refine z7 (q6 L rfl rfl (zm rfl) rfl rfl rfl (fun u H hH _ _ => check_ret _ (by omega) hH)) rfl ?_; refine z7 (yb rfl rfl rfl rfl (decide_eq_false (by omega))) rfl ?_; refine z7 (zw rfl rfl rfl rfl) rfl ?_; refine zh ?_; refine zj ?_; refine q8 rfl ?_; refine q9 ?_; refine qr ?_; refine zj ?_
            refine V_drop (O' := []) (List.nil_sublist _) ?_
            refine z8 (id := 8) ?_; refine z7 (qy rfl rfl rfl rfl (wrap_i64 (by omega) (by omega))) rfl ?_; refine z7 (zf rfl rfl rfl) rfl ?_; refine zh ?_
            exact y7 (x := 2) 3 ⟨by omega, fun _ => i0 (by omega), fun _ => i1 (by omega), fun _ => ht⟩ (by decide) ⟨rfl, rfl, rfl, trivial⟩
          · have ht : (badF f1.1.1 || badF f1.1.2 || badF f1.2) = true := by rw [bad_yes h1 h2]; simp
            rw [if_pos ht]
            refine z8 (id := 6) ?_; refine z7 (y8 L _ rfl rfl rfl rfl ar107 rfl rfl (by first | omega | decide)) rfl ?_; refine z7 (zo L (qk rfl (List.Mem.head _)) rfl rfl rfl rfl) rfl ?_; refine z7 (qc rfl rfl rfl rfl (decide_eq_true (by assumption))) rfl ?_; refine z7 (zf rfl rfl rfl) rfl ?_; refine z7 (y8 L _ rfl rfl rfl rfl ar107 rfl rfl (by first | omega | decide)) rfl ?_; refine z7 (zo L (qk rfl (List.Mem.head _)) rfl rfl rfl rfl) rfl ?_; refine z7 (q6 L rfl rfl (zm rfl) rfl rfl rfl (fun u H hH _ _ => check_ret _ (by omega) hH)) rfl ?_; refine z7 (yb rfl rfl rfl rfl (decide_eq_true (by omega))) rfl ?_; refine z7 (zw rfl rfl rfl rfl) rfl ?_; refine zh ?_; refine zj ?_; refine qa rfl ?_; refine zg ?_; refine z8 (id := 7) ?_; refine z7 (zi rfl rfl rfl) rfl ?_; refine zh ?_; refine zj ?_
            refine qi L (rs := [.tmp 2]) rfl (fun _ _ h => h) Since.refl fun u H hH hle => ?_
            rfl
      · have ht : ¬ (badF f1.1.1 || badF f1.1.2 || badF f1.2) = true := by rw [i0 (by omega), i1 (by omega), i2 (by omega)]; decide
        rw [if_neg ht, if_pos rfl]
        refine zg ?_; refine z8 (id := 4) ?_; refine z7 (qe rfl rfl rfl rfl (decide_eq_false (by omega))) rfl ?_; refine zh ?_; refine zj ?_; refine zg ?_; refine q8 rfl ?_; refine yi ?_; refine qu ?_; refine qu ?_; refine yh ?_; refine zj ?_; refine zg ?_; refine zg ?_; refine z8 (id := 9) ?_; refine z7 (zk L rfl rfl rfl rfl) rfl ?_; refine z7 (zo L (zq rfl) rfl rfl rfl rfl) rfl ?_; refine zh ?_; refine zj ?_; refine qa rfl ?_; refine zg ?_; refine z8 (id := 10) ?_; refine z7 (zk L rfl rfl rfl rfl) rfl ?_; refine z7 (zz L (vs := [_, _, _]) (zq rfl) rfl rfl rfl rfl ⟨_, rfl⟩) rfl ?_; refine z7 (q6 L rfl rfl (zm rfl) rfl rfl rfl (fun u H hH _ _ => subject_ret (by omega) (by omega) (by omega) hH)) rfl ?_; refine z7 (zi rfl rfl rfl) rfl ?_; refine zh ?_; refine zj ?_
        refine qi L (rs := [.tmp 2]) rfl (fun _ _ h => h) Since.refl fun u H hH hle => ?_
        rfl
      · omega
set_option maxHeartbeats 2000000 in
theorem prefix_ret {f : FT} {r : Nat} (hr : prefN f = r) {w : World} {B : Heap} (hB : B.Le (hp w)) : Ret Tryz.prog 39 [fv f] w B (fun v _ => v = .int .i64 r) := by
  subst hr
  refine qx Tryz.func39 rfl Tryz.ntmps39 (Nat.le_of_ble_eq_true rfl) hB ?_
  refine zg ?_; refine z8 (id := 0) ?_; refine z7 (qf rfl rfl rfl rfl) rfl ?_; refine z7 (zi rfl rfl rfl) rfl ?_; refine zh ?_; refine zj ?_; refine zg ?_; refine z8 (id := 1) ?_; refine z7 (zi rfl rfl rfl) rfl ?_; refine zh ?_; refine zj ?_; refine zg ?_; refine zg ?_; refine z8 (id := 2) ?_; refine z7 (zz L (vs := [_, _, _, _, _, _, _]) (zq rfl) rfl rfl rfl rfl ⟨_, rfl⟩) rfl ?_; refine z7 (qv (cs := [_, _, _, _, _, _]) rfl rfl pl50 rfl rfl) rfl ?_; refine z7 (q6 L rfl rfl (zm rfl) rfl rfl rfl (fun u H hH _ _ => fields_ret hH)) rfl ?_; refine z7 (zf rfl rfl rfl) rfl ?_; refine zh ?_; refine zj ?_; refine qd ?_
  refine V_loop (fun k : Nat => [(1, .sat (At (fcs f) tyF 0)), (3, .is (.int .i64 k)), (8, .is (.agg #[.string f.1.1.1, .string ⟨#[]⟩, .string f.1.1.2, .string ⟨#[]⟩, .string f.1.2, .string ⟨#[]⟩])), (9, .is (.int .i64 k))])
    (fun k => k ≤ 3 ∧ (0 < k → ¬ f.1.1.1 = ⟨#[]⟩) ∧ (1 < k → ¬ f.1.1.2 = ⟨#[]⟩) ∧ (2 < k → ¬ f.1.2 = ⟨#[]⟩)) (fun k => 3 - k) 0 ⟨Nat.zero_le _, fun h => (by omega), fun h => (by omega), fun h => (by omega)⟩ ⟨rfl, rfl, rfl, rfl, trivial⟩ ?_
  rintro k ⟨hk, i0, i1, i2⟩
  rcases k with _ | _ | _ | _ | k
  · refine zg ?_; refine z8 (id := 3) ?_; refine z7 (qe rfl rfl rfl rfl (decide_eq_true (by omega))) rfl ?_; refine zh ?_; refine zj ?_; refine zg ?_; refine qa rfl ?_; refine q9 ?_; refine zj ?_; refine zg ?_; refine qd ?_; refine zg ?_; refine z8 (id := 4) ?_; refine z7 (ok_indexAg (ys := [_, _]) L _ rfl rfl rfl rfl ar108 rfl rfl (by first | omega | decide) rfl) rfl ?_; refine z7 (qm L rfl rfl rfl rfl) rfl ?_; refine z7 (qg L rfl rfl rfl rfl rfl rfl rfl rfl) rfl ?_; refine zh ?_; refine zj ?_; refine zg ?_; refine zg ?_
    refine V_box 5 rfl fun b5 hb5 => ?_
    by_cases h1 : f.1.1.1 = ⟨#[]⟩
    · have hp : prefN f = 0 := by unfold prefN;  rw [if_pos h1]
      rw [hp]
      refine z8 (id := 5) ?_; refine z7 (y8 L _ rfl rfl rfl rfl ar107 rfl rfl (by first | omega | decide)) rfl ?_; refine z7 (zo L (qk rfl (List.Mem.head _)) rfl rfl rfl rfl) rfl ?_; refine z7 (ok_seql rfl rfl rfl rfl (decide_eq_true (by assumption))) rfl ?_; refine zh ?_; refine zj ?_; refine qa rfl ?_; refine zg ?_; refine z8 (id := 6) ?_; refine z7 (zf rfl rfl rfl) rfl ?_; refine z7 (zi rfl rfl rfl) rfl ?_; refine zh ?_; refine zj ?_
      refine qi L (rs := [.tmp 2]) rfl (fun _ _ h => h) Since.refl fun u H hH hle => ?_
      rfl
    · refine z8 (id := 5) ?_; refine z7 (y8 L _ rfl rfl rfl rfl ar107 rfl rfl (by first | omega | decide)) rfl ?_; refine z7 (zo L (qk rfl (List.Mem.head _)) rfl rfl rfl rfl) rfl ?_; refine z7 (ok_seql rfl rfl rfl rfl (decide_eq_false (by assumption))) rfl ?_; refine zh ?_; refine zj ?_; refine q8 rfl ?_; refine q9 ?_; refine zj ?_; refine z8 (id := 7) ?_; refine z7 (zf rfl rfl rfl) rfl ?_; refine z7 (qy rfl rfl rfl rfl (wrap_i64 (by omega) (by omega))) rfl ?_; refine z7 (zi rfl rfl rfl) rfl ?_; refine zh ?_; refine qr ?_; refine zj ?_
      refine V_drop (O' := []) (List.nil_sublist _) ?_
      refine z8 (id := 8) ?_; refine z7 (qy rfl rfl rfl rfl (wrap_i64 (by omega) (by omega))) rfl ?_; refine z7 (zf rfl rfl rfl) rfl ?_; refine zh ?_
      exact y7 (x := 0) 1 ⟨by omega, fun _ => h1, fun h => (by omega), fun h => (by omega)⟩ (by decide) ⟨rfl, rfl, rfl, rfl, trivial⟩
  · refine zg ?_; refine z8 (id := 3) ?_; refine z7 (qe rfl rfl rfl rfl (decide_eq_true (by omega))) rfl ?_; refine zh ?_; refine zj ?_; refine zg ?_; refine qa rfl ?_; refine q9 ?_; refine zj ?_; refine zg ?_; refine qd ?_; refine zg ?_; refine z8 (id := 4) ?_; refine z7 (ok_indexAg (ys := [_, _]) L _ rfl rfl rfl rfl ar108 rfl rfl (by first | omega | decide) rfl) rfl ?_; refine z7 (qm L rfl rfl rfl rfl) rfl ?_; refine z7 (qg L rfl rfl rfl rfl rfl rfl rfl rfl) rfl ?_; refine zh ?_; refine zj ?_; refine zg ?_; refine zg ?_
    refine V_box 5 rfl fun b5 hb5 => ?_
    by_cases h1 : f.1.1.2 = ⟨#[]⟩
    · have hp : prefN f = 1 := by unfold prefN; rw [if_neg (i0 (by omega))]; rw [if_pos h1]
      rw [hp]
      refine z8 (id := 5) ?_; refine z7 (y8 L _ rfl rfl rfl rfl ar107 rfl rfl (by first | omega | decide)) rfl ?_; refine z7 (zo L (qk rfl (List.Mem.head _)) rfl rfl rfl rfl) rfl ?_; refine z7 (ok_seql rfl rfl rfl rfl (decide_eq_true (by assumption))) rfl ?_; refine zh ?_; refine zj ?_; refine qa rfl ?_; refine zg ?_; refine z8 (id := 6) ?_; refine z7 (zf rfl rfl rfl) rfl ?_; refine z7 (zi rfl rfl rfl) rfl ?_; refine zh ?_; refine zj ?_
      refine qi L (rs := [.tmp 2]) rfl (fun _ _ h => h) Since.refl fun u H hH hle => ?_
      rfl
    · refine z8 (id := 5) ?_; refine z7 (y8 L _ rfl rfl rfl rfl ar107 rfl rfl (by first | omega | decide)) rfl ?_; refine z7 (zo L (qk rfl (List.Mem.head _)) rfl rfl rfl rfl) rfl ?_; refine z7 (ok_seql rfl rfl rfl rfl (decide_eq_false (by assumption))) rfl ?_; refine zh ?_; refine zj ?_; refine q8 rfl ?_; refine q9 ?_; refine zj ?_; refine z8 (id := 7) ?_; refine z7 (zf rfl rfl rfl) rfl ?_; refine z7 (qy rfl rfl rfl rfl (wrap_i64 (by omega) (by omega))) rfl ?_; refine z7 (zi rfl rfl rfl) rfl ?_; refine zh ?_; refine qr ?_; refine zj ?_
      refine V_drop (O' := []) (List.nil_sublist _) ?_
      refine z8 (id := 8) ?_; refine z7 (qy rfl rfl rfl rfl (wrap_i64 (by omega) (by omega))) rfl ?_; refine z7 (zf rfl rfl rfl) rfl ?_; refine zh ?_
      exact y7 (x := 1) 2 ⟨by omega, fun _ => i0 (by omega), fun _ => h1, fun h => (by omega)⟩ (by decide) ⟨rfl, rfl, rfl, rfl, trivial⟩
  · refine zg ?_; refine z8 (id := 3) ?_; refine z7 (qe rfl rfl rfl rfl (decide_eq_true (by omega))) rfl ?_; refine zh ?_; refine zj ?_; refine zg ?_; refine qa rfl ?_; refine q9 ?_; refine zj ?_; refine zg ?_; refine qd ?_; refine zg ?_; refine z8 (id := 4) ?_; refine z7 (ok_indexAg (ys := [_, _]) L _ rfl rfl rfl rfl ar108 rfl rfl (by first | omega | decide) rfl) rfl ?_; refine z7 (qm L rfl rfl rfl rfl) rfl ?_; refine z7 (qg L rfl rfl rfl rfl rfl rfl rfl rfl) rfl ?_; refine zh ?_; refine zj ?_; refine zg ?_; refine zg ?_
    refine V_box 5 rfl fun b5 hb5 => ?_
    by_cases h1 : f.1.2 = ⟨#[]⟩
    · have hp : prefN f = 2 := by unfold prefN; rw [if_neg (i0 (by omega))]; rw [if_neg (i1 (by omega))]; rw [if_pos h1]
      rw [hp]
      refine z8 (id := 5) ?_; refine z7 (y8 L _ rfl rfl rfl rfl ar107 rfl rfl (by first | omega | decide)) rfl ?_; refine z7 (zo L (qk rfl (List.Mem.head _)) rfl rfl rfl rfl) rfl ?_; refine z7 (ok_seql rfl rfl rfl rfl (decide_eq_true (by assumption))) rfl ?_; refine zh ?_; refine zj ?_; refine qa rfl ?_; refine zg ?_; refine z8 (id := 6) ?_; refine z7 (zf rfl rfl rfl) rfl ?_; refine z7 (zi rfl rfl rfl) rfl ?_; refine zh ?_; refine zj ?_
      refine qi L (rs := [.tmp 2]) rfl (fun _ _ h => h) Since.refl fun u H hH hle => ?_
      rfl
    · refine z8 (id := 5) ?_; refine z7 (y8 L _ rfl rfl rfl rfl ar107 rfl rfl (by first | omega | decide)) rfl ?_; refine z7 (zo L (qk rfl (List.Mem.head _)) rfl rfl rfl rfl) rfl ?_; refine z7 (ok_seql rfl rfl rfl rfl (decide_eq_false (by assumption))) rfl ?_; refine zh ?_; refine zj ?_; refine q8 rfl ?_; refine q9 ?_; refine zj ?_; refine z8 (id := 7) ?_; refine z7 (zf rfl rfl rfl) rfl ?_; refine z7 (qy rfl rfl rfl rfl (wrap_i64 (by omega) (by omega))) rfl ?_; refine z7 (zi rfl rfl rfl) rfl ?_; refine zh ?_; refine qr ?_; refine zj ?_
      refine V_drop (O' := []) (List.nil_sublist _) ?_
      refine z8 (id := 8) ?_; refine z7 (qy rfl rfl rfl rfl (wrap_i64 (by omega) (by omega))) rfl ?_; refine z7 (zf rfl rfl rfl) rfl ?_; refine zh ?_
      exact y7 (x := 2) 3 ⟨by omega, fun _ => i0 (by omega), fun _ => i1 (by omega), fun _ => h1⟩ (by decide) ⟨rfl, rfl, rfl, rfl, trivial⟩
  · cases hxx : f.2.2
    · have hp : prefN f = 3 := by unfold prefN; rw [if_neg (i0 (by omega)), if_neg (i1 (by omega)), if_neg (i2 (by omega)), hxx]; rfl
      rw [hp]
      refine zg ?_; refine z8 (id := 3) ?_; refine z7 (qe rfl rfl rfl rfl (decide_eq_false (by omega))) rfl ?_; refine zh ?_; refine zj ?_; refine zg ?_; refine q8 rfl ?_; refine yi ?_; refine qu ?_; refine qu ?_; refine yh ?_; refine zj ?_; refine zg ?_; refine zg ?_; refine z8 (id := 9) ?_; refine z7 (zk L rfl rfl rfl rfl) rfl ?_; refine z7 (zo L (zq rfl) rfl rfl rfl rfl) rfl ?_; rw [hxx]; refine zh ?_; refine zj ?_; refine q8 rfl ?_; refine q9 ?_; refine zj ?_; refine zg ?_; refine z8 (id := 11) ?_; refine z7 (zf rfl rfl rfl) rfl ?_; refine z7 (zi rfl rfl rfl) rfl ?_; refine zh ?_; refine zj ?_
      refine qi L (rs := [.tmp 2]) rfl (fun _ _ h => h) Since.refl fun u H hH hle => ?_
      rfl
    · have hp : prefN f = 4 := by unfold prefN; rw [if_neg (i0 (by omega)), if_neg (i1 (by omega)), if_neg (i2 (by omega)), hxx]; rfl
      rw [hp]
      refine zg ?_; refine z8 (id := 3) ?_; refine z7 (qe rfl rfl rfl rfl (decide_eq_false (by omega))) rfl ?_; refine zh ?_; refine zj ?_; refine zg ?_; refine q8 rfl ?_; refine yi ?_; refine qu ?_; refine qu ?_; refine yh ?_; refine zj ?_; refine zg ?_; refine zg ?_; refine z8 (id := 9) ?_; refine z7 (zk L rfl rfl rfl rfl) rfl ?_; refine z7 (zo L (zq rfl) rfl rfl rfl rfl) rfl ?_; rw [hxx]; refine zh ?_; refine zj ?_; refine qa rfl ?_; refine z8 (id := 10) ?_; refine z7 (zf rfl rfl rfl) rfl ?_; refine z7 (qy rfl rfl rfl rfl (wrap_i64 (by omega) (by omega))) rfl ?_; refine z7 (zi rfl rfl rfl) rfl ?_; refine zh ?_; refine zj ?_; refine zg ?_; refine z8 (id := 11) ?_; refine z7 (zf rfl rfl rfl) rfl ?_; refine z7 (zi rfl rfl rfl) rfl ?_; refine zh ?_; refine zj ?_
      refine qi L (rs := [.tmp 2]) rfl (fun _ _ h => h) Since.refl fun u H hH hle => ?_
      rfl
  · omega
end Go.V.L3
namespace Go.V.L3
open Go.Proofs Go.RowKit Go.V Go.V.L2
attribute [local irreducible] V N X VO Par StepOK Has Ret RetL RetO RetT Src
end Go.V.L3
namespace Go.V.L3
open Go.Proofs Go.RowKit Go.V Go.V.L2
attribute [local irreducible] V N X VO Par StepOK Has Ret RetL RetO RetT Src
end Go.V.L3
namespace Go.V.L3
open Go.Proofs Go.RowKit Go.V Go.V.L2
theorem LE2.mk {φ : Value → Heap → Prop} {a tv : Value} {H : Heap} (h : φ tv H) : TupS [φ, fun v _ => v = a] (.tuple #[tv, a]) H :=
  ⟨[tv, a], rfl, rfl, fun i ψ x hi hx => by
    rcases i with _ | _ | i
    · simp at hi hx; subst hi hx; exact h
    · simp at hi hx; subst hi hx; rfl
    · simp at hi⟩
theorem LE2.mono {φ : Value → Heap → Prop} {a : Value} (h : Kn.mono (.sat φ)) : Kn.mono (.sat (TupS [φ, fun v _ => v = a])) := TupS.mono fun ψ hψ => by
  rcases List.mem_cons.1 hψ with rfl | hψ
  · exact h
  · rw [List.mem_singleton] at hψ
    subst hψ
    exact fun _ _ _ h _ => h
attribute [local irreducible] V N X VO Par StepOK Has Ret RetL RetO RetT Src
end Go.V.L3
namespace Go.V.L6
open Go.Proofs Go.RowKit Go.V Go.V.L2 Go.V.L3
def SetV (l : List U) : Value → Heap → Prop := fun v H => ∃ p q t u, TS l t u ∧ UT.TA t (.pointer p) H ∧ UT.TA u (.pointer q) H ∧
  (v = .agg #[fvC, .pointer p, fvS, .pointer q] ∨ (l = [] ∧ p = none ∧ q = none ∧ v = .agg #[.nilFunc, .pointer p, .nilFunc, .pointer q]))
theorem SetV.mono {l : List U} : Kn.mono (.sat (SetV l)) := fun _ _ _ ⟨p, q, t, u, h1, h2, h3, h4⟩ hle => ⟨p, q, t, u, h1, h2.le hle, h3.le hle, h4⟩
theorem SetV.le {l : List U} {v : Value} {H H' : Heap} (h : SetV l v H) (hle : H.Le H') : SetV l v H' := SetV.mono _ _ _ h hle
theorem SetV.shape {l : List U} {v : Value} {H : Heap} (h : SetV l v H) : ∃ f p k q, v = .agg #[f, .pointer p, k, .pointer q] ∧ (cellsL (.agg #[f, .pointer p, k, .pointer q])).all plainV = true := by
  obtain ⟨p, q, _, _, _, _, _, h | ⟨_, _, _, h⟩⟩ := h
  · exact ⟨_, _, _, _, h, rfl⟩
  · exact ⟨_, _, _, _, h, rfl⟩
abbrev nilSet : Value := .agg #[.nilFunc, .pointer none, .nilFunc, .pointer none]
theorem SetV.nil {H : Heap} : SetV [] nilSet H := ⟨none, none, .nil, .nil, ts_nil, rfl, rfl, .inr ⟨rfl, rfl, rfl, rfl⟩⟩
theorem SetV.sst {l : List U} {v : Value} {H : Heap} (h : SetV l v H) : Sst cmpT l := let ⟨_, _, _, _, h, _⟩ := h; h.st
attribute [local irreducible] V N X VO Par StepOK Has Ret RetL RetO Src
theorem slen_ret {l : List U} {n : Nat} (hn : l.length = n) {v : Value} {w : World} {B : Heap} (hB : B.Le (hp w)) (hv : SetV l v B) : Ret Tryz.prog 47 [v] w B (fun v _ => v = .int .i64 n) := by
  subst hn
  obtain ⟨p, q, t, u, hT, ht, hu, rfl | ⟨rfl, rfl, rfl, rfl⟩⟩ := hv
  · refine qx Tryz.func47 rfl Tryz.ntmps47 (Nat.le_of_ble_eq_true rfl) hB ?_
    refine zg ?_; refine z8 (id := 0) ?_; refine z7 (qf rfl rfl rfl rfl) rfl ?_; refine z7 (zi rfl rfl rfl) rfl ?_; refine zh ?_; refine zj ?_; refine zg ?_; refine z8 (id := 1) ?_; refine z7 (zk L rfl rfl rfl rfl) rfl ?_; refine z7 (zk L rfl rfl rfl rfl) rfl ?_; refine z7 (zz L (vs := [_, _]) (zq rfl) rfl rfl rfl rfl ⟨_, rfl⟩) rfl ?_; refine z7 (q6 L rfl rfl (zm rfl) rfl rfl rfl (fun u H hH hle _ => UT.len_m hH (⟨_, rfl, ht.le hle⟩) hT.size)) rfl ?_; refine z7 (zi rfl rfl rfl) rfl ?_; refine zh ?_; refine zj ?_
    refine qi L (rs := [.tmp 2]) rfl (fun _ _ h => h) Since.refl fun u H hH hle => ?_
    rfl
  · refine qx Tryz.func47 rfl Tryz.ntmps47 (Nat.le_of_ble_eq_true rfl) hB ?_
    refine zg ?_; refine z8 (id := 0) ?_; refine z7 (qf rfl rfl rfl rfl) rfl ?_; refine z7 (zi rfl rfl rfl) rfl ?_; refine zh ?_; refine zj ?_; refine zg ?_; refine z8 (id := 1) ?_; refine z7 (zk L rfl rfl rfl rfl) rfl ?_; refine z7 (zk L rfl rfl rfl rfl) rfl ?_; refine z7 (zz L (vs := [_, _]) (zq rfl) rfl rfl rfl rfl ⟨_, rfl⟩) rfl ?_; refine z7 (q6 L rfl rfl (zm rfl) rfl rfl rfl (fun u H hH hle _ => UT.len_m hH (⟨_, rfl, ht.le hle⟩) hT.size)) rfl ?_; refine z7 (zi rfl rfl rfl) rfl ?_; refine zh ?_; refine zj ?_
    refine qi L (rs := [.tmp 2]) rfl (fun _ _ h => h) Since.refl fun u H hH hle => ?_
    rfl
theorem shas_ret {l : List U} {x : U} {b : Bool} (hb : decide (x ∈ l) = b) {v : Value} {w : World} {B : Heap} (hB : B.Le (hp w)) (hv : SetV l v B) : Ret Tryz.prog 20 [v, uv x] w B (fun v _ => v = .bool b) := by
  have hv0 := hv
  obtain ⟨p, q, t, u, hT, ht, hu, rfl | ⟨rfl, rfl, rfl, rfl⟩⟩ := hv
  · have hg := hT.get x
    refine qx Tryz.func20 rfl Tryz.ntmps20 (Nat.le_of_ble_eq_true rfl) hB ?_
    by_cases h0 : l.length = 0
    · have hn : l = [] := List.eq_nil_of_length_eq_zero h0
      subst hn
      have hb' : b = false := by rw [← hb]; simp
      subst hb'
      refine zg ?_; refine z8 (id := 0) ?_; refine z7 (qf rfl rfl rfl rfl) rfl ?_; refine z7 (qf rfl rfl rfl rfl) rfl ?_; refine z7 (zi rfl rfl rfl) rfl ?_; refine zh ?_; refine zj ?_; refine zg ?_; refine zg ?_; refine z8 (id := 1) ?_; refine z7 (zz L (vs := [_, _, _, _]) (zq rfl) rfl rfl rfl rfl ⟨_, rfl⟩) rfl ?_; refine z7 (q6 L rfl rfl (zm rfl) rfl rfl rfl (fun u H hH hle _ => slen_ret rfl hH (hv0.le hle))) rfl ?_; refine z7 (qp rfl rfl rfl rfl (decide_eq_true (by omega))) rfl ?_; refine zh ?_; refine zj ?_; refine qa rfl ?_; refine zg ?_; refine z8 (id := 2) ?_; refine z7 (zi rfl rfl rfl) rfl ?_; refine zh ?_; refine zj ?_
      refine qi L (rs := [.tmp 4]) rfl (fun _ _ h => h) Since.refl fun u H hH hle => ?_
      rfl
    · cases b
      · have hx : x ∉ l := by simpa using hb
        rw [if_neg hx] at hg
        refine zg ?_; refine z8 (id := 0) ?_; refine z7 (qf rfl rfl rfl rfl) rfl ?_; refine z7 (qf rfl rfl rfl rfl) rfl ?_; refine z7 (zi rfl rfl rfl) rfl ?_; refine zh ?_; refine zj ?_; refine zg ?_; refine zg ?_; refine z8 (id := 1) ?_; refine z7 (zz L (vs := [_, _, _, _]) (zq rfl) rfl rfl rfl rfl ⟨_, rfl⟩) rfl ?_; refine z7 (q6 L rfl rfl (zm rfl) rfl rfl rfl (fun u H hH hle _ => slen_ret rfl hH (hv0.le hle))) rfl ?_; refine z7 (qp rfl rfl rfl rfl (decide_eq_false (by omega))) rfl ?_; refine zh ?_; refine zj ?_; refine q8 rfl ?_; refine q9 ?_; refine zj ?_; refine zg ?_; refine z8 (id := 3) ?_; refine z7 (zk L rfl rfl rfl rfl) rfl ?_; refine z7 (zk L rfl rfl rfl rfl) rfl ?_; refine z7 (zz L (vs := [_, _]) (zq rfl) rfl rfl rfl rfl ⟨_, rfl⟩) rfl ?_; refine z7 (zz L (vs := [_, _, _, _, _, _]) (zq rfl) rfl rfl rfl rfl ⟨_, rfl⟩) rfl ?_; refine z7 (q6 L rfl rfl (zm rfl) rfl rfl rfl (fun u H hH hle _ => UT.get_m cmpUT x hH (⟨_, rfl, ht.le hle⟩) hg)) rfl ?_; refine z7 (zf rfl rfl rfl) rfl ?_; refine z7 (qb rfl rfl rfl rfl) rfl ?_; refine z7 (qb rfl rfl rfl rfl) rfl ?_; refine z7 (qm L rfl rfl rfl rfl) rfl ?_; refine z7 (qg L rfl rfl rfl rfl rfl rfl rfl rfl) rfl ?_; refine z7 (zi rfl rfl rfl) rfl ?_; refine zh ?_; refine zj ?_; refine zg ?_; refine z8 (id := 4) ?_; refine z7 (zf rfl rfl rfl) rfl ?_; refine z7 (zi rfl rfl rfl) rfl ?_; refine zh ?_; refine zj ?_
        refine qi L (rs := [.tmp 4]) rfl (fun _ _ h => h) Since.refl fun u H hH hle => ?_
        rfl
      · have hx : x ∈ l := by simpa using hb
        rw [if_pos hx] at hg
        refine zg ?_; refine z8 (id := 0) ?_; refine z7 (qf rfl rfl rfl rfl) rfl ?_; refine z7 (qf rfl rfl rfl rfl) rfl ?_; refine z7 (zi rfl rfl rfl) rfl ?_; refine zh ?_; refine zj ?_; refine zg ?_; refine zg ?_; refine z8 (id := 1) ?_; refine z7 (zz L (vs := [_, _, _, _]) (zq rfl) rfl rfl rfl rfl ⟨_, rfl⟩) rfl ?_; refine z7 (q6 L rfl rfl (zm rfl) rfl rfl rfl (fun u H hH hle _ => slen_ret rfl hH (hv0.le hle))) rfl ?_; refine z7 (qp rfl rfl rfl rfl (decide_eq_false (by omega))) rfl ?_; refine zh ?_; refine zj ?_; refine q8 rfl ?_; refine q9 ?_; refine zj ?_; refine zg ?_; refine z8 (id := 3) ?_; refine z7 (zk L rfl rfl rfl rfl) rfl ?_; refine z7 (zk L rfl rfl rfl rfl) rfl ?_; refine z7 (zz L (vs := [_, _]) (zq rfl) rfl rfl rfl rfl ⟨_, rfl⟩) rfl ?_; refine z7 (zz L (vs := [_, _, _, _, _, _]) (zq rfl) rfl rfl rfl rfl ⟨_, rfl⟩) rfl ?_; refine z7 (q6 L rfl rfl (zm rfl) rfl rfl rfl (fun u H hH hle _ => UT.get_m cmpUT x hH (⟨_, rfl, ht.le hle⟩) hg)) rfl ?_; refine z7 (zf rfl rfl rfl) rfl ?_; refine z7 (qb rfl rfl rfl rfl) rfl ?_; refine z7 (qb rfl rfl rfl rfl) rfl ?_; refine z7 (qm L rfl rfl rfl rfl) rfl ?_; refine z7 (qg L rfl rfl rfl rfl rfl rfl rfl rfl) rfl ?_; refine z7 (zi rfl rfl rfl) rfl ?_; refine zh ?_; refine zj ?_; refine zg ?_; refine z8 (id := 4) ?_; refine z7 (zf rfl rfl rfl) rfl ?_; refine z7 (zi rfl rfl rfl) rfl ?_; refine zh ?_; refine zj ?_
        refine qi L (rs := [.tmp 4]) rfl (fun _ _ h => h) Since.refl fun u H hH hle => ?_
        rfl
  · have hb' : b = false := by rw [← hb]; simp
    subst hb'
    refine qx Tryz.func20 rfl Tryz.ntmps20 (Nat.le_of_ble_eq_true rfl) hB ?_
    refine zg ?_; refine z8 (id := 0) ?_; refine z7 (qf rfl rfl rfl rfl) rfl ?_; refine z7 (qf rfl rfl rfl rfl) rfl ?_; refine z7 (zi rfl rfl rfl) rfl ?_; refine zh ?_; refine zj ?_; refine zg ?_; refine zg ?_; refine z8 (id := 1) ?_; refine z7 (zz L (vs := [_, _, _, _]) (zq rfl) rfl rfl rfl rfl ⟨_, rfl⟩) rfl ?_; refine z7 (q6 L rfl rfl (zm rfl) rfl rfl rfl (fun u H hH hle _ => slen_ret rfl hH (hv0.le hle))) rfl ?_; refine z7 (qp rfl rfl rfl rfl rfl) rfl ?_; refine zh ?_; refine zj ?_; refine qa rfl ?_; refine zg ?_; refine z8 (id := 2) ?_; refine z7 (zi rfl rfl rfl) rfl ?_; refine zh ?_; refine zj ?_
    refine qi L (rs := [.tmp 4]) rfl (fun _ _ h => h) Since.refl fun u H hH hle => ?_
    rfl
def scs (x : Value × Option Addr × Value × Option Addr) : List Value := [x.1, .pointer x.2.1, x.2.2.1, .pointer x.2.2.2]
abbrev SXp := { x : Value × Option Addr × Value × Option Addr // (scs x).all plainV = true }
abbrev sphi (l : List U) (x : SXp) (H : Heap) : Prop := SetV l (.agg (scs x.1).toArray) H
theorem sphi_mono (l : List U) : MonoX (sphi l) := fun _ _ _ h hle => SetV.le h hle
theorem set_st {l : List U} (v : Value) (H : Heap) (h : SetV l v H) : ∃ x : SXp, sphi l x H ∧ cellsL v = scs x.1 := by
  obtain ⟨f, p, k, q, rfl, hp⟩ := h.shape
  exact ⟨⟨(f, p, k, q), hp⟩, h, rfl⟩
abbrev WithS (l : List U) (e : Int) : Value → Heap → Prop := TupS [SetV l, fun v _ => v = .int .i64 e]
theorem WithS.mono {l : List U} {e : Int} : Kn.mono (.sat (WithS l e)) := LE2.mono SetV.mono
theorem mf4 {cf cg : Nat} {t u : Tr U Unit} {v1 v2 : Value} {H : Heap} (h1 : UT.MF cf t v1 H) (h2 : UT.MF cg u v2 H) : ∃ p q, v1 = .agg #[.func (.func cf) #[] #[], .pointer p] ∧ v2 = .agg #[.func (.func cg) #[] #[], .pointer q] ∧ UT.TA t (.pointer p) H ∧ UT.TA u (.pointer q) H := by
  obtain ⟨p, e1, h1⟩ := h1
  obtain ⟨q, e2, h2⟩ := h2
  exact ⟨p, q, e1, e2, h1, h2⟩
theorem ts_ch {l : List U} {t u : Tr U Unit} (h : TS l t u) {x : U} {d : Bool} (hx : decide (x ∈ l) = d) (hc : d = false → l.length < 4096) (he : tE x = 0) : TS (withU l x d).1 (chT cmpT x d t) (chT cmpS x d u) ∧ (withU l x d).2 = 0 := by
  unfold withU chT
  rw [if_pos he]
  cases d
  · have hx' : x ∉ l := by simpa using hx
    rw [if_neg (by decide), if_neg hx', if_neg (by have := hc rfl; omega), if_neg (by decide), if_neg (by decide)]
    exact ⟨h.put hx', rfl⟩
  · have hx' : x ∈ l := by simpa using hx
    rw [if_pos rfl, if_pos rfl, if_pos rfl]
    exact ⟨h.drop hx', rfl⟩
set_option maxHeartbeats 1000000 in
theorem with_ret {l m : List U} {x : U} {d : Bool} {e : Int} (hr : withU l x d = (m, e)) (hl : l.length ≤ 4096) (hz : TZ x) {v : Value} {w : World} {B : Heap} (hB : B.Le (hp w)) (hv : SetV l v B) :
    Ret Tryz.prog 24 [v, chv x d] w B (WithS m e) := by
  obtain ⟨f1, p1, f2, q1, hsh, hpl⟩ := hv.shape
  by_cases he : tE x = 0
  · obtain ⟨hin, hin0⟩ : ∃ b, decide (x ∈ l) = b := ⟨_, rfl⟩
    by_cases hd : hin = d
    · subst hd
      by_cases hfull : hin = false ∧ l.length = 4096
      · obtain ⟨rfl, hlen⟩ := hfull
        have hw : withU l x false = ([], 3) := by
          unfold withU
          rw [if_pos he, if_neg (by decide), if_neg (by simpa using hin0), if_pos (by omega)]
        rw [hw] at hr
        cases hr
        subst hsh
        refine qx Tryz.func24 rfl Tryz.ntmps24 (Nat.le_of_ble_eq_true rfl) hB ?_
        refine zg ?_; refine z8 (id := 0) ?_; refine z7 (qf rfl rfl rfl rfl) rfl ?_; refine z7 (qf rfl rfl rfl rfl) rfl ?_; refine z7 (qm L rfl rfl rfl rfl) rfl ?_; refine z7 (zi rfl rfl rfl) rfl ?_; refine zh ?_; refine zj ?_; refine zg ?_; refine zg ?_; refine z8 (id := 1) ?_; refine z7 (zk L rfl rfl rfl rfl) rfl ?_; refine z7 (zz L (vs := [_, _, _, _, _, _]) (zq rfl) rfl rfl rfl rfl ⟨_, rfl⟩) rfl ?_; refine z7 (q6 L rfl rfl (zm rfl) rfl rfl rfl (fun u H hH _ _ => he ▸ tcheck_ret hz hH)) rfl ?_; refine z7 (zi rfl rfl rfl) rfl ?_; refine zh ?_; refine zj ?_; refine zg ?_; refine z8 (id := 2) ?_; refine z7 (zf rfl rfl rfl) rfl ?_; refine z7 (yb rfl rfl rfl rfl (decide_eq_false (by omega))) rfl ?_; refine zh ?_; refine zj ?_; refine q8 rfl ?_; refine q9 ?_; refine zj ?_; refine zg ?_; refine zg ?_; refine qj (id := 4) [] mixed (by kernel_rfl) ?_; refine zd (zz L (vs := [_, _, _, _]) (zq rfl) rfl rfl rfl rfl ⟨_, rfl⟩) rfl ?_; refine zd (zk L rfl rfl rfl rfl) rfl ?_; refine zd (zz L (vs := [_, _, _, _, _, _]) (zq rfl) rfl rfl rfl rfl ⟨_, rfl⟩) rfl ?_; refine zd (q6 L rfl rfl (zm rfl) rfl rfl rfl (fun u H hH hle _ => shas_ret hin0 hH (hv.le hle))) rfl ?_; refine zd (zk L rfl rfl rfl rfl) rfl ?_; refine zd (zo L (zq rfl) rfl rfl rfl rfl) rfl ?_; refine zd (ok_bneq rfl rfl rfl rfl bt4 rfl) rfl ?_; refine qq ?_; refine zj ?_; refine q8 rfl ?_; refine q9 ?_; refine zj ?_; refine zg ?_; refine zg ?_; refine z8 (id := 6) ?_; refine z7 (zk L rfl rfl rfl rfl) rfl ?_; refine z7 (zo L (zq rfl) rfl rfl rfl rfl) rfl ?_; refine z7 (yk rfl rfl rfl rfl) rfl ?_; refine z7 (zf rfl rfl rfl) rfl ?_; refine z7 (zz L (vs := [_, _, _, _]) (zq rfl) rfl rfl rfl rfl ⟨_, rfl⟩) rfl ?_; refine z7 (q6 L rfl rfl (zm rfl) rfl rfl rfl (fun u H hH hle _ => slen_ret hlen hH (hv.le hle))) rfl ?_; refine z7 (qp rfl rfl rfl rfl (decide_eq_true (by omega))) rfl ?_; refine z7 (zw rfl rfl rfl rfl) rfl ?_; refine zh ?_; refine zj ?_; refine qa rfl ?_; refine zg ?_; refine z8 (id := 7) ?_; refine z7 (qv (cs := [_, _, _, _]) rfl rfl pl40 rfl rfl) rfl ?_; refine z7 (qg L rfl rfl rfl rfl rfl rfl rfl rfl) rfl ?_; refine z7 (zi rfl rfl rfl) rfl ?_; refine zh ?_; refine zj ?_
        refine qi L (rs := [.cell 4 40, .tmp 5]) rfl (fun _ _ h => h) Since.refl fun u H hH hle => ?_
        exact ⟨_, ql rfl, rfl, LE2.mk SetV.nil⟩
      · have hc : hin = false → l.length < 4096 := fun h => by
          rcases Nat.lt_or_ge l.length 4096 with h' | h'
          · exact h'
          · exact absurd ⟨h, by omega⟩ hfull
        obtain ⟨p, q, t, u, hT, ht, hu, hv1⟩ := id hv
        have hch := ts_ch hT hin0 hc he
        rw [hr] at hch
        obtain ⟨hT', rfl⟩ := hch
        have hts := hT.size
        have hus := hT.zu
        have hf1 : p1 = p ∧ q1 = q ∧ (f1 = fvC ∨ (f1 = .nilFunc ∧ t = .nil)) ∧ (f2 = fvS ∨ (f2 = .nilFunc ∧ u = .nil)) := by
          rcases hv1 with h | ⟨h0, rfl, rfl, h⟩
          · rw [hsh] at h; cases h; exact ⟨rfl, rfl, .inl rfl, .inl rfl⟩
          · rw [hsh] at h
            cases h
            subst h0
            have key : ∀ {s : Tr U Unit}, s.size = 0 → s = .nil := fun {s} hs => by
              cases s with
              | nil => rfl
              | node k y l r => simp only [Tr.size] at hs; omega
            exact ⟨rfl, rfl, .inr ⟨rfl, key hts⟩, .inr ⟨rfl, key hus⟩⟩
        obtain ⟨rfl, rfl, hf1, hf2⟩ := hf1
        subst hsh
        have hchg1 := fun (u1 : World) (H : Heap) (hH : H.Le (hp u1)) (hle : B.Le H) => change_ret cmpUT hf1 x hin hH (ht.le hle) (by omega)
        have hchg2 := fun (u1 : World) (H : Heap) (hH : H.Le (hp u1)) (hle : B.Le H) => change_ret cmpUS hf2 x hin hH (hu.le hle) (by omega)
        cases hin
        · have hlen := hc rfl
          refine qx Tryz.func24 rfl Tryz.ntmps24 (Nat.le_of_ble_eq_true rfl) hB ?_
          refine zg ?_; refine z8 (id := 0) ?_; refine z7 (qf rfl rfl rfl rfl) rfl ?_; refine z7 (qf rfl rfl rfl rfl) rfl ?_; refine z7 (qm L rfl rfl rfl rfl) rfl ?_; refine z7 (zi rfl rfl rfl) rfl ?_; refine zh ?_; refine zj ?_; refine zg ?_; refine zg ?_; refine z8 (id := 1) ?_; refine z7 (zk L rfl rfl rfl rfl) rfl ?_; refine z7 (zz L (vs := [_, _, _, _, _, _]) (zq rfl) rfl rfl rfl rfl ⟨_, rfl⟩) rfl ?_; refine z7 (q6 L rfl rfl (zm rfl) rfl rfl rfl (fun u H hH _ _ => he ▸ tcheck_ret hz hH)) rfl ?_; refine z7 (zi rfl rfl rfl) rfl ?_; refine zh ?_; refine zj ?_; refine zg ?_; refine z8 (id := 2) ?_; refine z7 (zf rfl rfl rfl) rfl ?_; refine z7 (yb rfl rfl rfl rfl (decide_eq_false (by omega))) rfl ?_; refine zh ?_; refine zj ?_; refine q8 rfl ?_; refine q9 ?_; refine zj ?_; refine zg ?_; refine zg ?_; refine qj (id := 4) [] mixed (by kernel_rfl) ?_; refine zd (zz L (vs := [_, _, _, _]) (zq rfl) rfl rfl rfl rfl ⟨_, rfl⟩) rfl ?_; refine zd (zk L rfl rfl rfl rfl) rfl ?_; refine zd (zz L (vs := [_, _, _, _, _, _]) (zq rfl) rfl rfl rfl rfl ⟨_, rfl⟩) rfl ?_; refine zd (q6 L rfl rfl (zm rfl) rfl rfl rfl (fun u H hH hle _ => shas_ret hin0 hH (hv.le hle))) rfl ?_; refine zd (zk L rfl rfl rfl rfl) rfl ?_; refine zd (zo L (zq rfl) rfl rfl rfl rfl) rfl ?_; refine zd (ok_bneq rfl rfl rfl rfl bt4 rfl) rfl ?_; refine qq ?_; refine zj ?_; refine q8 rfl ?_; refine q9 ?_; refine zj ?_; refine zg ?_; refine zg ?_; refine z8 (id := 6) ?_; refine z7 (zk L rfl rfl rfl rfl) rfl ?_; refine z7 (zo L (zq rfl) rfl rfl rfl rfl) rfl ?_; refine z7 (yk rfl rfl rfl rfl) rfl ?_; refine z7 (zf rfl rfl rfl) rfl ?_; refine z7 (zz L (vs := [_, _, _, _]) (zq rfl) rfl rfl rfl rfl ⟨_, rfl⟩) rfl ?_; refine z7 (q6 L rfl rfl (zm rfl) rfl rfl rfl (fun u H hH hle _ => slen_ret rfl hH (hv.le hle))) rfl ?_; refine z7 (qp rfl rfl rfl rfl (decide_eq_false (by omega))) rfl ?_; refine z7 (zw rfl rfl rfl rfl) rfl ?_; refine zh ?_; refine zj ?_; refine q8 rfl ?_; refine q9 ?_; refine zj ?_; refine zg ?_; refine qj (id := 8) [] mixed (by kernel_rfl) ?_; refine zd (zk L rfl rfl rfl rfl) rfl ?_; refine zd (zz L (vs := [_, _]) (zq rfl) rfl rfl rfl rfl ⟨_, rfl⟩) rfl ?_; refine zd (zz L (vs := [_, _, _, _, _, _, _]) (zq rfl) rfl rfl rfl rfl ⟨_, rfl⟩) rfl ?_; refine zd (ya (φ := UT.MF 55 (chT cmpT x false t)) L rfl rfl (zm rfl) rfl rfl rfl UT.MA.mono (fun u H hH hle _ => hchg1 u H hH hle)) rfl ?_; refine zd (zk L rfl rfl rfl rfl) rfl ?_; refine zd (zz L (vs := [_, _]) (zq rfl) rfl rfl rfl rfl ⟨_, rfl⟩) rfl ?_; refine zd (zz L (vs := [_, _, _, _, _, _, _]) (zq rfl) rfl rfl rfl rfl ⟨_, rfl⟩) rfl ?_; refine zd (ya (φ := UT.MF 56 (chT cmpS x false u)) L rfl rfl (zm rfl) rfl rfl rfl UT.MA.mono (fun u H hH hle _ => hchg2 u H hH hle)) rfl ?_; refine zd (ok_buildS (ψ := SetV m) rfl rfl pl40 SetV.mono (fun H _ v1 h1 v2 h2 => by obtain ⟨p, q, rfl, rfl, k1, k2⟩ := mf4 h1 h2; exact ⟨_, rfl, p, q, _, _, hT', k1, k2, .inl rfl⟩)) rfl ?_; refine zd (ok_storeX L (X := SXp) (fun x => scs x.1) (sphi m) (sphi_mono m) set_st (fun x => ⟨rfl, x.2⟩) rfl rfl rfl rfl rfl) rfl ?_; refine zd (zi rfl rfl rfl) rfl ?_; refine qq ?_; refine zj ?_
          refine V_opnX 4 rfl fun x4 H4 hs4 hx4 => ?_
          refine qi L (rs := [.cell 4 40, .tmp 5]) rfl (fun _ _ h => h) hs4 fun u H hH hle => ?_
          exact ⟨_, ql rfl, rfl, LE2.mk (hx4.le hle)⟩
        · refine qx Tryz.func24 rfl Tryz.ntmps24 (Nat.le_of_ble_eq_true rfl) hB ?_
          refine zg ?_; refine z8 (id := 0) ?_; refine z7 (qf rfl rfl rfl rfl) rfl ?_; refine z7 (qf rfl rfl rfl rfl) rfl ?_; refine z7 (qm L rfl rfl rfl rfl) rfl ?_; refine z7 (zi rfl rfl rfl) rfl ?_; refine zh ?_; refine zj ?_; refine zg ?_; refine zg ?_; refine z8 (id := 1) ?_; refine z7 (zk L rfl rfl rfl rfl) rfl ?_; refine z7 (zz L (vs := [_, _, _, _, _, _]) (zq rfl) rfl rfl rfl rfl ⟨_, rfl⟩) rfl ?_; refine z7 (q6 L rfl rfl (zm rfl) rfl rfl rfl (fun u H hH _ _ => he ▸ tcheck_ret hz hH)) rfl ?_; refine z7 (zi rfl rfl rfl) rfl ?_; refine zh ?_; refine zj ?_; refine zg ?_; refine z8 (id := 2) ?_; refine z7 (zf rfl rfl rfl) rfl ?_; refine z7 (yb rfl rfl rfl rfl (decide_eq_false (by omega))) rfl ?_; refine zh ?_; refine zj ?_; refine q8 rfl ?_; refine q9 ?_; refine zj ?_; refine zg ?_; refine zg ?_; refine qj (id := 4) [] mixed (by kernel_rfl) ?_; refine zd (zz L (vs := [_, _, _, _]) (zq rfl) rfl rfl rfl rfl ⟨_, rfl⟩) rfl ?_; refine zd (zk L rfl rfl rfl rfl) rfl ?_; refine zd (zz L (vs := [_, _, _, _, _, _]) (zq rfl) rfl rfl rfl rfl ⟨_, rfl⟩) rfl ?_; refine zd (q6 L rfl rfl (zm rfl) rfl rfl rfl (fun u H hH hle _ => shas_ret hin0 hH (hv.le hle))) rfl ?_; refine zd (zk L rfl rfl rfl rfl) rfl ?_; refine zd (zo L (zq rfl) rfl rfl rfl rfl) rfl ?_; refine zd (ok_bneq rfl rfl rfl rfl bt4 rfl) rfl ?_; refine qq ?_; refine zj ?_; refine q8 rfl ?_; refine q9 ?_; refine zj ?_; refine zg ?_; refine zg ?_; refine z8 (id := 6) ?_; refine z7 (zk L rfl rfl rfl rfl) rfl ?_; refine z7 (zo L (zq rfl) rfl rfl rfl rfl) rfl ?_; refine z7 (yk rfl rfl rfl rfl) rfl ?_; refine z7 (zf rfl rfl rfl) rfl ?_; refine z7 (zn rfl (zm rfl) rfl) rfl ?_; refine z7 (zn rfl (zm rfl) rfl) rfl ?_; refine z7 (zn rfl (zm rfl) rfl) rfl ?_; refine z7 (zw rfl rfl rfl rfl) rfl ?_; refine zh ?_; refine zj ?_; refine q8 rfl ?_; refine q9 ?_; refine zj ?_; refine zg ?_; refine qj (id := 8) [] mixed (by kernel_rfl) ?_; refine zd (zk L rfl rfl rfl rfl) rfl ?_; refine zd (zz L (vs := [_, _]) (zq rfl) rfl rfl rfl rfl ⟨_, rfl⟩) rfl ?_; refine zd (zz L (vs := [_, _, _, _, _, _, _]) (zq rfl) rfl rfl rfl rfl ⟨_, rfl⟩) rfl ?_; refine zd (ya (φ := UT.MF 55 (chT cmpT x true t)) L rfl rfl (zm rfl) rfl rfl rfl UT.MA.mono (fun u H hH hle _ => hchg1 u H hH hle)) rfl ?_; refine zd (zk L rfl rfl rfl rfl) rfl ?_; refine zd (zz L (vs := [_, _]) (zq rfl) rfl rfl rfl rfl ⟨_, rfl⟩) rfl ?_; refine zd (zz L (vs := [_, _, _, _, _, _, _]) (zq rfl) rfl rfl rfl rfl ⟨_, rfl⟩) rfl ?_; refine zd (ya (φ := UT.MF 56 (chT cmpS x true u)) L rfl rfl (zm rfl) rfl rfl rfl UT.MA.mono (fun u H hH hle _ => hchg2 u H hH hle)) rfl ?_; refine zd (ok_buildS (ψ := SetV m) rfl rfl pl40 SetV.mono (fun H _ v1 h1 v2 h2 => by obtain ⟨p, q, rfl, rfl, k1, k2⟩ := mf4 h1 h2; exact ⟨_, rfl, p, q, _, _, hT', k1, k2, .inl rfl⟩)) rfl ?_; refine zd (ok_storeX L (X := SXp) (fun x => scs x.1) (sphi m) (sphi_mono m) set_st (fun x => ⟨rfl, x.2⟩) rfl rfl rfl rfl rfl) rfl ?_; refine zd (zi rfl rfl rfl) rfl ?_; refine qq ?_; refine zj ?_
          refine V_opnX 4 rfl fun x4 H4 hs4 hx4 => ?_
          refine qi L (rs := [.cell 4 40, .tmp 5]) rfl (fun _ _ h => h) hs4 fun u H hH hle => ?_
          exact ⟨_, ql rfl, rfl, LE2.mk (hx4.le hle)⟩
    · have hw : withU l x d = (l, 0) := by
        unfold withU
        rw [if_pos he]
        cases d
        · have : hin = true := by cases hin; exact absurd rfl hd; rfl
          subst this
          rw [if_neg (by decide), if_pos (by simpa using hin0)]
        · have : hin = false := by cases hin; rfl; exact absurd rfl hd
          subst this
          rw [if_pos rfl, filter_out (by simpa using hin0)]
      rw [hw] at hr
      cases hr
      have hb : (hin == d) = false := by cases hin <;> cases d <;> first | rfl | exact absurd rfl hd
      subst hsh
      refine qx Tryz.func24 rfl Tryz.ntmps24 (Nat.le_of_ble_eq_true rfl) hB ?_
      have hb2 : (!(hin == d)) = true := by rw [hb]; rfl
      refine zg ?_; refine z8 (id := 0) ?_; refine z7 (qf rfl rfl rfl rfl) rfl ?_; refine z7 (qf rfl rfl rfl rfl) rfl ?_; refine z7 (qm L rfl rfl rfl rfl) rfl ?_; refine z7 (zi rfl rfl rfl) rfl ?_; refine zh ?_; refine zj ?_; refine zg ?_; refine zg ?_; refine z8 (id := 1) ?_; refine z7 (zk L rfl rfl rfl rfl) rfl ?_; refine z7 (zz L (vs := [_, _, _, _, _, _]) (zq rfl) rfl rfl rfl rfl ⟨_, rfl⟩) rfl ?_; refine z7 (q6 L rfl rfl (zm rfl) rfl rfl rfl (fun u H hH _ _ => he ▸ tcheck_ret hz hH)) rfl ?_; refine z7 (zi rfl rfl rfl) rfl ?_; refine zh ?_; refine zj ?_; refine zg ?_; refine z8 (id := 2) ?_; refine z7 (zf rfl rfl rfl) rfl ?_; refine z7 (yb rfl rfl rfl rfl (decide_eq_false (by omega))) rfl ?_; refine zh ?_; refine zj ?_; refine q8 rfl ?_; refine q9 ?_; refine zj ?_; refine zg ?_; refine zg ?_; refine qj (id := 4) [] mixed (by kernel_rfl) ?_; refine zd (zz L (vs := [_, _, _, _]) (zq rfl) rfl rfl rfl rfl ⟨_, rfl⟩) rfl ?_; refine zd (zk L rfl rfl rfl rfl) rfl ?_; refine zd (zz L (vs := [_, _, _, _, _, _]) (zq rfl) rfl rfl rfl rfl ⟨_, rfl⟩) rfl ?_; refine zd (q6 L rfl rfl (zm rfl) rfl rfl rfl (fun u H hH hle _ => shas_ret hin0 hH (hv.le hle))) rfl ?_; refine zd (zk L rfl rfl rfl rfl) rfl ?_; refine zd (zo L (zq rfl) rfl rfl rfl rfl) rfl ?_; refine zd (ok_bneq rfl rfl rfl rfl bt4 hb2) rfl ?_; refine qq ?_; refine zj ?_; refine qa rfl ?_; refine zg ?_; refine z8 (id := 5) ?_; refine z7 (zz L (vs := [_, _, _, _]) (zq rfl) rfl rfl rfl rfl ⟨_, rfl⟩) rfl ?_; refine z7 (qg L rfl rfl rfl rfl rfl rfl (by assumption) rfl) rfl ?_; refine z7 (zi rfl rfl rfl) rfl ?_; refine zh ?_; refine zj ?_
      refine qi L (rs := [.cell 4 40, .tmp 5]) rfl (fun _ _ h => h) Since.refl fun u H hH hle => ?_
      exact ⟨_, ql rfl, rfl, LE2.mk (hv.le hle)⟩
  · have hw : withU l x d = ([], tE x) := if_neg he
    rw [hw] at hr
    cases hr
    subst hsh
    refine qx Tryz.func24 rfl Tryz.ntmps24 (Nat.le_of_ble_eq_true rfl) hB ?_
    refine zg ?_; refine z8 (id := 0) ?_; refine z7 (qf rfl rfl rfl rfl) rfl ?_; refine z7 (qf rfl rfl rfl rfl) rfl ?_; refine z7 (qm L rfl rfl rfl rfl) rfl ?_; refine z7 (zi rfl rfl rfl) rfl ?_; refine zh ?_; refine zj ?_; refine zg ?_; refine zg ?_; refine z8 (id := 1) ?_; refine z7 (zk L rfl rfl rfl rfl) rfl ?_; refine z7 (zz L (vs := [_, _, _, _, _, _]) (zq rfl) rfl rfl rfl rfl ⟨_, rfl⟩) rfl ?_; refine z7 (q6 L rfl rfl (zm rfl) rfl rfl rfl (fun u H hH _ _ => tcheck_ret hz hH)) rfl ?_; refine z7 (zi rfl rfl rfl) rfl ?_; refine zh ?_; refine zj ?_; refine zg ?_; refine z8 (id := 2) ?_; refine z7 (zf rfl rfl rfl) rfl ?_; refine z7 (yb rfl rfl rfl rfl (decide_eq_true (by omega))) rfl ?_; refine zh ?_; refine zj ?_; refine qa rfl ?_; refine zg ?_; refine z8 (id := 3) ?_; refine z7 (qv (cs := [_, _, _, _]) rfl rfl pl40 rfl rfl) rfl ?_; refine z7 (zf rfl rfl rfl) rfl ?_; refine z7 (qg L rfl rfl rfl rfl rfl rfl rfl rfl) rfl ?_; refine z7 (zi rfl rfl rfl) rfl ?_; refine zh ?_; refine zj ?_
    refine qi L (rs := [.cell 4 40, .tmp 5]) rfl (fun _ _ h => h) Since.refl fun u H hH hle => ?_
    exact ⟨_, ql rfl, rfl, LE2.mk SetV.nil⟩
end Go.V.L6
namespace Go.V.L2
open Go.Proofs Go.RowKit Go.V
theorem ups_len : ∀ (l : List U), (l.flatMap ucs).length = l.length * 6
  | [] => rfl
  | y :: l => by rw [List.flatMap_cons, List.length_append, ups_len l, ucs_len, List.length_cons]; omega
theorem ups_plain : ∀ (l : List U), (l.flatMap ucs).all plainV = true
  | [] => rfl
  | g :: l => by rw [List.flatMap_cons, List.all_append, ups_plain l]; rfl
theorem ups_cat {κ : Kap} {s : Nat} {x y : List U} (h : κ s = some (.own (SlR tyU 6 (x.length + y.length) (x.flatMap ucs ++ y.flatMap ucs)))) : κ s = some (.own (SlR tyU 6 (x ++ y).length ((x ++ y).flatMap ucs))) := by
  rw [h, List.flatMap_append, List.length_append]
theorem filter_snoc {p : U → Bool} {l r : List U} {k : Nat} {t : U} (h : l[k]? = some t) (hr : r = (l.take k).filter p) : (l.take (k + 1)).filter p = if p t = true then r ++ [t] else r := by
  rw [take_s h, List.filter_append, hr, List.filter_cons, List.filter_nil]
  split <;> simp
attribute [local irreducible] V N X VO Par StepOK Has Ret RetL Src
set_option maxHeartbeats 4000000 in
theorem rsome_ttt {x y : List U} {fx fy : Bool} (hx : x.length ≤ 100000) (hy : y.length ≤ 100000) (zx : ∀ t ∈ x, TZ t) (zy : ∀ t ∈ y, TZ t) {vx vy : Value} {w : World} {B : Heap} (hB : B.Le (hp w)) (hvx : US x fx vx B) (hvy : US y fy vy B) :
    Ret Tryz.prog 52 [vx, vy, .bool true, .bool true, .bool true] w B (US (someT x y true true true) false) := by
  have lx := ups_len x
  have ly := ups_len y
  have px := ups_plain x
  have py := ups_plain y
  refine qx Tryz.func52 rfl Tryz.ntmps52 (Nat.le_of_ble_eq_true rfl) hB ?_
  refine V_seen 0 (US x fx) rfl SlV.mono hvx ?_
  refine V_seen 1 (US y fy) rfl SlV.mono hvy ?_
  refine zg ?_; refine z8 (id := 0) ?_; refine z7 (zi rfl rfl rfl) rfl ?_; refine zh ?_; refine zj ?_; refine zg ?_; refine z8 (id := 1) ?_; refine z7 (zi rfl rfl rfl) rfl ?_; refine zh ?_; refine zj ?_; refine zg ?_
  refine V_nilR 11 tyU 6 rfl ?_
  refine z8 (id := 2) ?_; refine z7 (q7 rfl rfl rfl) rfl ?_; refine z7 (ok_append0 L rfl rfl rfl (apd_V rfl) rfl el50 lx px (by omega) (by omega)) rfl ?_; refine z7 (q7 rfl rfl rfl) rfl ?_; refine qn (ok_append L rfl rfl rfl (apd_V rfl) rfl el50 ly py (by omega) (by omega)) ?_; refine qn (y9 (.inr rfl) rfl rfl rfl rfl) ?_; refine zh ?_; refine zj ?_; refine zg ?_; refine zg ?_
  refine V_pubR 12 (ups_cat rfl) ?_
  have hal : (x ++ y).length ≤ 200000 := by rw [List.length_append]; omega
  have hza : ∀ t ∈ x ++ y, TZ t := fun t ht => (List.mem_append.1 ht).elim (zx t) (zy t)
  unfold someT
  generalize hall : x ++ y = l at hal hza
  refine z8 (id := 3) ?_; refine z7 (zi rfl rfl rfl) rfl ?_; refine zh ?_; refine zj ?_; refine qd ?_
  refine V_loop (fun s : Nat × List U => [(0, .sat (US x fx)), (1, .sat (US y fy)), (2, .is (.bool true)), (3, .is (.bool true)), (4, .is (.bool true)), (11, .own (SlR tyU 6 s.2.length (s.2.flatMap ucs))), (12, .sat (US l false)), (13, .is (.int .i64 s.1))])
    (fun s => s.1 ≤ l.length ∧ s.2.length ≤ s.1 ∧ s.2 = (l.take s.1).filter (pickT x y true true true)) (fun s => l.length - s.1) (0, []) ⟨Nat.zero_le _, Nat.le_refl _, rfl⟩ ⟨rfl, rfl, rfl, rfl, rfl, rfl, rfl, rfl, trivial⟩ ?_
  rintro ⟨i, r⟩ ⟨hi, hrl, hr⟩
  dsimp only at hi hrl hr ⊢
  by_cases hlt : i < l.length
  · obtain ⟨t, ht⟩ := get_some hlt
    have hc := us_at ht
    have hf := filter_snoc ht hr
    by_cases h1 : t ∈ x
    · have e1 : (if t ∈ x then 1 else 0 : Int) = 1 := if_pos h1
      by_cases h2 : t ∈ y
      · have e2 : (if t ∈ y then 1 else 0 : Int) = 1 := if_pos h2
        have hp : (pickT x y true true true) t = true := by simp [pickT, h1, h2]
        rw [hp, if_pos rfl] at hf
        refine zg ?_; refine zg ?_; refine z8 (id := 4) ?_; refine z7 (zf rfl rfl rfl) rfl ?_; refine z7 (q7 rfl rfl rfl) rfl ?_; refine z7 (yc L rfl rfl rfl rfl) rfl ?_; refine z7 (qe rfl rfl rfl rfl (decide_eq_true (by omega))) rfl ?_; refine zh ?_; refine zj ?_; refine qa rfl ?_; refine q9 ?_; refine zj ?_; refine zg ?_; refine qd ?_; refine zg ?_; refine qj (id := 6) [] mixed (by kernel_rfl) ?_; refine zd (q7 rfl rfl rfl) rfl ?_; refine zd (q7 rfl rfl rfl) rfl ?_; refine zd (zf rfl rfl rfl) rfl ?_; refine zd (qo L _ rfl rfl rfl rfl rfl rfl rfl (by first | omega | decide) (by assumption)) rfl ?_; refine zd (qt L (vs := [_, _, _, _, _, _]) rfl rfl rfl rfl rfl ⟨_, rfl⟩) rfl ?_; refine zd (q6 L rfl rfl (zm rfl) rfl rfl rfl (fun u H hH _ _ v1 h3 => rin_ret (l := x) (by omega) e1 hH h3)) rfl ?_; refine zd (qp rfl rfl rfl rfl (decide_eq_true (by omega))) rfl ?_; refine zd (q7 rfl rfl rfl) rfl ?_; refine zd (q7 rfl rfl rfl) rfl ?_; refine zd (zf rfl rfl rfl) rfl ?_; refine zd (qo L _ rfl rfl rfl rfl rfl rfl rfl (by first | omega | decide) (by assumption)) rfl ?_; refine zd (qt L (vs := [_, _, _, _, _, _]) rfl rfl rfl rfl rfl ⟨_, rfl⟩) rfl ?_; refine zd (q6 L rfl rfl (zm rfl) rfl rfl rfl (fun u H hH _ _ v1 h3 => rin_ret (l := y) (by omega) e2 hH h3)) rfl ?_; refine zd (qp rfl rfl rfl rfl (decide_eq_true (by omega))) rfl ?_; refine zd (zi rfl rfl rfl) rfl ?_; refine zd (zi rfl rfl rfl) rfl ?_; refine qq ?_; refine zj ?_; refine zg ?_; refine z8 (id := 7) ?_; refine z7 (zf rfl rfl rfl) rfl ?_; refine z7 (zf rfl rfl rfl) rfl ?_; refine z7 (zf rfl rfl rfl) rfl ?_; refine z7 (yk rfl rfl rfl rfl) rfl ?_; refine z7 (zw rfl rfl rfl rfl) rfl ?_; refine z7 (zf rfl rfl rfl) rfl ?_; refine z7 (zn rfl (zm rfl) rfl) rfl ?_; refine z7 (zw rfl rfl rfl rfl) rfl ?_; refine z7 (zf rfl rfl rfl) rfl ?_; refine z7 (zf rfl rfl rfl) rfl ?_; refine z7 (zf rfl rfl rfl) rfl ?_; refine z7 (zf rfl rfl rfl) rfl ?_; refine z7 (zw rfl rfl rfl rfl) rfl ?_; refine z7 (zf rfl rfl rfl) rfl ?_; refine z7 (zf rfl rfl rfl) rfl ?_; refine z7 (zw rfl rfl rfl rfl) rfl ?_; refine z7 (zw rfl rfl rfl rfl) rfl ?_; refine z7 (zf rfl rfl rfl) rfl ?_; refine z7 (zn rfl (zm rfl) rfl) rfl ?_; refine z7 (zn rfl (zm rfl) rfl) rfl ?_; refine z7 (zn rfl (zm rfl) rfl) rfl ?_; refine z7 (zn rfl (zm rfl) rfl) rfl ?_; refine z7 (zn rfl (zm rfl) rfl) rfl ?_; refine z7 (zn rfl (zm rfl) rfl) rfl ?_; refine z7 (zn rfl (zm rfl) rfl) rfl ?_; refine z7 (zn rfl (zm rfl) rfl) rfl ?_; refine z7 (zw rfl rfl rfl rfl) rfl ?_; refine zh ?_; refine zj ?_; refine qa rfl ?_; refine z8 (id := 8) ?_; refine qn (y9 (.inl rfl) rfl rfl rfl rfl) ?_; refine z7 (q7 rfl rfl rfl) rfl ?_; refine z7 (zf rfl rfl rfl) rfl ?_; refine z7 (qo L _ rfl rfl rfl rfl rfl rfl rfl (by first | omega | decide) (by assumption)) rfl ?_; refine z7 (qt L (vs := [_, _, _, _, _, _]) rfl rfl rfl rfl rfl ⟨_, rfl⟩) rfl ?_; refine z7 (qw L rfl rfl rfl rfl rfl rfl rfl rfl rfl) rfl ?_; refine qn (ok_append L rfl rfl rfl (apd_B rfl) rfl el50 rfl rfl (by omega) (by omega)) ?_; refine qn (y9 (.inr rfl) rfl rfl rfl rfl) ?_; refine zh ?_; refine qr ?_; refine zj ?_; refine z8 (id := 5) ?_; refine z7 (zf rfl rfl rfl) rfl ?_; refine z7 (qy rfl rfl rfl rfl (wrap_i64 (by omega) (by omega))) rfl ?_; refine z7 (zi rfl rfl rfl) rfl ?_; refine zh ?_
        exact y7 (x := (i, r)) (i + 1, r ++ [t]) ⟨hlt, by dsimp only; rw [List.length_append, List.length_singleton]; omega, hf.symm⟩ (by dsimp only; omega) ⟨rfl, rfl, rfl, rfl, rfl, ups_snoc rfl, rfl, rfl, trivial⟩
      · have e2 : (if t ∈ y then 1 else 0 : Int) = 0 := if_neg h2
        have hp : (pickT x y true true true) t = true := by simp [pickT, h1, h2]
        rw [hp, if_pos rfl] at hf
        refine zg ?_; refine zg ?_; refine z8 (id := 4) ?_; refine z7 (zf rfl rfl rfl) rfl ?_; refine z7 (q7 rfl rfl rfl) rfl ?_; refine z7 (yc L rfl rfl rfl rfl) rfl ?_; refine z7 (qe rfl rfl rfl rfl (decide_eq_true (by omega))) rfl ?_; refine zh ?_; refine zj ?_; refine qa rfl ?_; refine q9 ?_; refine zj ?_; refine zg ?_; refine qd ?_; refine zg ?_; refine qj (id := 6) [] mixed (by kernel_rfl) ?_; refine zd (q7 rfl rfl rfl) rfl ?_; refine zd (q7 rfl rfl rfl) rfl ?_; refine zd (zf rfl rfl rfl) rfl ?_; refine zd (qo L _ rfl rfl rfl rfl rfl rfl rfl (by first | omega | decide) (by assumption)) rfl ?_; refine zd (qt L (vs := [_, _, _, _, _, _]) rfl rfl rfl rfl rfl ⟨_, rfl⟩) rfl ?_; refine zd (q6 L rfl rfl (zm rfl) rfl rfl rfl (fun u H hH _ _ v1 h3 => rin_ret (l := x) (by omega) e1 hH h3)) rfl ?_; refine zd (qp rfl rfl rfl rfl (decide_eq_true (by omega))) rfl ?_; refine zd (q7 rfl rfl rfl) rfl ?_; refine zd (q7 rfl rfl rfl) rfl ?_; refine zd (zf rfl rfl rfl) rfl ?_; refine zd (qo L _ rfl rfl rfl rfl rfl rfl rfl (by first | omega | decide) (by assumption)) rfl ?_; refine zd (qt L (vs := [_, _, _, _, _, _]) rfl rfl rfl rfl rfl ⟨_, rfl⟩) rfl ?_; refine zd (q6 L rfl rfl (zm rfl) rfl rfl rfl (fun u H hH _ _ v1 h3 => rin_ret (l := y) (by omega) e2 hH h3)) rfl ?_; refine zd (qp rfl rfl rfl rfl (decide_eq_false (by omega))) rfl ?_; refine zd (zi rfl rfl rfl) rfl ?_; refine zd (zi rfl rfl rfl) rfl ?_; refine qq ?_; refine zj ?_; refine zg ?_; refine z8 (id := 7) ?_; refine z7 (zf rfl rfl rfl) rfl ?_; refine z7 (zf rfl rfl rfl) rfl ?_; refine z7 (zf rfl rfl rfl) rfl ?_; refine z7 (yk rfl rfl rfl rfl) rfl ?_; refine z7 (zw rfl rfl rfl rfl) rfl ?_; refine z7 (zf rfl rfl rfl) rfl ?_; refine z7 (zf rfl rfl rfl) rfl ?_; refine z7 (zw rfl rfl rfl rfl) rfl ?_; refine z7 (zf rfl rfl rfl) rfl ?_; refine z7 (zn rfl (zm rfl) rfl) rfl ?_; refine z7 (zn rfl (zm rfl) rfl) rfl ?_; refine z7 (zn rfl (zm rfl) rfl) rfl ?_; refine z7 (zn rfl (zm rfl) rfl) rfl ?_; refine z7 (zn rfl (zm rfl) rfl) rfl ?_; refine z7 (zn rfl (zm rfl) rfl) rfl ?_; refine z7 (zn rfl (zm rfl) rfl) rfl ?_; refine z7 (zw rfl rfl rfl rfl) rfl ?_; refine z7 (zf rfl rfl rfl) rfl ?_; refine z7 (zn rfl (zm rfl) rfl) rfl ?_; refine z7 (zn rfl (zm rfl) rfl) rfl ?_; refine z7 (zn rfl (zm rfl) rfl) rfl ?_; refine z7 (zn rfl (zm rfl) rfl) rfl ?_; refine z7 (zn rfl (zm rfl) rfl) rfl ?_; refine z7 (zn rfl (zm rfl) rfl) rfl ?_; refine z7 (zn rfl (zm rfl) rfl) rfl ?_; refine z7 (zn rfl (zm rfl) rfl) rfl ?_; refine z7 (zw rfl rfl rfl rfl) rfl ?_; refine zh ?_; refine zj ?_; refine qa rfl ?_; refine z8 (id := 8) ?_; refine qn (y9 (.inl rfl) rfl rfl rfl rfl) ?_; refine z7 (q7 rfl rfl rfl) rfl ?_; refine z7 (zf rfl rfl rfl) rfl ?_; refine z7 (qo L _ rfl rfl rfl rfl rfl rfl rfl (by first | omega | decide) (by assumption)) rfl ?_; refine z7 (qt L (vs := [_, _, _, _, _, _]) rfl rfl rfl rfl rfl ⟨_, rfl⟩) rfl ?_; refine z7 (qw L rfl rfl rfl rfl rfl rfl rfl rfl rfl) rfl ?_; refine qn (ok_append L rfl rfl rfl (apd_B rfl) rfl el50 rfl rfl (by omega) (by omega)) ?_; refine qn (y9 (.inr rfl) rfl rfl rfl rfl) ?_; refine zh ?_; refine qr ?_; refine zj ?_; refine z8 (id := 5) ?_; refine z7 (zf rfl rfl rfl) rfl ?_; refine z7 (qy rfl rfl rfl rfl (wrap_i64 (by omega) (by omega))) rfl ?_; refine z7 (zi rfl rfl rfl) rfl ?_; refine zh ?_
        exact y7 (x := (i, r)) (i + 1, r ++ [t]) ⟨hlt, by dsimp only; rw [List.length_append, List.length_singleton]; omega, hf.symm⟩ (by dsimp only; omega) ⟨rfl, rfl, rfl, rfl, rfl, ups_snoc rfl, rfl, rfl, trivial⟩
    · have e1 : (if t ∈ x then 1 else 0 : Int) = 0 := if_neg h1
      by_cases h2 : t ∈ y
      · have e2 : (if t ∈ y then 1 else 0 : Int) = 1 := if_pos h2
        have hp : (pickT x y true true true) t = true := by simp [pickT, h1, h2]
        rw [hp, if_pos rfl] at hf
        refine zg ?_; refine zg ?_; refine z8 (id := 4) ?_; refine z7 (zf rfl rfl rfl) rfl ?_; refine z7 (q7 rfl rfl rfl) rfl ?_; refine z7 (yc L rfl rfl rfl rfl) rfl ?_; refine z7 (qe rfl rfl rfl rfl (decide_eq_true (by omega))) rfl ?_; refine zh ?_; refine zj ?_; refine qa rfl ?_; refine q9 ?_; refine zj ?_; refine zg ?_; refine qd ?_; refine zg ?_; refine qj (id := 6) [] mixed (by kernel_rfl) ?_; refine zd (q7 rfl rfl rfl) rfl ?_; refine zd (q7 rfl rfl rfl) rfl ?_; refine zd (zf rfl rfl rfl) rfl ?_; refine zd (qo L _ rfl rfl rfl rfl rfl rfl rfl (by first | omega | decide) (by assumption)) rfl ?_; refine zd (qt L (vs := [_, _, _, _, _, _]) rfl rfl rfl rfl rfl ⟨_, rfl⟩) rfl ?_; refine zd (q6 L rfl rfl (zm rfl) rfl rfl rfl (fun u H hH _ _ v1 h3 => rin_ret (l := x) (by omega) e1 hH h3)) rfl ?_; refine zd (qp rfl rfl rfl rfl (decide_eq_false (by omega))) rfl ?_; refine zd (q7 rfl rfl rfl) rfl ?_; refine zd (q7 rfl rfl rfl) rfl ?_; refine zd (zf rfl rfl rfl) rfl ?_; refine zd (qo L _ rfl rfl rfl rfl rfl rfl rfl (by first | omega | decide) (by assumption)) rfl ?_; refine zd (qt L (vs := [_, _, _, _, _, _]) rfl rfl rfl rfl rfl ⟨_, rfl⟩) rfl ?_; refine zd (q6 L rfl rfl (zm rfl) rfl rfl rfl (fun u H hH _ _ v1 h3 => rin_ret (l := y) (by omega) e2 hH h3)) rfl ?_; refine zd (qp rfl rfl rfl rfl (decide_eq_true (by omega))) rfl ?_; refine zd (zi rfl rfl rfl) rfl ?_; refine zd (zi rfl rfl rfl) rfl ?_; refine qq ?_; refine zj ?_; refine zg ?_; refine z8 (id := 7) ?_; refine z7 (zf rfl rfl rfl) rfl ?_; refine z7 (zf rfl rfl rfl) rfl ?_; refine z7 (zn rfl (zm rfl) rfl) rfl ?_; refine z7 (zn rfl (zm rfl) rfl) rfl ?_; refine z7 (zw rfl rfl rfl rfl) rfl ?_; refine z7 (zf rfl rfl rfl) rfl ?_; refine z7 (zn rfl (zm rfl) rfl) rfl ?_; refine z7 (zw rfl rfl rfl rfl) rfl ?_; refine z7 (zf rfl rfl rfl) rfl ?_; refine z7 (zf rfl rfl rfl) rfl ?_; refine z7 (zf rfl rfl rfl) rfl ?_; refine z7 (zn rfl (zm rfl) rfl) rfl ?_; refine z7 (zw rfl rfl rfl rfl) rfl ?_; refine z7 (zf rfl rfl rfl) rfl ?_; refine z7 (zn rfl (zm rfl) rfl) rfl ?_; refine z7 (zw rfl rfl rfl rfl) rfl ?_; refine z7 (zw rfl rfl rfl rfl) rfl ?_; refine z7 (zf rfl rfl rfl) rfl ?_; refine z7 (zf rfl rfl rfl) rfl ?_; refine z7 (yk rfl rfl rfl rfl) rfl ?_; refine z7 (zf rfl rfl rfl) rfl ?_; refine z7 (zf rfl rfl rfl) rfl ?_; refine z7 (zw rfl rfl rfl rfl) rfl ?_; refine z7 (zf rfl rfl rfl) rfl ?_; refine z7 (zf rfl rfl rfl) rfl ?_; refine z7 (zw rfl rfl rfl rfl) rfl ?_; refine z7 (zw rfl rfl rfl rfl) rfl ?_; refine zh ?_; refine zj ?_; refine qa rfl ?_; refine z8 (id := 8) ?_; refine qn (y9 (.inl rfl) rfl rfl rfl rfl) ?_; refine z7 (q7 rfl rfl rfl) rfl ?_; refine z7 (zf rfl rfl rfl) rfl ?_; refine z7 (qo L _ rfl rfl rfl rfl rfl rfl rfl (by first | omega | decide) (by assumption)) rfl ?_; refine z7 (qt L (vs := [_, _, _, _, _, _]) rfl rfl rfl rfl rfl ⟨_, rfl⟩) rfl ?_; refine z7 (qw L rfl rfl rfl rfl rfl rfl rfl rfl rfl) rfl ?_; refine qn (ok_append L rfl rfl rfl (apd_B rfl) rfl el50 rfl rfl (by omega) (by omega)) ?_; refine qn (y9 (.inr rfl) rfl rfl rfl rfl) ?_; refine zh ?_; refine qr ?_; refine zj ?_; refine z8 (id := 5) ?_; refine z7 (zf rfl rfl rfl) rfl ?_; refine z7 (qy rfl rfl rfl rfl (wrap_i64 (by omega) (by omega))) rfl ?_; refine z7 (zi rfl rfl rfl) rfl ?_; refine zh ?_
        exact y7 (x := (i, r)) (i + 1, r ++ [t]) ⟨hlt, by dsimp only; rw [List.length_append, List.length_singleton]; omega, hf.symm⟩ (by dsimp only; omega) ⟨rfl, rfl, rfl, rfl, rfl, ups_snoc rfl, rfl, rfl, trivial⟩
      · have e2 : (if t ∈ y then 1 else 0 : Int) = 0 := if_neg h2
        have hp : (pickT x y true true true) t = false := by simp [pickT, h1, h2]
        rw [hp, if_neg (by decide)] at hf
        refine zg ?_; refine zg ?_; refine z8 (id := 4) ?_; refine z7 (zf rfl rfl rfl) rfl ?_; refine z7 (q7 rfl rfl rfl) rfl ?_; refine z7 (yc L rfl rfl rfl rfl) rfl ?_; refine z7 (qe rfl rfl rfl rfl (decide_eq_true (by omega))) rfl ?_; refine zh ?_; refine zj ?_; refine qa rfl ?_; refine q9 ?_; refine zj ?_; refine zg ?_; refine qd ?_; refine zg ?_; refine qj (id := 6) [] mixed (by kernel_rfl) ?_; refine zd (q7 rfl rfl rfl) rfl ?_; refine zd (q7 rfl rfl rfl) rfl ?_; refine zd (zf rfl rfl rfl) rfl ?_; refine zd (qo L _ rfl rfl rfl rfl rfl rfl rfl (by first | omega | decide) (by assumption)) rfl ?_; refine zd (qt L (vs := [_, _, _, _, _, _]) rfl rfl rfl rfl rfl ⟨_, rfl⟩) rfl ?_; refine zd (q6 L rfl rfl (zm rfl) rfl rfl rfl (fun u H hH _ _ v1 h3 => rin_ret (l := x) (by omega) e1 hH h3)) rfl ?_; refine zd (qp rfl rfl rfl rfl (decide_eq_false (by omega))) rfl ?_; refine zd (q7 rfl rfl rfl) rfl ?_; refine zd (q7 rfl rfl rfl) rfl ?_; refine zd (zf rfl rfl rfl) rfl ?_; refine zd (qo L _ rfl rfl rfl rfl rfl rfl rfl (by first | omega | decide) (by assumption)) rfl ?_; refine zd (qt L (vs := [_, _, _, _, _, _]) rfl rfl rfl rfl rfl ⟨_, rfl⟩) rfl ?_; refine zd (q6 L rfl rfl (zm rfl) rfl rfl rfl (fun u H hH _ _ v1 h3 => rin_ret (l := y) (by omega) e2 hH h3)) rfl ?_; refine zd (qp rfl rfl rfl rfl (decide_eq_false (by omega))) rfl ?_; refine zd (zi rfl rfl rfl) rfl ?_; refine zd (zi rfl rfl rfl) rfl ?_; refine qq ?_; refine zj ?_; refine zg ?_; refine z8 (id := 7) ?_; refine z7 (zf rfl rfl rfl) rfl ?_; refine z7 (zf rfl rfl rfl) rfl ?_; refine z7 (zn rfl (zm rfl) rfl) rfl ?_; refine z7 (zn rfl (zm rfl) rfl) rfl ?_; refine z7 (zw rfl rfl rfl rfl) rfl ?_; refine z7 (zf rfl rfl rfl) rfl ?_; refine z7 (zn rfl (zm rfl) rfl) rfl ?_; refine z7 (zw rfl rfl rfl rfl) rfl ?_; refine z7 (zf rfl rfl rfl) rfl ?_; refine z7 (zf rfl rfl rfl) rfl ?_; refine z7 (zf rfl rfl rfl) rfl ?_; refine z7 (zn rfl (zm rfl) rfl) rfl ?_; refine z7 (zw rfl rfl rfl rfl) rfl ?_; refine z7 (zf rfl rfl rfl) rfl ?_; refine z7 (zn rfl (zm rfl) rfl) rfl ?_; refine z7 (zw rfl rfl rfl rfl) rfl ?_; refine z7 (zw rfl rfl rfl rfl) rfl ?_; refine z7 (zf rfl rfl rfl) rfl ?_; refine z7 (zf rfl rfl rfl) rfl ?_; refine z7 (yk rfl rfl rfl rfl) rfl ?_; refine z7 (zf rfl rfl rfl) rfl ?_; refine z7 (zf rfl rfl rfl) rfl ?_; refine z7 (zw rfl rfl rfl rfl) rfl ?_; refine z7 (zf rfl rfl rfl) rfl ?_; refine z7 (zn rfl (zm rfl) rfl) rfl ?_; refine z7 (zw rfl rfl rfl rfl) rfl ?_; refine z7 (zw rfl rfl rfl rfl) rfl ?_; refine zh ?_; refine zj ?_; refine q8 rfl ?_; refine q9 ?_; refine qr ?_; refine zj ?_; refine z8 (id := 5) ?_; refine z7 (zf rfl rfl rfl) rfl ?_; refine z7 (qy rfl rfl rfl rfl (wrap_i64 (by omega) (by omega))) rfl ?_; refine z7 (zi rfl rfl rfl) rfl ?_; refine zh ?_
        exact y7 (x := (i, r)) (i + 1, r) ⟨hlt, by dsimp only; omega, hf.symm⟩ (by dsimp only; omega) ⟨rfl, rfl, rfl, rfl, rfl, rfl, rfl, rfl, trivial⟩
  · obtain rfl : i = l.length := by omega
    rw [List.take_length] at hr
    have hzr : ∀ t ∈ r, TZ t := fun t h => hza t (List.mem_filter.1 (by rw [← hr]; exact h)).1
    rw [← hr]
    refine V_pubR 11 rfl ?_
    refine zg ?_; refine zg ?_; refine z8 (id := 4) ?_; refine z7 (zf rfl rfl rfl) rfl ?_; refine z7 (q7 rfl rfl rfl) rfl ?_; refine z7 (yc L rfl rfl rfl rfl) rfl ?_; refine z7 (qe rfl rfl rfl rfl (decide_eq_false (by omega))) rfl ?_; refine zh ?_; refine zj ?_; refine q8 rfl ?_; refine yi ?_; refine qu ?_; refine qu ?_; refine yh ?_; refine zj ?_; refine zg ?_; refine z8 (id := 9) ?_; refine z7 (q7 rfl rfl rfl) rfl ?_; refine z7 (ya L rfl rfl (zm rfl) rfl rfl rfl SlV.mono (fun u H hH _ _ v1 h3 => rsorted_ret (by omega) hzr hH h3)) rfl ?_; refine z7 (qz rfl rfl rfl) rfl ?_; refine zh ?_; refine zj ?_
    refine qi L (rs := [.tmp 10]) rfl (fun _ _ h => h) Since.refl fun u H hH hle => ?_
    exact fun v hv => hv
set_option maxHeartbeats 4000000 in
theorem rsome_tff {x y : List U} {fx fy : Bool} (hx : x.length ≤ 100000) (hy : y.length ≤ 100000) (zx : ∀ t ∈ x, TZ t) (zy : ∀ t ∈ y, TZ t) {vx vy : Value} {w : World} {B : Heap} (hB : B.Le (hp w)) (hvx : US x fx vx B) (hvy : US y fy vy B) :
    Ret Tryz.prog 52 [vx, vy, .bool true, .bool false, .bool false] w B (US (someT x y true false false) false) := by
  have lx := ups_len x
  have ly := ups_len y
  have px := ups_plain x
  have py := ups_plain y
  refine qx Tryz.func52 rfl Tryz.ntmps52 (Nat.le_of_ble_eq_true rfl) hB ?_
  refine V_seen 0 (US x fx) rfl SlV.mono hvx ?_
  refine V_seen 1 (US y fy) rfl SlV.mono hvy ?_
  refine zg ?_; refine z8 (id := 0) ?_; refine z7 (zi rfl rfl rfl) rfl ?_; refine zh ?_; refine zj ?_; refine zg ?_; refine z8 (id := 1) ?_; refine z7 (zi rfl rfl rfl) rfl ?_; refine zh ?_; refine zj ?_; refine zg ?_
  refine V_nilR 11 tyU 6 rfl ?_
  refine z8 (id := 2) ?_; refine z7 (q7 rfl rfl rfl) rfl ?_; refine z7 (ok_append0 L rfl rfl rfl (apd_V rfl) rfl el50 lx px (by omega) (by omega)) rfl ?_; refine z7 (q7 rfl rfl rfl) rfl ?_; refine qn (ok_append L rfl rfl rfl (apd_V rfl) rfl el50 ly py (by omega) (by omega)) ?_; refine qn (y9 (.inr rfl) rfl rfl rfl rfl) ?_; refine zh ?_; refine zj ?_; refine zg ?_; refine zg ?_
  refine V_pubR 12 (ups_cat rfl) ?_
  have hal : (x ++ y).length ≤ 200000 := by rw [List.length_append]; omega
  have hza : ∀ t ∈ x ++ y, TZ t := fun t ht => (List.mem_append.1 ht).elim (zx t) (zy t)
  unfold someT
  generalize hall : x ++ y = l at hal hza
  refine z8 (id := 3) ?_; refine z7 (zi rfl rfl rfl) rfl ?_; refine zh ?_; refine zj ?_; refine qd ?_
  refine V_loop (fun s : Nat × List U => [(0, .sat (US x fx)), (1, .sat (US y fy)), (2, .is (.bool true)), (3, .is (.bool false)), (4, .is (.bool false)), (11, .own (SlR tyU 6 s.2.length (s.2.flatMap ucs))), (12, .sat (US l false)), (13, .is (.int .i64 s.1))])
    (fun s => s.1 ≤ l.length ∧ s.2.length ≤ s.1 ∧ s.2 = (l.take s.1).filter (pickT x y true false false)) (fun s => l.length - s.1) (0, []) ⟨Nat.zero_le _, Nat.le_refl _, rfl⟩ ⟨rfl, rfl, rfl, rfl, rfl, rfl, rfl, rfl, trivial⟩ ?_
  rintro ⟨i, r⟩ ⟨hi, hrl, hr⟩
  dsimp only at hi hrl hr ⊢
  by_cases hlt : i < l.length
  · obtain ⟨t, ht⟩ := get_some hlt
    have hc := us_at ht
    have hf := filter_snoc ht hr
    by_cases h1 : t ∈ x
    · have e1 : (if t ∈ x then 1 else 0 : Int) = 1 := if_pos h1
      by_cases h2 : t ∈ y
      · have e2 : (if t ∈ y then 1 else 0 : Int) = 1 := if_pos h2
        have hp : (pickT x y true false false) t = false := by simp [pickT, h1, h2]
        rw [hp, if_neg (by decide)] at hf
        refine zg ?_; refine zg ?_; refine z8 (id := 4) ?_; refine z7 (zf rfl rfl rfl) rfl ?_; refine z7 (q7 rfl rfl rfl) rfl ?_; refine z7 (yc L rfl rfl rfl rfl) rfl ?_; refine z7 (qe rfl rfl rfl rfl (decide_eq_true (by omega))) rfl ?_; refine zh ?_; refine zj ?_; refine qa rfl ?_; refine q9 ?_; refine zj ?_; refine zg ?_; refine qd ?_; refine zg ?_; refine qj (id := 6) [] mixed (by kernel_rfl) ?_; refine zd (q7 rfl rfl rfl) rfl ?_; refine zd (q7 rfl rfl rfl) rfl ?_; refine zd (zf rfl rfl rfl) rfl ?_; refine zd (qo L _ rfl rfl rfl rfl rfl rfl rfl (by first | omega | decide) (by assumption)) rfl ?_; refine zd (qt L (vs := [_, _, _, _, _, _]) rfl rfl rfl rfl rfl ⟨_, rfl⟩) rfl ?_; refine zd (q6 L rfl rfl (zm rfl) rfl rfl rfl (fun u H hH _ _ v1 h3 => rin_ret (l := x) (by omega) e1 hH h3)) rfl ?_; refine zd (qp rfl rfl rfl rfl (decide_eq_true (by omega))) rfl ?_; refine zd (q7 rfl rfl rfl) rfl ?_; refine zd (q7 rfl rfl rfl) rfl ?_; refine zd (zf rfl rfl rfl) rfl ?_; refine zd (qo L _ rfl rfl rfl rfl rfl rfl rfl (by first | omega | decide) (by assumption)) rfl ?_; refine zd (qt L (vs := [_, _, _, _, _, _]) rfl rfl rfl rfl rfl ⟨_, rfl⟩) rfl ?_; refine zd (q6 L rfl rfl (zm rfl) rfl rfl rfl (fun u H hH _ _ v1 h3 => rin_ret (l := y) (by omega) e2 hH h3)) rfl ?_; refine zd (qp rfl rfl rfl rfl (decide_eq_true (by omega))) rfl ?_; refine zd (zi rfl rfl rfl) rfl ?_; refine zd (zi rfl rfl rfl) rfl ?_; refine qq ?_; refine zj ?_; refine zg ?_; refine z8 (id := 7) ?_; refine z7 (zf rfl rfl rfl) rfl ?_; refine z7 (zf rfl rfl rfl) rfl ?_; refine z7 (zf rfl rfl rfl) rfl ?_; refine z7 (yk rfl rfl rfl rfl) rfl ?_; refine z7 (zw rfl rfl rfl rfl) rfl ?_; refine z7 (zf rfl rfl rfl) rfl ?_; refine z7 (zn rfl (zm rfl) rfl) rfl ?_; refine z7 (zw rfl rfl rfl rfl) rfl ?_; refine z7 (zf rfl rfl rfl) rfl ?_; refine z7 (zf rfl rfl rfl) rfl ?_; refine z7 (zf rfl rfl rfl) rfl ?_; refine z7 (zf rfl rfl rfl) rfl ?_; refine z7 (zw rfl rfl rfl rfl) rfl ?_; refine z7 (zf rfl rfl rfl) rfl ?_; refine z7 (zf rfl rfl rfl) rfl ?_; refine z7 (zw rfl rfl rfl rfl) rfl ?_; refine z7 (zw rfl rfl rfl rfl) rfl ?_; refine z7 (zf rfl rfl rfl) rfl ?_; refine z7 (zf rfl rfl rfl) rfl ?_; refine z7 (yk rfl rfl rfl rfl) rfl ?_; refine z7 (zf rfl rfl rfl) rfl ?_; refine z7 (zn rfl (zm rfl) rfl) rfl ?_; refine z7 (zw rfl rfl rfl rfl) rfl ?_; refine z7 (zf rfl rfl rfl) rfl ?_; refine z7 (zn rfl (zm rfl) rfl) rfl ?_; refine z7 (zw rfl rfl rfl rfl) rfl ?_; refine z7 (zw rfl rfl rfl rfl) rfl ?_; refine zh ?_; refine zj ?_; refine q8 rfl ?_; refine q9 ?_; refine qr ?_; refine zj ?_; refine z8 (id := 5) ?_; refine z7 (zf rfl rfl rfl) rfl ?_; refine z7 (qy rfl rfl rfl rfl (wrap_i64 (by omega) (by omega))) rfl ?_; refine z7 (zi rfl rfl rfl) rfl ?_; refine zh ?_
        exact y7 (x := (i, r)) (i + 1, r) ⟨hlt, by dsimp only; omega, hf.symm⟩ (by dsimp only; omega) ⟨rfl, rfl, rfl, rfl, rfl, rfl, rfl, rfl, trivial⟩
      · have e2 : (if t ∈ y then 1 else 0 : Int) = 0 := if_neg h2
        have hp : (pickT x y true false false) t = true := by simp [pickT, h1, h2]
        rw [hp, if_pos rfl] at hf
        refine zg ?_; refine zg ?_; refine z8 (id := 4) ?_; refine z7 (zf rfl rfl rfl) rfl ?_; refine z7 (q7 rfl rfl rfl) rfl ?_; refine z7 (yc L rfl rfl rfl rfl) rfl ?_; refine z7 (qe rfl rfl rfl rfl (decide_eq_true (by omega))) rfl ?_; refine zh ?_; refine zj ?_; refine qa rfl ?_; refine q9 ?_; refine zj ?_; refine zg ?_; refine qd ?_; refine zg ?_; refine qj (id := 6) [] mixed (by kernel_rfl) ?_; refine zd (q7 rfl rfl rfl) rfl ?_; refine zd (q7 rfl rfl rfl) rfl ?_; refine zd (zf rfl rfl rfl) rfl ?_; refine zd (qo L _ rfl rfl rfl rfl rfl rfl rfl (by first | omega | decide) (by assumption)) rfl ?_; refine zd (qt L (vs := [_, _, _, _, _, _]) rfl rfl rfl rfl rfl ⟨_, rfl⟩) rfl ?_; refine zd (q6 L rfl rfl (zm rfl) rfl rfl rfl (fun u H hH _ _ v1 h3 => rin_ret (l := x) (by omega) e1 hH h3)) rfl ?_; refine zd (qp rfl rfl rfl rfl (decide_eq_true (by omega))) rfl ?_; refine zd (q7 rfl rfl rfl) rfl ?_; refine zd (q7 rfl rfl rfl) rfl ?_; refine zd (zf rfl rfl rfl) rfl ?_; refine zd (qo L _ rfl rfl rfl rfl rfl rfl rfl (by first | omega | decide) (by assumption)) rfl ?_; refine zd (qt L (vs := [_, _, _, _, _, _]) rfl rfl rfl rfl rfl ⟨_, rfl⟩) rfl ?_; refine zd (q6 L rfl rfl (zm rfl) rfl rfl rfl (fun u H hH _ _ v1 h3 => rin_ret (l := y) (by omega) e2 hH h3)) rfl ?_; refine zd (qp rfl rfl rfl rfl (decide_eq_false (by omega))) rfl ?_; refine zd (zi rfl rfl rfl) rfl ?_; refine zd (zi rfl rfl rfl) rfl ?_; refine qq ?_; refine zj ?_; refine zg ?_; refine z8 (id := 7) ?_; refine z7 (zf rfl rfl rfl) rfl ?_; refine z7 (zf rfl rfl rfl) rfl ?_; refine z7 (zf rfl rfl rfl) rfl ?_; refine z7 (yk rfl rfl rfl rfl) rfl ?_; refine z7 (zw rfl rfl rfl rfl) rfl ?_; refine z7 (zf rfl rfl rfl) rfl ?_; refine z7 (zf rfl rfl rfl) rfl ?_; refine z7 (zw rfl rfl rfl rfl) rfl ?_; refine z7 (zf rfl rfl rfl) rfl ?_; refine z7 (zn rfl (zm rfl) rfl) rfl ?_; refine z7 (zn rfl (zm rfl) rfl) rfl ?_; refine z7 (zn rfl (zm rfl) rfl) rfl ?_; refine z7 (zn rfl (zm rfl) rfl) rfl ?_; refine z7 (zn rfl (zm rfl) rfl) rfl ?_; refine z7 (zn rfl (zm rfl) rfl) rfl ?_; refine z7 (zn rfl (zm rfl) rfl) rfl ?_; refine z7 (zw rfl rfl rfl rfl) rfl ?_; refine z7 (zf rfl rfl rfl) rfl ?_; refine z7 (zn rfl (zm rfl) rfl) rfl ?_; refine z7 (zn rfl (zm rfl) rfl) rfl ?_; refine z7 (zn rfl (zm rfl) rfl) rfl ?_; refine z7 (zn rfl (zm rfl) rfl) rfl ?_; refine z7 (zn rfl (zm rfl) rfl) rfl ?_; refine z7 (zn rfl (zm rfl) rfl) rfl ?_; refine z7 (zn rfl (zm rfl) rfl) rfl ?_; refine z7 (zn rfl (zm rfl) rfl) rfl ?_; refine z7 (zw rfl rfl rfl rfl) rfl ?_; refine zh ?_; refine zj ?_; refine qa rfl ?_; refine z8 (id := 8) ?_; refine qn (y9 (.inl rfl) rfl rfl rfl rfl) ?_; refine z7 (q7 rfl rfl rfl) rfl ?_; refine z7 (zf rfl rfl rfl) rfl ?_; refine z7 (qo L _ rfl rfl rfl rfl rfl rfl rfl (by first | omega | decide) (by assumption)) rfl ?_; refine z7 (qt L (vs := [_, _, _, _, _, _]) rfl rfl rfl rfl rfl ⟨_, rfl⟩) rfl ?_; refine z7 (qw L rfl rfl rfl rfl rfl rfl rfl rfl rfl) rfl ?_; refine qn (ok_append L rfl rfl rfl (apd_B rfl) rfl el50 rfl rfl (by omega) (by omega)) ?_; refine qn (y9 (.inr rfl) rfl rfl rfl rfl) ?_; refine zh ?_; refine qr ?_; refine zj ?_; refine z8 (id := 5) ?_; refine z7 (zf rfl rfl rfl) rfl ?_; refine z7 (qy rfl rfl rfl rfl (wrap_i64 (by omega) (by omega))) rfl ?_; refine z7 (zi rfl rfl rfl) rfl ?_; refine zh ?_
        exact y7 (x := (i, r)) (i + 1, r ++ [t]) ⟨hlt, by dsimp only; rw [List.length_append, List.length_singleton]; omega, hf.symm⟩ (by dsimp only; omega) ⟨rfl, rfl, rfl, rfl, rfl, ups_snoc rfl, rfl, rfl, trivial⟩
    · have e1 : (if t ∈ x then 1 else 0 : Int) = 0 := if_neg h1
      by_cases h2 : t ∈ y
      · have e2 : (if t ∈ y then 1 else 0 : Int) = 1 := if_pos h2
        have hp : (pickT x y true false false) t = false := by simp [pickT, h1, h2]
        rw [hp, if_neg (by decide)] at hf
        refine zg ?_; refine zg ?_; refine z8 (id := 4) ?_; refine z7 (zf rfl rfl rfl) rfl ?_; refine z7 (q7 rfl rfl rfl) rfl ?_; refine z7 (yc L rfl rfl rfl rfl) rfl ?_; refine z7 (qe rfl rfl rfl rfl (decide_eq_true (by omega))) rfl ?_; refine zh ?_; refine zj ?_; refine qa rfl ?_; refine q9 ?_; refine zj ?_; refine zg ?_; refine qd ?_; refine zg ?_; refine qj (id := 6) [] mixed (by kernel_rfl) ?_; refine zd (q7 rfl rfl rfl) rfl ?_; refine zd (q7 rfl rfl rfl) rfl ?_; refine zd (zf rfl rfl rfl) rfl ?_; refine zd (qo L _ rfl rfl rfl rfl rfl rfl rfl (by first | omega | decide) (by assumption)) rfl ?_; refine zd (qt L (vs := [_, _, _, _, _, _]) rfl rfl rfl rfl rfl ⟨_, rfl⟩) rfl ?_; refine zd (q6 L rfl rfl (zm rfl) rfl rfl rfl (fun u H hH _ _ v1 h3 => rin_ret (l := x) (by omega) e1 hH h3)) rfl ?_; refine zd (qp rfl rfl rfl rfl (decide_eq_false (by omega))) rfl ?_; refine zd (q7 rfl rfl rfl) rfl ?_; refine zd (q7 rfl rfl rfl) rfl ?_; refine zd (zf rfl rfl rfl) rfl ?_; refine zd (qo L _ rfl rfl rfl rfl rfl rfl rfl (by first | omega | decide) (by assumption)) rfl ?_; refine zd (qt L (vs := [_, _, _, _, _, _]) rfl rfl rfl rfl rfl ⟨_, rfl⟩) rfl ?_; refine zd (q6 L rfl rfl (zm rfl) rfl rfl rfl (fun u H hH _ _ v1 h3 => rin_ret (l := y) (by omega) e2 hH h3)) rfl ?_; refine zd (qp rfl rfl rfl rfl (decide_eq_true (by omega))) rfl ?_; refine zd (zi rfl rfl rfl) rfl ?_; refine zd (zi rfl rfl rfl) rfl ?_; refine qq ?_; refine zj ?_; refine zg ?_; refine z8 (id := 7) ?_; refine z7 (zf rfl rfl rfl) rfl ?_; refine z7 (zf rfl rfl rfl) rfl ?_; refine z7 (zn rfl (zm rfl) rfl) rfl ?_; refine z7 (zn rfl (zm rfl) rfl) rfl ?_; refine z7 (zw rfl rfl rfl rfl) rfl ?_; refine z7 (zf rfl rfl rfl) rfl ?_; refine z7 (zn rfl (zm rfl) rfl) rfl ?_; refine z7 (zw rfl rfl rfl rfl) rfl ?_; refine z7 (zf rfl rfl rfl) rfl ?_; refine z7 (zf rfl rfl rfl) rfl ?_; refine z7 (zf rfl rfl rfl) rfl ?_; refine z7 (zn rfl (zm rfl) rfl) rfl ?_; refine z7 (zw rfl rfl rfl rfl) rfl ?_; refine z7 (zf rfl rfl rfl) rfl ?_; refine z7 (zn rfl (zm rfl) rfl) rfl ?_; refine z7 (zw rfl rfl rfl rfl) rfl ?_; refine z7 (zw rfl rfl rfl rfl) rfl ?_; refine z7 (zf rfl rfl rfl) rfl ?_; refine z7 (zf rfl rfl rfl) rfl ?_; refine z7 (yk rfl rfl rfl rfl) rfl ?_; refine z7 (zf rfl rfl rfl) rfl ?_; refine z7 (zf rfl rfl rfl) rfl ?_; refine z7 (zw rfl rfl rfl rfl) rfl ?_; refine z7 (zf rfl rfl rfl) rfl ?_; refine z7 (zf rfl rfl rfl) rfl ?_; refine z7 (zw rfl rfl rfl rfl) rfl ?_; refine z7 (zw rfl rfl rfl rfl) rfl ?_; refine zh ?_; refine zj ?_; refine q8 rfl ?_; refine q9 ?_; refine qr ?_; refine zj ?_; refine z8 (id := 5) ?_; refine z7 (zf rfl rfl rfl) rfl ?_; refine z7 (qy rfl rfl rfl rfl (wrap_i64 (by omega) (by omega))) rfl ?_; refine z7 (zi rfl rfl rfl) rfl ?_; refine zh ?_
        exact y7 (x := (i, r)) (i + 1, r) ⟨hlt, by dsimp only; omega, hf.symm⟩ (by dsimp only; omega) ⟨rfl, rfl, rfl, rfl, rfl, rfl, rfl, rfl, trivial⟩
      · have e2 : (if t ∈ y then 1 else 0 : Int) = 0 := if_neg h2
        have hp : (pickT x y true false false) t = false := by simp [pickT, h1, h2]
        rw [hp, if_neg (by decide)] at hf
        refine zg ?_; refine zg ?_; refine z8 (id := 4) ?_; refine z7 (zf rfl rfl rfl) rfl ?_; refine z7 (q7 rfl rfl rfl) rfl ?_; refine z7 (yc L rfl rfl rfl rfl) rfl ?_; refine z7 (qe rfl rfl rfl rfl (decide_eq_true (by omega))) rfl ?_; refine zh ?_; refine zj ?_; refine qa rfl ?_; refine q9 ?_; refine zj ?_; refine zg ?_; refine qd ?_; refine zg ?_; refine qj (id := 6) [] mixed (by kernel_rfl) ?_; refine zd (q7 rfl rfl rfl) rfl ?_; refine zd (q7 rfl rfl rfl) rfl ?_; refine zd (zf rfl rfl rfl) rfl ?_; refine zd (qo L _ rfl rfl rfl rfl rfl rfl rfl (by first | omega | decide) (by assumption)) rfl ?_; refine zd (qt L (vs := [_, _, _, _, _, _]) rfl rfl rfl rfl rfl ⟨_, rfl⟩) rfl ?_; refine zd (q6 L rfl rfl (zm rfl) rfl rfl rfl (fun u H hH _ _ v1 h3 => rin_ret (l := x) (by omega) e1 hH h3)) rfl ?_; refine zd (qp rfl rfl rfl rfl (decide_eq_false (by omega))) rfl ?_; refine zd (q7 rfl rfl rfl) rfl ?_; refine zd (q7 rfl rfl rfl) rfl ?_; refine zd (zf rfl rfl rfl) rfl ?_; refine zd (qo L _ rfl rfl rfl rfl rfl rfl rfl (by first | omega | decide) (by assumption)) rfl ?_; refine zd (qt L (vs := [_, _, _, _, _, _]) rfl rfl rfl rfl rfl ⟨_, rfl⟩) rfl ?_; refine zd (q6 L rfl rfl (zm rfl) rfl rfl rfl (fun u H hH _ _ v1 h3 => rin_ret (l := y) (by omega) e2 hH h3)) rfl ?_; refine zd (qp rfl rfl rfl rfl (decide_eq_false (by omega))) rfl ?_; refine zd (zi rfl rfl rfl) rfl ?_; refine zd (zi rfl rfl rfl) rfl ?_; refine qq ?_; refine zj ?_; refine zg ?_; refine z8 (id := 7) ?_; refine z7 (zf rfl rfl rfl) rfl ?_; refine z7 (zf rfl rfl rfl) rfl ?_; refine z7 (zn rfl (zm rfl) rfl) rfl ?_; refine z7 (zn rfl (zm rfl) rfl) rfl ?_; refine z7 (zw rfl rfl rfl rfl) rfl ?_; refine z7 (zf rfl rfl rfl) rfl ?_; refine z7 (zn rfl (zm rfl) rfl) rfl ?_; refine z7 (zw rfl rfl rfl rfl) rfl ?_; refine z7 (zf rfl rfl rfl) rfl ?_; refine z7 (zf rfl rfl rfl) rfl ?_; refine z7 (zf rfl rfl rfl) rfl ?_; refine z7 (zn rfl (zm rfl) rfl) rfl ?_; refine z7 (zw rfl rfl rfl rfl) rfl ?_; refine z7 (zf rfl rfl rfl) rfl ?_; refine z7 (zn rfl (zm rfl) rfl) rfl ?_; refine z7 (zw rfl rfl rfl rfl) rfl ?_; refine z7 (zw rfl rfl rfl rfl) rfl ?_; refine z7 (zf rfl rfl rfl) rfl ?_; refine z7 (zf rfl rfl rfl) rfl ?_; refine z7 (yk rfl rfl rfl rfl) rfl ?_; refine z7 (zf rfl rfl rfl) rfl ?_; refine z7 (zf rfl rfl rfl) rfl ?_; refine z7 (zw rfl rfl rfl rfl) rfl ?_; refine z7 (zf rfl rfl rfl) rfl ?_; refine z7 (zn rfl (zm rfl) rfl) rfl ?_; refine z7 (zw rfl rfl rfl rfl) rfl ?_; refine z7 (zw rfl rfl rfl rfl) rfl ?_; refine zh ?_; refine zj ?_; refine q8 rfl ?_; refine q9 ?_; refine qr ?_; refine zj ?_; refine z8 (id := 5) ?_; refine z7 (zf rfl rfl rfl) rfl ?_; refine z7 (qy rfl rfl rfl rfl (wrap_i64 (by omega) (by omega))) rfl ?_; refine z7 (zi rfl rfl rfl) rfl ?_; refine zh ?_
        exact y7 (x := (i, r)) (i + 1, r) ⟨hlt, by dsimp only; omega, hf.symm⟩ (by dsimp only; omega) ⟨rfl, rfl, rfl, rfl, rfl, rfl, rfl, rfl, trivial⟩
  · obtain rfl : i = l.length := by omega
    rw [List.take_length] at hr
    have hzr : ∀ t ∈ r, TZ t := fun t h => hza t (List.mem_filter.1 (by rw [← hr]; exact h)).1
    rw [← hr]
    refine V_pubR 11 rfl ?_
    refine zg ?_; refine zg ?_; refine z8 (id := 4) ?_; refine z7 (zf rfl rfl rfl) rfl ?_; refine z7 (q7 rfl rfl rfl) rfl ?_; refine z7 (yc L rfl rfl rfl rfl) rfl ?_; refine z7 (qe rfl rfl rfl rfl (decide_eq_false (by omega))) rfl ?_; refine zh ?_; refine zj ?_; refine q8 rfl ?_; refine yi ?_; refine qu ?_; refine qu ?_; refine yh ?_; refine zj ?_; refine zg ?_; refine z8 (id := 9) ?_; refine z7 (q7 rfl rfl rfl) rfl ?_; refine z7 (ya L rfl rfl (zm rfl) rfl rfl rfl SlV.mono (fun u H hH _ _ v1 h3 => rsorted_ret (by omega) hzr hH h3)) rfl ?_; refine z7 (qz rfl rfl rfl) rfl ?_; refine zh ?_; refine zj ?_
    refine qi L (rs := [.tmp 10]) rfl (fun _ _ h => h) Since.refl fun u H hH hle => ?_
    exact fun v hv => hv
end Go.V.L2
namespace Go.V.L6
open Go.Proofs Go.RowKit Go.V Go.V.L2 Go.V.L3
theorem flat_keys (N : List (U × Unit)) : UT.flat N = (kS N).flatMap ucs := by
  unfold UT.flat kS
  rw [List.flatMap_map]
  rfl
theorem rangeL_nat {t : Tr U Unit} {r k : Nat} (hk : k ≤ t.size) : kS (UT.rangeL t (r : Int) (k : Int)) = ((kS t.list).take k).drop r := by
  unfold UT.rangeL
  have h0 : max (r : Int) 0 = (r : Int) := by omega
  have h1 : min (k : Int) (t.size : Int) = (k : Int) := by omega
  rw [h0, h1]
  by_cases h : (r : Int) ≥ k
  · rw [if_pos h, List.drop_eq_nil_of_le (by rw [List.length_take]; omega)]
    rfl
  · rw [if_neg h, Tr.prs_list]
    have := cutI_nat r k t.list 0
    rw [show ((0 : Nat) : Int) = 0 from rfl] at this
    rw [this, Nat.sub_zero, Nat.sub_zero]
    unfold kS
    rw [List.map_drop, List.map_take]
attribute [local irreducible] V N X VO Par StepOK Has Ret RetL RetO Src
set_option maxHeartbeats 1000000 in
theorem ilist_retO {fv : Value} {p : Option Addr} {t : Tr U Unit} {f e : Int} {M : List U} (hM : kS (UT.rangeL t f e) = M) (hs : t.size ≤ 100000) {w : World} {B : Heap} (hB : B.Le (hp w)) (ht : UT.TA t (.pointer p) B) :
    RetO Tryz.prog 59 [.agg #[fv, .pointer p], .int .i64 f, .int .i64 e] w B (SlE tyU 6 M.length (M.flatMap ucs)) := by
  obtain ⟨N, hN⟩ : ∃ N, UT.rangeL t f e = N := ⟨_, rfl⟩
  rw [hN] at hM
  have hfl := flat_keys N
  have hNM : N.length = M.length := by rw [← hM]; simp
  have hlen : M.length ≤ 100000 := by
    rw [← hNM, ← hN]
    unfold UT.rangeL
    split
    · exact Nat.zero_le _
    · exact Nat.le_trans (Tr.prs_length_le _ _ _ _) hs
  have hat : ∀ {k : Nat} {g : U}, M[k]? = some g → ((UT.flat N).drop (k * 6)).take 6 = [.string g.1.1.1, .string g.1.1.2, .string g.1.2, .string g.2.1.1, .string g.2.1.2, .string g.2.2] := fun {k g} h => by
    rw [hfl, hM]; exact us_at h
  clear hM hfl
  refine V_enterO Tryz.func59 rfl Tryz.ntmps59 (Nat.le_of_ble_eq_true rfl) hB ?_
  refine zg ?_; refine z8 (id := 0) ?_; refine z7 (qf rfl rfl rfl rfl) rfl ?_; refine z7 (zi rfl rfl rfl) rfl ?_; refine zh ?_; refine zj ?_; refine zg ?_; refine z8 (id := 1) ?_; refine z7 (zk L rfl rfl rfl rfl) rfl ?_; refine z7 (zz L (vs := [_, _]) (zq rfl) rfl rfl rfl rfl ⟨_, rfl⟩) rfl ?_; refine z7 (zf rfl rfl rfl) rfl ?_; refine z7 (zf rfl rfl rfl) rfl ?_; refine z7 (ya (φ := UT.PS N true) L rfl rfl (zm rfl) rfl rfl rfl UT.PS.mono (fun u H hH hle _ => UT.range_m _ _ hH (⟨_, rfl, ht.le hle⟩) (by omega) hN)) rfl ?_; refine z7 (qz rfl rfl rfl) rfl ?_; refine zh ?_; refine zj ?_; refine zg ?_; refine z8 (id := 2) ?_; refine z7 (q7 rfl rfl rfl) rfl ?_; refine z7 (yc L rfl rfl rfl rfl) rfl ?_; refine z7 (ok_makeN L _ rfl rfl rfl el50 rfl rfl rfl rfl (by omega) (by simp only [maxLen]; omega)) rfl ?_; refine qn (y9 (.inr rfl) rfl rfl rfl rfl) ?_; refine zh ?_; refine zj ?_; refine zg ?_; refine zg ?_; refine z8 (id := 3) ?_; refine z7 (q7 rfl rfl rfl) rfl ?_; refine z7 (yc L rfl rfl rfl rfl) rfl ?_; refine z7 (zf rfl rfl rfl) rfl ?_; refine zh ?_; refine zj ?_; refine qd ?_
  have hzl := zsL_length (P := Tryz.prog) (k := N.length * 6) el50
  generalize zsL Tryz.prog tyU (N.length * 6) = zs0 at hzl
  rw [hNM] at hzl ⊢
  refine V_loop (fun s : Nat × List Value => [(7, .sat (UT.PS N true)), (8, .own (SlE tyU 6 M.length ((M.take s.1).flatMap ucs ++ s.2))), (19, .is (.int .i64 M.length)), (20, .is (.int .i64 s.1))])
    (fun s => s.1 ≤ M.length ∧ s.2.length = (M.length - s.1) * 6) (fun s => M.length - s.1) (0, zs0) ⟨Nat.zero_le _, hzl⟩ ⟨rfl, rfl, rfl, rfl, trivial⟩ ?_
  rintro ⟨k, zs⟩ ⟨hk, hz⟩
  dsimp only at hk hz ⊢
  by_cases hlt : k < M.length
  · obtain ⟨g, hg⟩ := get_some hlt
    have hc := hat hg
    have hlN : k < N.length := by omega
    have ht1 : M.take (k + 1) = M.take k ++ [g] := by rw [List.take_add_one, hg]; rfl
    have hr : List.take (0 + k * 6) ((M.take k).flatMap ucs ++ zs) ++ (ucs g ++ List.drop (0 + k * 6 + 6) ((M.take k).flatMap ucs ++ zs)) = (M.take (k + 1)).flatMap ucs ++ zs.drop 6 := by
      rw [ht1, Nat.zero_add]
      exact set_at ucs_len (M.take k) k M.length zs g (by rw [List.length_take]; omega) hz hlt
    have hlen' : ((M.take (k + 1)).flatMap ucs ++ zs.drop 6).length = M.length * 6 := by
      rw [List.length_append, ups_len, List.length_take, List.length_drop, hz]; omega
    refine V_boxE 8 (by omega) rfl fun b hb => ?_
    have hle1 : 0 + k * 6 + 6 ≤ ((M.take k).flatMap ucs ++ zs).length := by rw [hb.1]; omega
    refine zg ?_; refine z8 (id := 4) ?_; refine z7 (qe rfl rfl rfl rfl (decide_eq_true (by omega))) rfl ?_; refine zh ?_; refine zj ?_; refine zg ?_; refine qa rfl ?_; refine q9 ?_; refine zj ?_; refine zg ?_; refine qd ?_; refine zg ?_; refine z8 (id := 5) ?_; refine z7 (zf rfl rfl rfl) rfl ?_; refine z7 (zi rfl rfl rfl) rfl ?_; refine zh ?_; refine zj ?_; refine z8 (id := 6) ?_; refine z7 (zf rfl rfl rfl) rfl ?_; refine z7 (zf rfl rfl rfl) rfl ?_; refine z7 (q7 rfl rfl rfl) rfl ?_; refine z7 (zf rfl rfl rfl) rfl ?_; refine z7 (qo L _ rfl rfl rfl rfl rfl rfl rfl (by first | omega | decide) (by assumption)) rfl ?_; refine z7 (ok_fieldAP L rfl rfl rfl rfl) rfl ?_; refine z7 (qt L (vs := [_, _, _, _, _, _]) rfl rfl rfl rfl rfl ⟨_, rfl⟩) rfl ?_; refine z7 (ok_indexAt L _ rfl rfl rfl rfl rfl rfl rfl (by omega)) rfl ?_; refine box_store L (O1 := []) (cs' := (M.take (k + 1)).flatMap ucs ++ zs.drop 6) rfl rfl rfl rfl rfl rfl (Nat.ble_eq_true_of_le hle1) rfl hr ?_; refine zh ?_; refine qr ?_; refine zj ?_
    refine V_unboxE (s := 6) 8 [] rfl rfl hlen' hb.2 ?_
    refine z8 (id := 7) ?_; refine z7 (qy rfl rfl rfl rfl (wrap_i64 (by omega) (by omega))) rfl ?_; refine z7 (zf rfl rfl rfl) rfl ?_; refine zh ?_
    exact y7 (x := (k, zs)) (k + 1, zs.drop 6) ⟨hlt, by dsimp only; rw [List.length_drop, hz]; omega⟩ (by dsimp only; omega) ⟨rfl, rfl, rfl, rfl, trivial⟩
  · obtain rfl : k = M.length := by omega
    have hzn : zs = [] := List.eq_nil_of_length_eq_zero (by rw [hz]; omega)
    rw [hzn, List.append_nil, List.take_length]
    refine zg ?_; refine z8 (id := 4) ?_; refine z7 (qe rfl rfl rfl rfl (decide_eq_false (by omega))) rfl ?_; refine zh ?_; refine zj ?_; refine zg ?_; refine q8 rfl ?_; refine yi ?_; refine qu ?_; refine qu ?_; refine yh ?_; refine zj ?_; refine zg ?_; refine z8 (id := 8) ?_; refine qn (y9 (.inl rfl) rfl rfl rfl rfl) ?_; refine qn (y9 (.inr rfl) rfl rfl rfl rfl) ?_; refine zh ?_; refine zj ?_
    exact V_retO rfl (fun _ _ h => h) Since.refl rfl
end Go.V.L6
