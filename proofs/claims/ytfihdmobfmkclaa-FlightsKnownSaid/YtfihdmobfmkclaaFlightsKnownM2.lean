/- Texts on the way to FlightsKnown, part 2: one behind another. -/
import Derived.Test.YtfihdmobfmkclaaFlightsKnownM1
import Derived.Shelf.SlSortCmp.NoneTotal
import Derived.Lib.AppendZeros
import Derived.Laws.RangeString
import Derived.Laws.Runes
import Derived.Scope
import Derived.Shelf.Small.Bits
import Derived.Shelf.Small.Wraps
import Derived.Shelf.Strconv.Itoa0
import Derived.Test.YtfihdmobfmkclaaProg
import Derived.Shelf.Small.Strs
set_option linter.unusedVariables false
set_option linter.unusedSimpArgs false
namespace Go.V
open Go.Proofs Go.RowKit
section
variable {P : Program} {F : Fr} {B : Heap} {n : Nat} {O : Boxes} {ops : Array Oper} {ex : Exs} {κ : Kap} {Q : Exit → Act → World → Prop} {o : Oper} {os : List Oper} {d : Nat} {k : Kn}
theorem _root_.Go.V.Zs1 (h : VO P F B n O ops (upd κ d k) os Q) (s : StepOK P F B n ops O κ o d k := by exact za rfl rfl rfl) (v : vd o = some d := by rfl) : VO P F B n O ops κ (o :: os) Q := z7 s v h
theorem _root_.Go.V.Zs2 (h : VO P F B n O ops (upd κ d k) os Q) (s : StepOK P F B n ops O κ o d k := by exact zc rfl rfl rfl) (v : vd o = some d := by rfl) : VO P F B n O ops κ (o :: os) Q := z7 s v h
theorem _root_.Go.V.Zs3 (h : VO P F B n O ops (upd κ d k) os Q) (s : StepOK P F B n ops O κ o d k := by exact zh rfl (zg rfl) rfl) (v : vd o = some d := by rfl) : VO P F B n O ops κ (o :: os) Q := z7 s v h
theorem _root_.Go.V.Zs6 (h : VO P F B n O ops (upd κ d k) os Q) (s : StepOK P F B n ops O κ o d k := by exact zk rfl rfl rfl rfl) (v : vd o = some d := by rfl) : VO P F B n O ops κ (o :: os) Q := z7 s v h
theorem _root_.Go.V.Zs8 (h : VO P F B n O ops (upd κ d k) os Q) (s : StepOK P F B n ops O κ o d k := by exact zu rfl rfl rfl rfl (decide_eq_false (by omega))) (v : vd o = some d := by rfl) : VO P F B n O ops κ (o :: os) Q := z7 s v h
theorem _root_.Go.V.Zs11 (h : VO P F B n O ops (upd κ d k) os Q) (s : StepOK P F B n ops O κ o d k := by exact zu rfl rfl rfl rfl (decide_eq_true (by omega))) (v : vd o = some d := by rfl) : VO P F B n O ops κ (o :: os) Q := z7 s v h
theorem _root_.Go.V.Zs13 (h : VO P F B n O ops (upd κ d k) os Q) (s : StepOK P F B n ops O κ o d k := by exact qd rfl rfl rfl rfl (wrap_i64 (by omega) (by omega))) (v : vd o = some d := by rfl) : VO P F B n O ops κ (o :: os) Q := z7 s v h
theorem _root_.Go.V.Zs16 (h : VO P F B n O ops (upd κ d k) os Q) (s : StepOK P F B n ops O κ o d k := by exact qv rfl rfl rfl rfl (decide_eq_false (by omega))) (v : vd o = some d := by rfl) : VO P F B n O ops κ (o :: os) Q := z7 s v h
theorem _root_.Go.V.Zs23 (h : VO P F B n O ops (upd κ d k) os Q) (s : StepOK P F B n ops O κ o d k := by exact qv rfl rfl rfl rfl (decide_eq_true (by omega))) (v : vd o = some d := by rfl) : VO P F B n O ops κ (o :: os) Q := z7 s v h
theorem _root_.Go.V.Zs42 (h : VO P F B n O ops (upd κ d k) os Q) (s : StepOK P F B n ops O κ o d k := by exact ok_indexS L rfl rfl rfl rfl rfl (by assumption)) (v : vd o = some d := by rfl) : VO P F B n O ops κ (o :: os) Q := z7 s v h
theorem _root_.Go.V.Zs59 (h : VO P F B n O ops (upd κ d k) os Q) (s : StepOK P F B n ops O κ o d k := by exact ok_lenS L rfl rfl rfl rfl) (v : vd o = some d := by rfl) : VO P F B n O ops κ (o :: os) Q := z7 s v h
end
attribute [local irreducible] V N X VO Par StepOK Has Ret RetL Src
set_option maxHeartbeats 400000 in
theorem check_ret (s : ByteArray) (hs : s.size ≤ 9223372036854775807) {w : World} {B : Heap} (hB : B.Le (hp w)) :
    Ret Try.prog 104 [.string s] w B (fun v _ => v = .int .i64 (chk s)) := by
  refine ya Try.func104 rfl Try.ntmps104 (Nat.le_of_ble_eq_true rfl) hB ?_
  by_cases h1 : 1 ≤ s.size
  · by_cases h2 : s.size ≤ 16
    · refine ze ?_; refine zb (id := 0) ?_; refine Zs2 ?_; refine zd ?_; refine zf ?_; refine ze ?_; refine ze ?_; refine zb (id := 1) ?_; refine Zs1 ?_; refine Zs59 ?_; refine Zs8 ?_; refine Zs1 ?_; refine Zs1 ?_; refine Zs59 ?_; refine Zs16 ?_; refine Zs6 ?_; refine zd ?_; refine zf ?_; refine zm rfl ?_; refine zt ?_; refine zf ?_; refine ze ?_; refine ze ?_; refine zb (id := 3) ?_; refine Zs1 ?_; refine Zs59 ?_; refine Zs1 ?_; refine zd ?_; refine zf ?_; refine zy ?_
      refine V_loop (fun k : Nat => [(0, .is (.string s)), (13, .is (.int .i64 s.size)), (14, .is (.int .i64 k))])
        (fun k => k ≤ s.size ∧ (s.data.toList.take k).all okB = true) (fun k => s.size - k) 0 ⟨Nat.zero_le _, by simp⟩ ⟨rfl, rfl, rfl, trivial⟩ ?_
      rintro k ⟨hk, hall⟩
      by_cases hlt : k < s.size
      · obtain ⟨c, hc⟩ := getElem?_lt hlt
        have hu := u8_lt c
        by_cases a1 : (c.toNat : Int) < 97
        · by_cases a2 : (c.toNat : Int) < 48
          · refine ze ?_; refine zb (id := 4) ?_; refine Zs11 ?_; refine zd ?_; refine zf ?_; refine ze ?_; refine zw rfl ?_; refine zt ?_; refine zf ?_; refine ze ?_; refine zy ?_; refine ze ?_; refine zb (id := 5) ?_; refine Zs1 ?_; refine Zs2 ?_; refine zd ?_; refine zf ?_; refine ze ?_; refine zb (id := 6) ?_; refine Zs1 ?_; refine Zs1 ?_; refine Zs42 ?_; refine Zs11 ?_; refine Zs1 ?_; refine Zs3 ?_; refine Zs3 ?_; refine Zs3 ?_; refine Zs3 ?_; refine Zs6 ?_; refine Zs1 ?_; refine Zs1 ?_; refine Zs1 ?_; refine Zs42 ?_; refine Zs11 ?_; refine Zs1 ?_; refine Zs3 ?_; refine Zs3 ?_; refine Zs3 ?_; refine Zs3 ?_; refine Zs6 ?_; refine Zs6 ?_; refine zd ?_; refine zf ?_; refine zw rfl ?_; refine ze ?_; refine zb (id := 7) ?_; refine Zs2 ?_; refine zd ?_; refine zf ?_
            refine qn L (rs := [.tmp 2]) rfl (fun _ _ h => h) Since.refl fun u H hH hle => ?_
            exact congrArg _ (chk_at hc (okB_1 a1 a2)).symm
          · by_cases a3 : 57 < (c.toNat : Int)
            · refine ze ?_; refine zb (id := 4) ?_; refine Zs11 ?_; refine zd ?_; refine zf ?_; refine ze ?_; refine zw rfl ?_; refine zt ?_; refine zf ?_; refine ze ?_; refine zy ?_; refine ze ?_; refine zb (id := 5) ?_; refine Zs1 ?_; refine Zs2 ?_; refine zd ?_; refine zf ?_; refine ze ?_; refine zb (id := 6) ?_; refine Zs1 ?_; refine Zs1 ?_; refine Zs42 ?_; refine Zs11 ?_; refine Zs1 ?_; refine Zs3 ?_; refine Zs3 ?_; refine Zs3 ?_; refine Zs3 ?_; refine Zs6 ?_; refine Zs1 ?_; refine Zs1 ?_; refine Zs1 ?_; refine Zs42 ?_; refine Zs8 ?_; refine Zs1 ?_; refine Zs1 ?_; refine Zs1 ?_; refine Zs42 ?_; refine Zs23 ?_; refine Zs6 ?_; refine Zs6 ?_; refine zd ?_; refine zf ?_; refine zw rfl ?_; refine ze ?_; refine zb (id := 7) ?_; refine Zs2 ?_; refine zd ?_; refine zf ?_
              refine qn L (rs := [.tmp 2]) rfl (fun _ _ h => h) Since.refl fun u H hH hle => ?_
              exact congrArg _ (chk_at hc (okB_2 a1 a3)).symm
            · refine ze ?_; refine zb (id := 4) ?_; refine Zs11 ?_; refine zd ?_; refine zf ?_; refine ze ?_; refine zw rfl ?_; refine zt ?_; refine zf ?_; refine ze ?_; refine zy ?_; refine ze ?_; refine zb (id := 5) ?_; refine Zs1 ?_; refine Zs2 ?_; refine zd ?_; refine zf ?_; refine ze ?_; refine zb (id := 6) ?_; refine Zs1 ?_; refine Zs1 ?_; refine Zs42 ?_; refine Zs11 ?_; refine Zs1 ?_; refine Zs3 ?_; refine Zs3 ?_; refine Zs3 ?_; refine Zs3 ?_; refine Zs6 ?_; refine Zs1 ?_; refine Zs1 ?_; refine Zs1 ?_; refine Zs42 ?_; refine Zs8 ?_; refine Zs1 ?_; refine Zs1 ?_; refine Zs1 ?_; refine Zs42 ?_; refine Zs16 ?_; refine Zs6 ?_; refine Zs6 ?_; refine zd ?_; refine zf ?_; refine zm rfl ?_; refine zt ?_; refine qm ?_; refine zf ?_; refine zb (id := 8) ?_; refine Zs13 ?_; refine Zs1 ?_; refine zd ?_
              refine y1 (k + 1) ⟨hlt, take_all hc (okB_5 a2 a3) hall⟩ (by omega) ⟨rfl, rfl, rfl, trivial⟩
        · by_cases a4 : 122 < (c.toNat : Int)
          · have a5 : 57 < (c.toNat : Int) := by omega
            refine ze ?_; refine zb (id := 4) ?_; refine Zs11 ?_; refine zd ?_; refine zf ?_; refine ze ?_; refine zw rfl ?_; refine zt ?_; refine zf ?_; refine ze ?_; refine zy ?_; refine ze ?_; refine zb (id := 5) ?_; refine Zs1 ?_; refine Zs2 ?_; refine zd ?_; refine zf ?_; refine ze ?_; refine zb (id := 6) ?_; refine Zs1 ?_; refine Zs1 ?_; refine Zs42 ?_; refine Zs8 ?_; refine Zs1 ?_; refine Zs1 ?_; refine Zs1 ?_; refine Zs42 ?_; refine Zs23 ?_; refine Zs6 ?_; refine Zs1 ?_; refine Zs1 ?_; refine Zs1 ?_; refine Zs42 ?_; refine Zs8 ?_; refine Zs1 ?_; refine Zs1 ?_; refine Zs1 ?_; refine Zs42 ?_; refine Zs23 ?_; refine Zs6 ?_; refine Zs6 ?_; refine zd ?_; refine zf ?_; refine zw rfl ?_; refine ze ?_; refine zb (id := 7) ?_; refine Zs2 ?_; refine zd ?_; refine zf ?_
            refine qn L (rs := [.tmp 2]) rfl (fun _ _ h => h) Since.refl fun u H hH hle => ?_
            exact congrArg _ (chk_at hc (okB_3 a4)).symm
          · refine ze ?_; refine zb (id := 4) ?_; refine Zs11 ?_; refine zd ?_; refine zf ?_; refine ze ?_; refine zw rfl ?_; refine zt ?_; refine zf ?_; refine ze ?_; refine zy ?_; refine ze ?_; refine zb (id := 5) ?_; refine Zs1 ?_; refine Zs2 ?_; refine zd ?_; refine zf ?_; refine ze ?_; refine zb (id := 6) ?_; refine Zs1 ?_; refine Zs1 ?_; refine Zs42 ?_; refine Zs8 ?_; refine Zs1 ?_; refine Zs1 ?_; refine Zs1 ?_; refine Zs42 ?_; refine Zs16 ?_; refine Zs6 ?_; refine Zs1 ?_; refine Zs3 ?_; refine Zs3 ?_; refine Zs3 ?_; refine Zs3 ?_; refine Zs3 ?_; refine Zs3 ?_; refine Zs3 ?_; refine Zs3 ?_; refine Zs3 ?_; refine Zs3 ?_; refine Zs6 ?_; refine zd ?_; refine zf ?_; refine zm rfl ?_; refine zt ?_; refine qm ?_; refine zf ?_; refine zb (id := 8) ?_; refine Zs13 ?_; refine Zs1 ?_; refine zd ?_
            refine y1 (k + 1) ⟨hlt, take_all hc (okB_4 a1 a4) hall⟩ (by omega) ⟨rfl, rfl, rfl, trivial⟩
      · refine ze ?_; refine zb (id := 4) ?_; refine Zs8 ?_; refine zd ?_; refine zf ?_; refine ze ?_; refine zm rfl ?_; refine y7 ?_; refine qg ?_; refine qg ?_; refine y6 ?_; refine zf ?_; refine ze ?_; refine zb (id := 9) ?_; refine Zs2 ?_; refine zd ?_; refine zf ?_
        refine qn L (rs := [.tmp 2]) rfl (fun _ _ h => h) Since.refl fun u H hH hle => ?_
        exact congrArg _ (chk_all h1 h2 (all_take (by omega) hall)).symm
    · refine ze ?_; refine zb (id := 0) ?_; refine Zs2 ?_; refine zd ?_; refine zf ?_; refine ze ?_; refine ze ?_; refine zb (id := 1) ?_; refine Zs1 ?_; refine Zs59 ?_; refine Zs8 ?_; refine Zs1 ?_; refine Zs1 ?_; refine Zs59 ?_; refine Zs23 ?_; refine Zs6 ?_; refine zd ?_; refine zf ?_; refine zw rfl ?_; refine ze ?_; refine zb (id := 2) ?_; refine Zs2 ?_; refine zd ?_; refine zf ?_
      refine qn L (rs := [.tmp 2]) rfl (fun _ _ h => h) Since.refl fun u H hH hle => ?_
      exact congrArg _ (chk_bad (by omega)).symm
  · refine ze ?_; refine zb (id := 0) ?_; refine Zs2 ?_; refine zd ?_; refine zf ?_; refine ze ?_; refine ze ?_; refine zb (id := 1) ?_; refine Zs1 ?_; refine Zs59 ?_; refine Zs11 ?_; refine Zs1 ?_; refine Zs3 ?_; refine Zs3 ?_; refine Zs3 ?_; refine Zs6 ?_; refine zd ?_; refine zf ?_; refine zw rfl ?_; refine ze ?_; refine zb (id := 2) ?_; refine Zs2 ?_; refine zd ?_; refine zf ?_
    refine qn L (rs := [.tmp 2]) rfl (fun _ _ h => h) Since.refl fun u H hH hle => ?_
    exact congrArg _ (chk_bad (by omega)).symm
end Go.V
namespace Go.V
open Go.Proofs Go.RowKit
section
variable {P : Program} {F : Fr} {B : Heap} {n : Nat} {O : Boxes} {ops : Array Oper} {ex : Exs} {κ : Kap} {Q : Exit → Act → World → Prop} {o : Oper} {os : List Oper} {d : Nat} {k : Kn}
theorem _root_.Go.V.Zs10 (h : VO P F B n O ops (upd κ d k) os Q) (s : StepOK P F B n ops O κ o d k := by exact qf rfl rfl rfl rfl (decide_eq_false (by omega))) (v : vd o = some d := by rfl) : VO P F B n O ops κ (o :: os) Q := z7 s v h
theorem _root_.Go.V.Zs27 (h : VO P F B n O ops (upd κ d k) os Q) (s : StepOK P F B n ops O κ o d k := by exact qf rfl rfl rfl rfl (decide_eq_true (by omega))) (v : vd o = some d := by rfl) : VO P F B n O ops κ (o :: os) Q := z7 s v h
theorem _root_.Go.V.Zs31 (h : VO P F B n O ops (upd κ d k) os Q) (s : StepOK P F B n ops O κ o d k := by exact y3 L rfl rfl rfl rfl) (v : vd o = some d := by rfl) : VO P F B n O ops κ (o :: os) Q := z7 s v h
theorem _root_.Go.V.Zs37 (h : VO P F B n O ops (upd κ d k) os Q) (s : StepOK P F B n ops O κ o d k := by exact q7 rfl rfl rfl) (v : vd o = some d := by rfl) : VO P F B n O ops κ (o :: os) Q := z7 s v h
theorem _root_.Go.V.Zs43 (h : VO P F B n O ops (upd κ d k) os Q) (s : StepOK P F B n ops O κ o d k := by exact qw L rfl rfl rfl rfl rfl) (v : vd o = some d := by rfl) : VO P F B n O ops κ (o :: os) Q := z7 s v h
end
attribute [local irreducible] V N X VO Par StepOK Has Ret RetL Src
def allE : List ByteArray → Int
  | [] => 0
  | s :: l => if chk s = 0 then allE l else chk s
theorem allE_snoc : ∀ (l : List ByteArray) (s : ByteArray), allE l = 0 → allE (l ++ [s]) = chk s
  | [], s, _ => by simp only [List.nil_append, allE]; split <;> simp_all
  | x :: l, s, h => by
    simp only [List.cons_append, allE] at h ⊢
    by_cases hx : chk x = 0
    · rw [if_pos hx] at h ⊢; exact allE_snoc l s h
    · rw [if_neg hx] at h; exact absurd h hx
theorem allE_bad : ∀ (l : List ByteArray) (k : Nat) (s : ByteArray), allE (l.take k) = 0 → l[k]? = some s → chk s ≠ 0 → allE l = chk s
  | [], k, s, _, h, _ => by simp at h
  | x :: l, 0, s, _, h, hc => by simp at h; subst h; simp [allE, hc]
  | x :: l, k + 1, s, ha, h, hc => by
    simp only [List.take_succ_cons, allE] at ha
    simp only [List.getElem?_cons_succ] at h
    by_cases hx : chk x = 0
    · rw [if_pos hx] at ha
      simp only [allE, if_pos hx]
      exact allE_bad l k s ha h hc
    · rw [if_neg hx] at ha; exact absurd ha hx
set_option maxHeartbeats 400000 in
theorem all_gen (l : List ByteArray) (hl : ∀ s ∈ l, s.size ≤ 9223372036854775807) (hlen : l.length ≤ 1000) {e : TypeId} {fu : Bool} {v : Value} {w : World} {B : Heap} (hB : B.Le (hp w)) (hv : SlV e 1 (l.map Value.string) l.length fu v B) :
    Ret Try.prog 85 [v] w B (fun v _ => v = .int .i64 (allE l)) := by
  refine ya Try.func85 rfl Try.ntmps85 (Nat.le_of_ble_eq_true rfl) hB ?_
  refine V_seen 0 (SlV e 1 (l.map Value.string) l.length fu) rfl SlV.mono hv ?_
  refine ze ?_; refine zb (id := 0) ?_; refine Zs2 ?_; refine zd ?_; refine zf ?_; refine ze ?_; refine ze ?_; refine zb (id := 1) ?_; refine Zs37 ?_; refine Zs31 ?_; refine Zs1 ?_; refine zd ?_; refine zf ?_; refine zy ?_
  refine V_loop (fun k : Nat => [(6, .sat (SlV e 1 (l.map Value.string) l.length fu)), (7, .is (.int .i64 l.length)), (8, .is (.int .i64 k))])
    (fun k => k ≤ l.length ∧ allE (l.take k) = 0) (fun k => l.length - k) 0 ⟨Nat.zero_le _, by simp [allE]⟩ ⟨rfl, rfl, rfl, trivial⟩ ?_
  rintro k ⟨hk, hall⟩
  by_cases hlt : k < l.length
  · have hs : l[k]? = some l[k] := List.getElem?_eq_getElem hlt
    generalize l[k] = s at hs
    have hsz : s.size ≤ 9223372036854775807 := hl s (List.mem_of_getElem? hs)
    have hc := str_at hs
    by_cases h0 : chk s = 0
    · refine ze ?_; refine zb (id := 2) ?_; refine Zs11 ?_; refine zd ?_; refine zf ?_; refine ze ?_; refine zw rfl ?_; refine zt ?_; refine zf ?_; refine ze ?_; refine zy ?_; refine ze ?_; refine zb (id := 3) ?_; refine z7 (qb L _ rfl rfl rfl rfl rfl rfl rfl (by first | omega | decide) (by assumption)) rfl ?_; refine Zs43 ?_; refine Zs2 ?_; refine zd ?_; refine zf ?_; refine ze ?_; refine zb (id := 4) ?_; refine Zs1 ?_; refine z7 (zo L rfl rfl (zg rfl) rfl rfl rfl (fun u H hH _ _ => check_ret _ (by first | omega | decide) hH)) rfl ?_; refine Zs2 ?_; refine zd ?_; refine zf ?_; refine ze ?_; refine zb (id := 5) ?_; refine Zs1 ?_; refine Zs10 ?_; refine zd ?_; refine zf ?_; refine zm rfl ?_; refine zt ?_; refine qm ?_; refine zf ?_; refine zb (id := 7) ?_; refine Zs13 ?_; refine Zs1 ?_; refine zd ?_
      refine y1 (k + 1) ⟨hlt, ?_⟩ (by omega) ⟨rfl, rfl, rfl, trivial⟩
      rw [List.take_add_one, hs]
      show allE (l.take k ++ [s]) = 0
      rw [allE_snoc _ _ hall, h0]
    · refine ze ?_; refine zb (id := 2) ?_; refine Zs11 ?_; refine zd ?_; refine zf ?_; refine ze ?_; refine zw rfl ?_; refine zt ?_; refine zf ?_; refine ze ?_; refine zy ?_; refine ze ?_; refine zb (id := 3) ?_; refine z7 (qb L _ rfl rfl rfl rfl rfl rfl rfl (by first | omega | decide) (by assumption)) rfl ?_; refine Zs43 ?_; refine Zs2 ?_; refine zd ?_; refine zf ?_; refine ze ?_; refine zb (id := 4) ?_; refine Zs1 ?_; refine z7 (zo L rfl rfl (zg rfl) rfl rfl rfl (fun u H hH _ _ => check_ret _ (by first | omega | decide) hH)) rfl ?_; refine Zs2 ?_; refine zd ?_; refine zf ?_; refine ze ?_; refine zb (id := 5) ?_; refine Zs1 ?_; refine Zs27 ?_; refine zd ?_; refine zf ?_; refine zw rfl ?_; refine ze ?_; refine zb (id := 6) ?_; refine Zs1 ?_; refine Zs2 ?_; refine zd ?_; refine zf ?_
      refine qn L (rs := [.tmp 2]) rfl (fun _ _ h => h) Since.refl fun u H hH hle => ?_
      exact congrArg _ (allE_bad l k s hall hs h0).symm
  · refine ze ?_; refine zb (id := 2) ?_; refine Zs8 ?_; refine zd ?_; refine zf ?_; refine ze ?_; refine zm rfl ?_; refine y7 ?_; refine qg ?_; refine qg ?_; refine y6 ?_; refine zf ?_; refine ze ?_; refine zb (id := 8) ?_; refine Zs2 ?_; refine zd ?_; refine zf ?_
    refine qn L (rs := [.tmp 2]) rfl (fun _ _ h => h) Since.refl fun u H hH hle => ?_
    have : l.take k = l := List.take_of_length_le (by omega)
    exact congrArg _ (this ▸ hall).symm
end Go.V
namespace Go.V.L39
open Go.Proofs Go.RowKit Go.V
abbrev Str3 := (ByteArray × ByteArray) × ByteArray
abbrev Str2 := ByteArray × ByteArray
structure It where
  tk : Int
  im : Int
  cl : Int
  cs : Int
  rv : Int
theorem It.ext' {a b : It} (h1 : a.tk = b.tk) (h2 : a.im = b.im) (h3 : a.cl = b.cl) (h4 : a.cs = b.cs) (h5 : a.rv = b.rv) : a = b := by
  cases a; cases b; simp only at *; subst h1; subst h2; subst h3; subst h4; subst h5; rfl
theorem It.eq_iff {a b : It} : (a.tk = b.tk ∧ a.im = b.im ∧ a.cl = b.cl ∧ a.cs = b.cs ∧ a.rv = b.rv) ↔ a = b :=
  ⟨fun ⟨h1, h2, h3, h4, h5⟩ => It.ext' h1 h2 h3 h4 h5, fun e => by subst e; exact ⟨rfl, rfl, rfl, rfl, rfl⟩⟩
instance decIt : DecidableEq It := fun _ _ => decidable_of_iff _ It.eq_iff
structure Qu where
  kd : Int
  g : Str3
  u : Str2
theorem Qu.ext' {a b : Qu} (h1 : a.kd = b.kd) (h2 : a.g = b.g) (h3 : a.u = b.u) : a = b := by
  cases a; cases b; simp only at *; subst h1; subst h2; subst h3; rfl
theorem Qu.eq_iff {a b : Qu} : (a.kd = b.kd ∧ a.g = b.g ∧ a.u = b.u) ↔ a = b := ⟨fun ⟨h1, h2, h3⟩ => Qu.ext' h1 h2 h3, fun e => by subst e; exact ⟨rfl, rfl, rfl⟩⟩
instance decQu : DecidableEq Qu := fun _ _ => decidable_of_iff _ Qu.eq_iff
structure Fl where
  id : Int
  rv : Int
  q : Qu
  cl : Int
  cs : Int
  si : Int
  ve : Int
  sp : Int
  is : List It
theorem Fl.eq_iff {a b : Fl} : (a.id = b.id ∧ a.rv = b.rv ∧ a.q = b.q ∧ a.cl = b.cl ∧ a.cs = b.cs ∧ a.si = b.si ∧ a.ve = b.ve ∧ a.sp = b.sp ∧ a.is = b.is) ↔ a = b :=
  ⟨fun ⟨h1, h2, h3, h4, h5, h6, h7, h8, h9⟩ => by cases a; cases b; simp only at *; subst h1; subst h2; subst h3; subst h4; subst h5; subst h6; subst h7; subst h8; subst h9; rfl, fun e => by subst e; exact ⟨rfl, rfl, rfl, rfl, rfl, rfl, rfl, rfl, rfl⟩⟩
instance decFl : DecidableEq Fl := fun _ _ => decidable_of_iff _ Fl.eq_iff
structure Tb where
  nx : Int
  fl : List Fl
abbrev T0 : Tb := ⟨0, []⟩
def itc (x : It) : List Value := [.int .i64 x.tk, .int .i64 x.im, .int .i64 x.cl, .int .i64 x.cs, .int .u64 x.rv]
theorem itc_len (x : It) : (itc x).length = 5 := rfl
def flc (p : Fl × Value) : List Value := [.int .i64 p.1.id, .int .u64 p.1.rv, .int .u8 p.1.q.kd, .string p.1.q.g.1.1, .string p.1.q.g.1.2, .string p.1.q.g.2, .string p.1.q.u.1, .string p.1.q.u.2, .int .i64 p.1.cl, .int .i64 p.1.cs, .int .i64 p.1.si, .int .i64 p.1.ve, .int .i64 p.1.sp, p.2]
theorem flc_len (p : Fl × Value) : (flc p).length = 14 := rfl
def I64 (z : Int) : Prop := -9223372036854775808 ≤ z ∧ z ≤ 9223372036854775807
structure QuZ (q : Qu) : Prop where
  kd : 0 ≤ q.kd ∧ q.kd ≤ 255
  g1 : q.g.1.1.size ≤ 9223372036854775807
  g2 : q.g.1.2.size ≤ 9223372036854775807
  g3 : q.g.2.size ≤ 9223372036854775807
  u1 : q.u.1.size ≤ 9223372036854775807
  u2 : q.u.2.size ≤ 9223372036854775807
def itV (x : It) : Bool := decide (0 ≤ x.tk ∧ x.tk ≤ 2147483647 ∧ 0 ≤ x.im ∧ x.im ≤ 7 ∧ 0 ≤ x.cl ∧ x.cl ≤ 15 ∧ 0 ≤ x.cs ∧ x.cs ≤ 7 ∧ 0 < x.rv)
def gE (q : Qu) : Int := allE [q.g.1.1, q.g.1.2, q.g.2]
def uE (q : Qu) : Int := allE [q.u.1, q.u.2]
abbrev U0 : Str2 := (⟨#[]⟩, ⟨#[]⟩)
def quE (q : Qu) : Int :=
  if ¬ (q.kd = 1 ∨ q.kd = 2) then 10
  else if gE q ≠ 0 ∨ (q.kd = 1 ∧ uE q ≠ 0) then 6
  else if q.kd = 2 ∧ q.u ≠ U0 then 5 else 0
def itsN (l : List Fl) : Nat := (l.map fun f => f.is.length).sum
def clsF (m : Int) (l : List It) : Int := l.foldl (fun m x => if x.cs < m then x.cs else m) m
def cls (l : List It) : Int := clsF 8 l
def rngB (nx : Int) (f : Fl) : Bool := decide (0 ≤ f.id ∧ f.id < nx ∧ f.rv ≠ 0 ∧ 0 ≤ f.si ∧ f.si ≤ 4611686018427387904 ∧ 0 ≤ f.ve ∧ f.ve ≤ 1048576 ∧ 0 ≤ f.sp ∧ f.sp ≤ 1048576)
def ordB (pre : List Fl) (f : Fl) : Bool := match pre.getLast? with
  | none => true
  | some g => decide (g.id < f.id ∧ g.si ≤ f.si)
def memB (f : Fl) : Bool := f.is.all itV && decide (f.is.head?.map It.cl = some f.cl) && decide (f.cs = cls f.is)
def twB (pre : List Fl) (f : Fl) : Bool := pre.any fun g => decide (g.rv = f.rv ∧ g.q = f.q)
def flE (nx : Int) (pre : List Fl) (f : Fl) : Int :=
  if rngB nx f = false then 4
  else if ordB pre f = false then 18
  else if quE f.q ≠ 0 then quE f.q
  else if f.is = [] then 20
  else if memB f = false then 4
  else if twB pre f = true then 7 else 0
def flsE (nx : Int) : List Fl → List Fl → Int
  | _, [] => 0
  | pre, f :: l => if flE nx pre f = 0 then flsE nx (pre ++ [f]) l else flE nx pre f
def chkE (t : Tb) : Int := if ¬ (0 ≤ t.nx ∧ t.nx ≤ 2147483647) then 4 else if 1024 < itsN t.fl then 3 else flsE t.nx [] t.fl

def lastS (l : List Fl) : Int := match l.getLast? with
  | none => 0
  | some g => g.si
def hitB (q : Qu) (rv : Int) (lo : Bool) (f : Fl) : Bool := decide (f.q = q) && (lo || decide (f.rv = rv))
def addI (x : It) (f : Fl) : Fl := { f with is := f.is ++ [x], cs := min f.cs x.cs }
def newF (nx rv : Int) (q : Qu) (x : It) (rd : Int) : Fl := ⟨nx, rv, q, x.cl, x.cs, rd, 0, 0, [x]⟩
def joinE (t : Tb) (q : Qu) (rv : Int) (x : It) (rd : Int) (lo : Bool) : Int :=
  if chkE t ≠ 0 then chkE t
  else if quE q ≠ 0 then quE q
  else if itV x = false ∨ rv = 0 ∨ rd < lastS t.fl ∨ 4611686018427387904 < rd then 4
  else if itsN t.fl = 1024 ∨ (t.fl.findIdx? (hitB q rv lo) = none ∧ t.nx = 2147483647) then 3 else 0
def joinT (t : Tb) (q : Qu) (rv : Int) (x : It) (rd : Int) (lo : Bool) : Tb × Int × Bool :=
  if joinE t q rv x rd lo ≠ 0 then (T0, 0, false)
  else match t.fl.findIdx? (hitB q rv lo) with
    | some i => (⟨t.nx, t.fl.modify i (addI x)⟩, ((t.fl[i]?).map Fl.id).getD 0, false)
    | none => (⟨t.nx + 1, t.fl ++ [newF t.nx rv q x rd]⟩, t.nx, true)
def posF (l : List Fl) (id : Int) : Option Nat := l.findIdx? fun f => decide (f.id = id)
def plE (t : Tb) (id : Int) : Int := if chkE t ≠ 0 then chkE t else if posF t.fl id = none then 8 else 0
abbrev F0 : Fl := ⟨0, 0, ⟨0, ((⟨#[]⟩, ⟨#[]⟩), ⟨#[]⟩), U0⟩, 0, 0, 0, 0, 0, []⟩
def findF (t : Tb) (id : Int) : Fl := if plE t id ≠ 0 then F0 else (t.fl.find? fun f => decide (f.id = id)).getD F0
def mvF (st : Int) (f : Fl) : Fl := { f with ve := f.ve + 1, sp := f.sp + st }
def cmE (t : Tb) (id st : Int) : Int := if plE t id ≠ 0 then plE t id else if st < 0 ∨ (findF t id).ve = 1048576 ∨ 1048576 - (findF t id).sp < st then 4 else 0
def cmT (t : Tb) (id st : Int) : Tb := if cmE t id st ≠ 0 then T0 else ⟨t.nx, t.fl.map fun f => if f.id = id then mvF st f else f⟩
def ldT (t : Tb) (id : Int) : Tb := if plE t id ≠ 0 then T0 else ⟨t.nx, t.fl.filter fun f => decide (f.id ≠ id)⟩
def cntB (p : It → Bool) (l : List Fl) : Nat := (l.map fun f => f.is.countP p).sum
def allI (l : List Fl) : List It := l.flatMap Fl.is

theorem itV_iff {x : It} : itV x = true ↔ 0 ≤ x.tk ∧ x.tk ≤ 2147483647 ∧ 0 ≤ x.im ∧ x.im ≤ 7 ∧ 0 ≤ x.cl ∧ x.cl ≤ 15 ∧ 0 ≤ x.cs ∧ x.cs ≤ 7 ∧ 0 < x.rv := by simp [itV]
theorem clsF_snoc (l : List It) (x : It) (m : Int) : clsF m (l ++ [x]) = if x.cs < clsF m l then x.cs else clsF m l := by
  unfold clsF
  rw [List.foldl_append]
  rfl
theorem itsN_snoc (l : List Fl) (f : Fl) : itsN (l ++ [f]) = itsN l + f.is.length := by simp [itsN]
theorem itsN_allI (l : List Fl) : (allI l).length = itsN l := by simp [allI, itsN, List.length_flatMap]
theorem flsE_app (nx : Int) : ∀ (l pre m : List Fl), flsE nx pre l = 0 → flsE nx pre (l ++ m) = flsE nx (pre ++ l) m
  | [], pre, m, _ => by simp
  | f :: l, pre, m, h => by
    rw [List.cons_append]
    rw [flsE] at h ⊢
    by_cases h0 : flE nx pre f = 0
    · rw [if_pos h0] at h ⊢
      rw [flsE_app nx l _ m h, List.append_assoc, List.singleton_append]
    · rw [if_neg h0] at h
      exact absurd h h0
theorem flsE_bad (nx : Int) (l pre m : List Fl) (f : Fl) (h : flsE nx pre l = 0) (hf : flE nx (pre ++ l) f ≠ 0) : flsE nx pre (l ++ f :: m) = flE nx (pre ++ l) f := by
  rw [flsE_app nx l pre _ h]
  exact if_neg hf
theorem flsE_good (nx : Int) (l pre : List Fl) (f : Fl) (h : flsE nx pre l = 0) (hf : flE nx (pre ++ l) f = 0) : flsE nx pre (l ++ [f]) = 0 := by
  rw [flsE_app nx l pre _ h]
  exact if_pos hf
end Go.V.L39
namespace Go.V.L39
open Go.Proofs Go.RowKit Go.V
structure FOk (nx : Int) (pre : List Fl) (f : Fl) : Prop where
  rng : rngB nx f = true
  ord : ordB pre f = true
  qu : quE f.q = 0
  ne : f.is ≠ []
  mem : memB f = true
  tw : twB pre f = false
theorem flE_iff {nx : Int} {pre : List Fl} {f : Fl} : flE nx pre f = 0 ↔ FOk nx pre f := by
  unfold flE
  constructor
  · intro h
    split at h
    · cases h
    · rename_i h1
      split at h
      · cases h
      · rename_i h2
        split at h
        · rename_i h3; exact absurd h h3
        · rename_i h3
          split at h
          · cases h
          · rename_i h4
            split at h
            · cases h
            · rename_i h5
              split at h
              · cases h
              · rename_i h6
                exact ⟨by simpa using h1, by simpa using h2, by simpa using h3, h4, by simpa using h5, by simpa using h6⟩
  · rintro ⟨h1, h2, h3, h4, h5, h6⟩
    rw [if_neg (by simp [h1]), if_neg (by simp [h2]), if_neg (by simp [h3]), if_neg h4, if_neg (by simp [h5]), if_neg (by simp [h6])]
theorem flsE_iff {nx : Int} : ∀ {l pre : List Fl}, flsE nx pre l = 0 ↔ ∀ (i : Nat) f, l[i]? = some f → FOk nx (pre ++ l.take i) f
  | [], pre => ⟨fun _ i f h => by simp at h, fun _ => rfl⟩
  | f :: l, pre => by
    rw [flsE]
    by_cases h0 : flE nx pre f = 0
    · rw [if_pos h0, flsE_iff]
      constructor
      · intro h i g hg
        cases i with
        | zero => simp at hg; subst hg; simpa using flE_iff.1 h0
        | succ i => simpa using h i g (by simpa using hg)
      · intro h i g hg
        simpa using h (i + 1) g (by simpa using hg)
    · rw [if_neg h0]
      constructor
      · intro h; exact absurd h h0
      · intro h
        exact absurd (flE_iff.2 (by simpa using h 0 f rfl)) h0
structure TOk (t : Tb) : Prop where
  nx : 0 ≤ t.nx ∧ t.nx ≤ 2147483647
  its : itsN t.fl ≤ 1024
  fl : ∀ (i : Nat) f, t.fl[i]? = some f → FOk t.nx (t.fl.take i) f
theorem chkE_iff {t : Tb} : chkE t = 0 ↔ TOk t := by
  unfold chkE
  constructor
  · intro h
    split at h
    · cases h
    · rename_i h1
      split at h
      · cases h
      · rename_i h2
        exact ⟨Classical.not_not.1 h1, by omega, by simpa using flsE_iff.1 h⟩
  · rintro ⟨h1, h2, h3⟩
    rw [if_neg (by simpa using h1), if_neg (by omega)]
    exact flsE_iff.2 (by simpa using h3)
theorem rngB_iff {nx : Int} {f : Fl} : rngB nx f = true ↔ 0 ≤ f.id ∧ f.id < nx ∧ f.rv ≠ 0 ∧ 0 ≤ f.si ∧ f.si ≤ 4611686018427387904 ∧ 0 ≤ f.ve ∧ f.ve ≤ 1048576 ∧ 0 ≤ f.sp ∧ f.sp ≤ 1048576 := by simp [rngB]
theorem memB_iff {f : Fl} : memB f = true ↔ (∀ x ∈ f.is, itV x = true) ∧ f.is.head?.map It.cl = some f.cl ∧ f.cs = cls f.is := by simp [memB, and_assoc]
theorem twB_iff {pre : List Fl} {f : Fl} : twB pre f = false ↔ ∀ g ∈ pre, ¬ (g.rv = f.rv ∧ g.q = f.q) := by simp [twB]
theorem take_last {l : List Fl} {i : Nat} (h : i < l.length) : (l.take (i + 1)).getLast? = l[i]? := by
  have e : min (i + 1) l.length - 1 = i := by omega
  rw [List.getLast?_eq_getElem?, List.length_take, e, List.getElem?_take, if_pos (by omega)]
theorem TOk.asc {t : Tb} (h : TOk t) : ∀ {i j : Nat} {f g : Fl}, i < j → t.fl[i]? = some f → t.fl[j]? = some g → f.id < g.id ∧ f.si ≤ g.si := by
  intro i j
  induction j with
  | zero => intro f g hij; omega
  | succ j ih =>
    intro f g hij hf hg
    have hjl := get_lt hg
    have ho := (h.fl _ _ hg).ord
    unfold ordB at ho
    rw [take_last (by omega), List.getElem?_eq_getElem (by omega : j < t.fl.length)] at ho
    have ho := of_decide_eq_true ho
    rcases Nat.lt_or_ge i j with h1 | h1
    · have := ih h1 hf (List.getElem?_eq_getElem (by omega : j < t.fl.length))
      omega
    · obtain rfl : i = j := by omega
      rw [List.getElem?_eq_getElem (by omega : i < t.fl.length)] at hf
      cases hf
      exact ho
theorem TOk.last {t : Tb} (h : TOk t) {f : Fl} (hf : f ∈ t.fl) : f.si ≤ lastS t.fl ∧ 0 ≤ f.si := by
  obtain ⟨i, hi⟩ := List.getElem?_of_mem hf
  have hil := get_lt hi
  have hr := rngB_iff.1 (h.fl _ _ hi).rng
  have hl : t.fl.getLast? = t.fl[t.fl.length - 1]? := by rw [List.getLast?_eq_getElem?]
  unfold lastS
  rw [hl, List.getElem?_eq_getElem (by omega : t.fl.length - 1 < t.fl.length)]
  dsimp only
  refine ⟨?_, hr.2.2.2.1⟩
  rcases Nat.lt_or_ge i (t.fl.length - 1) with h1 | h1
  · exact (h.asc h1 hi (List.getElem?_eq_getElem _)).2
  · have e : i = t.fl.length - 1 := by omega
    subst e
    rw [List.getElem?_eq_getElem (by omega : t.fl.length - 1 < t.fl.length)] at hi
    cases hi
    exact Int.le_refl _
theorem TOk.last0 {t : Tb} (h : TOk t) : 0 ≤ lastS t.fl := by
  cases hl : t.fl.getLast? with
  | none => unfold lastS; rw [hl]; exact Int.le_refl _
  | some g =>
    have := h.last (List.mem_of_getLast? hl)
    omega
theorem last_ex {t : Tb} (h : TOk t) {rd : Int} (h0 : 0 ≤ rd) : (∃ f ∈ t.fl, rd < f.si) ↔ rd < lastS t.fl := by
  constructor
  · rintro ⟨f, hf, h1⟩
    have := (h.last hf).1
    omega
  · intro h1
    cases hl : t.fl.getLast? with
    | none => unfold lastS at h1; rw [hl] at h1; exact absurd h1 (by simpa using h0)
    | some g => unfold lastS at h1; rw [hl] at h1; exact ⟨g, List.mem_of_getLast? hl, h1⟩
def Alike (f g : Fl) : Prop := g.id = f.id ∧ g.rv = f.rv ∧ g.q = f.q ∧ g.si = f.si
theorem Alike.refl (f : Fl) : Alike f f := ⟨rfl, rfl, rfl, rfl⟩
theorem take_mapAt {l : List Fl} {φ : Nat → Fl → Fl} (i : Nat) : (l.mapIdx φ).take i = (l.take i).mapIdx φ := by
  apply List.ext_getElem?
  intro k
  simp only [List.getElem?_take, List.getElem?_mapIdx]
  by_cases h : k < i
  · simp [h]
  · simp [h]
theorem fok_mapIdx {nx nx' : Int} {l : List Fl} {φ : Nat → Fl → Fl} (ha : ∀ i f, l[i]? = some f → Alike f (φ i f)) (h : ∀ (i : Nat) f, l[i]? = some f → FOk nx (l.take i) f)
    (h1 : ∀ i f, l[i]? = some f → rngB nx' (φ i f) = true ∧ (φ i f).is ≠ [] ∧ memB (φ i f) = true) : ∀ (i : Nat) f, (l.mapIdx φ)[i]? = some f → FOk nx' ((l.mapIdx φ).take i) f := by
  intro i f hf
  rw [List.getElem?_mapIdx] at hf
  cases hl : l[i]? with
  | none => rw [hl] at hf; cases hf
  | some f0 =>
    rw [hl] at hf
    cases hf
    obtain ⟨a1, a2, a3, a4⟩ := ha i f0 hl
    obtain ⟨g1, g2, g3⟩ := h1 i f0 hl
    have h0 := h i f0 hl
    refine ⟨g1, ?_, by rw [a3]; exact h0.qu, g2, g3, ?_⟩
    · have ho := h0.ord
      cases i with
      | zero => simp [ordB]
      | succ j =>
        have hjl := get_lt hl
        unfold ordB at ho ⊢
        rw [take_last (by rw [List.length_mapIdx]; omega), List.getElem?_mapIdx]
        rw [take_last (by omega)] at ho
        obtain ⟨f1, hf1⟩ := get_some (by omega : j < l.length)
        rw [hf1] at ho ⊢
        obtain ⟨b1, b2, b3, b4⟩ := ha j f1 hf1
        simp only [Option.map_some, b1, b4, a1, a4] at ho ⊢
        exact ho
    · rw [twB_iff]
      intro g hg
      rw [take_mapAt] at hg
      obtain ⟨k, hk⟩ := List.getElem?_of_mem hg
      rw [List.getElem?_mapIdx] at hk
      cases hlk : (l.take i)[k]? with
      | none => rw [hlk] at hk; cases hk
      | some g0 =>
        rw [hlk] at hk
        cases hk
        have hki : k < i := by
          have := get_lt hlk
          rw [List.length_take] at this
          omega
        obtain ⟨b1, b2, b3, b4⟩ := ha k g0 (by rw [List.getElem?_take_of_lt hki] at hlk; exact hlk)
        have := twB_iff.1 h0.tw g0 (List.mem_of_getElem? hlk)
        rw [a2, a3, b2, b3]
        exact this
theorem modify_eq {l : List Fl} {i : Nat} {f : Fl → Fl} : l.modify i f = l.mapIdx fun j x => if j = i then f x else x := by
  apply List.ext_getElem?
  intro k
  rw [List.getElem?_modify, List.getElem?_mapIdx]
  cases l[k]? with
  | none => rfl
  | some x =>
    by_cases h : i = k
    · subst h; simp
    · have : ¬ k = i := fun e => h e.symm
      simp [h, this]
theorem cls_add (l : List It) (x : It) : cls (l ++ [x]) = min (cls l) x.cs := by
  unfold cls
  rw [clsF_snoc]
  split <;> omega
theorem itsN_modify {l : List Fl} {x : It} : ∀ {i : Nat}, i < l.length → itsN (l.modify i (addI x)) = itsN l + 1 := by
  induction l with
  | nil => intro i h; simp at h
  | cons f l ih =>
    intro i h
    cases i with
    | zero => simp [itsN, addI]; omega
    | succ i =>
      rw [List.modify_succ_cons]
      have := ih (i := i) (by simpa using h)
      simp only [itsN, List.map_cons, List.sum_cons] at this ⊢
      omega
theorem idx_lt {p : Fl → Bool} {l : List Fl} {i : Nat} (h : l.findIdx? p = some i) : ∃ f, l[i]? = some f ∧ p f = true ∧ ∀ j g, j < i → l[j]? = some g → p g = false := by
  rw [List.findIdx?_eq_some_iff_getElem] at h
  obtain ⟨hi, hp, hj⟩ := h
  refine ⟨l[i], List.getElem?_eq_getElem hi, hp, fun j g hji hg => ?_⟩
  have := hj j hji
  rw [List.getElem?_eq_getElem (by omega : j < l.length)] at hg
  cases hg
  simpa using this
theorem idx_none {p : Fl → Bool} {l : List Fl} (h : l.findIdx? p = none) : ∀ g ∈ l, p g = false := by
  rw [List.findIdx?_eq_none_iff] at h
  exact h
theorem joinE_iff {t : Tb} {q : Qu} {rv : Int} {x : It} {rd : Int} {lo : Bool} : joinE t q rv x rd lo = 0 ↔ chkE t = 0 ∧ quE q = 0 ∧ itV x = true ∧ rv ≠ 0 ∧ lastS t.fl ≤ rd ∧ rd ≤ 4611686018427387904 ∧ itsN t.fl ≠ 1024 ∧ ¬ (t.fl.findIdx? (hitB q rv lo) = none ∧ t.nx = 2147483647) := by
  unfold joinE
  constructor
  · intro h
    split at h
    · rename_i h1; exact absurd h h1
    · rename_i h1
      split at h
      · rename_i h2; exact absurd h h2
      · rename_i h2
        split at h
        · cases h
        · rename_i h3
          split at h
          · cases h
          · rename_i h4
            simp only [not_or, Int.not_lt] at h3 h4
            exact ⟨by simpa using h1, by simpa using h2, by simpa using h3.1, h3.2.1, h3.2.2.1, h3.2.2.2, h4.1, h4.2⟩
  · rintro ⟨h1, h2, h3, h4, h5, h6, h7, h8⟩
    rw [if_neg (by simp [h1]), if_neg (by simp [h2]), if_neg, if_neg]
    · rintro (h | h)
      · exact h7 h
      · exact h8 h
    · rintro (h | h | h | h)
      · rw [h3] at h; cases h
      · exact h4 h
      · omega
      · omega
theorem join_ok {t : Tb} {q : Qu} {rv : Int} {x : It} {rd : Int} (h : joinE t q rv x rd false = 0) : chkE (joinT t q rv x rd false).1 = 0 := by
  obtain ⟨h1, h2, h3, h4, h5, h6, h7, h8⟩ := joinE_iff.1 h
  have hT := chkE_iff.1 h1
  rw [chkE_iff]
  unfold joinT
  rw [if_neg (by simp [h])]
  have hits := hT.its
  cases hi : t.fl.findIdx? (hitB q rv false) with
  | some i =>
    dsimp only
    obtain ⟨f, hf, hp, _⟩ := idx_lt hi
    refine ⟨hT.nx, ?_, ?_⟩
    · show itsN (t.fl.modify i (addI x)) ≤ 1024
      rw [itsN_modify (get_lt hf)]
      omega
    · show ∀ (j : Nat) g, (t.fl.modify i (addI x))[j]? = some g → FOk t.nx ((t.fl.modify i (addI x)).take j) g
      rw [modify_eq]
      refine fok_mapIdx (nx := t.nx) (fun j g hg => ?_) hT.fl fun j g hg => ?_
      · split
        · exact ⟨rfl, rfl, rfl, rfl⟩
        · exact Alike.refl _
      · have hg0 := hT.fl j g hg
        split
        · refine ⟨hg0.rng, by simp [addI], ?_⟩
          obtain ⟨m1, m2, m3⟩ := memB_iff.1 hg0.mem
          refine memB_iff.2 ⟨fun y hy => ?_, ?_, ?_⟩
          · rcases List.mem_append.1 hy with hy | hy
            · exact m1 y hy
            · rw [List.mem_singleton.1 hy]; exact h3
          · show (g.is ++ [x]).head?.map It.cl = some g.cl
            rw [show (g.is ++ [x]).head? = g.is.head? by
              cases hgi : g.is with
              | nil => exact absurd hgi hg0.ne
              | cons y l => rfl]
            exact m2
          · show min g.cs x.cs = cls (g.is ++ [x])
            rw [cls_add, m3]
        · exact ⟨hg0.rng, hg0.ne, hg0.mem⟩
  | none =>
    dsimp only
    have hnx : t.nx ≠ 2147483647 := fun e => h8 ⟨hi, e⟩
    have hnone := idx_none hi
    have hx := itV_iff.1 h3
    refine ⟨⟨by have := hT.nx.1; show 0 ≤ t.nx + 1; omega, by have := hT.nx.2; show t.nx + 1 ≤ 2147483647; omega⟩, ?_, ?_⟩
    · show itsN (t.fl ++ [newF t.nx rv q x rd]) ≤ 1024
      rw [itsN_snoc]
      simp only [newF, List.length_cons, List.length_nil]
      omega
    · show ∀ (j : Nat) g, (t.fl ++ [newF t.nx rv q x rd])[j]? = some g → FOk (t.nx + 1) ((t.fl ++ [newF t.nx rv q x rd]).take j) g
      intro j g hg
      rcases Nat.lt_or_ge j t.fl.length with hj | hj
      · rw [List.getElem?_append_left hj] at hg
        rw [List.take_append_of_le_length (by omega)]
        obtain ⟨a1, a2, a3, a4, a5, a6⟩ := hT.fl j g hg
        refine ⟨?_, a2, a3, a4, a5, a6⟩
        have := rngB_iff.1 a1
        exact rngB_iff.2 ⟨this.1, by omega, this.2.2⟩
      · have hjl := get_lt hg
        simp only [List.length_append, List.length_cons, List.length_nil] at hjl
        obtain rfl : j = t.fl.length := by omega
        rw [List.getElem?_append_right (Nat.le_refl _), Nat.sub_self] at hg
        cases hg
        rw [List.take_append_of_le_length (Nat.le_refl _), List.take_length]
        have hl0 := hT.last0
        refine ⟨rngB_iff.2 ⟨hT.nx.1, ?_, h4, ?_, h6, ?_, ?_, ?_, ?_⟩, ?_, h2, ?_, ?_, ?_⟩
        · show t.nx < t.nx + 1; omega
        · show 0 ≤ rd; omega
        · show (0 : Int) ≤ 0; omega
        · show (0 : Int) ≤ 1048576; omega
        · show (0 : Int) ≤ 0; omega
        · show (0 : Int) ≤ 1048576; omega
        · unfold ordB
          cases hl : t.fl.getLast? with
          | none => rfl
          | some g =>
            have hgm := List.mem_of_getLast? hl
            obtain ⟨k, hk⟩ := List.getElem?_of_mem hgm
            have := rngB_iff.1 (hT.fl k g hk).rng
            have hls : lastS t.fl = g.si := by unfold lastS; rw [hl]
            refine decide_eq_true ⟨this.2.1, ?_⟩
            show g.si ≤ rd
            omega
        · simp [newF]
        · refine memB_iff.2 ⟨fun y hy => ?_, rfl, ?_⟩
          · simp only [newF, List.mem_singleton] at hy
            rw [hy]; exact h3
          · show x.cs = cls ([] ++ [x])
            rw [cls_add]
            have e8 : cls [] = 8 := rfl
            rw [e8]
            omega
        · rw [twB_iff]
          rintro g hg ⟨e1, e2⟩
          have := hnone g hg
          have e1' : g.rv = rv := e1
          have e2' : g.q = q := e2
          simp [hitB, e1', e2'] at this
end Go.V.L39
namespace Go.V
open Go.Proofs Go.RowKit
def idS (n : Nat) : ByteArray := match n % 5 with
  | 0 => ⟨#[97]⟩
  | 1 => ⟨#[98]⟩
  | 2 => ⟨#[99, 49]⟩
  | 3 => ⟨#[100]⟩
  | _ => ⟨#[114, 111, 111, 116]⟩
def relS (n : Nat) : ByteArray := match n % 4 with
  | 0 => ⟨#[118, 105, 101, 119, 101, 114]⟩
  | 1 => ⟨#[101, 100, 105, 116, 111, 114]⟩
  | 2 => ⟨#[109, 101, 109, 98, 101, 114]⟩
  | _ => ⟨#[112, 97, 114, 101, 110, 116]⟩
theorem idS_ok (n : Nat) : chk (idS n) = 0 ∧ (idS n).size ≤ 16 := by
  unfold idS
  split <;> decide +kernel
theorem relS_ok (n : Nat) : chk (relS n) = 0 ∧ (relS n).size ≤ 16 := by
  unfold relS
  split <;> decide +kernel
end Go.V
namespace Go.V.L39
open Go.Proofs Go.RowKit Go.V
abbrev sDoc : ByteArray := ⟨#[100, 111, 99]⟩
abbrev sViewer : ByteArray := ⟨#[118, 105, 101, 119, 101, 114]⟩
abbrev sUser : ByteArray := ⟨#[117, 115, 101, 114]⟩
def qS (n : Nat) : Qu := if 3 < n % 6 then ⟨2, ((sDoc, idS (n % 6 / 2)), relS (n % 2)), U0⟩ else ⟨1, ((sDoc, idS (n % 6 / 2)), sViewer), (sUser, idS (n % 2))⟩
structure Op6 where
  w : Nat
  q : Nat
  r : Nat
  c : Nat
  k : Nat
  n : Nat
structure OpZ (o : Op6) : Prop where
  w : o.w < 256
  q : o.q < 256
  r : o.r < 256
  c : o.c < 256
  k : o.k < 256
  n : o.n < 256
def itS (o : Op6) (i : Nat) : It := ⟨(i / 2 : Nat), (i % 2 : Nat), (o.c % 4 : Nat), (o.k % 8 : Nat), ((1 + o.r % 3 : Nat) : Int)⟩
theorem qS_ok (n : Nat) : quE (qS n) = 0 := by
  have h1 : chk sDoc = 0 := by decide +kernel
  have h2 : chk sViewer = 0 := by decide +kernel
  have h3 : chk sUser = 0 := by decide +kernel
  unfold qS
  split
  · simp [quE, gE, allE, h1, (idS_ok _).1, (relS_ok _).1]
  · simp [quE, gE, uE, allE, h1, h2, h3, (idS_ok _).1]
theorem itS_ok (o : Op6) (i : Nat) (h : i < 100) : itV (itS o i) = true := by
  rw [itV_iff]
  simp only [itS]
  omega
def jS (t : Tb) (o : Op6) (i : Nat) : Tb := (joinT t (qS o.q) (itS o i).rv (itS o i) (i / 3 : Nat) false).1
def atS (t : Tb) (n : Nat) : Fl := (t.fl[n % t.fl.length]?).getD F0
def stp (t : Tb) (o : Op6) (i : Nat) : Tb :=
  if o.w % 8 < 5 then (if joinE t (qS o.q) (itS o i).rv (itS o i) (i / 3 : Nat) false = 0 then jS t o i else t)
  else if t.fl = [] then t
  else if o.w % 8 < 7 then (if cmE t (atS t o.n).id o.n = 0 then cmT t (atS t o.n).id o.n else t)
  else if plE t (atS t o.n).id = 0 then ldT t (atS t o.n).id else t
abbrev Wt := List (Qu × It)
def hitW (f : Fl) (w : Qu × It) : Bool := decide (w.1 = f.q ∧ w.2.rv = f.rv)
theorem hitW_iff {f : Fl} {w : Qu × It} : hitW f w = true ↔ w.1 = f.q ∧ w.2.rv = f.rv := by simp [hitW]
structure PInv (i : Nat) (t : Tb) (W : Wt) : Prop where
  ok : TOk t
  nx : t.nx ≤ i
  fl : ∀ f ∈ t.fl, f.ve ≤ i ∧ f.sp ≤ 255 * i ∧ 3 * f.si ≤ i
  hit : ∀ f ∈ t.fl, f.is = (W.filter (hitW f)).map Prod.snd
  ex : ∀ w ∈ W, ∃ f ∈ t.fl, hitW f w = true
  len : W.length ≤ i
  its : itsN t.fl = W.length
  dist : W.Pairwise fun a b => a.2 ≠ b.2
  num : ∀ w ∈ W, 2 * w.2.tk + w.2.im < i
theorem pinv0 : PInv 0 T0 [] := ⟨⟨⟨by decide, by decide⟩, by decide, fun i f h => by simp at h⟩, by decide, fun f h => by simp at h, fun f h => by simp at h, fun w h => by simp at h, by simp, rfl, List.Pairwise.nil, fun w h => by simp at h⟩
theorem PInv.more {i : Nat} {t : Tb} {W : Wt} (h : PInv i t W) : PInv (i + 1) t W := ⟨h.ok, by have := h.nx; omega, fun f hf => by have := h.fl f hf; omega, h.hit, h.ex, by have := h.len; omega, h.its, h.dist, fun w hw => by have := h.num w hw; omega⟩
theorem TOk.one {t : Tb} (h : TOk t) {i j : Nat} {f g : Fl} (hf : t.fl[i]? = some f) (hg : t.fl[j]? = some g) (e1 : f.rv = g.rv) (e2 : f.q = g.q) : i = j := by
  rcases Nat.lt_trichotomy i j with h1 | h1 | h1
  · exact absurd ⟨e1, e2⟩ (twB_iff.1 (h.fl _ _ hg).tw f (List.mem_of_getElem? (i := i) (by rw [List.getElem?_take_of_lt h1]; exact hf)))
  · exact h1
  · exact absurd ⟨e1.symm, e2.symm⟩ (twB_iff.1 (h.fl _ _ hf).tw g (List.mem_of_getElem? (i := j) (by rw [List.getElem?_take_of_lt h1]; exact hg)))
theorem TOk.id_one {t : Tb} (h : TOk t) {i j : Nat} {f g : Fl} (hf : t.fl[i]? = some f) (hg : t.fl[j]? = some g) (e1 : f.id = g.id) : i = j := by
  rcases Nat.lt_trichotomy i j with h1 | h1 | h1
  · have := (h.asc h1 hf hg).1; omega
  · exact h1
  · have := (h.asc h1 hg hf).1; omega
theorem p_joinE {i : Nat} {t : Tb} {W : Wt} (h : PInv i t W) (hi : i < 100) (o : Op6) : joinE t (qS o.q) (itS o i).rv (itS o i) (i / 3 : Nat) false = 0 := by
  refine joinE_iff.2 ⟨chkE_iff.2 h.ok, qS_ok _, itS_ok o i hi, ?_, ?_, ?_, ?_, ?_⟩
  · simp only [itS]; omega
  · have h0 := h.ok.last0
    cases hl : t.fl.getLast? with
    | none => unfold lastS; rw [hl]; exact Int.natCast_nonneg _
    | some g =>
      have h1 := h.fl g (List.mem_of_getLast? hl)
      unfold lastS
      rw [hl]
      dsimp only
      omega
  · omega
  · rw [h.its]
    have := h.len
    omega
  · rintro ⟨_, e⟩
    have := h.nx
    omega
theorem p_join {i : Nat} {t : Tb} {W : Wt} (h : PInv i t W) (hi : i < 100) (o : Op6) : PInv (i + 1) (jS t o i) (W ++ [(qS o.q, itS o i)]) := by
  have hj := p_joinE h hi o
  have hok := chkE_iff.1 (join_ok hj)
  have hnum : ∀ w ∈ W ++ [(qS o.q, itS o i)], 2 * w.2.tk + w.2.im < ((i + 1 : Nat) : Int) := fun w hw => by
    rcases List.mem_append.1 hw with hw | hw
    · have := h.num w hw; omega
    · rw [List.mem_singleton.1 hw]; simp only [itS]; omega
  have hdist : (W ++ [(qS o.q, itS o i)]).Pairwise fun a b => a.2 ≠ b.2 := by
    rw [List.pairwise_append]
    refine ⟨h.dist, List.pairwise_singleton .., fun a ha b hb e => ?_⟩
    rw [List.mem_singleton.1 hb] at e
    have := h.num a ha
    rw [e] at this
    simp only [itS] at this
    omega
  have hlen : (W ++ [(qS o.q, itS o i)]).length ≤ i + 1 := by have := h.len; simp; omega
  unfold jS at hok ⊢
  unfold joinT at hok ⊢
  have hne : ¬ (joinE t (qS o.q) (itS o i).rv (itS o i) (i / 3 : Nat) false ≠ 0) := fun e => e hj
  rw [if_neg hne] at hok ⊢
  cases hx : t.fl.findIdx? (hitB (qS o.q) (itS o i).rv false) with
  | some k =>
    rw [hx] at hok
    dsimp only at hok ⊢
    obtain ⟨f, hf, hp, _⟩ := idx_lt hx
    have hp' : f.q = qS o.q ∧ f.rv = (itS o i).rv := by simpa [hitB] using hp
    have hget : ∀ (j : Nat) g, (t.fl.modify k (addI (itS o i)))[j]? = some g → ∃ g0, t.fl[j]? = some g0 ∧ g = if j = k then addI (itS o i) g0 else g0 := fun j g hg => by
      rw [modify_eq, List.getElem?_mapIdx] at hg
      cases hl : t.fl[j]? with
      | none => rw [hl] at hg; cases hg
      | some g0 => rw [hl] at hg; cases hg; exact ⟨g0, rfl, rfl⟩
    refine ⟨hok, by have := h.nx; show t.nx ≤ _; omega, fun g hg => ?_, fun g hg => ?_, fun w hw => ?_, hlen, ?_, hdist, hnum⟩
    · obtain ⟨j, hj'⟩ := List.getElem?_of_mem hg
      obtain ⟨g0, h0, e⟩ := hget j g hj'
      have := h.fl g0 (List.mem_of_getElem? h0)
      split at e
      · subst e; simp only [addI]; omega
      · subst e; omega
    · obtain ⟨j, hj'⟩ := List.getElem?_of_mem hg
      obtain ⟨g0, h0, e⟩ := hget j g hj'
      have hh := h.hit g0 (List.mem_of_getElem? h0)
      rw [List.filter_append, List.map_append]
      split at e
      · rename_i hjk
        subst hjk
        obtain rfl : g0 = f := Option.some.inj (h0.symm.trans hf)
        subst e
        have e1 : hitW (addI (itS o i) g0) = hitW g0 := rfl
        have e2 : hitW g0 (qS o.q, itS o i) = true := hitW_iff.2 ⟨hp'.1.symm, hp'.2.symm⟩
        rw [e1, ← hh, List.filter_cons_of_pos e2]
        rfl
      · rename_i hjk
        subst e
        have e2 : ¬ hitW g (qS o.q, itS o i) = true := fun e => by
          obtain ⟨e3, e4⟩ := hitW_iff.1 e
          exact hjk (h.ok.one h0 hf (e4.symm.trans hp'.2.symm) (e3.symm.trans hp'.1.symm))
        rw [← hh, List.filter_cons_of_neg e2]
        simp
    · have hmk : ∀ (j : Nat) g0, t.fl[j]? = some g0 → ∃ g ∈ t.fl.modify k (addI (itS o i)), hitW g = hitW g0 := fun j g0 h0 => by
        refine ⟨if j = k then addI (itS o i) g0 else g0, List.mem_of_getElem? (i := j) (by rw [modify_eq, List.getElem?_mapIdx, h0]; rfl), ?_⟩
        split <;> rfl
      rcases List.mem_append.1 hw with hw | hw
      · obtain ⟨g0, hg0, e⟩ := h.ex w hw
        obtain ⟨j, hj'⟩ := List.getElem?_of_mem hg0
        obtain ⟨g, hg, e'⟩ := hmk j g0 hj'
        exact ⟨g, hg, by rw [e']; exact e⟩
      · rw [List.mem_singleton.1 hw]
        obtain ⟨g, hg, e'⟩ := hmk k f hf
        exact ⟨g, hg, by rw [e']; exact hitW_iff.2 ⟨hp'.1.symm, hp'.2.symm⟩⟩
    · show itsN (t.fl.modify k (addI (itS o i))) = _
      rw [itsN_modify (get_lt hf), h.its]
      simp
  | none =>
    rw [hx] at hok
    dsimp only at hok ⊢
    have hn := idx_none hx
    refine ⟨hok, by have := h.nx; show t.nx + 1 ≤ _; omega, fun g hg => ?_, fun g hg => ?_, fun w hw => ?_, hlen, ?_, hdist, hnum⟩
    · rcases List.mem_append.1 hg with hg | hg
      · have := h.fl g hg; omega
      · rw [List.mem_singleton.1 hg]; simp only [newF]; omega
    · rw [List.filter_append, List.map_append]
      rcases List.mem_append.1 hg with hg | hg
      · have hh := h.hit g hg
        have e2 : ¬ hitW g (qS o.q, itS o i) = true := fun e => by
          obtain ⟨e3, e4⟩ := hitW_iff.1 e
          have := hn g hg
          have e3' : qS o.q = g.q := e3
          have e4' : (itS o i).rv = g.rv := e4
          simp [hitB, e3', e4'] at this
        rw [← hh, List.filter_cons_of_neg e2]
        simp
      · rw [List.mem_singleton.1 hg]
        have e1 : W.filter (hitW (newF t.nx (itS o i).rv (qS o.q) (itS o i) (i / 3 : Nat))) = [] := by
          rw [List.filter_eq_nil_iff]
          intro w hw e
          obtain ⟨e3, e4⟩ := hitW_iff.1 e
          obtain ⟨g, hg', e5⟩ := h.ex w hw
          obtain ⟨e6, e7⟩ := hitW_iff.1 e5
          have := hn g hg'
          have e3' : w.1 = qS o.q := e3
          have e4' : w.2.rv = (itS o i).rv := e4
          have e8 : g.q = qS o.q := e6.symm.trans e3'
          have e9 : g.rv = (itS o i).rv := e7.symm.trans e4'
          simp [hitB, e8, e9] at this
        rw [e1, List.filter_cons_of_pos (hitW_iff.2 ⟨rfl, rfl⟩)]
        rfl
    · rcases List.mem_append.1 hw with hw | hw
      · obtain ⟨g, hg, e⟩ := h.ex w hw
        exact ⟨g, List.mem_append_left _ hg, e⟩
      · rw [List.mem_singleton.1 hw]
        exact ⟨_, List.mem_append_right _ (List.mem_singleton.2 rfl), hitW_iff.2 ⟨rfl, rfl⟩⟩
    · show itsN (t.fl ++ [newF t.nx (itS o i).rv (qS o.q) (itS o i) (i / 3 : Nat)]) = _
      rw [itsN_snoc, h.its]
      simp [newF]
theorem posF_at {t : Tb} (h : TOk t) {k : Nat} {f : Fl} (hf : t.fl[k]? = some f) : posF t.fl f.id = some k := by
  unfold posF
  rw [List.findIdx?_eq_some_iff_getElem]
  have hkl := get_lt hf
  rw [List.getElem?_eq_getElem hkl] at hf
  cases hf
  refine ⟨hkl, by simp, fun j hj => ?_⟩
  have hne : ¬ (t.fl[j]'(by omega)).id = t.fl[k].id := fun e => by
    have := h.id_one (List.getElem?_eq_getElem (by omega : j < t.fl.length)) (List.getElem?_eq_getElem hkl) e
    omega
  simpa using hne
theorem plE_at {t : Tb} (h : TOk t) {f : Fl} (hf : f ∈ t.fl) : plE t f.id = 0 := by
  obtain ⟨k, hk⟩ := List.getElem?_of_mem hf
  unfold plE
  rw [if_neg (by simp [chkE_iff.2 h]), if_neg (by rw [posF_at h hk]; simp)]
theorem find_of_pos {l : List Fl} {p : Fl → Bool} {k : Nat} {f : Fl} (h : l.findIdx? p = some k) (hf : l[k]? = some f) : l.find? p = some f := by
  obtain ⟨g, hg, hp, hj⟩ := idx_lt h
  rw [hf] at hg
  cases hg
  rw [List.find?_eq_some_iff_getElem]
  refine ⟨hp, k, get_lt hf, ?_, fun j hjk => ?_⟩
  · have := List.getElem?_eq_getElem (get_lt hf)
    rw [hf] at this
    exact (Option.some.inj this).symm
  · have hjl : j < l.length := by have := get_lt hf; omega
    have := hj j _ hjk (List.getElem?_eq_getElem hjl)
    simpa using this
theorem findF_at {t : Tb} (h : TOk t) {f : Fl} (hf : f ∈ t.fl) : findF t f.id = f := by
  obtain ⟨k, hk⟩ := List.getElem?_of_mem hf
  unfold findF
  have := posF_at h hk
  unfold posF at this
  rw [if_neg (by simp [plE_at h hf]), find_of_pos this hk]
  rfl
theorem itsN_map {l : List Fl} {φ : Fl → Fl} (h : ∀ f, (φ f).is = f.is) : itsN (l.map φ) = itsN l := by
  unfold itsN
  rw [List.map_map]
  congr 1
  exact List.map_congr_left fun f _ => by simp [h]
theorem map_mapIdx {l : List Fl} {φ : Fl → Fl} : l.map φ = l.mapIdx fun _ f => φ f := by
  apply List.ext_getElem?
  intro k
  simp
theorem cm_ok {t : Tb} (h : TOk t) {id st : Int} (he : cmE t id st = 0) : TOk (cmT t id st) := by
  unfold cmT
  rw [if_neg (by simp [he])]
  have hcm : plE t id = 0 ∧ 0 ≤ st ∧ (findF t id).ve ≠ 1048576 ∧ st ≤ 1048576 - (findF t id).sp := by
    unfold cmE at he
    split at he
    · rename_i h1; exact absurd he h1
    · rename_i h1
      split at he
      · cases he
      · rename_i h2
        simp only [not_or, Int.not_lt] at h2
        exact ⟨Classical.not_not.1 h1, h2⟩
  refine ⟨h.nx, ?_, ?_⟩
  · show itsN (t.fl.map fun f => if f.id = id then mvF st f else f) ≤ 1024
    rw [itsN_map fun f => by split <;> rfl]
    exact h.its
  · show ∀ (i : Nat) g, (t.fl.map fun f => if f.id = id then mvF st f else f)[i]? = some g → FOk t.nx ((t.fl.map fun f => if f.id = id then mvF st f else f).take i) g
    rw [map_mapIdx]
    refine fok_mapIdx (nx := t.nx) (fun j g hg => ?_) h.fl fun j g hg => ?_
    · split
      · exact ⟨rfl, rfl, rfl, rfl⟩
      · exact Alike.refl _
    · have hg0 := h.fl j g hg
      split
      · rename_i e
        have hf := findF_at h (List.mem_of_getElem? hg)
        rw [e] at hf
        have hr := rngB_iff.1 hg0.rng
        rw [hf] at hcm
        refine ⟨rngB_iff.2 ?_, hg0.ne, hg0.mem⟩
        simp only [mvF]
        omega
      · exact ⟨hg0.rng, hg0.ne, hg0.mem⟩
theorem p_cmE {i : Nat} {t : Tb} {W : Wt} (h : PInv i t W) (hi : i < 100) {f : Fl} (hf : f ∈ t.fl) {n : Nat} (hn : n < 256) : cmE t f.id n = 0 := by
  unfold cmE
  rw [if_neg (by simp [plE_at h.ok hf]), if_neg, ]
  rw [findF_at h.ok hf]
  have := h.fl f hf
  rintro (h1 | h1 | h1)
  · omega
  · omega
  · omega
theorem p_cm {i : Nat} {t : Tb} {W : Wt} (h : PInv i t W) (hi : i < 100) {f : Fl} (hf : f ∈ t.fl) {n : Nat} (hn : n < 256) : PInv (i + 1) (cmT t f.id n) W := by
  have he := p_cmE h hi hf hn
  have hok := cm_ok h.ok he
  unfold cmT at hok ⊢
  rw [if_neg (by simp [he])] at hok ⊢
  have hm := h.more
  refine ⟨hok, hm.nx, fun g hg => ?_, fun g hg => ?_, fun w hw => ?_, hm.len, ?_, h.dist, hm.num⟩
  · obtain ⟨g0, hg0, e⟩ := List.mem_map.1 hg
    have := h.fl g0 hg0
    split at e
    · subst e; simp only [mvF]; omega
    · subst e; omega
  · obtain ⟨g0, hg0, e⟩ := List.mem_map.1 hg
    have := h.hit g0 hg0
    split at e
    · subst e; exact this
    · subst e; exact this
  · obtain ⟨g0, hg0, e⟩ := h.ex w hw
    refine ⟨_, List.mem_map.2 ⟨g0, hg0, rfl⟩, ?_⟩
    split
    · exact e
    · exact e
  · show itsN (t.fl.map fun g => if g.id = f.id then mvF n g else g) = _
    rw [itsN_map fun g => by split <;> rfl]
    exact h.its
theorem filter_idx {l : List Fl} {p : Fl → Bool} : ∀ (nx : Int), (∀ (i : Nat) f, l[i]? = some f → FOk nx (l.take i) f) → (∀ {i j : Nat} {f g : Fl}, i < j → l[i]? = some f → l[j]? = some g → f.id < g.id ∧ f.si ≤ g.si) → ∀ (i : Nat) f, (l.filter p)[i]? = some f → FOk nx ((l.filter p).take i) f := by
  intro nx h hasc i f hf
  have hsub : (l.filter p).Sublist l := List.filter_sublist
  have hfm : f ∈ l := hsub.subset (List.mem_of_getElem? hf)
  obtain ⟨k, hk⟩ := List.getElem?_of_mem hfm
  have h0 := h k f hk
  have hpw : l.Pairwise fun a b => (a.id < b.id ∧ a.si ≤ b.si) ∧ ¬ (a.rv = b.rv ∧ a.q = b.q) := by
    rw [List.pairwise_iff_getElem]
    intro i j hi hj hij
    refine ⟨hasc hij (List.getElem?_eq_getElem hi) (List.getElem?_eq_getElem hj), fun e => ?_⟩
    have := twB_iff.1 (h j _ (List.getElem?_eq_getElem hj)).tw l[i] (List.mem_of_getElem? (i := i) (by rw [List.getElem?_take_of_lt hij, List.getElem?_eq_getElem hi]))
    exact this e
  have hpf := hpw.sublist hsub
  have hil := get_lt hf
  rw [List.getElem?_eq_getElem hil] at hf
  have hprev : ∀ j (hj : j < i), ((l.filter p)[j].id < f.id ∧ (l.filter p)[j].si ≤ f.si) ∧ ¬ ((l.filter p)[j].rv = f.rv ∧ (l.filter p)[j].q = f.q) := fun j hj => by
    have := List.pairwise_iff_getElem.1 hpf j i (by omega) hil hj
    cases hf
    exact this
  refine ⟨h0.rng, ?_, h0.qu, h0.ne, h0.mem, ?_⟩
  · cases i with
    | zero => simp [ordB]
    | succ j =>
      unfold ordB
      rw [take_last (by omega), List.getElem?_eq_getElem (by omega : j < (l.filter p).length)]
      exact decide_eq_true (hprev j (by omega)).1
  · rw [twB_iff]
    intro g hg
    obtain ⟨j, hj⟩ := List.getElem?_of_mem hg
    have hjl : j < i := by have := get_lt hj; rw [List.length_take] at this; omega
    rw [List.getElem?_take_of_lt hjl, List.getElem?_eq_getElem (by omega : j < (l.filter p).length)] at hj
    cases hj
    exact (hprev j hjl).2
theorem itsN_filter {l : List Fl} {p : Fl → Bool} : itsN (l.filter p) + itsN (l.filter fun f => !p f) = itsN l := by
  induction l with
  | nil => rfl
  | cons f l ih =>
    unfold itsN at ih ⊢
    cases hp : p f with
    | true => simp [hp]; omega
    | false => simp [hp]; omega
theorem filter_one {t : Tb} (h : TOk t) {f : Fl} (hf : f ∈ t.fl) : (t.fl.filter fun g => !decide (g.id ≠ f.id)) = [f] := by
  obtain ⟨k, hk⟩ := List.getElem?_of_mem hf
  have hkl := get_lt hk
  have hs : t.fl = t.fl.take k ++ f :: t.fl.drop (k + 1) := by
    have h1 := List.take_append_drop k t.fl
    rw [List.drop_eq_getElem_cons hkl] at h1
    rw [List.getElem?_eq_getElem hkl] at hk
    cases hk
    exact h1.symm
  have h1 : (t.fl.take k).filter (fun g => !decide (g.id ≠ f.id)) = [] := by
    rw [List.filter_eq_nil_iff]
    intro g hg e
    obtain ⟨j, hj⟩ := List.getElem?_of_mem hg
    have hjl : j < k := by have := get_lt hj; rw [List.length_take] at this; omega
    rw [List.getElem?_take_of_lt hjl] at hj
    have := h.id_one hj hk (by simpa using e)
    omega
  have h2 : (t.fl.drop (k + 1)).filter (fun g => !decide (g.id ≠ f.id)) = [] := by
    rw [List.filter_eq_nil_iff]
    intro g hg e
    obtain ⟨j, hj⟩ := List.getElem?_of_mem hg
    rw [List.getElem?_drop] at hj
    have := h.id_one hj hk (by simpa using e)
    omega
  rw [hs, List.filter_append, h1, List.filter_cons_of_pos (by simp), h2]
  rfl
theorem ld_ok {t : Tb} (h : TOk t) {id : Int} (he : plE t id = 0) : TOk (ldT t id) := by
  unfold ldT
  rw [if_neg (by simp [he])]
  refine ⟨h.nx, ?_, ?_⟩
  · show itsN (t.fl.filter fun f => decide (f.id ≠ id)) ≤ 1024
    have := itsN_filter (l := t.fl) (p := fun f => decide (f.id ≠ id))
    have := h.its
    omega
  · exact filter_idx t.nx h.fl h.asc
theorem p_in {i : Nat} {t : Tb} {W : Wt} (h : PInv i t W) {f : Fl} (hf : f ∈ t.fl) {k : Nat} {w : Qu × It} (hw : W[k]? = some w) : w.2 ∈ f.is ↔ hitW f w = true := by
  rw [h.hit f hf, List.mem_map]
  constructor
  · rintro ⟨v, hv, e⟩
    rw [List.mem_filter] at hv
    obtain ⟨j, hj⟩ := List.getElem?_of_mem hv.1
    have : j = k := by
      have hjl := get_lt hj
      have hkl := get_lt hw
      rw [List.getElem?_eq_getElem hjl] at hj
      rw [List.getElem?_eq_getElem hkl] at hw
      cases hj
      cases hw
      rcases Nat.lt_trichotomy j k with h1 | h1 | h1
      · exact absurd e (List.pairwise_iff_getElem.1 h.dist j k hjl hkl h1)
      · exact h1
      · exact absurd e.symm (List.pairwise_iff_getElem.1 h.dist k j hkl hjl h1)
    subst this
    rw [hw] at hj
    cases hj
    exact hv.2
  · intro hh
    exact ⟨w, List.mem_filter.2 ⟨List.mem_of_getElem? hw, hh⟩, rfl⟩
theorem p_len {i : Nat} {t : Tb} {W : Wt} (h : PInv i t W) {f : Fl} (hf : f ∈ t.fl) : (W.filter fun w => !hitW f w).length + f.is.length = W.length := by
  rw [h.hit f hf, List.length_map]
  induction W with
  | nil => rfl
  | cons w W ih =>
    clear h
    have : ∀ W : Wt, (W.filter fun w => !hitW f w).length + (W.filter (hitW f)).length = W.length := fun W => by
      induction W with
      | nil => rfl
      | cons w W ih =>
        cases hp : hitW f w with
        | true => simp [hp]; omega
        | false => simp [hp]; omega
    exact this (w :: W)
theorem p_ld {i : Nat} {t : Tb} {W : Wt} (h : PInv i t W) {f : Fl} (hf : f ∈ t.fl) : PInv (i + 1) (ldT t f.id) (W.filter fun w => !hitW f w) := by
  have he := plE_at h.ok hf
  have hok := ld_ok h.ok he
  have hlen := p_len h hf
  unfold ldT at hok ⊢
  rw [if_neg (by simp [he])] at hok ⊢
  have hm := h.more
  have hsub : ∀ w, w ∈ W.filter (fun w => !hitW f w) → w ∈ W := fun w hw => (List.mem_filter.1 hw).1
  refine ⟨hok, hm.nx, fun g hg => hm.fl g (List.mem_filter.1 hg).1, fun g hg => ?_, fun w hw => ?_, by have := h.len; omega, ?_, h.dist.sublist List.filter_sublist, fun w hw => hm.num w (hsub w hw)⟩
  · obtain ⟨hg1, hg2⟩ := List.mem_filter.1 hg
    rw [h.hit g hg1, List.filter_filter]
    congr 1
    refine List.filter_congr fun w hw => ?_
    cases hx : hitW g w with
    | false => rfl
    | true =>
      have : hitW f w = false := by
        cases hy : hitW f w with
        | false => rfl
        | true =>
          obtain ⟨a1, a2⟩ := hitW_iff.1 hx
          obtain ⟨b1, b2⟩ := hitW_iff.1 hy
          obtain ⟨k, hk⟩ := List.getElem?_of_mem hf
          obtain ⟨j, hj⟩ := List.getElem?_of_mem hg1
          have := h.ok.one hj hk (a2.symm.trans b2) (a1.symm.trans b1)
          subst this
          rw [hj] at hk
          cases hk
          simp at hg2
      rw [this]
      rfl
  · obtain ⟨hw1, hw2⟩ := List.mem_filter.1 hw
    obtain ⟨g, hg, e⟩ := h.ex w hw1
    refine ⟨g, List.mem_filter.2 ⟨hg, decide_eq_true fun hid => ?_⟩, e⟩
    obtain ⟨k, hk⟩ := List.getElem?_of_mem hf
    obtain ⟨j, hj⟩ := List.getElem?_of_mem hg
    have := h.ok.id_one hj hk hid
    subst this
    rw [hj] at hk
    cases hk
    rw [e] at hw2
    cases hw2
  · show itsN (t.fl.filter fun g => decide (g.id ≠ f.id)) = _
    have h1 := itsN_filter (l := t.fl) (p := fun g => decide (g.id ≠ f.id))
    rw [filter_one h.ok hf] at h1
    have h2 : itsN [f] = f.is.length := by simp [itsN]
    have := h.its
    omega
end Go.V.L39
namespace Go.V
open Go.RowKit
def zsL (P : Program) (e : TypeId) (k : Nat) : List Value := match P.info? e with
  | some i => match i.zero with
    | some z => (madeCells z.cells k).toList
    | none => []
  | none => []
theorem zsL_length {P : Program} {e : TypeId} {s by_ k : Nat} (h : elI P e = some (s, by_)) : (zsL P e k).length = k := by
  obtain ⟨i, z, hi, hz, _, _, _, _⟩ := elI_spec h
  unfold zsL
  rw [hi]; dsimp only; rw [hz]
  simp [size_madeCells]
def SlE (e : TypeId) (s n : Nat) (xs : List Value) : Res where
  P x _ u C := xs.length = n * s ∧ ((n = 0 ∧ x = .slice none 0 0 ∧ ∀ k, ¬ C k) ∨ ∃ b, x = .slice (some ⟨b, 0, none⟩) n n ∧ u.heap[b]? = some (.cells xs.toArray e) ∧ n ≤ maxLen ∧ ∀ k, C k ↔ k = b)
  st := fun ⟨hl, h⟩ _ _ _ hk => ⟨hl, by
    rcases h with h | ⟨b, h1, h2, h3, h4⟩
    · exact .inl h
    · exact .inr ⟨b, h1, (hk b ((h4 b).2 rfl)).trans h2, h3, h4⟩⟩
section
variable {P : Program} {F : Fr} {B : Heap} {O : Boxes} {n : Nat} {ops : Array Oper} {κ : Kap} {d : Nat} {ty : TypeId} {pos : String} {aft : Array Edge} {g : Option (Nat × Bool)} {a : Act} {u : World} {H : Heap} {fp : Nat → Nat → Prop} {os : List Oper} {Q : Exit → Act → World → Prop} {ex : Exs}
theorem ok_makeN (L : Tabs P) {t e : TypeId} {x y : Operand} {kl kc : IntKind} {s by_ : Nat} (c : Nat) {p q : Int} (hn : Nat.blt d n = true) (hg : gK ops κ ⟨some d, .makeSlice t x y, ty, pos, aft, g⟩ = some true) (ht : L.sl t = some e) (he : elI P e = some (s, by_))
    (hx : evK κ x = some (.int kl q)) (hy : evK κ y = some (.int kc p)) (hq : q = c) (hp : p = c) (hb : by_ * c ≤ 281474976710656) (hc : c ≤ maxLen) : StepOK P F B n ops O κ ⟨some d, .makeSlice t x y, ty, pos, aft, g⟩ d (.own (SlE e s c (zsL P e (c * s)))) := by
  rintro κ' a u hl ⟨H, fp, hh⟩
  unfold After
  rw [if_pos (wanted_gK hh hl hg)]
  have en := hh.env hl
  have hzl := zsL_length (k := c * s) he
  obtain ⟨i, z, hi, hz, hs1, hs2, hs3, hs4⟩ := elI_spec he
  have h1 := en.is_ x _ (by simp [Op.operands]) hx
  have h2 := en.is_ y _ (by simp [Op.operands]) hy
  subst hp
  subst hq
  have hb' : (i.bytes : Int) * (c : Int) ≤ 281474976710656 := by
    have h : ((by_ * c : Nat) : Int) ≤ 281474976710656 := by omega
    rw [hs2]; rwa [Int.natCast_mul] at h
  have h63 : (c : Int) ≤ 9223372036854775807 := by simp [maxLen] at hc; omega
  have hr := run_make (P := P) u t e i z (Tabs.sl_spec ht) hi hz kl kc c c (by omega) (by omega) hb' h63
  simp only [Int.toNat_natCast] at hr
  have hrun : (execOp a.eval ⟨some d, .makeSlice t x y, ty, pos, aft, g⟩).run P u = .ok (.value (.slice (some ⟨u.heap.size, 0, none⟩) c c)) (u.alloc (.cells (madeCells z.cells (c * i.size)) e)) := by
    simp only [execOp, h1, h2, Sem.run_bind, hr, Result.andThen_ok]; rfl
  rw [hrun]
  simp only [Upon]
  have hzs : zsL P e (c * s) = (madeCells z.cells (c * i.size)).toList := by
    unfold zsL
    rw [hi]; dsimp only; rw [hz, hs1]
  have hg2 := hh.grow (Grow.hid hh.sub (.cells (madeCells z.cells (c * i.size)) e))
  refine ⟨H, _, hg2.putR (C := fun k => k = u.heap.size) (by simp [Act.put]) rfl (fun t ht => eval_put_other ht) ⟨hzl, .inr ⟨u.heap.size, eval_put_same (by rw [hh.size]; exact zg hn), by rw [heap_push_same, hzs], hc, fun _ => Iff.rfl⟩⟩ (fun k hk => ?_) fun t r' _ ht k hf hk => ?_⟩
  · subst hk
    exact ⟨size_of_heap (heap_push_same u _), none_of_ge hh.sub (Nat.le_refl _), .inl hh.keep.size, fun y hy e => by have := size_of_heap (hh.boxes y hy).1; omega⟩
  · have := ((hh.slot t _ ht).2 k hf).1
    omega
def OwnP (w : World) (r : Res) (v : Value) (H : Heap) (u : World) : Prop := ∃ C : Nat → Prop, r.P v H u C ∧ ∀ k, C k → w.heap.size ≤ k ∧ k < u.heap.size ∧ H k = none
def RetO (P : Program) (f : FuncId) (args : List Value) (w : World) (B : Heap) (r : Res) : Prop := RetL P f args w B noL (OwnP w r)
theorem ok_callO (L : Tabs P) {o : Oper} {d f : Nat} {args : Array Operand} {at_ : Array TypeId} {cap : List Value} {r : Res} {fo : Operand}
    (hop : o.op = .call { callee := .value fo, args := args, argTypes := at_ }) (hd : o.dst = some d) (hn : d < n) (hg : gK ops κ o = some true)
    (hf : evK κ fo = some (.func (.func f) #[] cap.toArray)) (hfn : L.fn f = some ())
    (h : ∀ u H, H.Le (hp u) → B.Le H → Below F.w0.heap.size F.w0 F.w0 → Args κ H args.toList [] (fun vs => RetO P f (vs ++ cap) u H r)) :
    StepOK P F B n ops O κ o d (.own r) := by
  rintro κ' a u hl ⟨H, fp, hh⟩
  unfold After
  rw [if_pos (wanted_gK hh hl hg)]
  have e := hh.env hl
  have hfe : a.eval fo = .func (.func f) #[] cap.toArray := e.is_ fo _ (by simp [hop, Op.operands, Call.operands]) hf
  have hc := Args.use e args.toList [] (fun x hx => by simp [hop, Op.operands, Call.operands] at hx ⊢; exact .inr hx) (h u H e.sub e.base (Below.refl _ _))
  simp only [List.reverse_nil, List.nil_append] at hc
  rw [run_call L hop hfe hfn]
  simp only [Upon]
  refine Calls.mono hc fun e' u' hp => ?_
  obtain ⟨v, rfl, H', g', C, hv, hC⟩ := hp
  have h2 := hh.grow g'
  refine ⟨v, rfl, ?_⟩
  simp only [hd]
  refine ⟨H', _, h2.putR (C := C) (by simp [Act.put]) rfl (fun t ht => eval_put_other ht) (by rw [eval_put_same (by rw [hh.size]; exact hn)]; exact hv) (fun k hk => ?_) fun t r' _ ht k hf hk => ?_⟩
  · obtain ⟨h3, h4, h5⟩ := hC k hk
    exact ⟨h4, h5, .inl (Nat.le_trans hh.keep.size h3), fun y hy e => by have := size_of_heap (hh.boxes y hy).1; omega⟩
  · have h3 := (hC k hk).1
    have := ((hh.slot t _ ht).2 k hf).1
    omega
theorem V_retO {fn : Func} {B0 : Heap} {t : Nat} {r : Res} (hrs : fn.results = #[.tmp t]) (hQ : ∀ a u, bodyPostM Fence.wide 0 P fn (PostL F.w0 B0 F.L (OwnP F.w0 r)) .ret a u → Q .ret a u) (hs : Since F B0 B) (hk : κ t = some (.own r)) (hL : F.L = noL := by rfl) : V P F B n O κ .ret Q :=
  V_retG hQ hs fun O' a u H fp _ hh => by
    obtain ⟨hown, hM⟩ := hh.slot t _ hk
    refine ⟨a.eval (.tmp t), ?_, fp t, hown, fun k hk => ?_⟩
    · simp [results, hrs, Act.eval]
    · obtain ⟨h1, h2, h3, _⟩ := hM k hk
      refine ⟨?_, h1, h2⟩
      rcases h3 with h3 | h3
      · exact h3
      · have h3' : F.L k := h3
        rw [hL] at h3'; exact h3'.elim
theorem RetO.mono {P : Program} {f : FuncId} {args : List Value} {w : World} {B : Heap} {r r' : Res} (h : RetO P f args w B r) (hi : ∀ v H u C, r.P v H u C → r'.P v H u C) : RetO P f args w B r' :=
  RetL.mono h fun _ _ _ _ ⟨C, h1, h2⟩ => ⟨C, hi _ _ _ _ h1, h2⟩
open Classical in
noncomputable def joinH (H : Heap) (u : World) (C : Nat → Prop) : Heap := fun k => if C k then hp u k else H k
theorem joinH_in {H : Heap} {u : World} {C : Nat → Prop} {k : Nat} (h : C k) : joinH H u C k = hp u k := if_pos h
theorem joinH_out {H : Heap} {u : World} {C : Nat → Prop} {k : Nat} (h : ¬ C k) : joinH H u C k = H k := if_neg h
theorem joinH_sub {H : Heap} {u : World} {C : Nat → Prop} (h : H.Le (hp u)) : (joinH H u C).Le (hp u) := fun k v hv => by
  by_cases hc : C k
  · rwa [joinH_in hc] at hv
  · rw [joinH_out hc] at hv; exact h _ _ hv
theorem joinH_le {H : Heap} {u : World} {C : Nat → Prop} (h : ∀ k, C k → H k = none) : H.Le (joinH H u C) := fun k v hv => by
  by_cases hc : C k
  · rw [h k hc] at hv; cases hv
  · rwa [joinH_out hc]
def Lend (r : Res) (φ : Value → Heap → Prop) : Prop := ∀ x H u C, r.P x H u C → φ x (joinH H u C)
theorem lend_SlE {e : TypeId} {s m : Nat} {xs : List Value} : Lend (SlE e s m xs) (SlV e s xs m true) := fun x H u C ⟨hl, h⟩ => ⟨hl, by
  rcases h with ⟨h0, hv, _⟩ | ⟨b, hv, hb, h3, hC⟩
  · exact .inl ⟨h0, _, hv⟩
  · exact .inr ⟨b, 0, m, _, _, _, hv, (joinH_in ((hC b).2 rfl)).trans hb, by simp, Nat.le_refl _, fun _ => rfl⟩⟩
def opsHas (q : Nat) (l : List Operand) : Bool := l.any fun x => match x with | .tmp t => Nat.beq t q | _ => false
theorem V_enterO {f : FuncId} {fn : Func} {c : Code} {args : List Value} {w : World} {B : Heap} {r : Res} (hf : P.funcs[f]? = some fn) (hb : fn.body = some c) (hn : fn.ntmps = n)
    (hs : args.length ≤ n) (hB : B.Le (hp w)) (h : V P (Fr.pure w) B n [] (argsK 0 args) c (bodyPostM Fence.wide 0 P fn (PostL w B noL (OwnP w r)))) : RetO P f args w B r :=
  calls_of_V hf hb (h _ w ⟨B, fun _ => noL, by subst hn; exact has_enter noL (fun _ h => h.elim) hs hB _⟩)
theorem Has.nilE {t : Nat} (e : TypeId) (s : Nat) (hk : κ t = some (.is (.slice none 0 0))) (h : Has F B O n κ a u) : Has F B O n (upd κ t (.own (SlE e s 0 []))) a u := by
  obtain ⟨H, fp, h⟩ := h
  exact ⟨H, _, h.putR (C := noL) rfl rfl (fun _ _ => rfl) ⟨by simp, .inl ⟨rfl, h.slot t _ hk, fun _ h => h⟩⟩ (fun _ h => h.elim) fun _ _ _ _ _ _ h => h⟩
theorem V_nilE (t : Nat) (e : TypeId) (s : Nat) {c : Code} (hk : κ t = some (.is (.slice none 0 0))) (h : V P F B n O (upd κ t (.own (SlE e s 0 []))) c Q) : V P F B n O κ c Q := fun a u hh => h a u (hh.nilE e s hk)
end
end Go.V
namespace Go.V
open Go.RowKit
def HeldR (b : Nat) (cs : List Value) (ty : TypeId) : Res where
  P _ _ u C := u.heap[b]? = some (.cells cs.toArray ty) ∧ ∀ k, C k ↔ k = b
  st := fun ⟨h1, h2⟩ _ _ _ hk => ⟨(hk b ((h2 b).2 rfl)).trans h1, h2⟩
section
variable {P : Program} {F : Fr} {B : Heap} {O : Boxes} {n : Nat} {ops : Array Oper} {κ : Kap} {d : Nat} {ty : TypeId} {pos : String} {aft : Array Edge} {g : Option (Nat × Bool)} {a : Act} {u : World} {H : Heap} {fp : Nat → Nat → Prop} {os : List Oper} {Q : Exit → Act → World → Prop} {ex : Exs}
theorem Has.hold {t q : Nat} {cs : List Value} {ty : TypeId} (hk : κ t = some (.own (Cell cs ty))) (h : Has F B O n κ a u) : ∃ b, Has F B O n (upd (upd (upd κ t nilK) q (.own (HeldR b cs ty))) t (.is (.pointer (some ⟨b, 0, none⟩)))) a u := by
  obtain ⟨H, fp, h⟩ := h
  obtain ⟨⟨b, hv, hb, hC⟩, hM⟩ := h.slot t _ hk
  have h2 := h.usePut (d := q) (a' := a) (r' := HeldR b cs ty) (C := fp t) hk ⟨Keep.refl _ _, h.sub, Heap.Le.refl _, fun _ _ _ => rfl⟩ rfl rfl (fun _ _ => rfl) ⟨hb, hC⟩ fun k hk => ⟨.inl hk, (hM k hk).1, (hM k hk).2.1⟩
  have h3 := h2.name t
  rw [hv] at h3
  exact ⟨b, H, _, h3⟩
theorem Has.release {t q b : Nat} {cs : List Value} {ty : TypeId} (hk : κ q = some (.own (HeldR b cs ty))) (ht : κ t = some (.is (.pointer (some ⟨b, 0, none⟩)))) (h : Has F B O n κ a u) : Has F B O n (upd (upd κ q nilK) t (.own (Cell cs ty))) a u := by
  obtain ⟨H, fp, h⟩ := h
  obtain ⟨⟨hb, hC⟩, hM⟩ := h.slot q _ hk
  have hx : a.eval (.tmp t) = .pointer (some ⟨b, 0, none⟩) := h.slot t _ ht
  exact ⟨H, _, h.usePut (d := t) (a' := a) (r' := Cell cs ty) (C := fp q) hk ⟨Keep.refl _ _, h.sub, Heap.Le.refl _, fun _ _ _ => rfl⟩ rfl rfl (fun _ _ => rfl) ⟨b, hx, hb, hC⟩ fun k hk => ⟨.inl hk, (hM k hk).1, (hM k hk).2.1⟩⟩
theorem V_hold (t q : Nat) {cs : List Value} {ty : TypeId} {c : Code} (hk : κ t = some (.own (Cell cs ty))) (h : ∀ b, V P F B n O (upd (upd (upd κ t nilK) q (.own (HeldR b cs ty))) t (.is (.pointer (some ⟨b, 0, none⟩)))) c Q) : V P F B n O κ c Q := fun a u hh => let ⟨b, h'⟩ := hh.hold (q := q) hk; h b a u h'
theorem V_release (t q : Nat) {b : Nat} {cs : List Value} {ty : TypeId} {c : Code} (hk : κ q = some (.own (HeldR b cs ty))) (ht : κ t = some (.is (.pointer (some ⟨b, 0, none⟩)))) (h : V P F B n O (upd (upd κ q nilK) t (.own (Cell cs ty))) c Q) : V P F B n O κ c Q := fun a u hh => h a u (hh.release hk ht)
def StepOKR (P : Program) (F : Fr) (B : Heap) (n : Nat) (ops : Array Oper) (O : Boxes) (κ : Kap) (o : Oper) (q d : Nat) (k : Kn) : Prop :=
  ∀ κ' a u, (∀ t ∈ o.looksAt ops, κ' t = κ t) → κ' q = κ q → Has F B O n κ' a u → After P ops o (fun a' u' => Has F B O n (upd κ' d k) a' u') a u
theorem vo_stepR {o : Oper} {q d : Nat} {k : Kn} (hs : StepOKR P F B n ops O κ o q d k) (h : VO P F B n O ops (upd κ d k) os Q) : VO P F B n O ops κ (o :: os) Q :=
  fun a u hh => After.mono (fun a' u' hh' => h a' u' hh') (hs κ a u (fun _ _ => rfl) rfl hh)
theorem q8 {o : Oper} {q d : Nat} {k : Kn} (hs : StepOKR P F B n ops O κ o q d k) (hd : vd o = some d) (he : (exR ex o).contains q = true) (h : Par P F B n O ops ex (upd κ d k) os Q) : Par P F B n O ops ex κ (o :: os) Q := by
  have hm : q ∈ exR ex o := by simpa using he
  refine ⟨[(d, k)], fun p hp => ?_, fun κ' a u hl hh => hs κ' a u (fun t ht => hl t (List.mem_append_left _ ht)) (hl q (List.mem_append_right _ (List.mem_append_right _ hm))) hh, h⟩
  simp only [List.mem_cons, List.mem_nil_iff, or_false] at hp
  subst hp
  exact List.mem_append_left _ (by simp [hd])
def StepOKS (P : Program) (F : Fr) (B : Heap) (n : Nat) (ops : Array Oper) (O : Boxes) (κ : Kap) (o : Oper) (q : Nat) (k : Kn) : Prop :=
  ∀ κ' a u, (∀ t ∈ o.looksAt ops, κ' t = κ t) → κ' q = κ q → Has F B O n κ' a u → After P ops o (fun a' u' => Has F B O n (upd κ' q k) a' u') a u
theorem vo_stepS {o : Oper} {q : Nat} {k : Kn} (hs : StepOKS P F B n ops O κ o q k) (h : VO P F B n O ops (upd κ q k) os Q) : VO P F B n O ops κ (o :: os) Q :=
  fun a u hh => After.mono (fun a' u' hh' => h a' u' hh') (hs κ a u (fun _ _ => rfl) rfl hh)
theorem y9 {o : Oper} {q : Nat} {k : Kn} (hs : StepOKS P F B n ops O κ o q k) (he : (exO ex o).contains q = true) (h : Par P F B n O ops ex (upd κ q k) os Q) : Par P F B n O ops ex κ (o :: os) Q := by
  have hm : q ∈ exO ex o := by simpa using he
  refine ⟨[(q, k)], fun p hp => ?_, fun κ' a u hl hh => hs κ' a u (fun t ht => hl t (List.mem_append_left _ ht)) (hl q (List.mem_append_right _ (List.mem_append_left _ hm))) hh, h⟩
  simp only [List.mem_cons, List.mem_nil_iff, or_false] at hp
  subst hp
  exact List.mem_append_right _ hm
theorem ok_callLendG (L : Tabs P) (q : Nat) {r : Res} {Φ : Heap → Prop} {o : Oper} {d f : Nat} {args : Array Operand} {at_ : Array TypeId} {cap : List Value} {c : Value} {fo : Operand}
    (hop : o.op = .call { callee := .value fo, args := args, argTypes := at_ }) (hd : o.dst = some d) (hn : d < n) (hg : gK ops κ o = some true)
    (hf : evK κ fo = some (.func (.func f) #[] cap.toArray)) (hfn : L.fn f = some ()) (hq : κ q = some (.own r)) (hm : opsHas q o.op.operands.toList = false) (hl : ∀ v H u C, r.P v H u C → Φ (joinH H u C))
    (h : ∀ u H, H.Le (hp u) → B.Le H → Φ H → Args κ H args.toList [] (fun vs => Ret P f (vs ++ cap) u H (fun v _ => v = c))) :
    StepOKR P F B n ops O κ o q d (.is c) := by
  rintro κ' a u hlk hqk ⟨H, fp, hh⟩
  unfold After
  rw [if_pos (wanted_gK hh hlk hg)]
  have e := hh.env hlk
  have hfe : a.eval fo = .func (.func f) #[] cap.toArray := e.is_ fo _ (by simp [hop, Op.operands, Call.operands]) hf
  obtain ⟨hown, hM⟩ := hh.slot q _ (hqk.trans hq)
  have hle : H.Le (joinH H u (fp q)) := joinH_le fun k hk => (hM k hk).2.1
  have hqo : ∀ t, Operand.tmp t ∈ o.op.operands → t ≠ q := fun t ht e => by
    subst e
    have : opsHas t o.op.operands.toList = true := List.any_eq_true.2 ⟨Operand.tmp t, by simpa using ht, Nat.beq_refl t⟩
    rw [this] at hm; cases hm
  have e1 : Env F B O κ o a u (joinH H u (fp q)) fp := by
    refine ⟨e.is_, fun t ψ ht hk => ?_, fun t r' ht hk => ?_, joinH_sub hh.sub, fun k v hv => hle _ _ (hh.base _ _ hv), fun y hy => ?_, hh.keep⟩
    · have hk' : κ' t = some (.sat ψ) := (hlk t (looks_of ht)).trans hk
      exact hh.mono t _ hk' _ _ _ (e.sat_ t ψ ht hk) hle
    · obtain ⟨h1, h2⟩ := e.own_ t r' ht hk
      have hk' : κ' t = some (.own r') := (hlk t (looks_of ht)).trans hk
      refine ⟨r'.st h1 hle (joinH_sub hh.sub) ⟨rfl, rfl, rfl, Nat.le_refl _, Nat.le_refl _⟩ fun _ _ => rfl, fun k hk2 => ?_⟩
      obtain ⟨g1, g2, g3, g4⟩ := h2 k hk2
      exact ⟨g1, (joinH_out (hh.owns t q r' _ (hqo t ht) hk' (hqk.trans hq) k hk2)).trans g2, g3, g4⟩
    · obtain ⟨h1, h2, h3⟩ := e.boxes y hy
      exact ⟨h1, (joinH_out fun hc => (hM _ hc).2.2.2 y hy rfl).trans h2, h3⟩
  have hc := Args.use e1 args.toList [] (fun x hx => by simp [hop, Op.operands, Call.operands] at hx ⊢; exact .inr hx) (h u (joinH H u (fp q)) e1.sub e1.base (hl _ _ _ _ hown))
  simp only [List.reverse_nil, List.nil_append] at hc
  rw [run_call L hop hfe hfn]
  simp only [Upon]
  refine Calls.mono hc fun e' u' hp => ?_
  obtain ⟨v, rfl, H', g', hv⟩ := hp
  refine ⟨v, rfl, ?_⟩
  simp only [hd]
  have g2 : Grow noL u H u' H := ⟨g'.keep, fun k x hx => by
    have h1 := hh.sub _ _ hx
    exact (g'.keep.block k (size_of_heap h1) fun h => h).trans h1, Heap.Le.refl _, fun _ _ _ => rfl⟩
  exact ⟨H, fp, (hh.grow g2).put (k := .is c) hn trivial hv⟩
theorem ok_loadHA (L : Tabs P) {x : Operand} {q b : Nat} {t t' : TypeId} {s off : Nat} {cs vs : List Value} (hx : evK κ x = some (.pointer (some ⟨b, off, none⟩))) (hq : κ q = some (.own (HeldR b cs t'))) (hn : Nat.blt d n = true) (hg : gK ops κ ⟨some d, .load t x, ty, pos, aft, g⟩ = some true)
    (hl : L.ld t = some (true, s)) (hlen : vs.length = s) (hc : ∃ r, cs.drop off = vs ++ r) : StepOKR P F B n ops O κ ⟨some d, .load t x, ty, pos, aft, g⟩ q d (.is (.agg vs.toArray)) := by
  rintro κ' a u hlk hqk ⟨H, fp, hh⟩
  unfold After
  rw [if_pos (wanted_gK hh hlk hg)]
  have e := hh.env hlk
  have h1 := e.is_ x _ (by simp [Op.operands]) hx
  obtain ⟨⟨h2, hC⟩, hM⟩ := hh.slot q _ (hqk.trans hq)
  obtain ⟨r, hc⟩ := hc
  have hrun : (execOp a.eval ⟨some d, .load t x, ty, pos, aft, g⟩).run P u = .ok (.value (.agg vs.toArray)) u := by
    simp only [execOp, h1, Instr.loadAt, Instr.sureAddr, Sem.run_bind, Sem.run_pure, Result.andThen_ok]
    rw [run_loadVar_agg (Tabs.ld_spec hl) u _ vs hlen (fun j v hj => by
      have h3 : cs[off + j]? = some v := by
        have := congrArg (·[j]?) hc
        simp only [List.getElem?_drop] at this
        rw [this, List.getElem?_append_left (by
          rcases Nat.lt_or_ge j vs.length with h | h
          · exact h
          · rw [List.getElem?_eq_none h] at hj; cases hj)]
        exact hj
      show u.cell? (Addr.add ⟨b, off, none⟩ j) = some v
      have : Addr.add ⟨b, off, none⟩ j = ⟨b, off + j, none⟩ := by simp [Addr.add]
      rw [this, cell_of_heap h2]; simpa using h3)]
    rfl
  rw [hrun]
  simp only [Upon]
  exact ⟨H, fp, hh.put (k := .is (.agg vs.toArray)) (zg hn) trivial rfl⟩
theorem zx (L : Tabs P) {x : Operand} {q b : Nat} {t t' : TypeId} {s off : Nat} {cs r : List Value} {v : Value} (hx : evK κ x = some (.pointer (some ⟨b, off, none⟩))) (hq : κ q = some (.own (HeldR b cs t'))) (hn : Nat.blt d n = true) (hg : gK ops κ ⟨some d, .load t x, ty, pos, aft, g⟩ = some true)
    (hl : L.ld t = some (false, s)) (hc : cs.drop off = v :: r) : StepOKR P F B n ops O κ ⟨some d, .load t x, ty, pos, aft, g⟩ q d (.is v) := by
  rintro κ' a u hlk hqk ⟨H, fp, hh⟩
  unfold After
  rw [if_pos (wanted_gK hh hlk hg)]
  have e := hh.env hlk
  have h1 := e.is_ x _ (by simp [Op.operands]) hx
  obtain ⟨⟨h2, hC⟩, hM⟩ := hh.slot q _ (hqk.trans hq)
  have h3 : cs[off]? = some v := by
    have := congrArg (·[0]?) hc
    simpa using this
  have hrun : (execOp a.eval ⟨some d, .load t x, ty, pos, aft, g⟩).run P u = .ok (.value v) u := by
    simp only [execOp, h1, Instr.loadAt, Instr.sureAddr, Sem.run_bind, Sem.run_pure, Result.andThen_ok]
    rw [run_loadVar_one (Tabs.ld_spec hl) u _ v (by rw [cell_of_heap h2]; simpa using h3)]
    rfl
  rw [hrun]
  simp only [Upon]
  exact ⟨H, fp, hh.put (k := .is v) (zg hn) trivial rfl⟩
theorem y2 (L : Tabs P) {t t' : TypeId} {ag : Bool} {z b off q : Nat} {p x : Operand} {v : Value} {cs cs' : List Value} (hg : gK ops κ ⟨none, .store t p x, ty, pos, aft, g⟩ = some true) (hp : evK κ p = some (.pointer (some ⟨b, off, none⟩))) (hq : κ q = some (.own (HeldR b cs t'))) (hx : evK κ x = some v)
    (hl : L.ld t = some (ag, z)) (hlen : (cellsL v).length = z) (hcs : Nat.ble (off + z) cs.length = true) (hpl : (cellsL v).all plainV = true) (hr : cs.take off ++ (cellsL v ++ cs.drop (off + z)) = cs') :
    StepOKS P F B n ops O κ ⟨none, .store t p x, ty, pos, aft, g⟩ q (.own (HeldR b cs' t')) := by
  rintro κ' a u hlk hqk ⟨H, fp, hh⟩
  subst hr
  unfold After
  rw [if_pos (wanted_gK hh hlk hg)]
  have e := hh.env hlk
  have hev := e.is_ x v (by simp [Op.operands]) hx
  have hes := e.is_ p _ (by simp [Op.operands]) hp
  have hqs := hqk.trans hq
  obtain ⟨⟨hb, hC⟩, hM⟩ := hh.slot q _ hqs
  have hrun : (execOp a.eval ⟨none, .store t p x, ty, pos, aft, g⟩).run P u = .ok .skip (u.setRow b (cs.take off ++ (cellsL v ++ cs.drop (off + z))).toArray) := by
    simp only [execOp, hes, hev, Instr.storeAt, Instr.sureAddr, Sem.run_bind, Sem.run_pure, Result.andThen_ok]
    have := run_storeVar_at (P := P) (off := off) (Tabs.ld_spec hl) hb hlen (Nat.le_of_ble_eq_true hcs) hpl
    rw [this]
    simp
  rw [hrun]
  simp only [Upon, Act.put]
  have hset := setRow_heap u b cs.toArray (cs.take off ++ (cellsL v ++ cs.drop (off + z))).toArray t' (0, 0) hb
  have hbm := hM b ((hC b).2 rfl)
  have := hh.usePut (d := q) (a' := a) (r' := HeldR b (cs.take off ++ (cellsL v ++ cs.drop (off + z))) t') (C := fun k => k = b) hqs (grow_setRow hh.sub hb ((hC b).2 rfl) hbm.2.1 _) rfl rfl (fun _ _ => rfl) ⟨hset, fun _ => Iff.rfl⟩ (fun k hk => by
    subst hk; exact ⟨.inl ((hC k).2 rfl), by rw [setRow_size]; exact hbm.1, hbm.2.1⟩)
  rw [upd_upd] at this
  exact ⟨H, _, this⟩
theorem V_holdE (t q : Nat) {e : TypeId} {s m : Nat} {xs : List Value} {c : Code} (hm : 0 < m) (hk : κ t = some (.own (SlE e s m xs)))
    (h : ∀ b, xs.length = m * s → V P F B n O (upd (upd (upd κ t nilK) q (.own (HeldR b xs e))) t (.is (.slice (some ⟨b, 0, none⟩) m m))) c Q) : V P F B n O κ c Q := fun a u hh => by
  obtain ⟨H, fp, hh⟩ := hh
  obtain ⟨⟨hl, hv⟩, hM⟩ := hh.slot t _ hk
  rcases hv with ⟨h0, _, _⟩ | ⟨b, hv, hb, h4, hC⟩
  · omega
  · have h2 := hh.usePut (d := q) (a' := a) (r' := HeldR b xs e) (C := fp t) hk ⟨Keep.refl _ _, hh.sub, Heap.Le.refl _, fun _ _ _ => rfl⟩ rfl rfl (fun _ _ => rfl) ⟨hb, hC⟩ fun k hk => ⟨.inl hk, (hM k hk).1, (hM k hk).2.1⟩
    have h3 := h2.name t
    rw [hv] at h3
    exact h b hl a u ⟨H, _, h3⟩
theorem SlE.shape {e : TypeId} {s m : Nat} {xs : List Value} : ∀ v H u C, (SlE e s m xs).P v H u C → ∃ p, v = .slice p m m := fun v _ _ _ ⟨_, h⟩ => by
  rcases h with ⟨rfl, rfl, _⟩ | ⟨b, rfl, _⟩
  · exact ⟨_, rfl⟩
  · exact ⟨_, rfl⟩
def HeldX (b : Nat) (ty : TypeId) (Φ : List Value → Heap → Prop) (hΦ : MonoX Φ) : Res := ExR (fun cs => HeldR b cs ty) Φ hΦ
def StP (Φ : List Value → Heap → Prop) (φ : Value → Heap → Prop) (off z : Nat) : List Value → Heap → Prop := fun cs' H => ∃ cs v, Φ cs H ∧ φ v H ∧ cs' = cs.take off ++ (cellsL v ++ cs.drop (off + z))
theorem StP.mono {Φ : List Value → Heap → Prop} {φ : Value → Heap → Prop} {off z : Nat} (h1 : MonoX Φ) (h2 : Kn.mono (.sat φ)) : MonoX (StP Φ φ off z) := fun _ _ _ ⟨cs, v, a1, a2, a3⟩ hle => ⟨cs, v, h1 _ _ _ a1 hle, h2 _ _ _ a2 hle, a3⟩
theorem ok_append0 (L : Tabs P) {t e : TypeId} {x y : Operand} {s by_ m : Nat} {news : List Value} (hn : Nat.blt d n = true) (hg : gK ops κ ⟨some d, .call ⟨.builtin .append, #[x, y], #[t, t]⟩, ty, pos, aft, g⟩ = some true)
    (hx : evK κ x = some (.slice none 0 0)) (hy : Apd F B O κ y m news) (ht : L.sl t = some e) (he : elI P e = some (s, by_)) (hl : news.length = m * s) (h1 : news.all plainV = true) (hb : m * by_ ≤ 140737488355328) (h63 : m ≤ 9223372036854775807) :
    StepOK P F B n ops O κ ⟨some d, .call ⟨.builtin .append, #[x, y], #[t, t]⟩, ty, pos, aft, g⟩ d (.own (SlR e s m news)) := by
  rintro κ' a u hlk ⟨H, fp, hh⟩
  unfold After
  rw [if_pos (wanted_gK hh hlk hg)]
  have en := hh.env hlk
  obtain ⟨i, z, hi, hz, hs1, hs2, hs3, hs4⟩ := elI_spec he
  have hxe := en.is_ x _ (by simp [Op.operands, Call.operands]) hx
  obtain ⟨x', u', C', hr, hown', hgr, hC'⟩ := appendR (C := noL) (xs := []) (nn := 0) (x := .slice none 0 0) u (aty := ty) (Tabs.sl_spec ht) hi hz hs1 hs2 hs3 hs4 hh.sub ⟨by simp, .inl ⟨rfl, rfl, fun _ h => h⟩⟩ (fun k hk => hk.elim) (hy _ a u H fp (by simp [Op.operands, Call.operands]) en) hl (fun v hv => plain_one (List.all_eq_true.1 h1 v hv)) (by omega) (by rw [Nat.zero_add]; exact hb)
  rw [Nat.zero_add, List.nil_append] at hown'
  have hrun : (execOp a.eval ⟨some d, .call ⟨.builtin .append, #[x, y], #[t, t]⟩, ty, pos, aft, g⟩).run P u = .ok (.value x') u' := by
    simp only [execOp, resolve, invoke, builtin, Sem.run_bind, Sem.run_pure, Result.andThen_ok, List.map_toArray, List.map_cons, List.map_nil, hxe, hr]
  rw [hrun]
  simp only [Upon]
  have h2 := hh.grow hgr
  refine ⟨H, _, h2.putR (C := C') (by simp [Act.put]) rfl (fun t ht => eval_put_other ht) (by rw [eval_put_same (by rw [hh.size]; exact zg hn)]; exact hown') (fun k hk => ?_) fun t r' _ ht k hf hk => ?_⟩
  · obtain ⟨h3, h4, h5⟩ := hC' k hk
    have h3' : u.heap.size ≤ k := h3.resolve_left fun h => h
    exact ⟨h4, h5, .inl (Nat.le_trans hh.keep.size h3'), fun y hy e => by have := size_of_heap (hh.boxes y hy).1; omega⟩
  · have h3' : u.heap.size ≤ k := (hC' k hk).1.resolve_left fun h => h
    have := ((hh.slot t _ ht).2 k hf).1
    omega
end
end Go.V
namespace Go.V
open Go.Proofs Go.RowKit
section
variable {α : Type} [Inhabited α] {enc : α → List Value} {k : Nat}
end
section
variable {P : Program} {F : Fr} {B : Heap} {O : Boxes} {n : Nat} {ops : Array Oper} {κ : Kap} {ty : TypeId} {pos : String} {aft : Array Edge} {g : Option (Nat × Bool)}
end
end Go.V
namespace Go.V
open Go.Proofs Go.RowKit
def OwnT (w : World) (C : Nat → Prop) (r : Res) (v : Value) (H : Heap) (u : World) : Prop := ∃ C' : Nat → Prop, r.P v H u C' ∧ ∀ k, C' k → (C k ∨ w.heap.size ≤ k) ∧ k < u.heap.size ∧ H k = none
def RetT (P : Program) (f : FuncId) (args : List Value) (w : World) (B : Heap) (C : Nat → Prop) (r : Res) : Prop := RetL P f args w B C (OwnT w C r)
theorem zeroCells_all {zs : Array Value} {m : Nat} (h : zs.all plainV = true) : ∀ v ∈ Builtin.zeroCells zs m, plainV v = true := by
  intro v hv
  unfold Builtin.zeroCells at hv
  obtain ⟨i, hi, rfl⟩ := Array.mem_map.1 hv
  have hi' : i < m * zs.size := by simpa using hi
  have hpos : 0 < zs.size := by
    rcases Nat.eq_zero_or_pos zs.size with e | e
    · rw [e] at hi'; simp at hi'
    · exact e
  have hlt := Nat.mod_lt i hpos
  rw [getElem!_pos zs _ hlt]
  exact Array.all_eq_true.1 h _ hlt
section
variable {P : Program} {F : Fr} {B : Heap} {O : Boxes} {n : Nat} {ops : Array Oper} {κ : Kap} {d : Nat} {ty : TypeId} {pos : String} {aft : Array Edge} {g : Option (Nat × Bool)} {a : Act} {u : World} {H : Heap} {fp : Nat → Nat → Prop} {Q : Exit → Act → World → Prop}
theorem V_holdR (t q : Nat) {e : TypeId} {s m : Nat} {xs : List Value} {c : Code} (hk : κ t = some (.own (SlR e s m xs)))
    (h0 : m = 0 → xs = [] → V P F B n O (upd κ t (.is (.slice none 0 0))) c Q)
    (h : ∀ b cap rest, xs.length = m * s → m ≤ cap → cap ≤ maxLen → (xs ++ rest).length = cap * s → V P F B n O (upd (upd (upd κ t nilK) q (.own (HeldR b (xs ++ rest) e))) t (.is (.slice (some ⟨b, 0, none⟩) m cap))) c Q) : V P F B n O κ c Q := fun a u hh => by
  obtain ⟨H, fp, hh⟩ := hh
  obtain ⟨⟨hl, hv⟩, hM⟩ := hh.slot t _ hk
  rcases hv with ⟨hm, hv, _⟩ | ⟨b, cap, rest, hv, hb, h3, h4, h5, hC⟩
  · have h3 := hh.name t
    rw [hv] at h3
    subst hm
    exact h0 rfl (List.eq_nil_of_length_eq_zero (by simpa using hl)) a u ⟨H, _, h3⟩
  · have h2 := hh.usePut (d := q) (a' := a) (r' := HeldR b (xs ++ rest) e) (C := fp t) hk ⟨Keep.refl _ _, hh.sub, Heap.Le.refl _, fun _ _ _ => rfl⟩ rfl rfl (fun _ _ => rfl) ⟨hb, hC⟩ fun k hk => ⟨.inl hk, (hM k hk).1, (hM k hk).2.1⟩
    have h3' := h2.name t
    rw [hv] at h3'
    exact h b cap rest hl h3 h4 h5 a u ⟨H, _, h3'⟩
theorem ok_shr {t t' : TypeId} {x y : Operand} {k k2 : IntKind} {p q r : Int} (hn : Nat.blt d n = true) (hg : gK ops κ ⟨some d, .binOp .shr t x y t', ty, pos, aft, g⟩ = some true) (hx : evK κ x = some (.int k p)) (hy : evK κ y = some (.int k2 q)) (h0 : 0 ≤ q) (hb : p.fdiv (2 ^ min q.toNat k.bits) = r) :
    StepOK P F B n ops O κ ⟨some d, .binOp .shr t x y t', ty, pos, aft, g⟩ d (.is (.int k r)) := ok_bin hn hg hx hy fun u => by subst hb; simp [eqGuard_shr, binOp_shr, Op.shift, Int.not_lt.2 h0]
theorem ok_sliceI (L : Tabs P) {x : Operand} {tt e : TypeId} {s m b off cap : Nat} {lo hi : Option Operand} {kl kh : IntKind} {ag : Bool} (i j : Nat) {pl ph : Int} (hn : Nat.blt d n = true) (hg : gK ops κ ⟨some d, .slice tt x lo hi none, ty, pos, aft, g⟩ = some true)
    (hx : evK κ x = some (.slice (some ⟨b, off, none⟩) m cap)) (ht : L.sl tt = some e) (hl : L.ld e = some (ag, s))
    (hlo : match lo with | some y => evK κ y = some (.int kl pl) ∧ pl = i | none => i = 0) (hhi : match hi with | some y => evK κ y = some (.int kh ph) ∧ ph = j | none => j = m)
    (hij : i ≤ j) (hjc : j ≤ cap) :
    StepOK P F B n ops O κ ⟨some d, .slice tt x lo hi none, ty, pos, aft, g⟩ d (.is (.slice (some (if cap = i then ⟨b, off, none⟩ else ⟨b, off + i * s, none⟩)) (j - i) (cap - i))) :=
  ok_pure rfl (zg hn) hg trivial fun a u H fp en => ⟨_, by
    have hu := Tabs.sl_spec ht
    have h1 := en.is_ x _ (by simp [Op.operands]) hx
    have hrun : (Instr.sliceBounds true m cap (lo.map a.eval) (hi.map a.eval) none).run P u = .ok (i, j, cap) u := by
      cases hi with
      | none =>
        simp only at hhi
        subst hhi
        cases lo with
        | none => simp only at hlo; subst hlo; simp [Instr.sliceBounds]
        | some z =>
          obtain ⟨hz, rfl⟩ := hlo
          have h3 := en.is_ z _ (by simp [Op.operands]) hz
          simp [h3, Instr.sliceBounds, run_bound i kl _ _ hij]
      | some y =>
        obtain ⟨hy, rfl⟩ := hhi
        have h2 := en.is_ y _ (by simp [Op.operands]) hy
        cases lo with
        | none => simp only at hlo; subst hlo; simp [h2, Instr.sliceBounds, run_bound j kh cap _ hjc]
        | some z =>
          obtain ⟨hz, rfl⟩ := hlo
          have h3 := en.is_ z _ (by simp [Op.operands]) hz
          simp [h2, h3, Instr.sliceBounds, run_bound j kh cap _ hjc, run_bound i kl _ _ hij]
    simp only [execOp, h1, Instr.sliceAt, Instr.slice, Sem.run_bind, run_underlying hu, Result.andThen_ok, Option.map_none, hrun, run_sizeOf (Tabs.ld_spec hl), Sem.run_pure]
    congr 3
    split <;> simp [Addr.add], rfl⟩
theorem ok_clearH (L : Tabs P) {q : Nat} {y : Operand} {tt e t' : TypeId} {by_ s b off m cap : Nat} {z : Value} {cs cs' : List Value} (hg : gK ops κ ⟨none, .call ⟨.builtin .clear, #[y], #[tt]⟩, ty, pos, aft, g⟩ = some true)
    (hy : evK κ y = some (.slice (some ⟨b, off, none⟩) m cap)) (hq : κ q = some (.own (HeldR b cs t'))) (ht : L.sl tt = some e) (he : elI P e = some (s, by_)) (hz : L.zr e = some z) (hz1 : z.cells.toList.all plainV = true)
    (hcs : m = 0 ∨ off + m * s ≤ cs.length) (hr : m ≠ 0 → cs.take off ++ ((Builtin.zeroCells z.cells m).toList ++ cs.drop (off + m * s)) = cs') (hr0 : m = 0 → cs = cs') :
    StepOKS P F B n ops O κ ⟨none, .call ⟨.builtin .clear, #[y], #[tt]⟩, ty, pos, aft, g⟩ q (.own (HeldR b cs' t')) := by
  rintro κ' a u hlk hqk ⟨H, fp, hh⟩
  unfold After
  rw [if_pos (wanted_gK hh hlk hg)]
  have en := hh.env hlk
  have hye := en.is_ y _ (by simp [Op.operands, Call.operands]) hy
  have hqs := hqk.trans hq
  obtain ⟨⟨hb, hC⟩, hM⟩ := hh.slot q _ hqs
  by_cases hm : m = 0
  · subst hm
    obtain rfl := hr0 rfl
    have hrun : (execOp a.eval ⟨none, .call ⟨.builtin .clear, #[y], #[tt]⟩, ty, pos, aft, g⟩).run P u = .ok (.value (.tuple #[])) u := by
      simp [execOp, resolve, invoke, builtin, hye, Builtin.clear_, run_underlying (Tabs.sl_spec ht)]
    rw [hrun]
    simp only [Upon, Act.put]
    exact ⟨H, fp, by
      have : upd κ' q (.own (HeldR b cs t')) = κ' := by
        funext t
        by_cases h : t = q
        · subst h; rw [upd_same]; exact hqs.symm
        · rw [upd_other _ _ h]
      rw [this]; exact hh⟩
  · have hr := hr hm
    subst hr
    have hcs' := hcs.resolve_left hm
    obtain ⟨i, z', hi, hz', hs1, hs2, hs3, hs4⟩ := elI_spec he
    have hzz := Tabs.zr_spec hz
    have hzr : (zeroValue e).run P u = .ok z u := by
      unfold zrI at hzz
      split at hzz
      · rename_i it hit
        simp [zeroValue, typeInfo, hit, hzz]
      · cases hzz
    have hze : z' = z := by
      have h1 : (zeroValue e).run P u = .ok z' u := by simp [zeroValue, typeInfo, hi, hz']
      rw [hzr] at h1
      cases h1; rfl
    subst hze
    have hzl : (Builtin.zeroCells z'.cells m).toList.length = m * s := by rw [Array.length_toList, size_zeroCells, hs3]
    have hst := run_storeCells_at (P := P) b t' off (Builtin.zeroCells z'.cells m).toList 0 cs.toArray u hb (by rw [hzl]; simpa using hcs') (fun v hv => by
      have h1 : v ∈ Builtin.zeroCells z'.cells m := by simpa using hv
      exact plain_one (zeroCells_all (by rw [← Array.all_toList]; exact hz1) v h1))
    have hrun : (execOp a.eval ⟨none, .call ⟨.builtin .clear, #[y], #[tt]⟩, ty, pos, aft, g⟩).run P u = .ok (.value (.tuple #[])) (u.setRow b (cs.take off ++ ((Builtin.zeroCells z'.cells m).toList ++ cs.drop (off + m * s))).toArray) := by
      rw [hzl] at hst
      cases m with
      | zero => exact absurd rfl hm
      | succ m =>
        simp only [execOp, resolve, invoke, builtin, Sem.run_bind, Sem.run_pure, Result.andThen_ok, List.map_toArray, List.map_cons, List.map_nil, hye, Builtin.clear_, List.getElem?_toArray, List.getElem?_cons_zero, run_underlying (Tabs.sl_spec ht), hzr]
        rw [hst]
        simp
    rw [hrun]
    simp only [Upon, Act.put]
    have hset := setRow_heap u b cs.toArray (cs.take off ++ ((Builtin.zeroCells z'.cells m).toList ++ cs.drop (off + m * s))).toArray t' (0, 0) hb
    have hbm := hM b ((hC b).2 rfl)
    have := hh.usePut (d := q) (a' := a) (r' := HeldR b (cs.take off ++ ((Builtin.zeroCells z'.cells m).toList ++ cs.drop (off + m * s))) t') (C := fun k => k = b) hqs (grow_setRow hh.sub hb ((hC b).2 rfl) hbm.2.1 _) rfl rfl (fun _ _ => rfl) ⟨hset, fun _ => Iff.rfl⟩ (fun k hk => by
      subst hk; exact ⟨.inl ((hC k).2 rfl), by rw [setRow_size]; exact hbm.1, hbm.2.1⟩)
    rw [upd_upd] at this
    exact ⟨H, _, this⟩
end
end Go.V
namespace Go.V
open Go.RowKit
def GHeld (b : Nat) (cs : List Value) (ty : TypeId) : GR where
  P _ u C := u.heap[b]? = some (.cells cs.toArray ty) ∧ ∀ k, C k ↔ k = b
  st := fun ⟨h1, h2⟩ _ _ _ hk => ⟨(hk b ((h2 b).2 rfl)).trans h1, h2⟩
theorem gheld_res (b : Nat) (cs : List Value) (ty : TypeId) : (GHeld b cs ty).res = HeldR b cs ty := rfl
def RetG (P : Program) (f : FuncId) (args : List Value) (w : World) (B : Heap) (C : Nat → Prop) (r : GR) : Prop :=
  RetL P f args w B C fun _ H u => ∃ C', r.P H u C' ∧ ∀ k, C' k → (C k ∨ w.heap.size ≤ k) ∧ k < u.heap.size ∧ H k = none
section
variable {P : Program} {F : Fr} {B : Heap} {O : Boxes} {n : Nat} {ops : Array Oper} {κ : Kap} {d : Nat} {ty : TypeId} {pos : String} {aft : Array Edge} {g : Option (Nat × Bool)} {Q : Exit → Act → World → Prop}
theorem ok_callG (L : Tabs P) (q : Nat) (r' : GR) {r : GR} {f : Nat} {args : Array Operand} {at_ : Array TypeId} {cap : List Value} {fo : Operand}
    (hn : Nat.blt d n = true) (hg : gK ops κ ⟨some d, .call { callee := .value fo, args := args, argTypes := at_ }, ty, pos, aft, g⟩ = some true)
    (hf : evK κ fo = some (.func (.func f) #[] cap.toArray)) (hfn : L.fn f = some ()) (hq : κ q = some (.own r.res))
    (h : ∀ u H C, H.Le (hp u) → B.Le H → r.P H u C → (∀ k, C k → k < u.heap.size ∧ H k = none) → Args κ H args.toList [] (fun vs => RetG P f (vs ++ cap) u H C r')) :
    StepOK2 P F B n ops O κ ⟨some d, .call { callee := .value fo, args := args, argTypes := at_ }, ty, pos, aft, g⟩ q (.own r'.res) d nilK := by
  rintro κ' a u hlk hks ⟨H, fp, hh⟩
  unfold After
  rw [if_pos (wanted_gK hh hlk hg)]
  have hk' : κ' q = some (.own r.res) := hks.trans hq
  obtain ⟨hown, hM⟩ := hh.slot q _ hk'
  have e2 := hh.env hlk
  have hfe : a.eval fo = .func (.func f) #[] cap.toArray := e2.is_ fo _ (by simp [Op.operands, Call.operands]) hf
  have hc := Args.use e2 args.toList [] (fun x hx => by simp [Op.operands, Call.operands] at hx ⊢; exact .inr hx) (h u H (fp q) hh.sub hh.base hown fun k hk => ⟨(hM k hk).1, (hM k hk).2.1⟩)
  simp only [List.reverse_nil, List.nil_append] at hc
  rw [run_call L rfl hfe hfn]
  simp only [Upon]
  refine Calls.mono hc fun e' u' hp => ?_
  obtain ⟨v, rfl, H', g', C', hv, hC'⟩ := hp
  have h2 := hh.usePut (d := q) (a' := a) (r' := r'.res) hk' g' rfl rfl (fun _ _ => rfl) hv hC'
  rw [upd_upd] at h2
  exact ⟨v, rfl, H', _, h2.put (k := nilK) (zg hn) (fun _ _ _ h _ => h) trivial⟩
theorem N_ret0 (L : Tabs P) {fn : Func} {B0 : Heap} (hrs : fn.results = #[]) (hQ : ∀ a u, bodyPostM Fence.wide 0 P fn (PostL F.w0 B0 F.L fun _ _ _ => True) .normal a u → Q .normal a u) (hs : Since F B0 B) : N F B n O κ Q :=
  N_retG hQ hs fun O' a u H fp _ hh => by
    obtain ⟨vs, h1, _⟩ := results_run L hh (rs := []) hrs (K := fun _ => True) trivial
    exact ⟨_, h1, trivial⟩
theorem V_meetC {x c y : Code} {T : Type} (Fk : T → List (Nat × Kn)) (I : T → Prop) (Ob : T → Boxes) (hy : ∀ t, I t → V P F B n (Ob t) (ofL (Fk t)) y Q)
    (h : V P F B n O κ x (Exit.then (fun a u => c.wpIn (FW F.r) 0 P (Exit.then (fun a u => ∃ t, I t ∧ Has F B (Ob t) n (ofL (Fk t)) a u) Q) a u) (Exit.then (fun a u => ∃ t, I t ∧ Has F B (Ob t) n (ofL (Fk t)) a u) Q))) :
    V P F B n O κ x (Exit.then (fun a u => c.wpIn (FW F.r) 0 P (Exit.then (fun a u => y.wpIn (FW F.r) 0 P Q a u) Q) a u) (Exit.then (fun a u => y.wpIn (FW F.r) 0 P Q a u) Q)) := fun a u hh => by
  have key : ∀ e a u, Exit.then (fun a u => ∃ t, I t ∧ Has F B (Ob t) n (ofL (Fk t)) a u) Q e a u → Exit.then (fun a u => y.wpIn (FW F.r) 0 P Q a u) Q e a u := fun e a u he => by
    cases e <;> first | exact he | (obtain ⟨t, hI, hh⟩ := he; exact hy t hI a u hh)
  refine Go.wpIn_mono (h a u hh) fun e a u he => ?_
  cases e <;> first | exact Go.wpIn_mono he key | exact he
theorem HasH.setSat {t : Nat} {φ : Value → Heap → Prop} {H : Heap} {fp : Nat → Nat → Prop} {a : Act} {u : World} (hm : Kn.mono (.sat φ)) (h : HasH F B O n κ a u H fp) (hφ : φ (a.eval (.tmp t)) H) : HasH F B O n (upd κ t (.sat φ)) a u H fp :=
  ⟨h.size, h.defers, h.nodup, h.marks, h.lent, h.keep, h.sub, h.base, h.fresh, h.boxes, h.apart, fun s k hs => by
    by_cases hst : s = t
    · subst hst; rw [upd_same] at hs; cases hs; exact hφ
    · rw [upd_other _ _ hst] at hs; exact h.slot s k hs, fun s r r1 r2 hsr h1 h2 => by
    have key : ∀ x r, upd κ t (.sat φ) x = some (.own r) → κ x = some (.own r) := fun x r hx => by
      by_cases hxd : x = t
      · subst hxd; rw [upd_same] at hx; cases hx
      · rw [upd_other _ _ hxd] at hx; exact hx
    exact h.owns s r r1 r2 hsr (key _ _ h1) (key _ _ h2), fun s k hs => by
    by_cases hst : s = t
    · subst hst; rw [upd_same] at hs; cases hs; exact hm
    · rw [upd_other _ _ hst] at hs; exact h.mono s k hs⟩
end
end Go.V
namespace Go.V
open Go.RowKit
def SlC (e : TypeId) (s n : Nat) (xs : List Value) : Res where
  P x _ u C := xs.length = n * s ∧ ((n = 0 ∧ x = .slice none 0 0 ∧ ∀ k, ¬ C k) ∨ ∃ b rest, x = .slice (some ⟨b, 0, none⟩) n n ∧ u.heap[b]? = some (.cells (xs ++ rest).toArray e) ∧ n ≤ maxLen ∧ ∀ k, C k ↔ k = b)
  st := fun ⟨hl, h⟩ _ _ _ hk => ⟨hl, by
    rcases h with h | ⟨b, rest, h1, h2, h3, h4⟩
    · exact .inl h
    · exact .inr ⟨b, rest, h1, (hk b ((h4 b).2 rfl)).trans h2, h3, h4⟩⟩
section
variable {P : Program} {F : Fr} {B : Heap} {O : Boxes} {n : Nat} {ops : Array Oper} {κ : Kap} {d : Nat} {ty : TypeId} {pos : String} {aft : Array Edge} {g : Option (Nat × Bool)} {a : Act} {u : World} {Q : Exit → Act → World → Prop}
theorem SlC.shape {e : TypeId} {s m : Nat} {xs : List Value} : ∀ v H u C, (SlC e s m xs).P v H u C → ∃ p, v = .slice p m m := fun v _ _ _ ⟨_, h⟩ => by
  rcases h with ⟨h0, h, _⟩ | ⟨b, rest, h, _⟩
  · subst h0; exact ⟨none, h⟩
  · exact ⟨_, h⟩
end
end Go.V
namespace Go.V
open Go.RowKit
def SlA (e : TypeId) (s n : Nat) : Res where
  P x H u C := ∃ xs, (SlR e s n xs).P x H u C
  st := fun ⟨xs, h⟩ h1 h2 h3 h4 => ⟨xs, (SlR e s n xs).st h h1 h2 h3 h4⟩
section
variable {P : Program} {F : Fr} {B : Heap} {O : Boxes} {n : Nat} {ops : Array Oper} {κ : Kap} {d : Nat} {ty : TypeId} {pos : String} {aft : Array Edge} {g : Option (Nat × Bool)} {Q : Exit → Act → World → Prop}
theorem ok_sliceN (L : Tabs P) {x y : Operand} {tt e : TypeId} {s : Nat} {k : IntKind} {ag : Bool} (j : Nat) (hj : j = 0) (hn : Nat.blt d n = true) (hg : gK ops κ ⟨some d, .slice tt x none (some y) none, ty, pos, aft, g⟩ = some true)
    (hx : evK κ x = some (.slice none 0 0)) (ht : L.sl tt = some e) (hl : L.ld e = some (ag, s)) (hy : evK κ y = some (.int k j)) :
    StepOK P F B n ops O κ ⟨some d, .slice tt x none (some y) none, ty, pos, aft, g⟩ d (.is (.slice none 0 0)) :=
  ok_pure rfl (zg hn) hg trivial fun a u H fp en => ⟨_, by
    have hu := Tabs.sl_spec ht
    have h1 := en.is_ x _ (by simp [Op.operands]) hx
    have h2 := en.is_ y _ (by simp [Op.operands]) hy
    have hrun : (Instr.sliceBounds true 0 0 none (some (a.eval y)) none).run P u = .ok (0, j, 0) u := by
      simp [h2, Instr.sliceBounds, run_bound j k 0 _ (Nat.le_of_eq hj)]
    subst hj
    simp only [execOp, h1, Instr.sliceAt, Instr.slice, Sem.run_bind, run_underlying hu, Result.andThen_ok, Option.map_none, Option.map_some, hrun, run_sizeOf (Tabs.ld_spec hl)]
    rfl, rfl⟩
theorem ok_appendM (L : Tabs P) {t ti e : TypeId} {x y : Operand} {s by_ m : Nat} {kn : IntKind} (hn : Nat.blt d n = true) (hg : gK ops κ ⟨some d, .call ⟨.builtin .append, #[x, y], #[t, ti]⟩, ty, pos, aft, g⟩ = some true)
    (hx : evK κ x = some (.slice none 0 0)) (hy : evK κ y = some (.int .i64 m)) (ht : L.sl t = some e) (hti : P.underlying ti = some (.int kn)) (he : elI P e = some (s, by_)) (h0 : 0 < m) (hb : m * by_ ≤ 140737488355328) (h63 : m ≤ 4611686018427387904) :
    StepOK P F B n ops O κ ⟨some d, .call ⟨.builtin .append, #[x, y], #[t, ti]⟩, ty, pos, aft, g⟩ d (.own (SlA e s m)) := by
  rintro κ' a u hlk ⟨H, fp, hh⟩
  unfold After
  rw [if_pos (wanted_gK hh hlk hg)]
  have en := hh.env hlk
  obtain ⟨i, z, hi, hz, hs1, hs2, hs3, hs4⟩ := elI_spec he
  have hxe := en.is_ x _ (by simp [Op.operands, Call.operands]) hx
  have hye := en.is_ y _ (by simp [Op.operands, Call.operands]) hy
  have hr := Lib.run_append_nil_zeros (P := P) u t ti ty e i z .i64 kn (Tabs.sl_spec ht) hti hi hz m h0 (by omega) (by omega) (by rw [hs2]; omega)
  have hrun : (execOp a.eval ⟨some d, .call ⟨.builtin .append, #[x, y], #[t, ti]⟩, ty, pos, aft, g⟩).run P u = .ok (.value (.slice (some ⟨u.heap.size, 0, none⟩) m (grownCap u m 0 e))) (u.drew.alloc (.cells (Builtin.zeroCells z.cells m ++ Builtin.zeroCells z.cells (grownCap u m 0 e - m)) e)) := by
    simp only [execOp, resolve, invoke, builtin, Sem.run_bind, Sem.run_pure, Result.andThen_ok, List.map_toArray, List.map_cons, List.map_nil, hxe, hye, hr]
  rw [hrun]
  simp only [Upon]
  have hge := grownCap_ge u m 0 e
  have hmx : m ≤ maxLen := by simp only [maxLen]; omega
  have hg2 := hh.grow (u' := u.drew.alloc (.cells (Builtin.zeroCells z.cells m ++ Builtin.zeroCells z.cells (grownCap u m 0 e - m)) e)) (H' := H) ⟨⟨rfl, rfl, rfl, by simp, fun k hk _ => heap_push_lt u.drew _ hk, Nat.le_succ _⟩, fun k v hv => by
    have := hh.sub.size hv
    show (u.drew.alloc _).heap[k]? = some v
    rw [heap_push_lt u.drew _ this]; exact hh.sub k v hv, Heap.Le.refl _, fun _ _ _ => rfl⟩
  refine ⟨H, _, hg2.putR (C := fun k => k = u.heap.size) (by simp [Act.put]) rfl (fun t ht => eval_put_other ht) ⟨(Builtin.zeroCells z.cells m).toList, by rw [Array.length_toList, size_zeroCells, hs3], .inr ⟨u.heap.size, _, (Builtin.zeroCells z.cells (grownCap u m 0 e - m)).toList, eval_put_same (by rw [hh.size]; exact zg hn), ?_, hge, grownCap_le_maxLen u m 0 e hmx, ?_, fun _ => Iff.rfl⟩⟩ (fun k hk => ?_) fun t r' htd ht k hf hk => ?_⟩
  · rw [show u.heap.size = u.drew.heap.size from rfl, heap_alloc_new]
    congr 2
    apply Array.ext'
    simp
  · rw [List.length_append, Array.length_toList, Array.length_toList, size_zeroCells, size_zeroCells, hs3, ← Nat.add_mul]
    congr 1
    omega
  · subst hk
    exact ⟨by simp, none_of_ge hh.sub (Nat.le_refl _), .inl hh.keep.size, fun y hy e => by have := size_of_heap (hh.boxes y hy).1; omega⟩
  · have := ((hh.slot t _ ht).2 k hf).1
    omega
theorem ok_slice0 (L : Tabs P) {q : Nat} {y : Operand} {tt e : TypeId} {s m : Nat} {k : IntKind} {ag : Bool} (j : Nat) (hj : j = 0) (hm : 0 < m) (hn : Nat.blt d n = true) (hg : gK ops κ ⟨some d, .slice tt (.tmp q) none (some y) none, ty, pos, aft, g⟩ = some true)
    (hq : κ q = some (.own (SlA e s m))) (ht : L.sl tt = some e) (hl : L.ld e = some (ag, s)) (hy : evK κ y = some (.int k j)) :
    StepOK2 P F B n ops O κ ⟨some d, .slice tt (.tmp q) none (some y) none, ty, pos, aft, g⟩ q nilK d (.own (SlR e s 0 [])) := by
  rintro κ' a u hlk hks ⟨H, fp, hh⟩
  unfold After
  rw [if_pos (wanted_gK hh hlk hg)]
  have en := hh.env hlk
  have hk' : κ' q = some (.own (SlA e s m)) := hks.trans hq
  obtain ⟨⟨xs, hxl, hown⟩, hM⟩ := hh.slot q _ hk'
  rcases hown with ⟨h0, _⟩ | ⟨b, cap, rest, hv, hb, hnc, hcm, hcl, hC⟩
  · omega
  · have hu := Tabs.sl_spec ht
    have h2 := en.is_ y _ (by simp [Op.operands]) hy
    have hbd : (Instr.sliceBounds true m cap none (some (a.eval y)) none).run P u = .ok (0, j, cap) u := by
      simp [h2, Instr.sliceBounds, run_bound j k cap _ (by omega)]
    subst hj
    have hrun : (execOp a.eval ⟨some d, .slice tt (.tmp q) none (some y) none, ty, pos, aft, g⟩).run P u = .ok (.value (.slice (some ⟨b, 0, none⟩) 0 cap)) u := by
      simp only [execOp, hv, Instr.sliceAt, Instr.slice, Sem.run_bind, run_underlying hu, Result.andThen_ok, Option.map_none, Option.map_some, hbd, run_sizeOf (Tabs.ld_spec hl), Sem.run_pure]
      congr 3
      split <;> simp [Addr.add]
    rw [hrun]
    simp only [Upon]
    exact ⟨H, _, hh.usePut (C := fp q) hk' ⟨Keep.refl _ _, hh.sub, Heap.Le.refl _, fun _ _ _ => rfl⟩ (by simp [Act.put]) rfl (fun t ht => eval_put_other ht) ⟨by simp, .inr ⟨b, cap, xs ++ rest, eval_put_same (by rw [hh.size]; exact zg hn), hb, Nat.zero_le _, hcm, hcl, hC⟩⟩ fun k hk => ⟨.inl hk, (hM k hk).1, (hM k hk).2.1⟩⟩
end
end Go.V
namespace Go.V
open Go.Proofs Go.RowKit
section
variable {P : Program} {F : Fr} {B : Heap} {O : Boxes} {n : Nat} {ops : Array Oper} {κ : Kap} {d : Nat} {ty : TypeId} {pos : String} {aft : Array Edge} {g : Option (Nat × Bool)} {Q : Exit → Act → World → Prop}
theorem run_copy_all {u : World} {t ti e : TypeId} {i : TypeInfo} {b m c : Nat} {cur : List Value} {ty0 : TypeId} {y : Value} {news : List Value} (ht : P.underlying t = some (.slice e)) (hi : P.info? e = some i) (hb : u.heap[b]? = some (.cells cur.toArray ty0)) (hl : news.length = m * i.size) (hcl : cur.length = m * i.size)
    (h1 : ∀ v ∈ news, v.oneCell' = true) (hm : 0 < m) (hy : (m = 0 ∧ news = [] ∧ ∃ l c, y = .slice none l c ∧ l = 0) ∨ ∃ ad c, y = .slice (some ad) m c ∧ ∀ j v, news[j]? = some v → u.cell? (ad.add j) = some v) :
    (Builtin.copy_ #[t, ti] ty #[.slice (some ⟨b, 0, none⟩) m c, y]).run P u = .ok (goInt m) (u.setRow b news.toArray) := by
  rcases hy with ⟨rfl, _⟩ | ⟨ad, c', rfl, hnews⟩
  · omega
  · have hf := run_firstCells_some (P := P) u i.size m ad m c' news hl hnews
    have hst := run_storeCells_at (P := P) b ty0 0 news 0 cur.toArray u hb (by simp [hl, hcl]) h1
    have hdr : cur.drop (m * i.size) = [] := List.drop_eq_nil_of_le (by omega)
    simp only [Nat.zero_add, hl, List.take_zero, List.nil_append, hdr, List.append_nil] at hst
    simp [Builtin.copy_, run_underlying ht, Builtin.lenOf, sizeOf, typeInfo, hi, hf, hst]
def NewIn (B : Heap) (v : Value) : Prop := ∀ b o k m c, v = .slice (some ⟨b, o, k⟩) m c → B b = none
theorem NewIn.le {B B' : Heap} {v : Value} (h : NewIn B' v) (hle : B.Le B') : NewIn B v := fun b o k m c e => by
  have h1 := h b o k m c e
  cases hx : B b with
  | none => rfl
  | some y => rw [hle _ _ hx] at h1; cases h1
def OwnB (e : TypeId) (xs : List Value) (v : Value) (H : Heap) : Prop := ∀ b o k m c, v = .slice (some ⟨b, o, k⟩) m c → o = 0 ∧ k = none ∧ H b = some (.cells xs.toArray e)
theorem OwnB.le {e : TypeId} {xs : List Value} {v : Value} {H H' : Heap} (h : OwnB e xs v H) (hle : H.Le H') : OwnB e xs v H' := fun b o k m c hv => let ⟨h1, h2, h3⟩ := h b o k m c hv; ⟨h1, h2, hle _ _ h3⟩
theorem ownB_nil {e : TypeId} {xs : List Value} {H : Heap} {m c : Nat} : OwnB e xs (.slice none m c) H := fun _ _ _ _ _ h => by cases h
def SlN (B : Heap) (e : TypeId) (s : Nat) (xs : List Value) (n : Nat) (fu : Bool) : Value → Heap → Prop := fun v H => SlV e s xs n fu v H ∧ NewIn B v ∧ OwnB e xs v H
theorem SlN.mono {B : Heap} {e : TypeId} {s n : Nat} {xs : List Value} {fu : Bool} : Kn.mono (.sat (SlN B e s xs n fu)) := fun _ _ _ h hle => ⟨h.1.le hle, h.2.1, h.2.2.le hle⟩
def Lies (H : Heap) (v : Value) : Prop := ∀ b o k m c, v = .slice (some ⟨b, o, k⟩) m c → H b ≠ none
theorem SlN.lies {B : Heap} {e : TypeId} {s n : Nat} {xs : List Value} {fu : Bool} {v : Value} {H : Heap} (h : SlN B e s xs n fu v H) : Lies H v := fun b o k m c hv hn => by
  rw [(h.2.2 b o k m c hv).2.2] at hn; cases hn
def Junk (ty : TypeId) (s : Nat) (S : Nat → Option Nat) : Res where
  P _ _ u C := (∀ k, C k ↔ S k ≠ none) ∧ ∀ b m, S b = some m → ∃ cs : List Value, cs.length = m * s ∧ u.heap[b]? = some (.cells cs.toArray ty)
  st := fun ⟨h1, h2⟩ _ _ _ hk => ⟨h1, fun b m hb => let ⟨cs, h3, h4⟩ := h2 b m hb; ⟨cs, h3, (hk b ((h1 b).2 (by rw [hb]; simp))).trans h4⟩⟩
def isK : Kn → Prop
  | .is _ => True
  | _ => False
theorem V_shrink {κ1 : Kap} {B1 : Heap} {c : Code} (q : Nat) (r : Res) (S : Nat → Prop) (hs : Since F B1 B) (hS : ∀ k, S k → B k ≠ none ∧ B1 k = none) (hr : ∀ u v, B.Le (hp u) → r.P v B1 u S) (hk : ∀ t k, κ1 t = some k → κ t = some k ∧ isK k)
    (h : V P F B1 n O (upd κ1 q (.own r)) c Q) : V P F B n O κ c Q := fun a u hh => by
  obtain ⟨H, fp, hh⟩ := hh
  have hle : B1.Le H := hs.le.trans hh.base
  have hbx : ∀ y ∈ O, u.heap[y.1]? = some y.2 ∧ B1 y.1 = none ∧ (F.w0.heap.size ≤ y.1 ∨ F.L y.1) := fun y hy => by
    obtain ⟨g1, g2, g3⟩ := hh.boxes y hy
    refine ⟨g1, ?_, g3⟩
    cases hx : B1 y.1 with
    | none => rfl
    | some z => rw [hle _ _ hx] at g2; cases g2
  have hsl : ∀ t k, κ1 t = some k → k.holds F O u B1 (fp t) (a.eval (.tmp t)) := fun t k hkt => by
    obtain ⟨g1, g2⟩ := hk t k hkt
    cases k with
    | is x => exact hh.slot t _ g1
    | sat _ => exact g2.elim
    | own _ => exact g2.elim
  have h1 : HasH F B1 O n κ1 a u B1 fp := ⟨hh.size, hh.defers, hh.nodup, hh.marks, hh.lent, hh.keep, hle.trans hh.sub, Heap.Le.refl _, fun _ _ _ => rfl, hbx, hh.apart, hsl, fun s t r r' _ g1 _ => ((hk s _ g1).2 : isK (.own r)).elim, fun t k hkt => hh.mono t k (hk t k hkt).1⟩
  refine h a u ⟨B1, _, h1.putR (C := S) (a' := a) rfl rfl (fun _ _ => rfl) (hr u _ (hh.base.trans hh.sub)) (fun k hk' => ?_) fun t r' _ ht => ((hk t _ ht).2 : isK (.own r')).elim⟩
  obtain ⟨g1, g2⟩ := hS k hk'
  cases hx : B k with
  | none => exact absurd hx g1
  | some z =>
    have hH := hh.base _ _ hx
    refine ⟨hh.sub.size hH, g2, ?_, fun y hy e => ?_⟩
    · rcases Nat.lt_or_ge k F.w0.heap.size with h3 | h3
      · refine .inr (Classical.byContradiction fun hL => ?_)
        have := hs.fresh k h3 hL
        rw [hx, g2] at this
        cases this
      · exact .inl h3
    · subst e
      rw [(hh.boxes y hy).2.1] at hH
      cases hH
theorem V_takeJ (q g1 : Nat) {ty : TypeId} {s b m : Nat} {S : Nat → Option Nat} {c : Code} (hne : q ≠ g1) (hk : κ q = some (.own (Junk ty s S))) (hb : S b = some m)
    (h : ∀ cs : List Value, cs.length = m * s → V P F B n O (upd (upd κ q (.own (Junk ty s fun k => if k = b then none else S k))) g1 (.own (HeldR b cs ty))) c Q) : V P F B n O κ c Q := fun a u hh => by
  obtain ⟨H, fp, hh⟩ := hh
  obtain ⟨⟨hC, hcs⟩, hM⟩ := hh.slot q _ hk
  obtain ⟨cs, hcl, hub⟩ := hcs b m hb
  have hCb : fp q b := (hC b).2 (by rw [hb]; simp)
  have h2 := hh.putR (d := q) (r := Junk ty s fun k => if k = b then none else S k) (C := fun k => fp q k ∧ k ≠ b) (a' := a) rfl rfl (fun _ _ => rfl) ⟨fun k => by
    by_cases e : k = b
    · subst e; simp
    · simp [e, hC k], fun b' m' hb' => by
    by_cases e : b' = b
    · subst e; simp at hb'
    · simp only [if_neg e] at hb'
      exact hcs b' m' hb'⟩ (fun k hk' => hM k hk'.1) (fun t r' hne' hk' k hf hc => hh.owns t q _ _ hne' hk' hk k hf hc.1)
  have h3 := h2.putR (d := g1) (r := HeldR b cs ty) (C := fun k => k = b) (a' := a) rfl rfl (fun _ _ => rfl) ⟨hub, fun _ => Iff.rfl⟩ (fun k hk' => by subst hk'; exact hM _ hCb) (fun t r' hne' hk' k hf hc => by
    subst hc
    by_cases e : t = q
    · subst e; rw [fpu_same] at hf; exact hf.2 rfl
    · rw [fpu_other _ _ e] at hf
      rw [upd_other _ _ e] at hk'
      exact hh.owns t q _ _ e hk' hk k hf hCb)
  exact h cs hcl a u ⟨H, _, h3⟩
theorem N_putJ (q g1 : Nat) {ty : TypeId} {s b m : Nat} {S : Nat → Option Nat} {cs : List Value} (hne : q ≠ g1) (hk : κ q = some (.own (Junk ty s fun k => if k = b then none else S k))) (hb : S b = some m) (hk1 : κ g1 = some (.own (HeldR b cs ty))) (hl : cs.length = m * s)
    (h : N F B n O (upd (upd κ g1 nilK) q (.own (Junk ty s S))) Q) : N F B n O κ Q := fun a u hh => by
  obtain ⟨H, fp, hh⟩ := hh
  obtain ⟨⟨hC, hcs⟩, hM⟩ := hh.slot q _ hk
  obtain ⟨⟨hub, hCb⟩, hM1⟩ := hh.slot g1 _ hk1
  have hmono : ∀ t k, upd κ g1 nilK t = some k → t = g1 ∨ κ t = some k := fun t k h => by
    by_cases e : t = g1
    · exact .inl e
    · rw [upd_other _ _ e] at h; exact .inr h
  have h2 : HasH F B O n (upd κ g1 nilK) a u H fp := hh.setSat (fun _ _ _ _ _ => trivial) trivial
  have h3 := h2.putR (d := q) (r := Junk ty s S) (C := fun k => fp q k ∨ k = b) (a' := a) rfl rfl (fun _ _ => rfl) ⟨fun k => by
    by_cases e : k = b
    · subst e; simp [hb]
    · simp [e, hC k], fun b' m' hb' => by
    by_cases e : b' = b
    · subst e; rw [hb] at hb'; cases hb'; exact ⟨cs, hl, hub⟩
    · exact hcs b' m' (by simpa [e] using hb')⟩ (fun k hk' => by
      rcases hk' with h | rfl
      · exact hM k h
      · exact hM1 _ ((hCb _).2 rfl)) (fun t r' hne' hk' k hf hc => by
      rcases hmono t _ hk' with rfl | hk''
      · rw [upd_same] at hk'; cases hk'
      · rcases hc with hc | rfl
        · exact hh.owns t q _ _ hne' hk'' hk k hf hc
        · by_cases e : t = g1
          · subst e; rw [upd_same] at hk'; cases hk'
          · exact hh.owns t g1 _ _ e hk'' hk1 _ hf ((hCb _).2 rfl))
  exact h a u ⟨H, _, h3⟩
end
end Go.V
namespace Go.V
open Go.RowKit
section
variable {P : Program} {F : Fr} {B : Heap} {O : Boxes} {n : Nat} {ops : Array Oper} {κ : Kap} {d : Nat} {ty : TypeId} {pos : String} {aft : Array Edge} {g : Option (Nat × Bool)}
theorem grow_putObj {u : World} {H : Heap} {b : Nat} {L : Nat → Prop} {o : Obj} (hs : H.Le (hp u)) (hL : L b) (hH : H b = none) : Grow L u H (u.putObj b o) H :=
  ⟨⟨rfl, rfl, rfl, Nat.le_of_eq World.putObj_size.symm, fun k _ hk => World.putObj_heap_other (fun e => hk (e ▸ hL)), Nat.le_refl _⟩, fun k x hx => by
    have : k ≠ b := fun e => by subst e; rw [hH] at hx; cases hx
    show (u.putObj b o).heap[k]? = some x
    rw [World.putObj_heap_other this]; exact hs k x hx, Heap.Le.refl _, fun _ _ _ => rfl⟩
end
section
variable {P : Program} {b : Frame} {a : Act} {k : List Item} {cs : List Frame} {w : World}
theorem stepR_scope {c : Code} : step P (lone (b.atR a (.code (.scope c) :: k)) cs w) = .next (lone (b.atR a (.code c :: .inScope c :: k)) cs w) :=
  step_lone_go (by simp [stepG, stepG.exec, Frame.atR])
theorem stepR_inScope {c : Code} : step P (lone (b.atR a (.inScope c :: k)) cs w) = .next (lone (b.atR a k) cs w) :=
  step_lone_go (by simp [stepG, stepG.exec, Frame.atR])
theorem wpIn_scope {F : Fence} {n : Nat} {Q : Exit → Act → World → Prop} {c : Code} (h : c.wpIn F n P (Exit.noGoto Q) a w) : (Code.scope c).wpIn F n P Q a w := by
  intro b k cs hro hb hr
  have h0 : (lone (b.atR a (.code (.scope c) :: k)) cs w).fenced P F := fenced_calm hb hr rfl
  obtain ⟨e, a₁, w₁, hq, harr⟩ := h b (.inScope c :: k) cs hro hb hr
  cases e with
  | normal => exact ⟨.normal, a₁, w₁, hq, .head h0 stepR_scope (StepsIn.trans harr (.one (fenced_calm hb hr rfl) stepR_inScope))⟩
  | exit id => exact ⟨.exit id, a₁, w₁, hq, fun k' hk => .head h0 stepR_scope (harr.1 k' (by simp [exitTo, hk])), fun hr' hk => let ⟨k₁, h1, h2⟩ := harr.2 hr' (by simp [exitTo, hk]); ⟨k₁, h1, .head h0 stepR_scope h2⟩⟩
  | goto l => exact hq.elim
  | ret => exact ⟨_, a₁, w₁, hq, .of_steps (.one h0 stepR_scope) harr⟩
  | panic ch => exact ⟨_, a₁, w₁, hq, .of_steps (.one h0 stepR_scope) harr⟩
  | outgrown => exact ⟨_, a₁, w₁, hq, .of_steps (.one h0 stepR_scope) harr⟩
end
section
variable {P : Program} {F : Fr} {B : Heap} {O : Boxes} {n : Nat} {κ : Kap} {Q : Exit → Act → World → Prop}
theorem V_scope {c : Code} (h : V P F B n O κ c (Exit.noGoto Q)) : V P F B n O κ (.scope c) Q := fun a u hh => wpIn_scope (h a u hh)
end
end Go.V
namespace Go.V
open Go.RowKit
section
variable {P : Program}
theorem run_checkKeyL (em : Bool) : ∀ (d n : Nat) (t : TypeId) (ls : List Nat) (ag : Bool) (s : Nat), lvI P d t = some ls → ldI P t = some (ag, s) → ∀ (xs : List Value) (w : World), xs.length = ls.length → d ≤ n →
    (Instr.checkKey em n t (asV ag xs)).run P w = .ok () w := by
  intro d
  induction d with
  | zero => intro n t ls ag s h; cases h
  | succ d ih =>
    intro n t ls ag s h hld xs w hlen hn
    obtain ⟨n, rfl⟩ : ∃ m, n = m + 1 := ⟨n - 1, by omega⟩
    obtain ⟨dsc, i, hu, hi, hsz, hag⟩ := ldI_spec hld
    simp only [lvI, hu] at h
    rw [Instr.checkKey]
    simp only [Sem.run_bind, run_underlying hu, Result.andThen_ok]
    cases dsc with
    | string => rfl
    | int k => rfl
    | bool => rfl
    | struct fs =>
      simp at hag; subst hag
      replace h : (if P.stoodInHeld t = true then none else lvF P (lvI P d) fs.toList 0) = some ls := h
      split at h
      · cases h
      · have asT : ∀ zs : List Value, asV true zs = .agg zs.toArray := fun zs => by cases zs <;> rfl
        rw [asT]
        simp only [Sem.run_bind]
        rw [← Array.forIn_toList]
        have he : 0 + ls.length ≤ xs.length := by omega
        clear hlen hsz hld
        generalize 0 = off at h he
        generalize fs.toList = fl at h
        induction fl generalizing off ls with
        | nil => rfl
        | cons f fl ihf =>
          simp only [lvF] at h
          split at h
          · rename_i l1 ag1 s1 hl1 hld1
            split at h
            · rename_i hc
              obtain ⟨hnm', rfl, rfl, hag1⟩ := hc
              split at h
              · rename_i r hr
                cases h
                rw [List.length_append] at he
                have hz : ((xs.drop f.offset).take l1.length).length = l1.length := by rw [List.length_take, List.length_drop]; omega
                have hp : (part f.type xs.toArray f.offset).run P w = .ok (asV ag1 ((xs.drop f.offset).take l1.length)) w := by
                  cases ag1 with
                  | true => rw [run_part_agg hld1, asT]
                  | false =>
                    have h1 : l1.length = 1 := by simpa using hag1
                    rw [h1] at hz ⊢
                    match hm : (xs.drop f.offset).take 1, hz with
                    | [v], _ =>
                      refine run_part_one hld1 xs f.offset v ?_ w
                      have := congrArg (·[0]?) hm
                      simpa [List.getElem?_take] using this
                have h2 := ih n f.type l1 ag1 l1.length hl1 hld1 _ w hz (by omega)
                simp only [List.forIn_cons, Sem.run_bind, hnm', ne_eq, not_false_eq_true, if_true, Result.andThen_ok, hp, h2, Sem.run_pure]
                exact ihf r (f.offset + l1.length) (by omega) hr
              · cases h
            · cases h
          · cases h
    | _ => cases h
end
section
variable {K V : Type} [DecidableEq K]
def mfind (k : K) : List (K × V) → Nat → Option (Nat × V)
  | [], _ => none
  | p :: l, i => if k = p.1 then some (i, p.2) else mfind k l (i + 1)
def mget (k : K) (l : List (K × V)) : Option V := (mfind k l 0).map (·.2)
def mput (k : K) (v : V) : List (K × V) → List (K × V)
  | [] => [(k, v)]
  | p :: l => if k = p.1 then (p.1, v) :: l else p :: mput k v l
theorem mfind_shift (k : K) : ∀ (l : List (K × V)) (i : Nat), mfind k l (i + 1) = (mfind k l i).map fun p => (p.1 + 1, p.2)
  | [], _ => rfl
  | p :: l, i => by
    unfold mfind
    split
    · rfl
    · exact mfind_shift k l (i + 1)
theorem mget_cons (k : K) (p : K × V) (l : List (K × V)) : mget k (p :: l) = if k = p.1 then some p.2 else mget k l := by
  unfold mget
  rw [mfind]
  split
  · rfl
  · rw [mfind_shift, Option.map_map]; rfl
theorem mget_put (k k' : K) (v : V) : ∀ l : List (K × V), mget k (mput k' v l) = if k = k' then some v else mget k l
  | [] => by rw [mput, mget_cons]
  | p :: l => by
    rw [mput]
    split
    · rename_i h
      rw [mget_cons, mget_cons]
      by_cases h1 : k = p.1
      · rw [if_pos h1, if_pos (h1.trans h.symm)]
      · rw [if_neg h1, if_neg (fun e => h1 (e.trans h))]
        rw [if_neg h1]
    · rename_i h
      rw [mget_cons, mget_cons, mget_put k k' v l]
      by_cases h1 : k = p.1
      · rw [if_pos h1, if_neg (fun e => h (e.symm.trans h1)), if_pos h1]
      · rw [if_neg h1, if_neg h1]
theorem mfind_get {k : K} : ∀ {l : List (K × V)} {i j : Nat} {x : V}, mfind k l i = some (j, x) → ∃ n, j = i + n ∧ l[n]? = some (k, x)
  | [], _, _, _, h => by cases h
  | p :: l, i, j, x, h => by
    unfold mfind at h
    split at h
    · rename_i hk
      cases h
      exact ⟨0, rfl, by subst hk; rfl⟩
    · obtain ⟨n, hn, hx⟩ := mfind_get h
      exact ⟨n + 1, by omega, hx⟩
theorem mput_none {k : K} {v : V} : ∀ {l : List (K × V)} {i : Nat}, mfind k l i = none → mput k v l = l ++ [(k, v)]
  | [], _, _ => rfl
  | p :: l, i, h => by
    unfold mfind at h
    split at h
    · cases h
    · rename_i hk
      rw [mput, if_neg hk, mput_none h]; rfl
end
structure KeyT (P : Program) (t : TypeId) (ls : List Nat) {K : Type} [DecidableEq K] (kc : K → List Value) : Prop where
  eq : EqT P t ls
  len : ∀ a, (kc a).length = ls.length
  dec : ∀ a b, eqCs ls (kc a) (kc b) = some (decide (a = b))
  bits : ∀ a, Instr.sameBits 10000 (.agg (kc a).toArray) (.agg (kc a).toArray) = true
def MpE {K V : Type} (kc : K → List Value) (vc : V → Value) (l : List (K × V)) (es : List MapEntry) : Prop := es.map (fun e => (e.key, e.val)) = l.map fun p => (Value.agg (kc p.1).toArray, vc p.2)
section
variable {P : Program} {K V : Type} [DecidableEq K] {kc : K → List Value} {vc : V → Value} {l : List (K × V)} {t kt et : TypeId} {ls : List Nat}
omit [DecidableEq K] in
theorem mpe_cons {p : K × V} {l : List (K × V)} {es : List MapEntry} (h : MpE kc vc (p :: l) es) : ∃ e r, es = e :: r ∧ e.key = .agg (kc p.1).toArray ∧ e.val = vc p.2 ∧ MpE kc vc l r := by
  unfold MpE at h
  cases es with
  | nil => simp at h
  | cons e r =>
    simp at h
    exact ⟨e, r, rfl, h.1.1, h.1.2, h.2⟩
theorem run_findAskingL (hk : KeyT P kt ls kc) (k : K) (w : World) : ∀ (l : List (K × V)) (es : List MapEntry) (i : Nat), MpE kc vc l es →
    (Instr.findAsking kt (.agg (kc k).toArray) es i).run P w = .ok ((mfind k l i).map fun p => (p.1, vc p.2)) w
  | [], es, i, h => by
    have : es = [] := by simpa [MpE] using h
    subst this; rfl
  | p :: l, es, i, h => by
    obtain ⟨e, r, rfl, h1, h2, h3⟩ := mpe_cons h
    have hag := hk.eq.ag
    obtain ⟨⟨ag, s⟩, hld⟩ : ∃ q, ldI P kt = some q := by
      cases hl : ldI P kt with
      | none => rw [hl] at hag; cases hag
      | some q => exact ⟨q, rfl⟩
    rw [hld] at hag
    simp at hag; subst hag
    have asT : ∀ zs : List Value, asV true zs = .agg zs.toArray := fun zs => by cases zs <;> rfl
    have hr := run_eq_leaves 10000 kt ls true s (lvI_more hk.eq.lv 9980) hld (kc k) (kc p.1) _ w (hk.dec k p.1)
    rw [asT, asT] at hr
    have hr' : (Op.equal kt (.agg (kc k).toArray) e.key).run P w = .ok (decide (k = p.1)) w := by rw [h1]; exact hr
    rw [Instr.findAsking, mfind]
    simp only [Sem.run_bind, hr', Result.andThen_ok]
    by_cases hkp : k = p.1
    · rw [if_pos hkp, decide_eq_true hkp, h2]; rfl
    · rw [if_neg hkp, decide_eq_false hkp]
      simp only [Bool.false_eq_true, if_false]
      exact run_findAskingL hk k w l r (i + 1) h3
theorem keyT_struct (hk : KeyT P kt ls kc) : ∃ fs, P.underlying kt = some (.struct fs) := by
  have h := hk.eq.lv
  have hag := hk.eq.ag
  cases hl : ldI P kt with
  | none => rw [hl] at hag; cases hag
  | some q =>
    obtain ⟨ag, s⟩ := q
    rw [hl] at hag
    simp at hag; subst hag
    obtain ⟨dsc, i, hu, hi, hsz, hag⟩ := ldI_spec hl
    simp only [lvI, hu] at h
    cases dsc with
    | struct fs => exact ⟨fs, hu⟩
    | string => simp at hag
    | int k => simp at hag
    | bool => simp at hag
    | _ => cases h
theorem run_findKeyL (hk : KeyT P kt ls kc) (k : K) (w : World) (l : List (K × V)) (es : List MapEntry) (h : MpE kc vc l es) :
    (Instr.findKey kt (.agg (kc k).toArray) es).run P w = .ok ((mfind k l 0).map fun p => (p.1, vc p.2)) w := by
  obtain ⟨fs, hu⟩ := keyT_struct hk
  unfold Instr.findKey
  simp only [Sem.run_bind, run_underlying hu, Result.andThen_ok]
  cases es with
  | nil =>
    have : l = [] := by
      cases l with
      | nil => rfl
      | cons p l => simp [MpE] at h
    subst this; rfl
  | cons e r => exact run_findAskingL hk k w l (e :: r) 0 h
theorem run_checkKeyT (hk : KeyT P kt ls kc) (k : K) (em : Bool) (w : World) : (Instr.checkKey em 10000 kt (.agg (kc k).toArray)).run P w = .ok () w := by
  have hag := hk.eq.ag
  cases hl : ldI P kt with
  | none => rw [hl] at hag; cases hag
  | some q =>
    obtain ⟨ag, s⟩ := q
    rw [hl] at hag
    simp at hag; subst hag
    have asT : ∀ zs : List Value, asV true zs = .agg zs.toArray := fun zs => by cases zs <;> rfl
    have := run_checkKeyL em 20 10000 kt ls true s hk.eq.lv hl (kc k) w (hk.len k) (by decide)
    rwa [asT] at this
theorem mp_modify (k : K) (v : V) : ∀ (l : List (K × V)) (es : List MapEntry) (i j : Nat) (x : V), MpE kc vc l es → mfind k l i = some (j, x) →
    MpE kc vc (mput k v l) (es.modify (j - i) fun e => { e with key := .agg (kc k).toArray, val := vc v })
  | [], _, _, _, _, _, h => by cases h
  | p :: l, es, i, j, x, he, h => by
    obtain ⟨e, r, rfl, h1, h2, h3⟩ := mpe_cons he
    unfold mfind at h
    rw [mput]
    split at h
    · rename_i hk
      cases h
      rw [if_pos hk, Nat.sub_self]
      unfold MpE at h3 ⊢
      subst hk
      simpa using h3
    · rename_i hk
      rw [if_neg hk]
      obtain ⟨n, hn, _⟩ := mfind_get h
      have ih := mp_modify k v l r (i + 1) j x h3 h
      have e1 : j - i = (j - (i + 1)) + 1 := by omega
      rw [e1]
      unfold MpE at ih ⊢
      simp [h1, h2]
      exact ih
theorem run_mapUpdateL (ht : P.underlying t = some (.map kt et)) (hk : KeyT P kt ls kc) {b : Nat} {es : Array MapEntry} {ck : Nat} {u : World} (hb : u.heap[b]? = some (.map es ck)) (he : MpE kc vc l es.toList) (k : K) (v : V) :
    ∃ es' ck', (Instr.mapUpdate t (.map (some b)) (.agg (kc k).toArray) (vc v)).run P u = .ok () (u.putObj b (.map es' ck')) ∧ MpE kc vc (mput k v l) es'.toList := by
  have hf := run_findKeyL hk k u l es.toList he
  cases hm : mfind k l 0 with
  | none =>
    refine ⟨es.push { key := .agg (kc k).toArray, val := vc v, born := ck }, ck + 1, ?_, ?_⟩
    · unfold Instr.mapUpdate
      rw [hm] at hf
      simp only [Sem.run_bind, run_underlying ht, Result.andThen_ok, MapKept.run_getObj_map hb, Sem.run_pure, run_checkKeyT hk k, hf, Option.map_none]
      simp [setObj, Sem.run, hb, World.putObj, Result.andThen]
    · rw [mput_none hm]
      unfold MpE at he ⊢
      simp [he]
  | some q =>
    obtain ⟨j, x⟩ := q
    refine ⟨es.modify j fun e => { e with key := .agg (kc k).toArray, val := vc v }, ck, ?_, ?_⟩
    · obtain ⟨n, hn, hx⟩ := mfind_get hm
      have hn' : j = n := by omega
      subst hn'
      have hkey : ((es[j]?).map (·.key)).getD (.agg (kc k).toArray) = .agg (kc k).toArray := by
        have h2 := congrArg (·[j]?) he
        simp only [List.getElem?_map, hx, Option.map_some] at h2
        rw [← Array.getElem?_toList]
        cases hz : es.toList[j]? with
        | none => rfl
        | some e =>
          rw [hz] at h2
          simp at h2
          simpa using h2.1
      unfold Instr.mapUpdate
      rw [hm] at hf
      simp only [Sem.run_bind, run_underlying ht, Result.andThen_ok, MapKept.run_getObj_map hb, Sem.run_pure, run_checkKeyT hk k, hf, Option.map_some, hkey]
      unfold Instr.keyThatStays
      rw [if_pos (hk.bits k)]
      simp [setObj, Sem.run, hb, World.putObj, Result.andThen]
    · have := mp_modify k v l es.toList 0 j x he hm
      simpa using this
end
def MapR {K V : Type} (kc : K → List Value) (vc : V → Value) (l : List (K × V)) : Res where
  P x _ u C := ∃ b, x = .map (some b) ∧ (∃ es ck, u.heap[b]? = some (.map es ck) ∧ MpE kc vc l es.toList) ∧ ∀ k, C k ↔ k = b
  st := fun ⟨b, hx, ⟨es, ck, hb, he⟩, hC⟩ _ _ _ hk => ⟨b, hx, ⟨es, ck, (hk b ((hC b).2 rfl)).trans hb, he⟩, hC⟩
def MapH {K V : Type} (b : Nat) (kc : K → List Value) (vc : V → Value) (l : List (K × V)) : Res where
  P _ _ u C := (∃ es ck, u.heap[b]? = some (.map es ck) ∧ MpE kc vc l es.toList) ∧ ∀ k, C k ↔ k = b
  st := fun ⟨⟨es, ck, hb, he⟩, hC⟩ _ _ _ hk => ⟨⟨es, ck, (hk b ((hC b).2 rfl)).trans hb, he⟩, hC⟩
section
variable {P : Program} {F : Fr} {B : Heap} {O : Boxes} {n : Nat} {ops : Array Oper} {κ : Kap} {d : Nat} {ty : TypeId} {pos : String} {aft : Array Edge} {g : Option (Nat × Bool)} {a : Act} {u : World} {H : Heap} {os : List Oper} {Q : Exit → Act → World → Prop} {ex : Exs}
variable {K Y : Type} [DecidableEq K] {kc : K → List Value} {vc : Y → Value} {l : List (K × Y)}
omit [DecidableEq K] in
theorem Has.holdM {t q : Nat} (hk : κ t = some (.own (MapR kc vc l))) (h : Has F B O n κ a u) : ∃ b, Has F B O n (upd (upd (upd κ t nilK) q (.own (MapH b kc vc l))) t (.is (.map (some b)))) a u := by
  obtain ⟨H, fp, h⟩ := h
  obtain ⟨⟨b, hv, hb, hC⟩, hM⟩ := h.slot t _ hk
  have h2 := h.usePut (d := q) (a' := a) (r' := MapH b kc vc l) (C := fp t) hk ⟨Keep.refl _ _, h.sub, Heap.Le.refl _, fun _ _ _ => rfl⟩ rfl rfl (fun _ _ => rfl) ⟨hb, hC⟩ fun k hk => ⟨.inl hk, (hM k hk).1, (hM k hk).2.1⟩
  have h3 := h2.name t
  rw [hv] at h3
  exact ⟨b, H, _, h3⟩
omit [DecidableEq K] in
theorem V_holdM (t q : Nat) {c : Code} (hk : κ t = some (.own (MapR kc vc l))) (h : ∀ b, V P F B n O (upd (upd (upd κ t nilK) q (.own (MapH b kc vc l))) t (.is (.map (some b)))) c Q) : V P F B n O κ c Q := fun a u hh => let ⟨b, h'⟩ := hh.holdM (q := q) hk; h b a u h'
omit [DecidableEq K] in
theorem ok_makeMap (kc : K → List Value) (vc : Y → Value) {t : TypeId} (hn : Nat.blt d n = true) (hg : gK ops κ ⟨some d, .makeMap t none, ty, pos, aft, g⟩ = some true) :
    StepOK P F B n ops O κ ⟨some d, .makeMap t none, ty, pos, aft, g⟩ d (.own (MapR kc vc [])) := by
  rintro κ' a u hl ⟨H, fp, hh⟩
  have hn : d < n := by simpa using hn
  unfold After
  rw [if_pos (wanted_gK hh hl hg)]
  have hrun : (execOp a.eval ⟨some d, .makeMap t none, ty, pos, aft, g⟩).run P u = .ok (.value (.map (some u.heap.size))) (u.alloc (.map #[] 0)) := by
    simp [execOp, Instr.makeMap]
  rw [hrun]
  simp only [Upon]
  have hg2 := hh.grow (Grow.hid hh.sub (.map #[] 0))
  refine ⟨H, _, hg2.putR (C := fun k => k = u.heap.size) (by simp [Act.put]) rfl (fun t ht => eval_put_other ht) ⟨u.heap.size, eval_put_same (by rw [hh.size]; exact hn), ⟨_, _, heap_push_same _ _, rfl⟩, fun _ => Iff.rfl⟩ (fun k hk => ?_) fun t r' _ ht k hf hk => ?_⟩
  · subst hk
    exact ⟨size_of_heap (heap_push_same u _), none_of_ge hh.sub (Nat.le_refl _), .inl hh.keep.size, fun y hy e => by have := size_of_heap (hh.boxes y hy).1; omega⟩
  · have := ((hh.slot t _ ht).2 k hf).1
    omega
theorem ok_mapUpdM {x y z : Operand} {q b : Nat} {t kt et : TypeId} {ls : List Nat} (k : K) (v : Y) {ks : List Value} {zv : Value} {l' : List (K × Y)} (ht : P.underlying t = some (.map kt et)) (hkt : KeyT P kt ls kc)
    (hx : evK κ x = some (.map (some b))) (hq : κ q = some (.own (MapH b kc vc l))) (hy : evK κ y = some (.agg ks.toArray)) (hks : kc k = ks) (hz : evK κ z = some zv) (hzv : vc v = zv) (hg : gK ops κ ⟨none, .mapUpdate t x y z, ty, pos, aft, g⟩ = some true)
    (hl' : mput k v l = l') :
    StepOKS P F B n ops O κ ⟨none, .mapUpdate t x y z, ty, pos, aft, g⟩ q (.own (MapH b kc vc l')) := by
  rintro κ' a u hlk hqk ⟨H, fp, hh⟩
  subst hl' hks hzv
  unfold After
  rw [if_pos (wanted_gK hh hlk hg)]
  have e := hh.env hlk
  have h1 := e.is_ x _ (by simp [Op.operands]) hx
  have h2 := e.is_ y _ (by simp [Op.operands]) hy
  have h3 := e.is_ z _ (by simp [Op.operands]) hz
  have hqs := hqk.trans hq
  obtain ⟨⟨⟨es, ck, hb, he⟩, hC⟩, hM⟩ := hh.slot q _ hqs
  obtain ⟨es', ck', hr, he'⟩ := run_mapUpdateL ht hkt hb he k v
  have hrun : (execOp a.eval ⟨none, .mapUpdate t x y z, ty, pos, aft, g⟩).run P u = .ok .skip (u.putObj b (.map es' ck')) := by
    simp only [execOp, h1, h2, h3, Sem.run_bind, hr, Result.andThen_ok]
    rfl
  rw [hrun]
  simp only [Upon, Act.put]
  have hbm := hM b ((hC b).2 rfl)
  have := hh.usePut (d := q) (a' := a) (r' := MapH b kc vc (mput k v l)) (C := fun k => k = b) hqs (grow_putObj hh.sub ((hC b).2 rfl) hbm.2.1) rfl rfl (fun _ _ => rfl) ⟨⟨es', ck', World.putObj_heap_same hbm.1, he'⟩, fun _ => Iff.rfl⟩ (fun k hk => by
    subst hk; exact ⟨.inl ((hC k).2 rfl), by rw [World.putObj_size]; exact hbm.1, hbm.2.1⟩)
  rw [upd_upd] at this
  exact ⟨H, _, this⟩
end
end Go.V
namespace Go.V
open Go.Proofs Go.RowKit
def nXs (Xs : List (List Value × Nat)) : Nat := (Xs.map Prod.snd).sum
def cXs (Xs : List (List Value × Nat)) : List Value := (Xs.map Prod.fst).flatten
def Lsts (e : TypeId) (s : Nat) (B : Heap) (avs : List Value) (Xs : List (List Value × Nat)) : Prop :=
  avs.length = Xs.length ∧ ∀ (i : Nat) a p, avs[i]? = some a → Xs[i]? = some p → (∃ f, SlV e s p.1 p.2 f a B) ∧ p.1.all plainV = true
theorem Lsts.le {e : TypeId} {s : Nat} {B B' : Heap} {avs : List Value} {Xs : List (List Value × Nat)} (h : Lsts e s B avs Xs) (hle : B.Le B') : Lsts e s B' avs Xs :=
  ⟨h.1, fun i a p h1 h2 => let ⟨⟨f, h3⟩, h4⟩ := h.2 i a p h1 h2; ⟨⟨f, h3.le hle⟩, h4⟩⟩
theorem slv_sh {e : TypeId} {s n : Nat} {xs : List Value} {fu : Bool} {v : Value} {H : Heap} (h : SlV e s xs n fu v H) : ∃ p c, v = .slice p n c := by
  rcases h.2 with ⟨rfl, p0, hv⟩ | ⟨b, off, cap, cs, ty0, fr, hv, _⟩
  · exact ⟨_, _, hv⟩
  · exact ⟨_, _, hv⟩
theorem Lsts.at {e : TypeId} {s : Nat} {B : Heap} {avs : List Value} {Xs : List (List Value × Nat)} (h : Lsts e s B avs Xs) {i : Nat} (hi : i < avs.length) :
    ∃ x p c f l m, avs[i]? = some x ∧ x = .slice p m c ∧ SlV e s l m f x B ∧ Xs[i]? = some (l, m) ∧ l.all plainV = true := by
  have h1 : avs[i]? = some avs[i] := List.getElem?_eq_getElem hi
  have hi' : i < Xs.length := h.1 ▸ hi
  have h2 : Xs[i]? = some Xs[i] := List.getElem?_eq_getElem hi'
  obtain ⟨⟨f, h3⟩, h4⟩ := h.2 i _ _ h1 h2
  obtain ⟨p, c, h5⟩ := slv_sh h3
  exact ⟨_, p, c, f, _, _, h1, h5, h3, h2, h4⟩
theorem take_snoc {α : Type} {l : List α} {i : Nat} {x : α} (h : l[i]? = some x) : l.take (i + 1) = l.take i ++ [x] := by
  rw [List.take_add_one, h]; rfl
theorem nXs_take {Xs : List (List Value × Nat)} {i m : Nat} {l : List Value} (h : Xs[i]? = some (l, m)) : nXs (Xs.take (i + 1)) = nXs (Xs.take i) + m := by
  rw [take_snoc h]; simp [nXs]
theorem cXs_take {Xs : List (List Value × Nat)} {i m : Nat} {l : List Value} (h : Xs[i]? = some (l, m)) : cXs (Xs.take (i + 1)) = cXs (Xs.take i) ++ l := by
  rw [take_snoc h]; simp [cXs]
theorem nXs_le (Xs : List (List Value × Nat)) (i : Nat) : nXs (Xs.take i) ≤ nXs Xs := by
  have h : nXs Xs = nXs (Xs.take i) + nXs (Xs.drop i) := by
    conv => lhs; rw [← List.take_append_drop i Xs]
    simp only [nXs, List.map_append, List.sum_append]
  omega
theorem Lsts.len {e : TypeId} {s : Nat} {B : Heap} {avs : List Value} {Xs : List (List Value × Nat)} (h : Lsts e s B avs Xs) : ∀ i, (cXs (Xs.take i)).length = nXs (Xs.take i) * s := by
  intro i
  induction i with
  | zero => simp [cXs, nXs]
  | succ i ih =>
    cases hx : Xs[i]? with
    | none => rw [List.take_add_one, hx]; simpa using ih
    | some p =>
      obtain ⟨l, m⟩ := p
      rw [nXs_take hx, cXs_take hx, List.length_append, ih, Nat.add_mul]
      have hi : i < Xs.length := by
        rcases Nat.lt_or_ge i Xs.length with h | h
        · exact h
        · rw [List.getElem?_eq_none h] at hx; cases hx
      have h1 : avs[i]? = some (avs[i]'(h.1 ▸ hi)) := List.getElem?_eq_getElem _
      obtain ⟨⟨f, h3⟩, _⟩ := h.2 i _ _ h1 hx
      have := h3.1
      dsimp only at this
      omega
theorem Lsts.plain {e : TypeId} {s : Nat} {B : Heap} {avs : List Value} {Xs : List (List Value × Nat)} (h : Lsts e s B avs Xs) : (cXs Xs).all plainV = true := by
  rw [List.all_eq_true]
  intro v hv
  obtain ⟨l, hl, hvl⟩ := List.mem_flatten.1 hv
  obtain ⟨p, hp, rfl⟩ := List.mem_map.1 hl
  obtain ⟨i, hi, hpi⟩ := List.getElem_of_mem hp
  have h2 : Xs[i]? = some p := by rw [List.getElem?_eq_getElem hi, hpi]
  exact List.all_eq_true.1 (h.2 i _ p (List.getElem?_eq_getElem (h.1 ▸ hi)) h2).2 v hvl
section
variable {P : Program} {F : Fr} {B : Heap} {O : Boxes} {n : Nat} {ops : Array Oper} {κ : Kap} {d : Nat} {ty : TypeId} {pos : String} {aft : Array Edge} {g : Option (Nat × Bool)} {os : List Oper} {Q : Exit → Act → World → Prop}
theorem ok_buildSliceS (L : Tabs P) {t e : TypeId} {ag : Bool} {s len : Nat} {parts : Array (Nat × Operand)} {z : Value} (ψ : Value → Heap → Prop) (hn : Nat.blt d n = true) (hg : gK ops κ ⟨some d, .buildSlice t len parts, ty, pos, aft, g⟩ = some true)
    (ht : L.sl t = some e) (hl : L.ld e = some (ag, s)) (hz : L.zr e = some z) (hlen : parts.toList.length = len) (hb : Nat.ble (len * s) 16777216 = true) (hm : Kn.mono (.sat ψ))
    (h : ∀ H, B.Le H → Args κ H (parts.toList.map (·.2)) [] (fun xs => enumB s 0 ((parts.toList.map (·.1)).zip xs) = true ∧ ∀ v H', H.Le H' → SlB (flatV ((parts.toList.map (·.1)).zip xs)) e len v H' → ψ v H')) :
    StepOK P F B n ops O κ ⟨some d, .buildSlice t len parts, ty, pos, aft, g⟩ d (.sat ψ) :=
  ok_run rfl (by simpa using hn) hg hm fun a u H fp en => by
    have hc := Args.use en (parts.toList.map (·.2)) [] (fun x hx => by
      simp only [Op.operands]
      obtain ⟨q, hq, rfl⟩ := List.mem_map.1 hx
      simp
      exact ⟨q.1, by simpa using hq⟩) (h H en.base)
    simp only [List.reverse_nil, List.nil_append, List.map_map] at hc
    have hz2 : (parts.toList.map (·.1)).zip (parts.toList.map (a.eval ∘ (·.2))) = parts.toList.map fun p => (p.1, a.eval p.2) := by
      generalize parts.toList = l
      induction l with
      | nil => rfl
      | cons x l ih => simp only [List.map_cons, List.zip_cons_cons, ih]; rfl
    rw [hz2] at hc
    have harr : (parts.map fun (p : Nat × Operand) => (p.1, a.eval p.2)) = (parts.toList.map fun p => (p.1, a.eval p.2)).toArray := by
      rw [← List.map_toArray, Array.toArray_toList]
    have hlen2 : (parts.toList.map fun p => (p.1, a.eval p.2)).length = len := by rw [List.length_map]; exact hlen
    generalize hvs : (parts.toList.map fun p => (p.1, a.eval p.2)) = vs at hc harr hlen2
    obtain ⟨hen, hc⟩ := hc
    refine ⟨.slice (some ⟨u.heap.size, 0, none⟩) len len, u.alloc (.cells (flatV vs).toArray e), _, ?_, Grow.new en.sub _, hc _ _ (Grow.new en.sub _).le ⟨_, rfl, by simp⟩⟩
    have hb' := Nat.le_of_ble_eq_true hb
    have hzz := Tabs.zr_spec hz
    unfold zrI at hzz
    split at hzz
    · rename_i it hit
      have hzr : (zeroValue e).run P u = .ok z u := by simp [zeroValue, typeInfo, hit, hzz]
      simp only [execOp, Sem.run_bind]
      show Result.andThen ((Instr.buildSlice t len (parts.map fun (p : Nat × Operand) => (p.1, a.eval p.2))).run P u) _ = _
      rw [harr]
      simp only [Instr.buildSlice, Sem.run_bind, run_underlying (Tabs.sl_spec ht), Result.andThen_ok, run_sizeOf (Tabs.ld_spec hl)]
      rw [if_neg (by omega)]
      have hfill : ∀ cells : Array Value, cells.size = len * s → Instr.fill (fun i => some (i * s, s)) cells vs = some (flatV vs).toArray := fun cells hc => by
        have := fill_enum vs 0 cells hen (by rw [hc, hlen2]; simp)
        simpa using this
      by_cases h0 : len * s = 0
      · simp only [h0, if_true, Sem.run_bind, Sem.run_pure, Result.andThen_ok]
        rw [hfill _ (by simp [h0])]
        simp [newRow]
      · simp only [h0, if_false, Sem.run_bind, Sem.run_pure, Result.andThen_ok, hzr]
        rw [hfill _ (by simp)]
        simp [newRow]
    · cases hzz
theorem ok_copyH (L : Tabs P) {q b : Nat} {x y : Operand} {t e ti t' : TypeId} {s by_ m : Nat} {cur news : List Value} (hm : 0 < m) (hn : Nat.blt d n = true) (hg : gK ops κ ⟨some d, .call ⟨.builtin .copy, #[x, y], #[t, ti]⟩, ty, pos, aft, g⟩ = some true)
    (hx : evK κ x = some (.slice (some ⟨b, 0, none⟩) m m)) (hq : κ q = some (.own (HeldR b cur t'))) (hy : Apd F B O κ y m news) (ht : L.sl t = some e) (he : elI P e = some (s, by_)) (hc : cur.length = m * s) (hl : news.length = m * s) (h1 : news.all plainV = true) :
    StepOK2 P F B n ops O κ ⟨some d, .call ⟨.builtin .copy, #[x, y], #[t, ti]⟩, ty, pos, aft, g⟩ q (.own (HeldR b news t')) d (.is (.int .i64 m)) := by
  rintro κ' a u hlk hks ⟨H, fp, hh⟩
  unfold After
  rw [if_pos (wanted_gK hh hlk hg)]
  have en := hh.env hlk
  have hk' : κ' q = some (.own (HeldR b cur t')) := hks.trans hq
  have hxe := en.is_ x _ (by simp [Op.operands, Call.operands]) hx
  obtain ⟨⟨hb, hC⟩, hM⟩ := hh.slot q _ hk'
  obtain ⟨i, z, hi, hz, hs1, hs2, hs3, hs4⟩ := elI_spec he
  have h1' : ∀ v ∈ news, v.oneCell' = true := fun v hv => plain_one (List.all_eq_true.1 h1 v hv)
  have hr := run_copy_all (P := P) (ty := ty) (ti := ti) (c := m) (cur := cur) (Tabs.sl_spec ht) hi hb (by rw [hs1]; exact hl) (by rw [hs1]; exact hc) h1' hm (hy _ a u H fp (by simp [Op.operands, Call.operands]) en)
  have hrun : (execOp a.eval ⟨some d, .call ⟨.builtin .copy, #[x, y], #[t, ti]⟩, ty, pos, aft, g⟩).run P u = .ok (.value (goInt m)) (u.setRow b news.toArray) := by
    simp only [execOp, resolve, invoke, builtin, Sem.run_bind, Sem.run_pure, Result.andThen_ok, List.map_toArray, List.map_cons, List.map_nil, hxe, hr]
  rw [hrun]
  simp only [Upon]
  have hbm := hM b ((hC b).2 rfl)
  have h2 := hh.usePut (d := q) (a' := a) (r' := HeldR b news t') (C := fun k => k = b) hk' (grow_setRow hh.sub hb ((hC b).2 rfl) hbm.2.1 _) rfl rfl (fun _ _ => rfl) ⟨setRow_heap u b cur.toArray news.toArray t' (0, 0) hb, fun _ => Iff.rfl⟩ (fun k hk => by
    subst hk; exact ⟨.inl ((hC k).2 rfl), by rw [setRow_size]; exact hbm.1, hbm.2.1⟩)
  rw [upd_upd] at h2
  exact ⟨H, _, h2.put (k := .is (.int .i64 m)) (zg hn) trivial rfl⟩
theorem Has.relE {t q : Nat} {b m : Nat} {e : TypeId} {s : Nat} {xs : List Value} {a : Act} {u : World} (hk : κ q = some (.own (HeldR b xs e))) (ht : κ t = some (.is (.slice (some ⟨b, 0, none⟩) m m))) (hl : xs.length = m * s) (hm : m ≤ maxLen) (hh : Has F B O n κ a u) : Has F B O n (upd (upd κ q nilK) t (.own (SlE e s m xs))) a u := by
  obtain ⟨H, fp, hh⟩ := hh
  obtain ⟨⟨hb, hC⟩, hM⟩ := hh.slot q _ hk
  have hx : a.eval (.tmp t) = .slice (some ⟨b, 0, none⟩) m m := hh.slot t _ ht
  exact ⟨H, _, hh.usePut (d := t) (a' := a) (r' := SlE e s m xs) (C := fp q) hk ⟨Keep.refl _ _, hh.sub, Heap.Le.refl _, fun _ _ _ => rfl⟩ rfl rfl (fun _ _ => rfl) ⟨hl, .inr ⟨b, hx, hb, hm, hC⟩⟩ fun k hk => ⟨.inl hk, (hM k hk).1, (hM k hk).2.1⟩⟩
theorem V_relE (t q : Nat) {b m : Nat} {e : TypeId} {s : Nat} {xs : List Value} {c : Code} (hk : κ q = some (.own (HeldR b xs e))) (ht : κ t = some (.is (.slice (some ⟨b, 0, none⟩) m m))) (hl : xs.length = m * s) (hm : m ≤ maxLen)
    (h : V P F B n O (upd (upd κ q nilK) t (.own (SlE e s m xs))) c Q) : V P F B n O κ c Q := fun a u hh => h a u (hh.relE hk ht hl hm)
theorem vo_holdE (t q : Nat) {e : TypeId} {s m : Nat} {xs : List Value} (hm : 0 < m) (hk : κ t = some (.own (SlE e s m xs)))
    (h : ∀ b, xs.length = m * s → VO P F B n O ops (upd (upd (upd κ t nilK) q (.own (HeldR b xs e))) t (.is (.slice (some ⟨b, 0, none⟩) m m))) os Q) : VO P F B n O ops κ os Q := fun a u hh => by
  obtain ⟨H, fp, hh⟩ := hh
  obtain ⟨⟨hl, hv⟩, hM⟩ := hh.slot t _ hk
  rcases hv with ⟨h0, _, _⟩ | ⟨b, hv, hb, h4, hC⟩
  · omega
  · have h2 := hh.usePut (d := q) (a' := a) (r' := HeldR b xs e) (C := fp t) hk ⟨Keep.refl _ _, hh.sub, Heap.Le.refl _, fun _ _ _ => rfl⟩ rfl rfl (fun _ _ => rfl) ⟨hb, hC⟩ fun k hk => ⟨.inl hk, (hM k hk).1, (hM k hk).2.1⟩
    have h3 := h2.name t
    rw [hv] at h3
    exact h b hl a u ⟨H, _, h3⟩
theorem StepOK.seeV {o : Oper} {v : Value} {e : TypeId} {s m : Nat} {xs : List Value} {fu : Bool} (h : StepOK P F B n ops O κ o d (.is v)) (hv : SlV e s xs m fu v B) : StepOK P F B n ops O κ o d (.sat (SlV e s xs m fu)) := fun κ' a u hl hh =>
  After.mono (fun a' u' hh' => by
    have h2 := hh'.seen (t := d) (SlV e s xs m fu) (upd_same _ _ _) SlV.mono hv
    rwa [upd_upd] at h2) (h κ' a u hl hh)
theorem Has.pubH {q b : Nat} {cs : List Value} {t' : TypeId} {a : Act} {u : World} (hk : κ q = some (.own (HeldR b cs t'))) (hh : Has F B O n κ a u) : ∃ H, Since F B H ∧ B b = none ∧ H b = some (.cells cs.toArray t') ∧ Has F H O n (upd κ q nilK) a u := by
  obtain ⟨H, fp, hh⟩ := hh
  obtain ⟨⟨hb, hC⟩, hM⟩ := hh.slot q _ hk
  have hbm := hM b ((hC b).2 rfl)
  obtain ⟨H', h'⟩ := hh.pub (φ := fun _ H => H b = some (.cells cs.toArray t')) hk hb ((hC b).2 rfl) (fun _ _ _ h hle => hle _ _ h) fun H' _ hb' => hb'
  have hx : H' b = some (.cells cs.toArray t') := h'.slot q _ (upd_same _ _ _)
  refine ⟨H', h'.isSince, ?_, hx, H', fp, ?_⟩
  · cases hB : B b with
    | none => rfl
    | some z => have := hh.base _ _ hB; rw [hbm.2.1] at this; cases this
  · have h2 := (h'.rebase).setSat (t := q) (φ := fun _ _ => True) (fun _ _ _ _ _ => trivial) trivial
    rwa [upd_upd] at h2
theorem V_pubH (q : Nat) {b : Nat} {cs : List Value} {t' : TypeId} {c : Code} (hk : κ q = some (.own (HeldR b cs t'))) (h : ∀ H, Since F B H → B b = none → H b = some (.cells cs.toArray t') → V P F H n O (upd κ q nilK) c Q) : V P F B n O κ c Q := fun a u hh =>
  let ⟨H, h1, h2, h3, h4⟩ := hh.pubH hk; h H h1 h2 h3 a u h4
theorem vo_pubH (q : Nat) {b : Nat} {cs : List Value} {t' : TypeId} (hk : κ q = some (.own (HeldR b cs t'))) (h : ∀ H, Since F B H → B b = none → H b = some (.cells cs.toArray t') → VO P F H n O ops (upd κ q nilK) os Q) : VO P F B n O ops κ os Q := fun a u hh =>
  let ⟨H, h1, h2, h3, h4⟩ := hh.pubH hk; h H h1 h2 h3 a u h4
def AggE (vs : List Value) (e : TypeId) (s m : Nat) (xs : List Value) : Res where
  P x H u C := ∃ sv, x = .agg (vs ++ [sv] : List Value).toArray ∧ (SlE e s m xs).P sv H u C
  st := fun ⟨sv, h1, h2⟩ a b c d => ⟨sv, h1, (SlE e s m xs).st h2 a b c d⟩
theorem Has.openAgg {t q : Nat} {e : TypeId} {s m : Nat} {vs xs : List Value} {a : Act} {u : World} (hk : κ t = some (.own (AggE vs e s m xs))) (hh : Has F B O n κ a u) :
    (m = 0 ∧ xs = [] ∧ Has F B O n (upd κ t (.is (.agg (vs ++ [Value.slice none 0 0] : List Value).toArray))) a u) ∨ ∃ b, xs.length = m * s ∧ m ≤ maxLen ∧ Has F B O n (upd (upd (upd κ t nilK) q (.own (HeldR b xs e))) t (.is (.agg (vs ++ [Value.slice (some ⟨b, 0, none⟩) m m] : List Value).toArray))) a u := by
  obtain ⟨H, fp, hh⟩ := hh
  obtain ⟨⟨sv, hx, hl, hv⟩, hM⟩ := hh.slot t _ hk
  rcases hv with ⟨hm, hv, hC⟩ | ⟨b, hv, hb, h4, hC⟩
  · have h3 := hh.name t
    rw [hx, hv] at h3
    subst hm
    exact .inl ⟨rfl, List.eq_nil_of_length_eq_zero (by simpa using hl), H, _, h3⟩
  · have h2 := hh.usePut (d := q) (a' := a) (r' := HeldR b xs e) (C := fp t) hk ⟨Keep.refl _ _, hh.sub, Heap.Le.refl _, fun _ _ _ => rfl⟩ rfl rfl (fun _ _ => rfl) ⟨hb, hC⟩ fun k hk => ⟨.inl hk, (hM k hk).1, (hM k hk).2.1⟩
    have h3 := h2.name t
    rw [hx, hv] at h3
    exact .inr ⟨b, hl, h4, H, _, h3⟩
theorem vo_openAgg (t q : Nat) {e : TypeId} {s m : Nat} {vs xs : List Value} (hk : κ t = some (.own (AggE vs e s m xs)))
    (h0 : m = 0 → xs = [] → VO P F B n O ops (upd κ t (.is (.agg (vs ++ [Value.slice none 0 0] : List Value).toArray))) os Q)
    (h : ∀ b, xs.length = m * s → m ≤ maxLen → VO P F B n O ops (upd (upd (upd κ t nilK) q (.own (HeldR b xs e))) t (.is (.agg (vs ++ [Value.slice (some ⟨b, 0, none⟩) m m] : List Value).toArray))) os Q) : VO P F B n O ops κ os Q := fun a u hh => by
  rcases hh.openAgg (q := q) hk with ⟨h1, h2, h3⟩ | ⟨b, h1, h2, h3⟩
  · exact h0 h1 h2 a u h3
  · exact h b h1 h2 a u h3
theorem V_retGO (L : Tabs P) {fn : Func} {B0 : Heap} (gs : Nat) {r : Res} {rs : List ResultVar} {v : Value} {b : Nat} {cs : List Value} {t' : TypeId} (hrs : fn.results = rs.toArray)
    (hQ : ∀ a u, bodyPostM Fence.wide 0 P fn (PostL F.w0 B0 F.L (OwnP F.w0 r)) .ret a u → Q .ret a u) (hs : Since F B0 B) (hk : κ gs = some (.own (HeldR b cs t')))
    (h : ∀ H, ResK L F B O κ H rs [] (fun vs => tup vs = v)) (hr : ∀ H u C, B.Le H → H.Le (hp u) → (HeldR b cs t').P undef H u C → r.P v H u C) (hL : F.L = noL := by rfl) (hd : F.ds = [] := by rfl) : V P F B n O κ .ret Q := fun a u hh => by
  obtain ⟨H, fp, hH⟩ := hh
  refine wpIn_ret (hQ a u ?_)
  have h0 := hH.defers
  rw [hd] at h0
  show LeavesInM _ _ _ _ _ _ a.defers _ _
  rw [h0]
  obtain ⟨vs, h1, h2⟩ := results_run L hH hrs (h H)
  obtain ⟨hown, hM⟩ := hH.slot gs _ hk
  refine ⟨_, h1, _, rfl, H, ⟨hH.keep, hH.sub, hs.le.trans hH.base, fun k hk hl => (hH.fresh k hk hl).trans (hs.fresh k hk hl)⟩, fp gs, ?_, fun k hk => ?_⟩
  · rw [h2]
    exact hr H u (fp gs) hH.base hH.sub hown
  · obtain ⟨g1, g2, g3, _⟩ := hM k hk
    refine ⟨?_, g1, g2⟩
    rcases g3 with g3 | g3
    · exact g3
    · have g3' : F.L k := g3
      rw [hL] at g3'; exact g3'.elim
theorem V_retO0 (L : Tabs P) {fn : Func} {B0 : Heap} {r : Res} {rs : List ResultVar} {v : Value} (hrs : fn.results = rs.toArray)
    (hQ : ∀ a u, bodyPostM Fence.wide 0 P fn (PostL F.w0 B0 F.L (OwnP F.w0 r)) .ret a u → Q .ret a u) (hs : Since F B0 B)
    (h : ∀ H, ResK L F B O κ H rs [] (fun vs => tup vs = v)) (hr : ∀ H u, B.Le H → r.P v H u noL) (hd : F.ds = [] := by rfl) : V P F B n O κ .ret Q := fun a u hh => by
  obtain ⟨H, fp, hH⟩ := hh
  refine wpIn_ret (hQ a u ?_)
  have h0 := hH.defers
  rw [hd] at h0
  show LeavesInM _ _ _ _ _ _ a.defers _ _
  rw [h0]
  obtain ⟨vs, h1, h2⟩ := results_run L hH hrs (h H)
  exact ⟨_, h1, _, rfl, H, ⟨hH.keep, hH.sub, hs.le.trans hH.base, fun k hk hl => (hH.fresh k hk hl).trans (hs.fresh k hk hl)⟩, noL, by rw [h2]; exact hr H u hH.base, fun _ h => h.elim⟩
theorem RetO.toN {f : FuncId} {args : List Value} {w : World} {e : TypeId} {s m : Nat} {xs : List Value} (hB : B.Le (hp w)) (h : RetO P f args w B (SlE e s m xs)) : Ret P f args w B (SlN B e s xs m true) :=
  Calls.mono h fun _ u ⟨v, he, H, g, C, h1, h2⟩ => ⟨v, he, joinH H u C, ⟨g.keep, joinH_sub g.sub, fun k x hx => joinH_le (fun k hk => (h2 k hk).2.2) _ _ (g.le _ _ hx), fun k hk hn => (joinH_out fun hc => by have := (h2 k hc).1; omega).trans (g.fresh k hk hn)⟩, lend_SlE _ _ _ _ h1, fun b o k m' c hv => (by
    obtain ⟨_, ⟨_, hv', _⟩ | ⟨b', hv', _, _, hC⟩⟩ := h1
    · rw [hv'] at hv; cases hv
    · rw [hv'] at hv
      cases hv
      exact none_of_ge hB (h2 _ ((hC _).2 rfl)).1), fun b o k m' c hv => by
    obtain ⟨_, ⟨_, hv', _⟩ | ⟨b', hv', hb, _, hC⟩⟩ := h1
    · rw [hv'] at hv; cases hv
    · rw [hv'] at hv
      cases hv
      exact ⟨rfl, rfl, (joinH_in ((hC _).2 rfl)).trans hb⟩⟩
theorem ok_storeHS (L : Tabs P) {t t' : TypeId} {ag : Bool} {z b off q w : Nat} {p : Operand} {cs : List Value} {φ : Value → Heap → Prop} (hm : Kn.mono (.sat φ)) (hg : gK ops κ ⟨none, .store t p (.tmp w), ty, pos, aft, g⟩ = some true) (hp : evK κ p = some (.pointer (some ⟨b, off, none⟩)))
    (hq : κ q = some (.own (HeldR b cs t'))) (hx : κ w = some (.sat φ)) (hl : L.ld t = some (ag, z)) (hv : ∀ v H, φ v H → (cellsL v).length = z ∧ (cellsL v).all plainV = true) (hcs : off + z ≤ cs.length) :
    StepOKS P F B n ops O κ ⟨none, .store t p (.tmp w), ty, pos, aft, g⟩ q (.own (HeldX b t' (StP (fun c _ => c = cs) φ off z) (StP.mono (fun _ _ _ h _ => h) hm))) := by
  rintro κ' a u hlk hqk ⟨H, fp, hh⟩
  unfold After
  rw [if_pos (wanted_gK hh hlk hg)]
  have e := hh.env hlk
  have hev := e.sat_ w φ (by simp [Op.operands]) hx
  have hes := e.is_ p _ (by simp [Op.operands]) hp
  have hqs := hqk.trans hq
  obtain ⟨⟨hb, hC⟩, hM⟩ := hh.slot q _ hqs
  generalize hv' : a.eval (.tmp w) = v at hev
  obtain ⟨hlen, hpl⟩ := hv v H hev
  have hrun : (execOp a.eval ⟨none, .store t p (.tmp w), ty, pos, aft, g⟩).run P u = .ok .skip (u.setRow b (cs.take off ++ (cellsL v ++ cs.drop (off + z))).toArray) := by
    simp only [execOp, hes, hv', Instr.storeAt, Instr.sureAddr, Sem.run_bind, Sem.run_pure, Result.andThen_ok]
    have := run_storeVar_at (P := P) (off := off) (Tabs.ld_spec hl) hb hlen hcs hpl
    rw [this]
    simp
  rw [hrun]
  simp only [Upon, Act.put]
  have hset := setRow_heap u b cs.toArray (cs.take off ++ (cellsL v ++ cs.drop (off + z))).toArray t' (0, 0) hb
  have hbm := hM b ((hC b).2 rfl)
  have := hh.usePut (d := q) (a' := a) (r' := HeldX b t' (StP (fun c _ => c = cs) φ off z) (StP.mono (fun _ _ _ h _ => h) hm)) (C := fun k => k = b) hqs (grow_setRow hh.sub hb ((hC b).2 rfl) hbm.2.1 _) rfl rfl (fun _ _ => rfl) ⟨_, ⟨cs, v, rfl, hev, rfl⟩, hset, fun _ => Iff.rfl⟩ (fun k hk => by
    subst hk; exact ⟨.inl ((hC k).2 rfl), by rw [setRow_size]; exact hbm.1, hbm.2.1⟩)
  rw [upd_upd] at this
  exact ⟨H, _, this⟩
def fdI (P : Program) (st i : Nat) : Option (Nat × Bool × Nat) :=
  match P.underlying st with
  | some (.struct fs) => match fs[i]? with
    | some f => match ldI P f.type with
      | some r => some (f.offset, r.1, r.2)
      | none => none
    | none => none
  | _ => none
theorem fdI_spec {st i off s : Nat} {ag : Bool} (h : fdI P st i = some (off, ag, s)) : ∃ fs f, P.underlying st = some (.struct fs) ∧ fs[i]? = some f ∧ ldI P f.type = some (ag, s) ∧ f.offset = off := by
  unfold fdI at h
  split at h
  · rename_i fs hu
    split at h
    · rename_i f hf
      split at h
      · rename_i r hr
        cases h
        exact ⟨fs, f, hu, hf, hr, rfl⟩
      · cases h
    · cases h
  · cases h
theorem ok_field1 {x : Operand} {st i off s : Nat} {vs : Array Value} {v : Value} (hn : Nat.blt d n = true) (hg : gK ops κ ⟨some d, .field st x i, ty, pos, aft, g⟩ = some true) (hx : evK κ x = some (.agg vs)) (hf : fdI P st i = some (off, false, s)) (hv : vs[off]? = some v) :
    StepOK P F B n ops O κ ⟨some d, .field st x i, ty, pos, aft, g⟩ d (.is v) :=
  ok_pure rfl (zg hn) hg trivial fun a u H fp e => ⟨_, by
    have h1 := e.is_ x _ (by simp [Op.operands]) hx
    obtain ⟨fs, f, h2, h3, h4, h5⟩ := fdI_spec hf
    subst h5
    simp only [execOp, h1, Instr.field, Sem.run_bind, run_underlying h2, Result.andThen_ok, h3, asAgg, Sem.run_pure, part, run_isAgg h4, Bool.false_eq_true, if_false, hv], rfl⟩
end
section
variable {P : Program} {F : Fr} {B : Heap} {O : Boxes} {n : Nat} {ops : Array Oper} {κ : Kap} {d : Nat} {ty : TypeId} {pos : String} {aft : Array Edge} {g : Option (Nat × Bool)} {K Y : Type} [DecidableEq K] {kc : K → List Value} {vc : Y → Value} {l : List (K × Y)}
theorem run_lookupL1 {t kt et : TypeId} {ls : List Nat} (ht : P.underlying t = some (.map kt et)) (hk : KeyT P kt ls kc) {b : Nat} {es : Array MapEntry} {ck : Nat} {u : World} (hb : u.heap[b]? = some (.map es ck)) (he : MpE kc vc l es.toList) (k : K) {z : Value}
    (hz : (zeroValue et).run P u = .ok z u) : (Instr.lookup t (.map (some b)) (.agg (kc k).toArray) false).run P u = .ok ((mget k l).elim z vc) u := by
  unfold Instr.lookup
  have hf := run_findKeyL hk k u l es.toList he
  simp only [Sem.run_bind, run_underlying ht, Result.andThen_ok, MapKept.run_getObj_map hb, Sem.run_pure, run_checkKeyT hk k, hf]
  unfold mget
  cases mfind k l 0 with
  | none => simp [hz]
  | some p => simp
theorem ok_lookupM1 {x y : Operand} {q b : Nat} {t kt et : TypeId} {ls : List Nat} (k : K) {ks : List Value} {r z : Value} (ht : P.underlying t = some (.map kt et)) (hkt : KeyT P kt ls kc) (hz : ∀ w, (zeroValue et).run P w = .ok z w)
    (hx : evK κ x = some (.map (some b))) (hq : κ q = some (.own (MapH b kc vc l))) (hy : evK κ y = some (.agg ks.toArray)) (hks : kc k = ks) (hn : Nat.blt d n = true) (hg : gK ops κ ⟨some d, .lookup t x y false, ty, pos, aft, g⟩ = some true)
    (hr : (mget k l).elim z vc = r) :
    StepOKR P F B n ops O κ ⟨some d, .lookup t x y false, ty, pos, aft, g⟩ q d (.is r) := by
  rintro κ' a u hlk hqk ⟨H, fp, hh⟩
  subst hr hks
  unfold After
  rw [if_pos (wanted_gK hh hlk hg)]
  have e := hh.env hlk
  have h1 := e.is_ x _ (by simp [Op.operands]) hx
  have h2 := e.is_ y _ (by simp [Op.operands]) hy
  obtain ⟨⟨⟨es, ck, hb, he⟩, hC⟩, hM⟩ := hh.slot q _ (hqk.trans hq)
  have hrun : (execOp a.eval ⟨some d, .lookup t x y false, ty, pos, aft, g⟩).run P u = .ok (.value ((mget k l).elim z vc)) u := by
    simp only [execOp, h1, h2, Sem.run_bind, run_lookupL1 ht hkt hb he k (hz u), Result.andThen_ok]
    rfl
  rw [hrun]
  simp only [Upon]
  exact ⟨H, fp, hh.put (k := .is _) (zg hn) trivial rfl⟩
end
end Go.V
namespace Go.V
open Go.Proofs Go.RowKit
section
variable {P : Program} {F : Fr} {B : Heap} {O : Boxes} {n : Nat} {ops : Array Oper} {κ : Kap} {d : Nat} {ty : TypeId} {pos : String} {aft : Array Edge} {g : Option (Nat × Bool)} {a : Act} {u : World} {H : Heap} {fp : Nat → Nat → Prop} {Q : Exit → Act → World → Prop}
end
end Go.V
namespace Go.V
open Go.Proofs Go.RowKit
section
variable {P : Program} {F : Fr} {B : Heap} {O : Boxes} {n : Nat} {ops : Array Oper} {κ : Kap} {d : Nat} {ty : TypeId} {pos : String} {aft : Array Edge} {g : Option (Nat × Bool)}
theorem ok_and {t t' : TypeId} {x y : Operand} {k : IntKind} {p q r : Int} (hn : Nat.blt d n = true) (hg : gK ops κ ⟨some d, .binOp .and t x y t', ty, pos, aft, g⟩ = some true) (hx : evK κ x = some (.int k p)) (hy : evK κ y = some (.int k q)) (hb : bits .and k p q = r) :
    StepOK P F B n ops O κ ⟨some d, .binOp .and t x y t', ty, pos, aft, g⟩ d (.is (.int k r)) := ok_bin hn hg hx hy fun u => by subst hb; simp [eqGuard_and, binOp_and, intBits_and]
end
end Go.V
namespace Go.V.L39
open Go.Proofs Go.RowKit Go.V
section
variable {P : Program} {F : Fr} {B : Heap} {n : Nat} {O : Boxes} {ops : Array Oper} {ex : Exs} {κ : Kap} {Q : Exit → Act → World → Prop} {o : Oper} {os : List Oper} {d : Nat} {k : Kn}
theorem _root_.Go.V.Zs9 (h : VO P F B n O ops (upd κ d k) os Q) (s : StepOK P F B n ops O κ o d k := by exact q9 rfl rfl rfl rfl (decide_eq_false (by omega))) (v : vd o = some d := by rfl) : VO P F B n O ops κ (o :: os) Q := z7 s v h
theorem _root_.Go.V.Zs15 (h : VO P F B n O ops (upd κ d k) os Q) (s : StepOK P F B n ops O κ o d k := by exact q9 rfl rfl rfl rfl (decide_eq_true (by omega))) (v : vd o = some d := by rfl) : VO P F B n O ops κ (o :: os) Q := z7 s v h
theorem _root_.Go.V.Zs18 (h : VO P F B n O ops (upd κ d k) os Q) (s : StepOK P F B n ops O κ o d k := by exact qd rfl rfl rfl rfl (by assumption)) (v : vd o = some d := by rfl) : VO P F B n O ops κ (o :: os) Q := z7 s v h
theorem _root_.Go.V.Zs20 (h : VO P F B n O ops (upd κ d k) os Q) (s : StepOK P F B n ops O κ o d k := by exact y4 rfl rfl rfl rfl (by assumption)) (v : vd o = some d := by rfl) : VO P F B n O ops κ (o :: os) Q := z7 s v h
theorem _root_.Go.V.Zs35 (h : VO P F B n O ops (upd κ d k) os Q) (s : StepOK P F B n ops O κ o d k := by exact y8 L rfl rfl rfl rfl) (v : vd o = some d := by rfl) : VO P F B n O ops κ (o :: os) Q := z7 s v h
theorem _root_.Go.V.Zs60 (h : VO P F B n O ops (upd κ d k) os Q) (s : StepOK P F B n ops O κ o d k := by exact ok_assigns' rfl rfl rfl) (v : vd o = some d := by rfl) : VO P F B n O ops κ (o :: os) Q := z7 s v h
theorem _root_.Go.V.Zs65 (h : VO P F B n O ops (upd κ d k) os Q) (s : StepOK P F B n ops O κ o d k := by exact ok_load1c L (zl rfl) rfl rfl rfl (by assumption)) (v : vd o = some d := by rfl) : VO P F B n O ops κ (o :: os) Q := z7 s v h
theorem _root_.Go.V.Zs68 (h : VO P F B n O ops (upd κ d k) os Q) (s : StepOK P F B n ops O κ o d k := by exact y4 rfl rfl rfl rfl (wrap_i64 (by omega) (by omega))) (v : vd o = some d := by rfl) : VO P F B n O ops κ (o :: os) Q := z7 s v h
theorem _root_.Go.V.Zs69 (h : VO P F B n O ops (upd κ d k) os Q) (s : StepOK P F B n ops O κ o d k := by exact ok_capL L rfl rfl rfl rfl) (v : vd o = some d := by rfl) : VO P F B n O ops κ (o :: os) Q := z7 s v h
theorem _root_.Go.V.Zs81 (h : VO P F B n O ops (upd κ d k) os Q) (s : StepOK P F B n ops O κ o d k := by exact ok_lenSl L rfl rfl rfl rfl) (v : vd o = some d := by rfl) : VO P F B n O ops κ (o :: os) Q := z7 s v h
end
abbrev tyI : TypeId := 33
attribute [local irreducible] V N X VO Par StepOK Has Ret RetL RetO RetT RetG Src
set_option maxRecDepth 20000 in
theorem growI_ret {n : Nat} (hn : n ≤ 100000) {w : World} {B : Heap} (hB : B.Le (hp w)) : RetO Try.prog 86 [.slice none 0 0, .int .i64 n] w B (SlR tyI 5 0 []) := by
  refine V_enterO Try.func86 rfl Try.ntmps86 (Nat.le_of_ble_eq_true rfl) hB ?_
  have hs : IntKind.i64.wrap ((n : Int) - 0) = (n : Int) := wrap_i64 (by omega) (by omega) |>.trans (by omega)
  by_cases h0 : 0 < n
  · refine ze ?_; refine zb (id := 0) ?_; refine Zs2 ?_; refine zd ?_; refine zf ?_; refine ze ?_; refine ze ?_; refine zb (id := 1) ?_; refine Zs1 ?_; refine Zs8 ?_; refine zd ?_; refine zf ?_; refine zm rfl ?_; refine zt ?_; refine zf ?_; refine ze ?_; refine ze ?_; refine zb (id := 3) ?_; refine Zs1 ?_; refine Zs1 ?_; refine Zs69 ?_; refine Zs1 ?_; refine Zs35 ?_; refine Zs68 ?_; refine Zs20 ?_; refine Zs2 ?_; refine zd ?_; refine zf ?_; refine ze ?_; refine zb (id := 4) ?_; refine Zs1 ?_; refine Zs23 ?_; refine zd ?_; refine zf ?_; refine zw rfl ?_; refine zb (id := 5) ?_; refine Zs1 ?_; refine Zs1 ?_; refine Zs69 ?_; refine z7 (ok_sliceN L 0 rfl rfl rfl rfl rfl rfl rfl) rfl ?_; refine Zs1 ?_; refine z7 (ok_appendM L rfl rfl rfl rfl rfl Try.underlying3 el33 h0 (by omega) (by omega)) rfl ?_; refine Zs1 ?_; refine Zs35 ?_; refine qh (ok_slice0 L 0 rfl h0 rfl rfl rfl rfl rfl rfl) ?_; refine qh (ok_moveO (.inr rfl) rfl rfl rfl rfl) ?_; refine zd ?_; refine zf ?_; refine ze ?_; refine zb (id := 6) ?_; refine qh (ok_moveO (.inl rfl) rfl rfl rfl rfl) ?_; refine qh (ok_moveO (.inr rfl) rfl rfl rfl rfl) ?_; refine zd ?_; refine zf ?_
    exact V_retO rfl (fun _ _ h => h) Since.refl rfl
  · obtain rfl : n = 0 := by omega
    refine ze ?_; refine zb (id := 0) ?_; refine Zs2 ?_; refine zd ?_; refine zf ?_; refine ze ?_; refine ze ?_; refine zb (id := 1) ?_; refine Zs1 ?_; refine Zs8 ?_; refine zd ?_; refine zf ?_; refine zm rfl ?_; refine zt ?_; refine zf ?_; refine ze ?_; refine ze ?_; refine zb (id := 3) ?_; refine Zs1 ?_; refine Zs1 ?_; refine Zs69 ?_; refine Zs1 ?_; refine Zs35 ?_; refine Zs20 ?_; refine Zs20 ?_; refine Zs2 ?_; refine zd ?_; refine zf ?_; refine ze ?_; refine zb (id := 4) ?_; refine Zs1 ?_; refine Zs16 ?_; refine zd ?_; refine zf ?_; refine zm rfl ?_; refine zt ?_; refine zf ?_; refine ze ?_
    refine V_nilR 0 tyI 5 rfl ?_
    refine zb (id := 6) ?_; refine qh (ok_moveO (.inl rfl) rfl rfl rfl rfl) ?_; refine qh (ok_moveO (.inr rfl) rfl rfl rfl rfl) ?_; refine zd ?_; refine zf ?_
    exact V_retO rfl (fun _ _ h => h) Since.refl rfl
set_option maxHeartbeats 2000000 in
theorem concatI_ret {avs : List Value} {Xs : List (List Value × Nat)} {B : Heap} (hX : Lsts tyI 5 B avs Xs) (hk : avs.length ≤ 1000) (hn : nXs Xs ≤ 50000) {v : Value} {w : World} (hB : B.Le (hp w)) (hv : SlB avs 47 avs.length v B) :
    Ret Try.prog 72 [v] w B (SlV tyI 5 (cXs Xs) (nXs Xs) false) := by
  obtain ⟨k, hkk⟩ : ∃ k, k = avs.length := ⟨_, rfl⟩
  rw [← hkk] at hk hv
  obtain ⟨sz, hsz⟩ : ∃ sz : Nat → Nat, sz = fun i => nXs (Xs.take i) := ⟨_, rfl⟩
  obtain ⟨ac, hac⟩ : ∃ ac : Nat → List Value, ac = fun i => cXs (Xs.take i) := ⟨_, rfl⟩
  have step : ∀ i, i < k → ∃ x p c f l m, avs[i * 1]? = some x ∧ x = .slice p m c ∧ SlV tyI 5 l m f x B ∧ sz (i + 1) = sz i + m ∧ ac (i + 1) = ac i ++ l ∧ sz (i + 1) ≤ 50000 ∧ l.all plainV = true ∧ l.length = m * 5 := fun i hi => by
    subst hkk hsz hac
    obtain ⟨x, p, c, f, l, m, h1, h2, h3, h4, h5⟩ := hX.at hi
    refine ⟨x, p, c, f, l, m, by rw [Nat.mul_one]; exact h1, h2, h3, nXs_take h4, cXs_take h4, Nat.le_trans (nXs_le _ _) hn, h5, h3.1⟩
  have h0 : sz 0 = 0 := by subst hsz; rfl
  have a0 : ac 0 = [] := by subst hac; rfl
  have a2 : ac k = cXs Xs := by subst hac; dsimp only; rw [List.take_of_length_le (by rw [hkk, hX.1]; omega)]
  have s2 : sz k = nXs Xs := by subst hsz; dsimp only; rw [List.take_of_length_le (by rw [hkk, hX.1]; omega)]
  have hal : ∀ i, (ac i).length = sz i * 5 ∧ sz i ≤ 50000 := fun i => by
    subst hsz hac
    exact ⟨hX.len i, Nat.le_trans (nXs_le _ _) hn⟩
  rw [← a2, ← s2]
  have s3 : sz k ≤ 100000 := by have := (hal k).2; omega
  clear hsz hac hX hn a2 s2 hkk
  refine ya Try.func72 rfl Try.ntmps72 (Nat.le_of_ble_eq_true rfl) hB ?_
  refine V_seen 0 (SlB avs 47 k) rfl SlB.mono hv ?_
  refine ze ?_; refine zb (id := 0) ?_; refine Zs2 ?_; refine zd ?_; refine zf ?_; refine ze ?_; refine zb (id := 1) ?_; refine Zs2 ?_; refine zd ?_; refine zf ?_; refine ze ?_; refine ze ?_; refine zb (id := 2) ?_; refine Zs37 ?_; refine Zs81 ?_; refine Zs1 ?_; refine zd ?_; refine zf ?_; refine zy ?_
  refine V_loop (fun i : Nat => [(0, .sat (SlB avs 47 k)), (3, .is (.int .i64 (sz i))), (9, .sat (SlB avs 47 k)), (10, .is (.int .i64 k)), (11, .is (.int .i64 i))]) (fun i => i ≤ k) (fun i => k - i) 0 (Nat.zero_le _) ⟨rfl, by rw [h0]; rfl, rfl, rfl, rfl, trivial⟩ ?_
  rintro i hi
  by_cases hlt : i < k
  · obtain ⟨x, p, c, f, l, m, hx, hxe, hk, hs, _, hb5, _, _⟩ := step i hlt
    subst hxe
    have had : IntKind.i64.wrap ((sz i : Int) + (m : Int)) = (sz (i + 1) : Int) := wrap_i64 (by omega) (by omega) |>.trans (by omega)
    refine ze ?_; refine zb (id := 3) ?_; refine Zs11 ?_; refine zd ?_; refine zf ?_; refine ze ?_; refine zw rfl ?_; refine zt ?_; refine zf ?_; refine ze ?_; refine zy ?_; refine ze ?_; refine zb (id := 4) ?_; refine z7 (ok_indexSl L _ rfl rfl rfl rfl rfl rfl rfl (by omega)) rfl ?_; refine Zs65 ?_; refine Zs2 ?_; refine zd ?_; refine zf ?_; refine ze ?_; refine zb (id := 5) ?_; refine Zs1 ?_; refine Zs1 ?_; refine Zs35 ?_; refine Zs18 ?_; refine Zs2 ?_; refine zd ?_; refine zf ?_; refine ze ?_; refine zb (id := 6) ?_; refine Zs1 ?_; refine Zs8 ?_; refine zd ?_; refine zf ?_; refine zm rfl ?_; refine zt ?_; refine qm ?_; refine zf ?_; refine zb (id := 8) ?_; refine Zs13 ?_; refine Zs1 ?_; refine zd ?_
    exact y1 (x := i) (i + 1) hlt (by omega) ⟨rfl, rfl, rfl, rfl, rfl, trivial⟩
  · obtain rfl : i = k := by omega
    refine ze ?_; refine zb (id := 3) ?_; refine Zs8 ?_; refine zd ?_; refine zf ?_; refine ze ?_; refine zm rfl ?_; refine y7 ?_; refine qg ?_; refine qg ?_; refine y6 ?_; refine zf ?_; refine ze ?_; refine zb (id := 9) ?_; refine Zs1 ?_; refine z7 (ok_callO L rfl rfl (zg rfl) rfl rfl rfl (fun u H hH _ _ => growI_ret s3 hH)) rfl ?_; refine qh (ok_moveO (.inr rfl) rfl rfl rfl rfl) ?_; refine zd ?_; refine zf ?_; refine ze ?_; refine ze ?_; refine zb (id := 10) ?_; refine Zs37 ?_; refine Zs81 ?_; refine Zs1 ?_; refine zd ?_; refine zf ?_; refine zy ?_
    refine V_loop (fun j : Nat => [(6, .own (SlR tyI 5 (sz j) (ac j))), (25, .sat (SlB avs 47 i)), (26, .is (.int .i64 i)), (27, .is (.int .i64 j))]) (fun j => j ≤ i) (fun j => i - j) 0 (Nat.zero_le _) ⟨by rw [a0, h0]; rfl, rfl, rfl, rfl, trivial⟩ ?_
    rintro j hj
    obtain ⟨hlj, hlj2⟩ := hal j
    by_cases hjl : j < i
    · obtain ⟨x, p, c, f, l, m, hx, _, hk, hs', ha', hb5, hpl, hlen⟩ := step j hjl
      refine ze ?_; refine zb (id := 11) ?_; refine Zs11 ?_; refine zd ?_; refine zf ?_; refine ze ?_; refine zw rfl ?_; refine zt ?_; refine zf ?_; refine ze ?_; refine zy ?_; refine ze ?_; refine zb (id := 12) ?_; refine z7 (ok_indexSl L _ rfl rfl rfl rfl rfl rfl rfl (by omega)) rfl ?_; refine Zs65 ?_; refine Zs2 ?_; refine zd ?_; refine zf ?_
      refine V_seen 8 (SlV tyI 5 l m f) rfl SlV.mono hk ?_
      refine zb (id := 13) ?_; refine qh (ok_moveO (.inl rfl) rfl rfl rfl rfl) ?_; refine Zs37 ?_; refine qh (ok_append L rfl rfl rfl (apd_V rfl) rfl el33 (by assumption) (by assumption) (by omega) (by omega)) ?_; refine qh (ok_moveO (.inr rfl) rfl rfl rfl rfl) ?_; refine zd ?_; refine qm ?_; refine zf ?_; refine zb (id := 14) ?_; refine Zs13 ?_; refine Zs1 ?_; refine zd ?_
      exact y1 (x := j) (j + 1) hjl (by omega) ⟨by rw [ha', hs']; rfl, rfl, rfl, rfl, trivial⟩
    · obtain rfl : j = i := by omega
      refine V_pubR 6 rfl ?_
      refine ze ?_; refine zb (id := 11) ?_; refine Zs8 ?_; refine zd ?_; refine zf ?_; refine ze ?_; refine zm rfl ?_; refine y7 ?_; refine qg ?_; refine qg ?_; refine y6 ?_; refine zf ?_; refine ze ?_; refine zb (id := 15) ?_; refine Zs37 ?_; refine Zs60 ?_; refine zd ?_; refine zf ?_
      refine qn L (rs := [.tmp 2]) rfl (fun _ _ h => h) Since.refl fun u H hH hle => ?_
      exact fun v hv => hv
theorem ownI_ret {avs : List Value} {Xs : List (List Value × Nat)} {B : Heap} (hX : Lsts tyI 5 B avs Xs) (hk : avs.length ≤ 1000) (hn : nXs Xs ≤ 50000) {v : Value} {w : World} (hB : B.Le (hp w)) (hv : SlB avs 47 avs.length v B) :
    RetO Try.prog 45 [v] w B (SlE tyI 5 (nXs Xs) (cXs Xs)) := by
  have hpl := hX.plain
  have hlen : (cXs Xs).length = nXs Xs * 5 := by have := hX.len Xs.length; rwa [List.take_length] at this
  have hc : ∀ {u : World} {H : Heap}, H.Le (hp u) → B.Le H → Ret Try.prog 72 [v] u H (SlV tyI 5 (cXs Xs) (nXs Xs) false) := fun hH hle => concatI_ret (hX.le hle) hk hn hH (SlB.mono _ _ _ hv hle)
  generalize cXs Xs = cs at *
  generalize nXs Xs = m at *
  clear hX
  refine V_enterO Try.func45 rfl Try.ntmps45 (Nat.le_of_ble_eq_true rfl) hB ?_
  by_cases h0 : m = 0
  · subst h0
    obtain rfl : cs = [] := List.eq_nil_of_length_eq_zero (by omega)
    refine ze ?_; refine zb (id := 0) ?_; refine Zs2 ?_; refine zd ?_; refine zf ?_; refine ze ?_; refine zb (id := 1) ?_; refine Zs1 ?_; refine z7 (ok_call L rfl rfl (zg rfl) rfl rfl rfl SlV.mono (fun u H hH hle _ => hc hH hle)) rfl ?_; refine Zs60 ?_; refine zd ?_; refine zf ?_; refine ze ?_; refine ze ?_; refine zb (id := 2) ?_; refine Zs37 ?_; refine Zs31 ?_; refine Zs15 ?_; refine zd ?_; refine zf ?_; refine zw rfl ?_; refine ze ?_; refine zb (id := 3) ?_; refine Zs2 ?_; refine zd ?_; refine zf ?_
    refine V_nilE 2 tyI 5 rfl ?_
    exact V_retO rfl (fun _ _ h => h) Since.refl rfl
  · refine ze ?_; refine zb (id := 0) ?_; refine Zs2 ?_; refine zd ?_; refine zf ?_; refine ze ?_; refine zb (id := 1) ?_; refine Zs1 ?_; refine z7 (ok_call L rfl rfl (zg rfl) rfl rfl rfl SlV.mono (fun u H hH hle _ => hc hH hle)) rfl ?_; refine Zs60 ?_; refine zd ?_; refine zf ?_; refine ze ?_; refine ze ?_; refine zb (id := 2) ?_; refine Zs37 ?_; refine Zs31 ?_; refine Zs9 ?_; refine zd ?_; refine zf ?_; refine zm rfl ?_; refine zt ?_; refine zf ?_; refine ze ?_; refine zb (id := 4) ?_; refine Zs37 ?_; refine Zs31 ?_; refine z7 (ok_makeN L m rfl rfl rfl el33 rfl rfl rfl rfl (by omega) (by unfold maxLen; omega)) rfl ?_; refine qh (ok_moveO (.inr rfl) rfl rfl rfl rfl) ?_; refine zd ?_; refine zf ?_; refine ze ?_
    refine V_holdE 4 901 (by omega) rfl fun b hzl => ?_
    refine zb (id := 5) ?_; refine Zs1 ?_; refine Zs37 ?_; refine qh (ok_copyH L (q := 901) (by omega) rfl rfl rfl rfl (apd_V rfl) rfl el33 hzl hlen hpl) ?_; refine zd ?_; refine zf ?_; refine ze ?_; refine zb (id := 6) ?_; refine Zs1 ?_; refine Zs2 ?_; refine zd ?_; refine zf ?_
    refine V_relE 2 901 rfl rfl hlen (by unfold maxLen; omega) ?_
    exact V_retO rfl (fun _ _ h => h) Since.refl rfl
end Go.V.L39
namespace Go.V.L39
open Go.Proofs Go.RowKit Go.V
abbrev tyF : TypeId := 49
attribute [local irreducible] V N X VO Par StepOK Has Ret RetL RetO RetT RetG Src
set_option maxRecDepth 20000 in
theorem growF_ret {n : Nat} (hn : n ≤ 100000) {w : World} {B : Heap} (hB : B.Le (hp w)) : RetO Try.prog 88 [.slice none 0 0, .int .i64 n] w B (SlR tyF 14 0 []) := by
  refine V_enterO Try.func88 rfl Try.ntmps88 (Nat.le_of_ble_eq_true rfl) hB ?_
  have hs : IntKind.i64.wrap ((n : Int) - 0) = (n : Int) := wrap_i64 (by omega) (by omega) |>.trans (by omega)
  by_cases h0 : 0 < n
  · refine ze ?_; refine zb (id := 0) ?_; refine Zs2 ?_; refine zd ?_; refine zf ?_; refine ze ?_; refine ze ?_; refine zb (id := 1) ?_; refine Zs1 ?_; refine Zs8 ?_; refine zd ?_; refine zf ?_; refine zm rfl ?_; refine zt ?_; refine zf ?_; refine ze ?_; refine ze ?_; refine zb (id := 3) ?_; refine Zs1 ?_; refine Zs1 ?_; refine Zs69 ?_; refine Zs1 ?_; refine Zs35 ?_; refine Zs68 ?_; refine Zs20 ?_; refine Zs2 ?_; refine zd ?_; refine zf ?_; refine ze ?_; refine zb (id := 4) ?_; refine Zs1 ?_; refine Zs23 ?_; refine zd ?_; refine zf ?_; refine zw rfl ?_; refine zb (id := 5) ?_; refine Zs1 ?_; refine Zs1 ?_; refine Zs69 ?_; refine z7 (ok_sliceN L 0 rfl rfl rfl rfl rfl rfl rfl) rfl ?_; refine Zs1 ?_; refine z7 (ok_appendM L rfl rfl rfl rfl rfl Try.underlying3 el49 h0 (by omega) (by omega)) rfl ?_; refine Zs1 ?_; refine Zs35 ?_; refine qh (ok_slice0 L 0 rfl h0 rfl rfl rfl rfl rfl rfl) ?_; refine qh (ok_moveO (.inr rfl) rfl rfl rfl rfl) ?_; refine zd ?_; refine zf ?_; refine ze ?_; refine zb (id := 6) ?_; refine qh (ok_moveO (.inl rfl) rfl rfl rfl rfl) ?_; refine qh (ok_moveO (.inr rfl) rfl rfl rfl rfl) ?_; refine zd ?_; refine zf ?_
    exact V_retO rfl (fun _ _ h => h) Since.refl rfl
  · obtain rfl : n = 0 := by omega
    refine ze ?_; refine zb (id := 0) ?_; refine Zs2 ?_; refine zd ?_; refine zf ?_; refine ze ?_; refine ze ?_; refine zb (id := 1) ?_; refine Zs1 ?_; refine Zs8 ?_; refine zd ?_; refine zf ?_; refine zm rfl ?_; refine zt ?_; refine zf ?_; refine ze ?_; refine ze ?_; refine zb (id := 3) ?_; refine Zs1 ?_; refine Zs1 ?_; refine Zs69 ?_; refine Zs1 ?_; refine Zs35 ?_; refine Zs20 ?_; refine Zs20 ?_; refine Zs2 ?_; refine zd ?_; refine zf ?_; refine ze ?_; refine zb (id := 4) ?_; refine Zs1 ?_; refine Zs16 ?_; refine zd ?_; refine zf ?_; refine zm rfl ?_; refine zt ?_; refine zf ?_; refine ze ?_
    refine V_nilR 0 tyF 14 rfl ?_
    refine zb (id := 6) ?_; refine qh (ok_moveO (.inl rfl) rfl rfl rfl rfl) ?_; refine qh (ok_moveO (.inr rfl) rfl rfl rfl rfl) ?_; refine zd ?_; refine zf ?_
    exact V_retO rfl (fun _ _ h => h) Since.refl rfl
set_option maxHeartbeats 2000000 in
theorem concatF_ret {avs : List Value} {Xs : List (List Value × Nat)} {B : Heap} (hX : Lsts tyF 14 B avs Xs) (hk : avs.length ≤ 1000) (hn : nXs Xs ≤ 50000) {v : Value} {w : World} (hB : B.Le (hp w)) (hv : SlB avs 22 avs.length v B) :
    Ret Try.prog 77 [v] w B (SlV tyF 14 (cXs Xs) (nXs Xs) false) := by
  obtain ⟨k, hkk⟩ : ∃ k, k = avs.length := ⟨_, rfl⟩
  rw [← hkk] at hk hv
  obtain ⟨sz, hsz⟩ : ∃ sz : Nat → Nat, sz = fun i => nXs (Xs.take i) := ⟨_, rfl⟩
  obtain ⟨ac, hac⟩ : ∃ ac : Nat → List Value, ac = fun i => cXs (Xs.take i) := ⟨_, rfl⟩
  have step : ∀ i, i < k → ∃ x p c f l m, avs[i * 1]? = some x ∧ x = .slice p m c ∧ SlV tyF 14 l m f x B ∧ sz (i + 1) = sz i + m ∧ ac (i + 1) = ac i ++ l ∧ sz (i + 1) ≤ 50000 ∧ l.all plainV = true ∧ l.length = m * 14 := fun i hi => by
    subst hkk hsz hac
    obtain ⟨x, p, c, f, l, m, h1, h2, h3, h4, h5⟩ := hX.at hi
    refine ⟨x, p, c, f, l, m, by rw [Nat.mul_one]; exact h1, h2, h3, nXs_take h4, cXs_take h4, Nat.le_trans (nXs_le _ _) hn, h5, h3.1⟩
  have h0 : sz 0 = 0 := by subst hsz; rfl
  have a0 : ac 0 = [] := by subst hac; rfl
  have a2 : ac k = cXs Xs := by subst hac; dsimp only; rw [List.take_of_length_le (by rw [hkk, hX.1]; omega)]
  have s2 : sz k = nXs Xs := by subst hsz; dsimp only; rw [List.take_of_length_le (by rw [hkk, hX.1]; omega)]
  have hal : ∀ i, (ac i).length = sz i * 14 ∧ sz i ≤ 50000 := fun i => by
    subst hsz hac
    exact ⟨hX.len i, Nat.le_trans (nXs_le _ _) hn⟩
  rw [← a2, ← s2]
  have s3 : sz k ≤ 100000 := by have := (hal k).2; omega
  clear hsz hac hX hn a2 s2 hkk
  refine ya Try.func77 rfl Try.ntmps77 (Nat.le_of_ble_eq_true rfl) hB ?_
  refine V_seen 0 (SlB avs 22 k) rfl SlB.mono hv ?_
  refine ze ?_; refine zb (id := 0) ?_; refine Zs2 ?_; refine zd ?_; refine zf ?_; refine ze ?_; refine zb (id := 1) ?_; refine Zs2 ?_; refine zd ?_; refine zf ?_; refine ze ?_; refine ze ?_; refine zb (id := 2) ?_; refine Zs37 ?_; refine Zs81 ?_; refine Zs1 ?_; refine zd ?_; refine zf ?_; refine zy ?_
  refine V_loop (fun i : Nat => [(0, .sat (SlB avs 22 k)), (3, .is (.int .i64 (sz i))), (9, .sat (SlB avs 22 k)), (10, .is (.int .i64 k)), (11, .is (.int .i64 i))]) (fun i => i ≤ k) (fun i => k - i) 0 (Nat.zero_le _) ⟨rfl, by rw [h0]; rfl, rfl, rfl, rfl, trivial⟩ ?_
  rintro i hi
  by_cases hlt : i < k
  · obtain ⟨x, p, c, f, l, m, hx, hxe, hk, hs, _, hb5, _, _⟩ := step i hlt
    subst hxe
    have had : IntKind.i64.wrap ((sz i : Int) + (m : Int)) = (sz (i + 1) : Int) := wrap_i64 (by omega) (by omega) |>.trans (by omega)
    refine ze ?_; refine zb (id := 3) ?_; refine Zs11 ?_; refine zd ?_; refine zf ?_; refine ze ?_; refine zw rfl ?_; refine zt ?_; refine zf ?_; refine ze ?_; refine zy ?_; refine ze ?_; refine zb (id := 4) ?_; refine z7 (ok_indexSl L _ rfl rfl rfl rfl rfl rfl rfl (by omega)) rfl ?_; refine Zs65 ?_; refine Zs2 ?_; refine zd ?_; refine zf ?_; refine ze ?_; refine zb (id := 5) ?_; refine Zs1 ?_; refine Zs1 ?_; refine Zs35 ?_; refine Zs18 ?_; refine Zs2 ?_; refine zd ?_; refine zf ?_; refine ze ?_; refine zb (id := 6) ?_; refine Zs1 ?_; refine Zs8 ?_; refine zd ?_; refine zf ?_; refine zm rfl ?_; refine zt ?_; refine qm ?_; refine zf ?_; refine zb (id := 8) ?_; refine Zs13 ?_; refine Zs1 ?_; refine zd ?_
    exact y1 (x := i) (i + 1) hlt (by omega) ⟨rfl, rfl, rfl, rfl, rfl, trivial⟩
  · obtain rfl : i = k := by omega
    refine ze ?_; refine zb (id := 3) ?_; refine Zs8 ?_; refine zd ?_; refine zf ?_; refine ze ?_; refine zm rfl ?_; refine y7 ?_; refine qg ?_; refine qg ?_; refine y6 ?_; refine zf ?_; refine ze ?_; refine zb (id := 9) ?_; refine Zs1 ?_; refine z7 (ok_callO L rfl rfl (zg rfl) rfl rfl rfl (fun u H hH _ _ => growF_ret s3 hH)) rfl ?_; refine qh (ok_moveO (.inr rfl) rfl rfl rfl rfl) ?_; refine zd ?_; refine zf ?_; refine ze ?_; refine ze ?_; refine zb (id := 10) ?_; refine Zs37 ?_; refine Zs81 ?_; refine Zs1 ?_; refine zd ?_; refine zf ?_; refine zy ?_
    refine V_loop (fun j : Nat => [(6, .own (SlR tyF 14 (sz j) (ac j))), (25, .sat (SlB avs 22 i)), (26, .is (.int .i64 i)), (27, .is (.int .i64 j))]) (fun j => j ≤ i) (fun j => i - j) 0 (Nat.zero_le _) ⟨by rw [a0, h0]; rfl, rfl, rfl, rfl, trivial⟩ ?_
    rintro j hj
    obtain ⟨hlj, hlj2⟩ := hal j
    by_cases hjl : j < i
    · obtain ⟨x, p, c, f, l, m, hx, _, hk, hs', ha', hb5, hpl, hlen⟩ := step j hjl
      refine ze ?_; refine zb (id := 11) ?_; refine Zs11 ?_; refine zd ?_; refine zf ?_; refine ze ?_; refine zw rfl ?_; refine zt ?_; refine zf ?_; refine ze ?_; refine zy ?_; refine ze ?_; refine zb (id := 12) ?_; refine z7 (ok_indexSl L _ rfl rfl rfl rfl rfl rfl rfl (by omega)) rfl ?_; refine Zs65 ?_; refine Zs2 ?_; refine zd ?_; refine zf ?_
      refine V_seen 8 (SlV tyF 14 l m f) rfl SlV.mono hk ?_
      refine zb (id := 13) ?_; refine qh (ok_moveO (.inl rfl) rfl rfl rfl rfl) ?_; refine Zs37 ?_; refine qh (ok_append L rfl rfl rfl (apd_V rfl) rfl el49 (by assumption) (by assumption) (by omega) (by omega)) ?_; refine qh (ok_moveO (.inr rfl) rfl rfl rfl rfl) ?_; refine zd ?_; refine qm ?_; refine zf ?_; refine zb (id := 14) ?_; refine Zs13 ?_; refine Zs1 ?_; refine zd ?_
      exact y1 (x := j) (j + 1) hjl (by omega) ⟨by rw [ha', hs']; rfl, rfl, rfl, rfl, trivial⟩
    · obtain rfl : j = i := by omega
      refine V_pubR 6 rfl ?_
      refine ze ?_; refine zb (id := 11) ?_; refine Zs8 ?_; refine zd ?_; refine zf ?_; refine ze ?_; refine zm rfl ?_; refine y7 ?_; refine qg ?_; refine qg ?_; refine y6 ?_; refine zf ?_; refine ze ?_; refine zb (id := 15) ?_; refine Zs37 ?_; refine Zs60 ?_; refine zd ?_; refine zf ?_
      refine qn L (rs := [.tmp 2]) rfl (fun _ _ h => h) Since.refl fun u H hH hle => ?_
      exact fun v hv => hv
theorem ownF_ret {avs : List Value} {Xs : List (List Value × Nat)} {B : Heap} (hX : Lsts tyF 14 B avs Xs) (hk : avs.length ≤ 1000) (hn : nXs Xs ≤ 50000) {v : Value} {w : World} (hB : B.Le (hp w)) (hv : SlB avs 22 avs.length v B) :
    RetO Try.prog 52 [v] w B (SlE tyF 14 (nXs Xs) (cXs Xs)) := by
  have hpl := hX.plain
  have hlen : (cXs Xs).length = nXs Xs * 14 := by have := hX.len Xs.length; rwa [List.take_length] at this
  have hc : ∀ {u : World} {H : Heap}, H.Le (hp u) → B.Le H → Ret Try.prog 77 [v] u H (SlV tyF 14 (cXs Xs) (nXs Xs) false) := fun hH hle => concatF_ret (hX.le hle) hk hn hH (SlB.mono _ _ _ hv hle)
  generalize cXs Xs = cs at *
  generalize nXs Xs = m at *
  clear hX
  refine V_enterO Try.func52 rfl Try.ntmps52 (Nat.le_of_ble_eq_true rfl) hB ?_
  by_cases h0 : m = 0
  · subst h0
    obtain rfl : cs = [] := List.eq_nil_of_length_eq_zero (by omega)
    refine ze ?_; refine zb (id := 0) ?_; refine Zs2 ?_; refine zd ?_; refine zf ?_; refine ze ?_; refine zb (id := 1) ?_; refine Zs1 ?_; refine z7 (ok_call L rfl rfl (zg rfl) rfl rfl rfl SlV.mono (fun u H hH hle _ => hc hH hle)) rfl ?_; refine Zs60 ?_; refine zd ?_; refine zf ?_; refine ze ?_; refine ze ?_; refine zb (id := 2) ?_; refine Zs37 ?_; refine Zs31 ?_; refine Zs15 ?_; refine zd ?_; refine zf ?_; refine zw rfl ?_; refine ze ?_; refine zb (id := 3) ?_; refine Zs2 ?_; refine zd ?_; refine zf ?_
    refine V_nilE 2 tyF 14 rfl ?_
    exact V_retO rfl (fun _ _ h => h) Since.refl rfl
  · refine ze ?_; refine zb (id := 0) ?_; refine Zs2 ?_; refine zd ?_; refine zf ?_; refine ze ?_; refine zb (id := 1) ?_; refine Zs1 ?_; refine z7 (ok_call L rfl rfl (zg rfl) rfl rfl rfl SlV.mono (fun u H hH hle _ => hc hH hle)) rfl ?_; refine Zs60 ?_; refine zd ?_; refine zf ?_; refine ze ?_; refine ze ?_; refine zb (id := 2) ?_; refine Zs37 ?_; refine Zs31 ?_; refine Zs9 ?_; refine zd ?_; refine zf ?_; refine zm rfl ?_; refine zt ?_; refine zf ?_; refine ze ?_; refine zb (id := 4) ?_; refine Zs37 ?_; refine Zs31 ?_; refine z7 (ok_makeN L m rfl rfl rfl el49 rfl rfl rfl rfl (by omega) (by unfold maxLen; omega)) rfl ?_; refine qh (ok_moveO (.inr rfl) rfl rfl rfl rfl) ?_; refine zd ?_; refine zf ?_; refine ze ?_
    refine V_holdE 4 901 (by omega) rfl fun b hzl => ?_
    refine zb (id := 5) ?_; refine Zs1 ?_; refine Zs37 ?_; refine qh (ok_copyH L (q := 901) (by omega) rfl rfl rfl rfl (apd_V rfl) rfl el49 hzl hlen hpl) ?_; refine zd ?_; refine zf ?_; refine ze ?_; refine zb (id := 6) ?_; refine Zs1 ?_; refine Zs2 ?_; refine zd ?_; refine zf ?_
    refine V_relE 2 901 rfl rfl hlen (by unfold maxLen; omega) ?_
    exact V_retO rfl (fun _ _ h => h) Since.refl rfl
theorem own0F_ret {avs : List Value} {Xs : List (List Value × Nat)} {B : Heap} (hX : Lsts tyF 14 B avs Xs) (hk : avs.length ≤ 1000) (hn : nXs Xs = 0) {v : Value} {w : World} (hB : B.Le (hp w)) (hv : SlB avs 22 avs.length v B) :
    Ret Try.prog 52 [v] w B (fun x _ => x = .slice none 0 0) := by
  have hc : ∀ {u : World} {H : Heap}, H.Le (hp u) → B.Le H → Ret Try.prog 77 [v] u H (SlV tyF 14 (cXs Xs) (nXs Xs) false) := fun hH hle => concatF_ret (hX.le hle) hk (by omega) hH (SlB.mono _ _ _ hv hle)
  rw [hn] at hc
  refine ya Try.func52 rfl Try.ntmps52 (Nat.le_of_ble_eq_true rfl) hB ?_
  refine ze ?_; refine zb (id := 0) ?_; refine Zs2 ?_; refine zd ?_; refine zf ?_; refine ze ?_; refine zb (id := 1) ?_; refine Zs1 ?_; refine z7 (ok_call L rfl rfl (zg rfl) rfl rfl rfl SlV.mono (fun u H hH hle _ => hc hH hle)) rfl ?_; refine Zs60 ?_; refine zd ?_; refine zf ?_; refine ze ?_; refine ze ?_; refine zb (id := 2) ?_; refine Zs37 ?_; refine Zs31 ?_; refine Zs15 ?_; refine zd ?_; refine zf ?_; refine zw rfl ?_; refine ze ?_; refine zb (id := 3) ?_; refine Zs2 ?_; refine zd ?_; refine zf ?_
  refine qn L (rs := [.tmp 2]) rfl (fun _ _ h => h) Since.refl fun u H hH hle => ?_
  rfl
end Go.V.L39
namespace Go.V.L39
open Go.Proofs Go.RowKit Go.V
abbrev tyT : TypeId := 24
abbrev tyQ : TypeId := 30
abbrev IsV (l : List It) (fu : Bool) : Value → Heap → Prop := SlV tyI 5 (l.flatMap itc) l.length fu
theorem it_at {l : List It} {i : Nat} {x : It} (h : l[i]? = some x) : ((l.flatMap itc).drop (i * 5)).take 5 = [.int .i64 x.tk, .int .i64 x.im, .int .i64 x.cl, .int .i64 x.cs, .int .u64 x.rv] := flatMap_at itc_len l i x h
theorem fl_at {zs : List (Fl × Value)} {i : Nat} {z : Fl × Value} (h : zs[i]? = some z) : ((zs.flatMap flc).drop (i * 14)).take 14 = [.int .i64 z.1.id, .int .u64 z.1.rv, .int .u8 z.1.q.kd, .string z.1.q.g.1.1, .string z.1.q.g.1.2, .string z.1.q.g.2, .string z.1.q.u.1, .string z.1.q.u.2, .int .i64 z.1.cl, .int .i64 z.1.cs, .int .i64 z.1.si, .int .i64 z.1.ve, .int .i64 z.1.sp, z.2] := flatMap_at flc_len zs i z h
theorem itc_plain (l : List It) : (l.flatMap itc).all plainV = true := by
  rw [List.all_eq_true]
  intro v hv
  obtain ⟨x, _, hx⟩ := List.mem_flatMap.1 hv
  simp only [itc, List.mem_cons, List.mem_nil_iff, or_false] at hx
  rcases hx with rfl | rfl | rfl | rfl | rfl <;> rfl
structure FsB (zs : List (Fl × Value)) (fu fi : Bool) (s : Value) (B : Heap) : Prop where
  sl : SlV tyF 14 (zs.flatMap flc) zs.length fu s B
  is : ∀ (i : Nat) z, zs[i]? = some z → IsV z.1.is fi z.2 B
  ln : zs.length ≤ 100000
  li : ∀ (i : Nat) z, zs[i]? = some z → z.1.is.length ≤ 4611686018427387904
theorem FsB.le {zs : List (Fl × Value)} {fu fi : Bool} {s : Value} {B B' : Heap} (h : FsB zs fu fi s B) (hle : B.Le B') : FsB zs fu fi s B' := ⟨h.sl.le hle, fun i z hz => (h.is i z hz).le hle, h.ln, h.li⟩
theorem FsB.shape {zs : List (Fl × Value)} {fu fi : Bool} {s : Value} {B : Heap} (h : FsB zs fu fi s B) : ∃ p c, s = .slice p zs.length c := slv_sh h.sl
theorem FsB.plain {zs : List (Fl × Value)} {fu fi : Bool} {s : Value} {B : Heap} (h : FsB zs fu fi s B) : (zs.flatMap flc).all plainV = true := by
  rw [List.all_eq_true]
  intro v hv
  obtain ⟨z, hz, hx⟩ := List.mem_flatMap.1 hv
  obtain ⟨i, hi⟩ := List.getElem?_of_mem hz
  obtain ⟨p, c, h2⟩ := slv_sh (h.is i z hi)
  simp only [flc, List.mem_cons, List.mem_nil_iff, or_false, h2] at hx
  rcases hx with rfl | rfl | rfl | rfl | rfl | rfl | rfl | rfl | rfl | rfl | rfl | rfl | rfl | rfl <;> rfl
theorem fls_get {zs : List (Fl × Value)} {l : List Fl} (h : zs.map Prod.fst = l) {i : Nat} {z : Fl × Value} (hz : zs[i]? = some z) : l[i]? = some z.1 := by
  subst h; rw [List.getElem?_map, hz]; rfl
theorem fls_len {zs : List (Fl × Value)} {l : List Fl} (h : zs.map Prod.fst = l) : zs.length = l.length := by subst h; simp
theorem FsB.at {zs : List (Fl × Value)} {fu fi : Bool} {s : Value} {B : Heap} {l : List Fl} (h : FsB zs fu fi s B) (hz : zs.map Prod.fst = l) {i : Nat} (hi : i < zs.length) :
    ∃ f p c, zs[i]? = some (f, .slice p f.is.length c) ∧ l[i]? = some f ∧ IsV f.is fi (.slice p f.is.length c) B ∧ f.is.length ≤ 4611686018427387904 ∧
      ((zs.flatMap flc).drop (i * 14)).take 14 = [.int .i64 f.id, .int .u64 f.rv, .int .u8 f.q.kd, .string f.q.g.1.1, .string f.q.g.1.2, .string f.q.g.2, .string f.q.u.1, .string f.q.u.2, .int .i64 f.cl, .int .i64 f.cs, .int .i64 f.si, .int .i64 f.ve, .int .i64 f.sp, .slice p f.is.length c] := by
  have hg : zs[i]? = some zs[i] := List.getElem?_eq_getElem hi
  obtain ⟨z, hzz⟩ : ∃ z, z = zs[i] := ⟨_, rfl⟩
  rw [← hzz] at hg
  obtain ⟨f, sv⟩ := z
  have h1 := h.is i _ hg
  have h2 := h.li i _ hg
  dsimp only at h1 h2
  obtain ⟨p, c, rfl⟩ := slv_sh h1
  exact ⟨f, p, c, hg, fls_get hz hg, h1, h2, fl_at hg⟩
def quc (q : Qu) : List Value := [.int .u8 q.kd, .string q.g.1.1, .string q.g.1.2, .string q.g.2, .string q.u.1, .string q.u.2]
theorem eqQ (a b : Qu) : eqCs [1, 0, 0, 0, 0, 0] (quc a) (quc b) = some (decide (a = b)) := by
  simp only [eqCs, eqC, quc, if_true, Bool.and_true]
  congr 1
  rw [Bool.eq_iff_iff]
  simp only [Bool.and_eq_true, decide_eq_true_eq]
  constructor
  · rintro ⟨h1, h2, h3, h4, h5, h6⟩
    exact Qu.ext' h1 (Prod.ext (Prod.ext h2 h3) h4) (Prod.ext h5 h6)
  · rintro rfl; exact ⟨rfl, rfl, rfl, rfl, rfl, rfl⟩
theorem eqI (a b : It) : eqCs [1, 1, 1, 1, 1] (itc a) (itc b) = some (decide (a = b)) := by
  simp only [eqCs, eqC, itc, if_true, Bool.and_true]
  congr 1
  rw [Bool.eq_iff_iff]
  simp only [Bool.and_eq_true, decide_eq_true_eq]
  constructor
  · rintro ⟨h1, h2, h3, h4, h5⟩; exact It.ext' h1 h2 h3 h4 h5
  · rintro rfl; exact ⟨rfl, rfl, rfl, rfl, rfl⟩
theorem eqO (a b : Str2) : eqCs [0, 0] [.string a.1, .string a.2] [.string b.1, .string b.2] = some (decide (a = b)) := by
  simp only [eqCs, eqC, Bool.and_true]
  congr 1
  rw [Bool.eq_iff_iff]
  simp only [Bool.and_eq_true, decide_eq_true_eq]
  constructor
  · rintro ⟨h1, h2⟩; exact Prod.ext h1 h2
  · rintro rfl; exact ⟨rfl, rfl⟩
theorem eqQv {a b : Qu} {v : Bool} (h : decide (a = b) = v) : eqCs [1, 0, 0, 0, 0, 0] [.int .u8 a.kd, .string a.g.1.1, .string a.g.1.2, .string a.g.2, .string a.u.1, .string a.u.2] [.int .u8 b.kd, .string b.g.1.1, .string b.g.1.2, .string b.g.2, .string b.u.1, .string b.u.2] = some v := h ▸ eqQ a b
theorem eqIv {a b : It} {v : Bool} (h : decide (a = b) = v) : eqCs [1, 1, 1, 1, 1] [.int .i64 a.tk, .int .i64 a.im, .int .i64 a.cl, .int .i64 a.cs, .int .u64 a.rv] [.int .i64 b.tk, .int .i64 b.im, .int .i64 b.cl, .int .i64 b.cs, .int .u64 b.rv] = some v := h ▸ eqI a b
theorem idxh {α : Type} {p : α → Bool} {l : List α} {i : Nat} {x : α} (h : l[i]? = some x) (hx : p x = true) (hb : ∀ (j : Nat) y, j < i → l[j]? = some y → p y = false) : l.findIdx? p = some i := by
  rw [List.findIdx?_eq_some_iff_getElem]
  have hi : i < l.length := get_lt h
  rw [List.getElem?_eq_getElem hi] at h
  cases h
  exact ⟨hi, hx, fun j hj => by simp [hb j _ hj (List.getElem?_eq_getElem (by omega))]⟩
theorem idxn {α : Type} {p : α → Bool} {l : List α} (hb : ∀ (j : Nat) y, l[j]? = some y → p y = false) : l.findIdx? p = none := by
  rw [List.findIdx?_eq_none_iff]
  intro x hx
  obtain ⟨j, hj⟩ := List.getElem?_of_mem hx
  exact hb j x hj
def idxZ : Option Nat → Int
  | some i => i
  | none => -1
end Go.V.L39
namespace Go.Proofs
open Go.Shelf
def Try.lays215_ren : Go.Shelf.Ren := ⟨fun | 215 => 87 | n => n, fun | 3 => 3 | 4 => 4 | n => n, fun | n => n⟩
theorem Try.lays215 : Go.Proofs.Lays.n215 Try.prog Try.lays215_ren := {
  mixed := by kernel_rfl
  f215 := Try.func87.trans (congrArg some (by kernel_rfl))
  t3 := Try.underlying3
  a3 := Try.isAgg3
  z3 := Try.sizeOf3
  v3 := Try.zeroValue3
  t4 := Try.underlying4
  a4 := Try.isAgg4
  z4 := Try.sizeOf4
  v4 := Try.zeroValue4 }
open Go.RowKit in
theorem Try.cmp_isNaN_int (x : Int) (w : World) :
    Calls Try.prog 87 #[.int .i64 x] w fun e w' => e = .returned (.bool false) ∧ w' = w := Any.cmp_isNaN_int Try.lays215 x w
def Try.lays122_ren : Go.Shelf.Ren := ⟨fun | 122 => 76 | 215 => 87 | n => n, fun | 3 => 3 | 4 => 4 | n => n, fun | n => n⟩
theorem Try.lays122 : Go.Proofs.Lays.n122 Try.prog Try.lays122_ren := {
  mixed := by kernel_rfl
  f122 := Try.func76.trans (congrArg some (by kernel_rfl))
  f215 := Try.func87.trans (congrArg some (by kernel_rfl))
  t3 := Try.underlying3
  a3 := Try.isAgg3
  z3 := Try.sizeOf3
  v3 := Try.zeroValue3
  t4 := Try.underlying4
  a4 := Try.isAgg4
  z4 := Try.sizeOf4
  v4 := Try.zeroValue4 }
open Go.RowKit in
theorem Try.cmp_Compare_int (x y : Int) (w : World) :
    Calls Try.prog 76 #[.int .i64 x, .int .i64 y] w fun e w' => e = .returned (.int .i64 (Lib.compareInt x y)) ∧ w' = w := Any.cmp_Compare_int Try.lays122 x y w
def Try.lays129_ren : Go.Shelf.Ren := ⟨fun | 129 => 99 | n => n, fun | 53 => 31 | 3 => 3 | 4 => 4 | 46 => 148 | 5 => 5 | 9 => 9 | n => n, fun | n => n⟩
theorem Try.lays129 : Go.Proofs.Lays.n129 Try.prog Try.lays129_ren := {
  mixed := by kernel_rfl
  f129 := Try.func99.trans (congrArg some (by kernel_rfl))
  t3 := Try.underlying3
  a3 := Try.isAgg3
  z3 := Try.sizeOf3
  v3 := Try.zeroValue3
  t4 := Try.underlying4
  a4 := Try.isAgg4
  z4 := Try.sizeOf4
  v4 := Try.zeroValue4
  t5 := Try.underlying5
  a5 := Try.isAgg5
  z5 := Try.sizeOf5
  v5 := Try.zeroValue5
  t9 := Try.underlying9
  a9 := Try.isAgg9
  z9 := Try.sizeOf9
  v9 := Try.zeroValue9
  t46 := Try.underlying148
  a46 := Try.isAgg148
  z46 := Try.sizeOf148
  v46 := Try.zeroValue148
  t53 := Try.underlying31
  a53 := Try.isAgg31
  z53 := Try.sizeOf31
  v53 := Try.zeroValue31 }
theorem Try.bits_Len64 (x : Int) (w : World) (h0 : 0 ≤ x) (h1 : x ≤ 18446744073709551615) :
    Calls Try.prog 99 #[.int .u64 x] w fun e w' => e = .returned (.int .i64 (Lib.bitLen x.toNat)) ∧ w' = w := Any.bits_Len64 Try.lays129 x w h0 h1
end Go.Proofs
namespace Go.V
open Go.Proofs Go.RowKit
section
variable {P : Program} {F : Fr} {B : Heap} {n : Nat} {O : Boxes} {ops : Array Oper} {ex : Exs} {κ : Kap} {Q : Exit → Act → World → Prop} {o : Oper} {os : List Oper} {d : Nat} {k : Kn}
theorem _root_.Go.V.Zs4 (h : VO P F B n O ops (upd κ d k) os Q) (s : StepOK P F B n ops O κ o d k := by exact zj L (zl rfl) rfl rfl rfl rfl) (v : vd o = some d := by rfl) : VO P F B n O ops κ (o :: os) Q := z7 s v h
theorem _root_.Go.V.Zs5 (h : VO P F B n O ops (upd κ d k) os Q) (s : StepOK P F B n ops O κ o d k := by exact zi L rfl rfl rfl rfl) (v : vd o = some d := by rfl) : VO P F B n O ops κ (o :: os) Q := z7 s v h
theorem _root_.Go.V.Zs21 (h : VO P F B n O ops (upd κ d k) os Q) (s : StepOK P F B n ops O κ o d k := by exact y0 rfl rfl rfl rfl) (v : vd o = some d := by rfl) : VO P F B n O ops κ (o :: os) Q := z7 s v h
theorem _root_.Go.V.Zs25 (h : VO P F B n O ops (upd κ d k) os Q) (s : StepOK P F B n ops O κ o d k := by exact qs L rfl rfl rfl rfl rfl rfl rfl rfl rfl) (v : vd o = some d := by rfl) : VO P F B n O ops κ (o :: os) Q := z7 s v h
end
attribute [local irreducible] V N X VO Par StepOK Has Ret RetL Src
theorem all2_ret {a b : ByteArray} (ha : a.size ≤ 9223372036854775807) (hb : b.size ≤ 9223372036854775807) {w : World} {B : Heap} (hB : B.Le (hp w)) {t : Nat} {v : Value} (hv : SlB [.string a, .string b] t 2 v B) :
    Ret Try.prog 85 [v] w B (fun v _ => v = .int .i64 (allE [a, b])) := by
  exact all_gen [a, b] (by intro s hs; simp at hs; rcases hs with rfl | rfl <;> assumption) (by simp) hB (hv.toV rfl)
theorem all3_ret {a b c : ByteArray} (ha : a.size ≤ 9223372036854775807) (hb : b.size ≤ 9223372036854775807) (hc : c.size ≤ 9223372036854775807) {w : World} {B : Heap} (hB : B.Le (hp w)) {t : Nat} {v : Value} (hv : SlB [.string a, .string b, .string c] t 3 v B) :
    Ret Try.prog 85 [v] w B (fun v _ => v = .int .i64 (allE [a, b, c])) := by
  exact all_gen [a, b, c] (by intro s hs; simp at hs; rcases hs with rfl | rfl | rfl <;> assumption) (by simp) hB (hv.toV rfl)
theorem object_ret {a b : ByteArray} (ha : a.size ≤ 9223372036854775807) (hb : b.size ≤ 9223372036854775807) {w : World} {B : Heap} (hB : B.Le (hp w)) :
    Ret Try.prog 71 [.agg #[.string a, .string b]] w B (fun v _ => v = .int .i64 (allE [a, b])) := by
  refine ya Try.func71 rfl Try.ntmps71 (Nat.le_of_ble_eq_true rfl) hB ?_
  refine ze ?_; refine zb (id := 0) ?_; refine Zs21 ?_; refine Zs2 ?_; refine zd ?_; refine zf ?_; refine ze ?_; refine zb (id := 1) ?_; refine Zs5 ?_; refine Zs4 ?_; refine Zs5 ?_; refine Zs4 ?_; refine Zs25 ?_; refine z7 (zo L rfl rfl (zg rfl) rfl rfl rfl (fun u H hH _ _ v hv => all2_ret (by first | assumption | omega | decide) (by first | assumption | omega | decide) hH hv)) rfl ?_; refine Zs2 ?_; refine zd ?_; refine zf ?_
  refine qn L (rs := [.tmp 2]) rfl (fun _ _ h => h) Since.refl fun u H hH hle => ?_
  rfl
theorem goal_ret {a b c : ByteArray} (ha : a.size ≤ 9223372036854775807) (hb : b.size ≤ 9223372036854775807) (hc : c.size ≤ 9223372036854775807) {w : World} {B : Heap} (hB : B.Le (hp w)) :
    Ret Try.prog 70 [.agg #[.string a, .string b, .string c]] w B (fun v _ => v = .int .i64 (allE [a, b, c])) := by
  refine ya Try.func70 rfl Try.ntmps70 (Nat.le_of_ble_eq_true rfl) hB ?_
  refine ze ?_; refine zb (id := 0) ?_; refine Zs21 ?_; refine Zs2 ?_; refine zd ?_; refine zf ?_; refine ze ?_; refine zb (id := 1) ?_; refine Zs5 ?_; refine Zs5 ?_; refine Zs4 ?_; refine Zs5 ?_; refine Zs5 ?_; refine Zs4 ?_; refine Zs5 ?_; refine Zs4 ?_; refine Zs25 ?_; refine z7 (zo L rfl rfl (zg rfl) rfl rfl rfl (fun u H hH _ _ v hv => all3_ret (by first | assumption | omega | decide) (by first | assumption | omega | decide) (by first | assumption | omega | decide) hH hv)) rfl ?_; refine Zs2 ?_; refine zd ?_; refine zf ?_
  refine qn L (rs := [.tmp 2]) rfl (fun _ _ h => h) Since.refl fun u H hH hle => ?_
  rfl
end Go.V
