/- Texts on the way to FlightsKnown, part 3: one behind another. -/
import Derived.Test.YtfihdmobfmkclaaFlightsKnownM2
set_option linter.unusedVariables false
set_option linter.unusedSimpArgs false
namespace Go.V.L39
open Go.Proofs Go.RowKit Go.V
section
variable {P : Program} {F : Fr} {B : Heap} {n : Nat} {O : Boxes} {ops : Array Oper} {ex : Exs} {κ : Kap} {Q : Exit → Act → World → Prop} {o : Oper} {os : List Oper} {d : Nat} {k : Kn}
theorem _root_.Go.V.Zs7 (h : Par P F B n O ops ex (upd κ d k) os Q) (s : StepOK P F B n ops O κ o d k := by exact za rfl rfl rfl) (v : vd o = some d := by rfl) : Par P F B n O ops ex κ (o :: os) Q := z8 s v h
theorem _root_.Go.V.Zs14 (h : VO P F B n O ops (upd κ d k) os Q) (s : StepOK P F B n ops O κ o d k := by exact ql L rfl rfl rfl rfl rfl rfl rfl rfl) (v : vd o = some d := by rfl) : VO P F B n O ops κ (o :: os) Q := z7 s v h
theorem _root_.Go.V.Zs17 (h : VO P F B n O ops (upd κ d k) os Q) (s : StepOK P F B n ops O κ o d k := by exact StepOK.seeV (zj L (zl rfl) rfl rfl rfl rfl) (by assumption)) (v : vd o = some d := by rfl) : VO P F B n O ops κ (o :: os) Q := z7 s v h
theorem _root_.Go.V.Zs22 (h : VO P F B n O ops (upd κ d k) os Q) (s : StepOK P F B n ops O κ o d k := by exact ok_geq rfl rfl rfl rfl (decide_eq_false (by omega))) (v : vd o = some d := by rfl) : VO P F B n O ops κ (o :: os) Q := z7 s v h
theorem _root_.Go.V.Zs24 (h : VO P F B n O ops (upd κ d k) os Q) (s : StepOK P F B n ops O κ o d k := by exact qo L rfl rfl rfl rfl) (v : vd o = some d := by rfl) : VO P F B n O ops κ (o :: os) Q := z7 s v h
theorem _root_.Go.V.Zs30 (h : VO P F B n O ops (upd κ d k) os Q) (s : StepOK P F B n ops O κ o d k := by exact ok_geq rfl rfl rfl rfl (decide_eq_true (by omega))) (v : vd o = some d := by rfl) : VO P F B n O ops κ (o :: os) Q := z7 s v h
theorem _root_.Go.V.Zs49 (h : VO P F B n O ops (upd κ d k) os Q) (s : StepOK P F B n ops O κ o d k := by exact ok_not rfl rfl rfl rfl) (v : vd o = some d := by rfl) : VO P F B n O ops κ (o :: os) Q := z7 s v h
theorem _root_.Go.V.Zs56 (h : VO P F B n O ops (upd κ d k) os Q) (s : StepOK P F B n ops O κ o d k := by exact ok_leq rfl rfl rfl rfl (decide_eq_false (by omega))) (v : vd o = some d := by rfl) : VO P F B n O ops κ (o :: os) Q := z7 s v h
theorem _root_.Go.V.Zs57 (h : VO P F B n O ops (upd κ d k) os Q) (s : StepOK P F B n ops O κ o d k := by exact ok_leq rfl rfl rfl rfl (decide_eq_true (by omega))) (v : vd o = some d := by rfl) : VO P F B n O ops κ (o :: os) Q := z7 s v h
theorem _root_.Go.V.Zs58 (h : Par P F B n O ops ex (upd κ d k) os Q) (s : StepOK P F B n ops O κ o d k := by exact q7 rfl rfl rfl) (v : vd o = some d := by rfl) : Par P F B n O ops ex κ (o :: os) Q := z8 s v h
theorem _root_.Go.V.Zs67 (h : Par P F B n O ops ex (upd κ d k) os Q) (s : StepOK P F B n ops O κ o d k := by exact zu rfl rfl rfl rfl (decide_eq_true (by omega))) (v : vd o = some d := by rfl) : Par P F B n O ops ex κ (o :: os) Q := z8 s v h
theorem _root_.Go.V.Zs78 (h : Par P F B n O ops ex (upd κ d k) os Q) (s : StepOK P F B n ops O κ o d k := by exact zu rfl rfl rfl rfl (decide_eq_false (by omega))) (v : vd o = some d := by rfl) : Par P F B n O ops ex κ (o :: os) Q := z8 s v h
end
attribute [local irreducible] V N X VO Par StepOK Has Ret RetL RetO RetT RetG Src
theorem withinT {n a b : Int} (h1 : a ≤ n) (h2 : n ≤ b) {w : World} {B : Heap} (hB : B.Le (hp w)) : Ret Try.prog 46 [.int .i64 n, .int .i64 a, .int .i64 b] w B (fun v _ => v = .bool true) := by
  refine ya Try.func46 rfl Try.ntmps46 (Nat.le_of_ble_eq_true rfl) hB ?_
  refine ze ?_; refine zb (id := 0) ?_; refine Zs2 ?_; refine zd ?_; refine zf ?_; refine ze ?_; refine zb (id := 1) ?_; refine Zs1 ?_; refine Zs1 ?_; refine Zs30 ?_; refine Zs1 ?_; refine Zs1 ?_; refine Zs1 ?_; refine Zs57 ?_; refine Zs6 ?_; refine Zs2 ?_; refine zd ?_; refine zf ?_
  refine qn L (rs := [.tmp 6]) rfl (fun _ _ h => h) Since.refl fun u H hH hle => ?_
  rfl
theorem withinF {n a b : Int} (h : n < a ∨ b < n) {w : World} {B : Heap} (hB : B.Le (hp w)) : Ret Try.prog 46 [.int .i64 n, .int .i64 a, .int .i64 b] w B (fun v _ => v = .bool false) := by
  refine ya Try.func46 rfl Try.ntmps46 (Nat.le_of_ble_eq_true rfl) hB ?_
  by_cases h1 : a ≤ n
  · have h2 : b < n := by omega
    refine ze ?_; refine zb (id := 0) ?_; refine Zs2 ?_; refine zd ?_; refine zf ?_; refine ze ?_; refine zb (id := 1) ?_; refine Zs1 ?_; refine Zs1 ?_; refine Zs30 ?_; refine Zs1 ?_; refine Zs1 ?_; refine Zs1 ?_; refine Zs56 ?_; refine Zs6 ?_; refine Zs2 ?_; refine zd ?_; refine zf ?_
    refine qn L (rs := [.tmp 6]) rfl (fun _ _ h => h) Since.refl fun u H hH hle => ?_
    rfl
  · refine ze ?_; refine zb (id := 0) ?_; refine Zs2 ?_; refine zd ?_; refine zf ?_; refine ze ?_; refine zb (id := 1) ?_; refine Zs1 ?_; refine Zs1 ?_; refine Zs22 ?_; refine Zs1 ?_; refine Zs3 ?_; refine Zs3 ?_; refine Zs3 ?_; refine Zs6 ?_; refine Zs2 ?_; refine zd ?_; refine zf ?_
    refine qn L (rs := [.tmp 6]) rfl (fun _ _ h => h) Since.refl fun u H hH hle => ?_
    rfl
theorem within64T {n a b : Int} (h1 : a ≤ n) (h2 : n ≤ b) {w : World} {B : Heap} (hB : B.Le (hp w)) : Ret Try.prog 40 [.int .i64 n, .int .i64 a, .int .i64 b] w B (fun v _ => v = .bool true) := by
  refine ya Try.func40 rfl Try.ntmps40 (Nat.le_of_ble_eq_true rfl) hB ?_
  refine ze ?_; refine zb (id := 0) ?_; refine Zs2 ?_; refine zd ?_; refine zf ?_; refine ze ?_; refine zb (id := 1) ?_; refine Zs1 ?_; refine Zs1 ?_; refine Zs30 ?_; refine Zs1 ?_; refine Zs1 ?_; refine Zs1 ?_; refine Zs57 ?_; refine Zs6 ?_; refine Zs2 ?_; refine zd ?_; refine zf ?_
  refine qn L (rs := [.tmp 6]) rfl (fun _ _ h => h) Since.refl fun u H hH hle => ?_
  rfl
theorem within64F {n a b : Int} (h : n < a ∨ b < n) {w : World} {B : Heap} (hB : B.Le (hp w)) : Ret Try.prog 40 [.int .i64 n, .int .i64 a, .int .i64 b] w B (fun v _ => v = .bool false) := by
  refine ya Try.func40 rfl Try.ntmps40 (Nat.le_of_ble_eq_true rfl) hB ?_
  by_cases h1 : a ≤ n
  · have h2 : b < n := by omega
    refine ze ?_; refine zb (id := 0) ?_; refine Zs2 ?_; refine zd ?_; refine zf ?_; refine ze ?_; refine zb (id := 1) ?_; refine Zs1 ?_; refine Zs1 ?_; refine Zs30 ?_; refine Zs1 ?_; refine Zs1 ?_; refine Zs1 ?_; refine Zs56 ?_; refine Zs6 ?_; refine Zs2 ?_; refine zd ?_; refine zf ?_
    refine qn L (rs := [.tmp 6]) rfl (fun _ _ h => h) Since.refl fun u H hH hle => ?_
    rfl
  · refine ze ?_; refine zb (id := 0) ?_; refine Zs2 ?_; refine zd ?_; refine zf ?_; refine ze ?_; refine zb (id := 1) ?_; refine Zs1 ?_; refine Zs1 ?_; refine Zs22 ?_; refine Zs1 ?_; refine Zs3 ?_; refine Zs3 ?_; refine Zs3 ?_; refine Zs6 ?_; refine Zs2 ?_; refine zd ?_; refine zf ?_
    refine qn L (rs := [.tmp 6]) rfl (fun _ _ h => h) Since.refl fun u H hH hle => ?_
    rfl
abbrev itv (x : It) : Value := .agg #[.int .i64 x.tk, .int .i64 x.im, .int .i64 x.cl, .int .i64 x.cs, .int .u64 x.rv]
theorem valid_ret {x : It} {b : Bool} (hb : itV x = b) {w : World} {B : Heap} (hB : B.Le (hp w)) : Ret Try.prog 39 [itv x] w B (fun v _ => v = .bool b) := by
  cases b with
  | true =>
    obtain ⟨h1, h2, h3, h4, h5, h6, h7, h8, h9⟩ := itV_iff.1 hb
    refine ya Try.func39 rfl Try.ntmps39 (Nat.le_of_ble_eq_true rfl) hB ?_
    refine ze ?_; refine zb (id := 0) ?_; refine Zs21 ?_; refine Zs2 ?_; refine zd ?_; refine zf ?_; refine ze ?_; refine zb (id := 1) ?_; refine Zs5 ?_; refine Zs4 ?_; refine z7 (zo L rfl rfl (zg rfl) rfl rfl rfl (fun u H hH _ _ => withinT (by omega) (by omega) hH)) rfl ?_; refine Zs1 ?_; refine Zs5 ?_; refine Zs4 ?_; refine z7 (zo L rfl rfl (zg rfl) rfl rfl rfl (fun u H hH _ _ => withinT (by omega) (by omega) hH)) rfl ?_; refine Zs6 ?_; refine Zs1 ?_; refine Zs5 ?_; refine Zs4 ?_; refine z7 (zo L rfl rfl (zg rfl) rfl rfl rfl (fun u H hH _ _ => withinT (by omega) (by omega) hH)) rfl ?_; refine Zs6 ?_; refine Zs1 ?_; refine Zs5 ?_; refine Zs4 ?_; refine z7 (zo L rfl rfl (zg rfl) rfl rfl rfl (fun u H hH _ _ => withinT (by omega) (by omega) hH)) rfl ?_; refine Zs6 ?_; refine Zs1 ?_; refine Zs5 ?_; refine Zs4 ?_; refine Zs23 ?_; refine Zs6 ?_; refine Zs2 ?_; refine zd ?_; refine zf ?_
    refine qn L (rs := [.tmp 2]) rfl (fun _ _ h => h) Since.refl fun u H hH hle => ?_
    rfl
  | false =>
    have hn : ¬ (0 ≤ x.tk ∧ x.tk ≤ 2147483647 ∧ 0 ≤ x.im ∧ x.im ≤ 7 ∧ 0 ≤ x.cl ∧ x.cl ≤ 15 ∧ 0 ≤ x.cs ∧ x.cs ≤ 7 ∧ 0 < x.rv) := fun h => by rw [itV_iff.2 h] at hb; cases hb
    refine ya Try.func39 rfl Try.ntmps39 (Nat.le_of_ble_eq_true rfl) hB ?_
    by_cases h1 : 0 ≤ x.tk ∧ x.tk ≤ 2147483647
    · by_cases h2 : 0 ≤ x.im ∧ x.im ≤ 7
      · by_cases h3 : 0 ≤ x.cl ∧ x.cl ≤ 15
        · by_cases h4 : 0 ≤ x.cs ∧ x.cs ≤ 7
          · have h5 : ¬ 0 < x.rv := by omega
            refine ze ?_; refine zb (id := 0) ?_; refine Zs21 ?_; refine Zs2 ?_; refine zd ?_; refine zf ?_; refine ze ?_; refine zb (id := 1) ?_; refine Zs5 ?_; refine Zs4 ?_; refine z7 (zo L rfl rfl (zg rfl) rfl rfl rfl (fun u H hH _ _ => withinT (by omega) (by omega) hH)) rfl ?_; refine Zs1 ?_; refine Zs5 ?_; refine Zs4 ?_; refine z7 (zo L rfl rfl (zg rfl) rfl rfl rfl (fun u H hH _ _ => withinT (by omega) (by omega) hH)) rfl ?_; refine Zs6 ?_; refine Zs1 ?_; refine Zs5 ?_; refine Zs4 ?_; refine z7 (zo L rfl rfl (zg rfl) rfl rfl rfl (fun u H hH _ _ => withinT (by omega) (by omega) hH)) rfl ?_; refine Zs6 ?_; refine Zs1 ?_; refine Zs5 ?_; refine Zs4 ?_; refine z7 (zo L rfl rfl (zg rfl) rfl rfl rfl (fun u H hH _ _ => withinT (by omega) (by omega) hH)) rfl ?_; refine Zs6 ?_; refine Zs1 ?_; refine Zs5 ?_; refine Zs4 ?_; refine Zs16 ?_; refine Zs6 ?_; refine Zs2 ?_; refine zd ?_; refine zf ?_
            refine qn L (rs := [.tmp 2]) rfl (fun _ _ h => h) Since.refl fun u H hH hle => ?_
            rfl
          · refine ze ?_; refine zb (id := 0) ?_; refine Zs21 ?_; refine Zs2 ?_; refine zd ?_; refine zf ?_; refine ze ?_; refine zb (id := 1) ?_; refine Zs5 ?_; refine Zs4 ?_; refine z7 (zo L rfl rfl (zg rfl) rfl rfl rfl (fun u H hH _ _ => withinT (by omega) (by omega) hH)) rfl ?_; refine Zs1 ?_; refine Zs5 ?_; refine Zs4 ?_; refine z7 (zo L rfl rfl (zg rfl) rfl rfl rfl (fun u H hH _ _ => withinT (by omega) (by omega) hH)) rfl ?_; refine Zs6 ?_; refine Zs1 ?_; refine Zs5 ?_; refine Zs4 ?_; refine z7 (zo L rfl rfl (zg rfl) rfl rfl rfl (fun u H hH _ _ => withinT (by omega) (by omega) hH)) rfl ?_; refine Zs6 ?_; refine Zs1 ?_; refine Zs5 ?_; refine Zs4 ?_; refine z7 (zo L rfl rfl (zg rfl) rfl rfl rfl (fun u H hH _ _ => withinF (by omega) hH)) rfl ?_; refine Zs6 ?_; refine Zs1 ?_; refine Zs3 ?_; refine Zs3 ?_; refine Zs3 ?_; refine Zs6 ?_; refine Zs2 ?_; refine zd ?_; refine zf ?_
            refine qn L (rs := [.tmp 2]) rfl (fun _ _ h => h) Since.refl fun u H hH hle => ?_
            rfl
        · refine ze ?_; refine zb (id := 0) ?_; refine Zs21 ?_; refine Zs2 ?_; refine zd ?_; refine zf ?_; refine ze ?_; refine zb (id := 1) ?_; refine Zs5 ?_; refine Zs4 ?_; refine z7 (zo L rfl rfl (zg rfl) rfl rfl rfl (fun u H hH _ _ => withinT (by omega) (by omega) hH)) rfl ?_; refine Zs1 ?_; refine Zs5 ?_; refine Zs4 ?_; refine z7 (zo L rfl rfl (zg rfl) rfl rfl rfl (fun u H hH _ _ => withinT (by omega) (by omega) hH)) rfl ?_; refine Zs6 ?_; refine Zs1 ?_; refine Zs5 ?_; refine Zs4 ?_; refine z7 (zo L rfl rfl (zg rfl) rfl rfl rfl (fun u H hH _ _ => withinF (by omega) hH)) rfl ?_; refine Zs6 ?_; refine Zs1 ?_; refine Zs3 ?_; refine Zs3 ?_; refine Zs3 ?_; refine Zs6 ?_; refine Zs1 ?_; refine Zs3 ?_; refine Zs3 ?_; refine Zs3 ?_; refine Zs6 ?_; refine Zs2 ?_; refine zd ?_; refine zf ?_
          refine qn L (rs := [.tmp 2]) rfl (fun _ _ h => h) Since.refl fun u H hH hle => ?_
          rfl
      · refine ze ?_; refine zb (id := 0) ?_; refine Zs21 ?_; refine Zs2 ?_; refine zd ?_; refine zf ?_; refine ze ?_; refine zb (id := 1) ?_; refine Zs5 ?_; refine Zs4 ?_; refine z7 (zo L rfl rfl (zg rfl) rfl rfl rfl (fun u H hH _ _ => withinT (by omega) (by omega) hH)) rfl ?_; refine Zs1 ?_; refine Zs5 ?_; refine Zs4 ?_; refine z7 (zo L rfl rfl (zg rfl) rfl rfl rfl (fun u H hH _ _ => withinF (by omega) hH)) rfl ?_; refine Zs6 ?_; refine Zs1 ?_; refine Zs3 ?_; refine Zs3 ?_; refine Zs3 ?_; refine Zs6 ?_; refine Zs1 ?_; refine Zs3 ?_; refine Zs3 ?_; refine Zs3 ?_; refine Zs6 ?_; refine Zs1 ?_; refine Zs3 ?_; refine Zs3 ?_; refine Zs3 ?_; refine Zs6 ?_; refine Zs2 ?_; refine zd ?_; refine zf ?_
        refine qn L (rs := [.tmp 2]) rfl (fun _ _ h => h) Since.refl fun u H hH hle => ?_
        rfl
    · refine ze ?_; refine zb (id := 0) ?_; refine Zs21 ?_; refine Zs2 ?_; refine zd ?_; refine zf ?_; refine ze ?_; refine zb (id := 1) ?_; refine Zs5 ?_; refine Zs4 ?_; refine z7 (zo L rfl rfl (zg rfl) rfl rfl rfl (fun u H hH _ _ => withinF (by omega) hH)) rfl ?_; refine Zs1 ?_; refine Zs3 ?_; refine Zs3 ?_; refine Zs3 ?_; refine Zs6 ?_; refine Zs1 ?_; refine Zs3 ?_; refine Zs3 ?_; refine Zs3 ?_; refine Zs6 ?_; refine Zs1 ?_; refine Zs3 ?_; refine Zs3 ?_; refine Zs3 ?_; refine Zs6 ?_; refine Zs1 ?_; refine Zs3 ?_; refine Zs3 ?_; refine Zs3 ?_; refine Zs6 ?_; refine Zs2 ?_; refine zd ?_; refine zf ?_
      refine qn L (rs := [.tmp 2]) rfl (fun _ _ h => h) Since.refl fun u H hH hle => ?_
      rfl
abbrev quv (q : Qu) : Value := .agg #[.int .u8 q.kd, .string q.g.1.1, .string q.g.1.2, .string q.g.2, .string q.u.1, .string q.u.2]
theorem query_ret {q : Qu} (hz : QuZ q) {e : Int} (he : quE q = e) {w : World} {B : Heap} (hB : B.Le (hp w)) : Ret Try.prog 38 [quv q] w B (fun v _ => v = .int .i64 e) := by
  subst he
  obtain ⟨⟨hk0, hk1⟩, z1, z2, z3, z4, z5⟩ := hz
  obtain ⟨e, he⟩ : ∃ e, e = quE q := ⟨_, rfl⟩
  rw [← he]
  unfold quE gE uE at he
  refine ya Try.func38 rfl Try.ntmps38 (Nat.le_of_ble_eq_true rfl) hB ?_
  by_cases hk : q.kd = 1 ∨ q.kd = 2
  · rw [if_neg (by omega)] at he
    by_cases hg : allE [q.g.1.1, q.g.1.2, q.g.2] = 0
    · by_cases h1 : q.kd = 1
      · by_cases hu : allE [q.u.1, q.u.2] = 0
        · rw [if_neg (by omega), if_neg (by omega)] at he
          subst he
          refine ze ?_; refine zb (id := 0) ?_; refine Zs21 ?_; refine Zs2 ?_; refine zd ?_; refine zf ?_; refine ze ?_; refine zy ?_; refine ze ?_; refine zb (id := 1) ?_; refine Zs5 ?_; refine Zs4 ?_; refine Zs10 ?_; refine Zs1 ?_; refine Zs3 ?_; refine Zs3 ?_; refine Zs3 ?_; refine Zs6 ?_; refine Zs2 ?_; refine zd ?_; refine zf ?_; refine zm rfl ?_; refine ze ?_; refine zb (id := 3) ?_; refine Zs5 ?_; refine z7 (zn L (vs := [_, _, _]) (zl rfl) rfl rfl rfl rfl ⟨_, rfl⟩) rfl ?_; refine z7 (zo L rfl rfl (zg rfl) rfl rfl rfl (fun u H hH _ _ => goal_ret (by first | assumption | omega | decide) (by first | assumption | omega | decide) (by first | assumption | omega | decide) hH)) rfl ?_; refine Zs10 ?_; refine Zs1 ?_; refine Zs5 ?_; refine Zs4 ?_; refine Zs15 ?_; refine Zs1 ?_; refine Zs5 ?_; refine z7 (zn L (vs := [_, _]) (zl rfl) rfl rfl rfl rfl ⟨_, rfl⟩) rfl ?_; refine z7 (zo L rfl rfl (zg rfl) rfl rfl rfl (fun u H hH _ _ => object_ret (by first | assumption | omega | decide) (by first | assumption | omega | decide) hH)) rfl ?_; refine Zs10 ?_; refine Zs6 ?_; refine Zs6 ?_; refine Zs2 ?_; refine zd ?_; refine zf ?_; refine zm rfl ?_; refine ze ?_; refine zb (id := 5) ?_; refine Zs5 ?_; refine Zs4 ?_; refine Zs9 ?_; refine Zs1 ?_; refine Zs3 ?_; refine Zs3 ?_; refine Zs3 ?_; refine Zs3 ?_; refine Zs6 ?_; refine Zs2 ?_; refine zd ?_; refine zf ?_; refine zm rfl ?_; refine zt ?_; refine qm ?_; refine zf ?_; refine ze ?_; refine zb (id := 7) ?_; refine Zs2 ?_; refine zd ?_; refine zf ?_
          refine qn L (rs := [.tmp 2]) rfl (fun _ _ h => h) Since.refl fun u H hH hle => ?_
          rfl
        · rw [if_pos (by omega)] at he
          subst he
          refine ze ?_; refine zb (id := 0) ?_; refine Zs21 ?_; refine Zs2 ?_; refine zd ?_; refine zf ?_; refine ze ?_; refine zy ?_; refine ze ?_; refine zb (id := 1) ?_; refine Zs5 ?_; refine Zs4 ?_; refine Zs10 ?_; refine Zs1 ?_; refine Zs3 ?_; refine Zs3 ?_; refine Zs3 ?_; refine Zs6 ?_; refine Zs2 ?_; refine zd ?_; refine zf ?_; refine zm rfl ?_; refine ze ?_; refine zb (id := 3) ?_; refine Zs5 ?_; refine z7 (zn L (vs := [_, _, _]) (zl rfl) rfl rfl rfl rfl ⟨_, rfl⟩) rfl ?_; refine z7 (zo L rfl rfl (zg rfl) rfl rfl rfl (fun u H hH _ _ => goal_ret (by first | assumption | omega | decide) (by first | assumption | omega | decide) (by first | assumption | omega | decide) hH)) rfl ?_; refine Zs10 ?_; refine Zs1 ?_; refine Zs5 ?_; refine Zs4 ?_; refine Zs15 ?_; refine Zs1 ?_; refine Zs5 ?_; refine z7 (zn L (vs := [_, _]) (zl rfl) rfl rfl rfl rfl ⟨_, rfl⟩) rfl ?_; refine z7 (zo L rfl rfl (zg rfl) rfl rfl rfl (fun u H hH _ _ => object_ret (by first | assumption | omega | decide) (by first | assumption | omega | decide) hH)) rfl ?_; refine Zs27 ?_; refine Zs6 ?_; refine Zs6 ?_; refine Zs2 ?_; refine zd ?_; refine zf ?_; refine zw rfl ?_; refine ze ?_; refine zb (id := 4) ?_; refine Zs2 ?_; refine zd ?_; refine zf ?_
          refine qn L (rs := [.tmp 2]) rfl (fun _ _ h => h) Since.refl fun u H hH hle => ?_
          rfl
      · have h2 : q.kd = 2 := by omega
        rw [if_neg (by omega)] at he
        by_cases hu : q.u = U0
        · rw [if_neg (fun h => h.2 hu)] at he
          subst he
          have hq : eqCs [0, 0] [.string q.u.1, .string q.u.2] [.string ⟨#[]⟩, .string ⟨#[]⟩] = some true := (decide_eq_true hu) ▸ eqO q.u U0
          refine ze ?_; refine zb (id := 0) ?_; refine Zs21 ?_; refine Zs2 ?_; refine zd ?_; refine zf ?_; refine ze ?_; refine zy ?_; refine ze ?_; refine zb (id := 1) ?_; refine Zs5 ?_; refine Zs4 ?_; refine Zs27 ?_; refine Zs1 ?_; refine Zs5 ?_; refine Zs4 ?_; refine Zs10 ?_; refine Zs6 ?_; refine Zs2 ?_; refine zd ?_; refine zf ?_; refine zm rfl ?_; refine ze ?_; refine zb (id := 3) ?_; refine Zs5 ?_; refine z7 (zn L (vs := [_, _, _]) (zl rfl) rfl rfl rfl rfl ⟨_, rfl⟩) rfl ?_; refine z7 (zo L rfl rfl (zg rfl) rfl rfl rfl (fun u H hH _ _ => goal_ret (by first | assumption | omega | decide) (by first | assumption | omega | decide) (by first | assumption | omega | decide) hH)) rfl ?_; refine Zs10 ?_; refine Zs1 ?_; refine Zs5 ?_; refine Zs4 ?_; refine Zs9 ?_; refine Zs1 ?_; refine Zs3 ?_; refine Zs3 ?_; refine Zs3 ?_; refine Zs3 ?_; refine Zs6 ?_; refine Zs6 ?_; refine Zs2 ?_; refine zd ?_; refine zf ?_; refine zm rfl ?_; refine ze ?_; refine zb (id := 5) ?_; refine Zs5 ?_; refine Zs4 ?_; refine Zs15 ?_; refine Zs1 ?_; refine Zs5 ?_; refine z7 (zn L (vs := [_, _]) (zl rfl) rfl rfl rfl rfl ⟨_, rfl⟩) rfl ?_; refine z7 (qt (cs := [_, _]) rfl rfl pl26 rfl rfl) rfl ?_; refine z7 (ok_aneq rfl rfl rfl rfl eq26 (by assumption) rfl) rfl ?_; refine Zs6 ?_; refine Zs2 ?_; refine zd ?_; refine zf ?_; refine zm rfl ?_; refine zt ?_; refine qm ?_; refine zf ?_; refine ze ?_; refine zb (id := 7) ?_; refine Zs2 ?_; refine zd ?_; refine zf ?_
          refine qn L (rs := [.tmp 2]) rfl (fun _ _ h => h) Since.refl fun u H hH hle => ?_
          rfl
        · rw [if_pos ⟨h2, hu⟩] at he
          subst he
          have hq : eqCs [0, 0] [.string q.u.1, .string q.u.2] [.string ⟨#[]⟩, .string ⟨#[]⟩] = some false := (decide_eq_false hu) ▸ eqO q.u U0
          refine ze ?_; refine zb (id := 0) ?_; refine Zs21 ?_; refine Zs2 ?_; refine zd ?_; refine zf ?_; refine ze ?_; refine zy ?_; refine ze ?_; refine zb (id := 1) ?_; refine Zs5 ?_; refine Zs4 ?_; refine Zs27 ?_; refine Zs1 ?_; refine Zs5 ?_; refine Zs4 ?_; refine Zs10 ?_; refine Zs6 ?_; refine Zs2 ?_; refine zd ?_; refine zf ?_; refine zm rfl ?_; refine ze ?_; refine zb (id := 3) ?_; refine Zs5 ?_; refine z7 (zn L (vs := [_, _, _]) (zl rfl) rfl rfl rfl rfl ⟨_, rfl⟩) rfl ?_; refine z7 (zo L rfl rfl (zg rfl) rfl rfl rfl (fun u H hH _ _ => goal_ret (by first | assumption | omega | decide) (by first | assumption | omega | decide) (by first | assumption | omega | decide) hH)) rfl ?_; refine Zs10 ?_; refine Zs1 ?_; refine Zs5 ?_; refine Zs4 ?_; refine Zs9 ?_; refine Zs1 ?_; refine Zs3 ?_; refine Zs3 ?_; refine Zs3 ?_; refine Zs3 ?_; refine Zs6 ?_; refine Zs6 ?_; refine Zs2 ?_; refine zd ?_; refine zf ?_; refine zm rfl ?_; refine ze ?_; refine zb (id := 5) ?_; refine Zs5 ?_; refine Zs4 ?_; refine Zs15 ?_; refine Zs1 ?_; refine Zs5 ?_; refine z7 (zn L (vs := [_, _]) (zl rfl) rfl rfl rfl rfl ⟨_, rfl⟩) rfl ?_; refine z7 (qt (cs := [_, _]) rfl rfl pl26 rfl rfl) rfl ?_; refine z7 (ok_aneq rfl rfl rfl rfl eq26 (by assumption) rfl) rfl ?_; refine Zs6 ?_; refine Zs2 ?_; refine zd ?_; refine zf ?_; refine zw rfl ?_; refine ze ?_; refine zb (id := 6) ?_; refine Zs2 ?_; refine zd ?_; refine zf ?_
          refine qn L (rs := [.tmp 2]) rfl (fun _ _ h => h) Since.refl fun u H hH hle => ?_
          rfl
    · rw [if_pos (by omega)] at he
      subst he
      rcases hk with h1 | h1
      · refine ze ?_; refine zb (id := 0) ?_; refine Zs21 ?_; refine Zs2 ?_; refine zd ?_; refine zf ?_; refine ze ?_; refine zy ?_; refine ze ?_; refine zb (id := 1) ?_; refine Zs5 ?_; refine Zs4 ?_; refine Zs10 ?_; refine Zs1 ?_; refine Zs3 ?_; refine Zs3 ?_; refine Zs3 ?_; refine Zs6 ?_; refine Zs2 ?_; refine zd ?_; refine zf ?_; refine zm rfl ?_; refine ze ?_; refine zb (id := 3) ?_; refine Zs5 ?_; refine z7 (zn L (vs := [_, _, _]) (zl rfl) rfl rfl rfl rfl ⟨_, rfl⟩) rfl ?_; refine z7 (zo L rfl rfl (zg rfl) rfl rfl rfl (fun u H hH _ _ => goal_ret (by first | assumption | omega | decide) (by first | assumption | omega | decide) (by first | assumption | omega | decide) hH)) rfl ?_; refine Zs27 ?_; refine Zs1 ?_; refine Zs3 ?_; refine Zs3 ?_; refine Zs3 ?_; refine Zs3 ?_; refine Zs3 ?_; refine Zs3 ?_; refine Zs3 ?_; refine Zs3 ?_; refine Zs3 ?_; refine Zs6 ?_; refine Zs2 ?_; refine zd ?_; refine zf ?_; refine zw rfl ?_; refine ze ?_; refine zb (id := 4) ?_; refine Zs2 ?_; refine zd ?_; refine zf ?_
        refine qn L (rs := [.tmp 2]) rfl (fun _ _ h => h) Since.refl fun u H hH hle => ?_
        rfl
      · refine ze ?_; refine zb (id := 0) ?_; refine Zs21 ?_; refine Zs2 ?_; refine zd ?_; refine zf ?_; refine ze ?_; refine zy ?_; refine ze ?_; refine zb (id := 1) ?_; refine Zs5 ?_; refine Zs4 ?_; refine Zs27 ?_; refine Zs1 ?_; refine Zs5 ?_; refine Zs4 ?_; refine Zs10 ?_; refine Zs6 ?_; refine Zs2 ?_; refine zd ?_; refine zf ?_; refine zm rfl ?_; refine ze ?_; refine zb (id := 3) ?_; refine Zs5 ?_; refine z7 (zn L (vs := [_, _, _]) (zl rfl) rfl rfl rfl rfl ⟨_, rfl⟩) rfl ?_; refine z7 (zo L rfl rfl (zg rfl) rfl rfl rfl (fun u H hH _ _ => goal_ret (by first | assumption | omega | decide) (by first | assumption | omega | decide) (by first | assumption | omega | decide) hH)) rfl ?_; refine Zs27 ?_; refine Zs1 ?_; refine Zs3 ?_; refine Zs3 ?_; refine Zs3 ?_; refine Zs3 ?_; refine Zs3 ?_; refine Zs3 ?_; refine Zs3 ?_; refine Zs3 ?_; refine Zs3 ?_; refine Zs6 ?_; refine Zs2 ?_; refine zd ?_; refine zf ?_; refine zw rfl ?_; refine ze ?_; refine zb (id := 4) ?_; refine Zs2 ?_; refine zd ?_; refine zf ?_
        refine qn L (rs := [.tmp 2]) rfl (fun _ _ h => h) Since.refl fun u H hH hle => ?_
        rfl
  · rw [if_pos (by omega)] at he
    subst he
    refine ze ?_; refine zb (id := 0) ?_; refine Zs21 ?_; refine Zs2 ?_; refine zd ?_; refine zf ?_; refine ze ?_; refine zy ?_; refine ze ?_; refine zb (id := 1) ?_; refine Zs5 ?_; refine Zs4 ?_; refine Zs27 ?_; refine Zs1 ?_; refine Zs5 ?_; refine Zs4 ?_; refine Zs27 ?_; refine Zs6 ?_; refine Zs2 ?_; refine zd ?_; refine zf ?_; refine zw rfl ?_; refine ze ?_; refine zb (id := 2) ?_; refine Zs2 ?_; refine zd ?_; refine zf ?_
    refine qn L (rs := [.tmp 2]) rfl (fun _ _ h => h) Since.refl fun u H hH hle => ?_
    rfl
abbrev tbv (nx : Int) (s : Value) : Value := .agg #[.int .i64 nx, s]
theorem itsN_take {l : List Fl} {i : Nat} {f : Fl} (h : l[i]? = some f) : itsN (l.take (i + 1)) = itsN (l.take i) + f.is.length := by rw [take_snoc h, itsN_snoc]
theorem itsN_le (l : List Fl) (i : Nat) : itsN (l.take i) ≤ itsN l := by
  have h : itsN l = itsN (l.take i) + itsN (l.drop i) := by
    conv => lhs; rw [← List.take_append_drop i l]
    simp only [itsN, List.map_append, List.sum_append]
  omega
theorem items_ret {nx : Int} {l : List Fl} {zs : List (Fl × Value)} (hz : zs.map Prod.fst = l) {fu fi : Bool} {s : Value} {w : World} {B : Heap} (hs : FsB zs fu fi s B) (hn : itsN l ≤ 4611686018427387904) (hB : B.Le (hp w)) :
    Ret Try.prog 43 [tbv nx s] w B (fun v _ => v = .int .i64 (itsN l)) := by
  have hsl := hs.sl
  have hlen := fls_len hz
  refine ya Try.func43 rfl Try.ntmps43 (Nat.le_of_ble_eq_true rfl) hB ?_
  refine ze ?_; refine zb (id := 0) ?_; refine Zs21 ?_; refine Zs2 ?_; refine zd ?_; refine zf ?_; refine ze ?_; refine zb (id := 1) ?_; refine Zs2 ?_; refine zd ?_; refine zf ?_; refine ze ?_; refine ze ?_; refine zb (id := 2) ?_; refine Zs5 ?_; refine Zs17 ?_; refine Zs31 ?_; refine Zs1 ?_; refine zd ?_; refine zf ?_; refine zy ?_
  refine V_loop (fun i : Nat => [(3, .is (.int .i64 (itsN (l.take i)))), (7, .sat (SlV tyF 14 (zs.flatMap flc) zs.length fu)), (8, .is (.int .i64 zs.length)), (9, .is (.int .i64 i))]) (fun i => i ≤ zs.length) (fun i => zs.length - i) 0 (Nat.zero_le _) ⟨rfl, rfl, rfl, rfl, trivial⟩ ?_
  rintro i hi
  by_cases hlt : i < zs.length
  · obtain ⟨f, p, c, hzi, hli, hzv, hil, hc⟩ := hs.at hz hlt
    have h1 := itsN_take hli
    have h2 := itsN_le l (i + 1)
    have had : IntKind.i64.wrap ((itsN (l.take i) : Int) + (f.is.length : Int)) = (itsN (l.take (i + 1)) : Int) := wrap_i64 (by omega) (by omega) |>.trans (by omega)
    have hzl := hs.ln
    refine ze ?_; refine zb (id := 3) ?_; refine Zs11 ?_; refine zd ?_; refine zf ?_; refine ze ?_; refine zw rfl ?_; refine zt ?_; refine zf ?_; refine ze ?_; refine zy ?_; refine ze ?_; refine zb (id := 4) ?_; refine z7 (qb L _ rfl rfl rfl rfl rfl rfl rfl (by first | omega | decide) (by assumption)) rfl ?_; refine z7 (y5 L (vs := [_, _, _, _, _, _, _, _, _, _, _, _, _, _]) rfl rfl rfl rfl rfl ⟨_, rfl⟩) rfl ?_; refine Zs24 ?_; refine Zs14 ?_; refine zd ?_; refine zf ?_
    refine V_pub 5 rfl ?_
    refine zb (id := 5) ?_; refine Zs1 ?_; refine Zs5 ?_; refine Zs4 ?_; refine Zs35 ?_; refine Zs18 ?_; refine Zs2 ?_; refine zd ?_; refine qm ?_; refine zf ?_; refine zb (id := 6) ?_; refine Zs13 ?_; refine Zs1 ?_; refine zd ?_
    exact y1 (x := i) (i + 1) hlt (by omega) ⟨rfl, rfl, rfl, rfl, trivial⟩
  · obtain rfl : i = zs.length := by omega
    rw [hlen, List.take_length]
    refine ze ?_; refine zb (id := 3) ?_; refine Zs8 ?_; refine zd ?_; refine zf ?_; refine ze ?_; refine zm rfl ?_; refine y7 ?_; refine qg ?_; refine qg ?_; refine y6 ?_; refine zf ?_; refine ze ?_; refine zb (id := 7) ?_; refine Zs1 ?_; refine Zs2 ?_; refine zd ?_; refine zf ?_
    refine qn L (rs := [.tmp 2]) rfl (fun _ _ h => h) Since.refl fun u H hH hle => ?_
    rfl
abbrev cI (a b : Int) : Int := if a < b then -1 else if b < a then 1 else 0
theorem cmpi_ret (a b : Int) {w : World} {B : Heap} (hB : B.Le (hp w)) : Ret Try.prog 76 [.int .i64 a, .int .i64 b] w B (fun v _ => v = .int .i64 (cI a b)) := by
  have h : Lib.compareInt a b = cI a b := by unfold Lib.compareInt cI; rfl
  rw [← h]
  exact Ret.of_same hB (Try.cmp_Compare_int a b w)
abbrev fvC : Value := .func (.func 75) #[] #[]
theorem class1_ret (x y : It) {w : World} {B : Heap} (hB : B.Le (hp w)) : Ret Try.prog 75 [itv x, itv y] w B (fun v _ => v = .int .i64 (cI x.cs y.cs)) := by
  refine ya Try.func75 rfl Try.ntmps75 (Nat.le_of_ble_eq_true rfl) hB ?_
  refine ze ?_; refine zb (id := 0) ?_; refine Zs21 ?_; refine Zs21 ?_; refine Zs2 ?_; refine zd ?_; refine zf ?_; refine ze ?_; refine zb (id := 1) ?_; refine Zs5 ?_; refine Zs4 ?_; refine Zs5 ?_; refine Zs4 ?_; refine z7 (zo L rfl rfl (zg rfl) rfl rfl rfl (fun u H hH _ _ => cmpi_ret _ _ hH)) rfl ?_; refine Zs2 ?_; refine zd ?_; refine zf ?_
  refine qn L (rs := [.tmp 4]) rfl (fun _ _ h => h) Since.refl fun u H hH hle => ?_
  rfl
theorem cls_take {l : List It} {i : Nat} {x : It} (h : l[i]? = some x) : cls (l.take (i + 1)) = if x.cs < cls (l.take i) then x.cs else cls (l.take i) := by rw [take_snoc h]; exact clsF_snoc _ _ _
set_option maxRecDepth 20000 in
theorem minI_ret {l : List It} {fu : Bool} (hlm : l.length ≤ 4611686018427387904) (hl0 : 0 < l.length) (hle : ∀ x ∈ l, x.cs ≤ 7) {v : Value} {w : World} {B : Heap} (hv : IsV l fu v B) (hB : B.Le (hp w)) :
    Ret Try.prog 74 [v, fvC] w B (fun r _ => ∃ x : It, r = itv x ∧ x.cs = cls l) := by
  obtain ⟨x0, hx0⟩ := get_some hl0
  have hc0 := it_at hx0
  have h0 := hle x0 (List.mem_of_getElem? hx0)
  have hcl0 : x0.cs = cls (l.take 1) := by rw [cls_take hx0]; show _ = if x0.cs < 8 then _ else _; rw [if_pos (by omega)]
  refine ya Try.func74 rfl Try.ntmps74 (Nat.le_of_ble_eq_true rfl) hB ?_
  refine V_seen 0 (IsV l fu) rfl SlV.mono hv ?_
  refine ze ?_; refine zb (id := 0) ?_; refine Zs24 ?_; refine zd ?_; refine zf ?_; refine ze ?_; refine ze ?_; refine zb (id := 1) ?_; refine Zs37 ?_; refine Zs31 ?_; refine Zs8 ?_; refine zd ?_; refine zf ?_; refine zm rfl ?_; refine zt ?_; refine zf ?_; refine ze ?_; refine zb (id := 3) ?_; refine Zs37 ?_; refine z7 (qb L _ rfl rfl rfl rfl rfl rfl rfl (by first | omega | decide) (by assumption)) rfl ?_; refine z7 (y5 L (vs := [_, _, _, _, _]) rfl rfl rfl rfl rfl ⟨_, rfl⟩) rfl ?_; refine Zs24 ?_; refine Zs14 ?_; refine zd ?_; refine zf ?_; refine ze ?_; refine ze ?_; refine zb (id := 4) ?_; refine Zs2 ?_; refine zd ?_; refine zf ?_; refine zy ?_
  refine V_loop (fun s : Nat × It => [(0, .sat (IsV l fu)), (1, .is fvC), (4, .own (Cell [.int .i64 0, .int .i64 0, .int .i64 0, .int .i64 0, .int .u64 0] tyI)), (5, .own (Cell [.int .i64 s.2.tk, .int .i64 s.2.im, .int .i64 s.2.cl, .int .i64 s.2.cs, .int .u64 s.2.rv] tyI)), (6, .is (.int .i64 s.1))])
    (fun s => 1 ≤ s.1 ∧ s.1 ≤ l.length ∧ s.2.cs = cls (l.take s.1)) (fun s => l.length - s.1) (1, x0) ⟨Nat.le_refl _, hl0, hcl0⟩ ⟨rfl, rfl, rfl, rfl, rfl, trivial⟩ ?_
  rintro ⟨i, m⟩ ⟨h1, h2, h3⟩
  dsimp only at h1 h2 h3 ⊢
  by_cases hlt : i < l.length
  · obtain ⟨x, hx⟩ := get_some hlt
    have hc := it_at hx
    have ht := cls_take hx
    by_cases hm : x.cs < m.cs
    · rw [if_pos (by omega)] at ht
      have hcI : cI x.cs m.cs = -1 := if_pos hm
      refine ze ?_; refine ze ?_; refine zb (id := 5) ?_; refine Zs1 ?_; refine Zs37 ?_; refine Zs31 ?_; refine Zs11 ?_; refine zd ?_; refine zf ?_; refine zw rfl ?_; refine zt ?_; refine zf ?_; refine ze ?_; refine zy ?_; refine ze ?_; refine zz (id := 7) [] mixed (by kernel_rfl) ?_; refine Zs7 ?_; refine Zs58 ?_; refine Zs7 ?_; refine z8 (qb L _ rfl rfl rfl rfl rfl rfl rfl (by first | omega | decide) (by assumption)) rfl ?_; refine z8 (y5 L (vs := [_, _, _, _, _]) rfl rfl rfl rfl rfl ⟨_, rfl⟩) rfl ?_; refine z8 (zn L (vs := [_, _, _, _, _]) (qe rfl) rfl rfl rfl rfl ⟨_, rfl⟩) rfl ?_; refine z8 (zo L rfl rfl (zg rfl) rfl rfl rfl (fun u H hH _ _ => hcI ▸ class1_ret x m hH)) rfl ?_; refine Zs67 ?_; refine qk ?_; refine zf ?_; refine zw rfl ?_; refine zb (id := 8) ?_; refine Zs37 ?_; refine Zs1 ?_; refine z7 (qb L _ rfl rfl rfl rfl rfl rfl rfl (by first | omega | decide) (by assumption)) rfl ?_; refine z7 (y5 L (vs := [_, _, _, _, _]) rfl rfl rfl rfl rfl ⟨_, rfl⟩) rfl ?_; refine Zs14 ?_; refine zd ?_; refine qm ?_; refine zf ?_; refine zb (id := 6) ?_; refine Zs1 ?_; refine Zs13 ?_; refine Zs2 ?_; refine zd ?_
      exact y1 (x := (i, m)) (i + 1, x) ⟨by dsimp only; omega, hlt, ht.symm⟩ (by dsimp only; omega) ⟨rfl, rfl, rfl, rfl, rfl, trivial⟩
    · rw [if_neg (by omega)] at ht
      have hcI : 0 ≤ cI x.cs m.cs := by unfold cI; rw [if_neg hm]; split <;> omega
      refine ze ?_; refine ze ?_; refine zb (id := 5) ?_; refine Zs1 ?_; refine Zs37 ?_; refine Zs31 ?_; refine Zs11 ?_; refine zd ?_; refine zf ?_; refine zw rfl ?_; refine zt ?_; refine zf ?_; refine ze ?_; refine zy ?_; refine ze ?_; refine zz (id := 7) [] mixed (by kernel_rfl) ?_; refine Zs7 ?_; refine Zs58 ?_; refine Zs7 ?_; refine z8 (qb L _ rfl rfl rfl rfl rfl rfl rfl (by first | omega | decide) (by assumption)) rfl ?_; refine z8 (y5 L (vs := [_, _, _, _, _]) rfl rfl rfl rfl rfl ⟨_, rfl⟩) rfl ?_; refine z8 (zn L (vs := [_, _, _, _, _]) (qe rfl) rfl rfl rfl rfl ⟨_, rfl⟩) rfl ?_; refine z8 (zo L rfl rfl (zg rfl) rfl rfl rfl (fun u H hH _ _ => class1_ret x m hH)) rfl ?_; refine Zs78 ?_; refine qk ?_; refine zf ?_; refine zm rfl ?_; refine zt ?_; refine qm ?_; refine zf ?_; refine zb (id := 6) ?_; refine Zs1 ?_; refine Zs13 ?_; refine Zs2 ?_; refine zd ?_
      
      exact y1 (x := (i, m)) (i + 1, m) ⟨by dsimp only; omega, hlt, h3.trans ht.symm⟩ (by dsimp only; omega) ⟨rfl, rfl, rfl, rfl, rfl, trivial⟩
  · obtain rfl : i = l.length := by omega
    rw [List.take_length] at h3
    refine ze ?_; refine ze ?_; refine zb (id := 5) ?_; refine Zs1 ?_; refine Zs37 ?_; refine Zs31 ?_; refine Zs8 ?_; refine zd ?_; refine zf ?_; refine zm rfl ?_; refine y7 ?_; refine qg ?_; refine qg ?_; refine y6 ?_; refine zf ?_; refine ze ?_; refine zb (id := 9) ?_; refine z7 (zn L (vs := [_, _, _, _, _]) (qe rfl) rfl rfl rfl rfl ⟨_, rfl⟩) rfl ?_; refine Zs14 ?_; refine zd ?_; refine zf ?_
    refine qn L (rs := [.cell 4 33]) rfl (fun _ _ h => h) Since.refl fun u H hH hle => ?_
    refine resK_cellA (qe rfl) rfl rfl ?_
    exact ⟨m, rfl, h3⟩
theorem class_ret {l : List It} {fu : Bool} (hlm : l.length ≤ 4611686018427387904) (hl0 : 0 < l.length) (hle : ∀ x ∈ l, x.cs ≤ 7) {v : Value} {w : World} {B : Heap} (hv : IsV l fu v B) (hB : B.Le (hp w)) :
    Ret Try.prog 49 [v] w B (fun r _ => r = .int .i64 (cls l)) := by
  refine ya Try.func49 rfl Try.ntmps49 (Nat.le_of_ble_eq_true rfl) hB ?_
  refine ze ?_; refine zb (id := 0) ?_; refine Zs2 ?_; refine zd ?_; refine zf ?_; refine ze ?_; refine zb (id := 1) ?_; refine Zs1 ?_; refine z7 (ok_call (φ := fun r _ => ∃ x : It, r = itv x ∧ x.cs = cls l) L rfl rfl (zg rfl) rfl rfl rfl (fun _ _ _ h _ => h) (fun u H hH hle' _ => minI_ret hlm hl0 hle (hv.le hle') hH)) rfl ?_; refine vo_opn 4 rfl fun y H1 hs1 hy => ?_; obtain ⟨x, rfl, hxc⟩ := hy; refine z7 (ok_field1 (off := 3) (s := 1) rfl rfl rfl (by kernel_rfl) rfl) rfl ?_; refine Zs2 ?_; refine zd ?_; refine zf ?_
  rw [hxc]
  refine qn L (rs := [.tmp 2]) rfl (fun _ _ h => h) hs1 fun u H hH hle => ?_
  rfl
abbrev fvV : Value := .func (.func 48) #[] #[]
theorem check1_ret (x : It) {b : Bool} (hb : itV x = b) {w : World} {B : Heap} (hB : B.Le (hp w)) : Ret Try.prog 48 [itv x] w B (fun v _ => v = .bool (!b)) := by
  refine ya Try.func48 rfl Try.ntmps48 (Nat.le_of_ble_eq_true rfl) hB ?_
  refine ze ?_; refine zb (id := 0) ?_; refine Zs21 ?_; refine Zs2 ?_; refine zd ?_; refine zf ?_; refine ze ?_; refine zb (id := 1) ?_; refine z7 (zn L (vs := [_, _, _, _, _]) (zl rfl) rfl rfl rfl rfl ⟨_, rfl⟩) rfl ?_; refine z7 (zo L rfl rfl (zg rfl) rfl rfl rfl (fun u H hH _ _ => valid_ret hb hH)) rfl ?_; refine Zs49 ?_; refine Zs2 ?_; refine zd ?_; refine zf ?_
  refine qn L (rs := [.tmp 2]) rfl (fun _ _ h => h) Since.refl fun u H hH hle => ?_
  rfl
theorem idxI_ret {l : List It} {fu : Bool} (hlm : l.length ≤ 4611686018427387904) {v : Value} {w : World} {B : Heap} (hv : IsV l fu v B) (hB : B.Le (hp w)) :
    Ret Try.prog 73 [v, fvV] w B (fun r _ => r = .int .i64 (idxZ (l.findIdx? fun x => !itV x))) := by
  refine ya Try.func73 rfl Try.ntmps73 (Nat.le_of_ble_eq_true rfl) hB ?_
  refine V_seen 0 (IsV l fu) rfl SlV.mono hv ?_
  refine ze ?_; refine zb (id := 0) ?_; refine Zs2 ?_; refine zd ?_; refine zf ?_; refine ze ?_; refine ze ?_; refine zb (id := 1) ?_; refine Zs37 ?_; refine Zs31 ?_; refine Zs1 ?_; refine zd ?_; refine zf ?_; refine zy ?_
  refine V_loop (fun i : Nat => [(0, .sat (IsV l fu)), (1, .is fvV), (7, .is (.int .i64 l.length)), (8, .is (.int .i64 i))]) (fun i => i ≤ l.length ∧ ∀ (j : Nat) y, j < i → l[j]? = some y → (!itV y) = false) (fun i => l.length - i) 0 ⟨Nat.zero_le _, fun j _ h => absurd h (Nat.not_lt_zero _)⟩ ⟨rfl, rfl, rfl, rfl, trivial⟩ ?_
  rintro i ⟨h1, h2⟩
  by_cases hlt : i < l.length
  · obtain ⟨x, hx⟩ := get_some hlt
    have hc := it_at hx
    cases hb : itV x with
    | false =>
      rw [idxh hx (by rw [hb]; rfl) h2]
      refine ze ?_; refine zb (id := 2) ?_; refine Zs11 ?_; refine zd ?_; refine zf ?_; refine ze ?_; refine zw rfl ?_; refine zt ?_; refine zf ?_; refine ze ?_; refine zy ?_; refine ze ?_; refine zb (id := 3) ?_; refine Zs1 ?_; refine Zs2 ?_; refine zd ?_; refine zf ?_; refine ze ?_; refine zb (id := 4) ?_; refine Zs1 ?_; refine Zs37 ?_; refine Zs1 ?_; refine z7 (qb L _ rfl rfl rfl rfl rfl rfl rfl (by first | omega | decide) (by assumption)) rfl ?_; refine z7 (y5 L (vs := [_, _, _, _, _]) rfl rfl rfl rfl rfl ⟨_, rfl⟩) rfl ?_; refine z7 (zo L rfl rfl (zg rfl) rfl rfl rfl (fun u H hH _ _ => check1_ret x hb hH)) rfl ?_; refine zd ?_; refine zf ?_; refine zw rfl ?_; refine ze ?_; refine zb (id := 5) ?_; refine Zs1 ?_; refine Zs2 ?_; refine zd ?_; refine zf ?_
      refine qn L (rs := [.tmp 4]) rfl (fun _ _ h => h) Since.refl fun u H hH hle => ?_
      rfl
    | true =>
      refine ze ?_; refine zb (id := 2) ?_; refine Zs11 ?_; refine zd ?_; refine zf ?_; refine ze ?_; refine zw rfl ?_; refine zt ?_; refine zf ?_; refine ze ?_; refine zy ?_; refine ze ?_; refine zb (id := 3) ?_; refine Zs1 ?_; refine Zs2 ?_; refine zd ?_; refine zf ?_; refine ze ?_; refine zb (id := 4) ?_; refine Zs1 ?_; refine Zs37 ?_; refine Zs1 ?_; refine z7 (qb L _ rfl rfl rfl rfl rfl rfl rfl (by first | omega | decide) (by assumption)) rfl ?_; refine z7 (y5 L (vs := [_, _, _, _, _]) rfl rfl rfl rfl rfl ⟨_, rfl⟩) rfl ?_; refine z7 (zo L rfl rfl (zg rfl) rfl rfl rfl (fun u H hH _ _ => check1_ret x hb hH)) rfl ?_; refine zd ?_; refine zf ?_; refine zm rfl ?_; refine zt ?_; refine qm ?_; refine zf ?_; refine zb (id := 6) ?_; refine Zs13 ?_; refine Zs1 ?_; refine zd ?_
      exact y1 (x := i) (i + 1) ⟨hlt, fun j y hj hy => by
        rcases Nat.lt_or_ge j i with h | h
        · exact h2 j y h hy
        · have : j = i := by omega
          subst this; rw [hx] at hy; cases hy; rw [hb]; rfl⟩ (by omega) ⟨rfl, rfl, rfl, rfl, trivial⟩
  · rw [idxn (fun j y hy => h2 j y (by have := get_lt hy; omega) hy)]
    refine ze ?_; refine zb (id := 2) ?_; refine Zs8 ?_; refine zd ?_; refine zf ?_; refine ze ?_; refine zm rfl ?_; refine y7 ?_; refine qg ?_; refine qg ?_; refine y6 ?_; refine zf ?_; refine ze ?_; refine zb (id := 7) ?_; refine Zs2 ?_; refine zd ?_; refine zf ?_
    refine qn L (rs := [.tmp 4]) rfl (fun _ _ h => h) Since.refl fun u H hH hle => ?_
    rfl
theorem contI_ret {l : List It} {fu : Bool} (hlm : l.length ≤ 4611686018427387904) {b : Bool} (hb : l.all itV = !b) {v : Value} {w : World} {B : Heap} (hv : IsV l fu v B) (hB : B.Le (hp w)) :
    Ret Try.prog 47 [v, fvV] w B (fun r _ => r = .bool b) := by
  have hz : b = decide (0 ≤ idxZ (l.findIdx? fun x => !itV x)) := by
    cases hf : l.findIdx? (fun x => !itV x) with
    | none =>
      rw [List.findIdx?_eq_none_iff] at hf
      have : l.all itV = true := List.all_eq_true.2 fun x hx => by simpa using hf x hx
      rw [this] at hb
      cases b <;> first | rfl | cases hb
    | some i =>
      rw [List.findIdx?_eq_some_iff_getElem] at hf
      obtain ⟨hi, hx, _⟩ := hf
      cases hall : l.all itV with
      | true => have := List.all_eq_true.1 hall _ (List.getElem_mem hi); rw [this] at hx; cases hx
      | false =>
        rw [hall] at hb
        have h0 : decide (0 ≤ idxZ (some i)) = true := decide_eq_true (Int.natCast_nonneg _)
        rw [h0]
        cases b <;> first | rfl | cases hb
  generalize hJ : idxZ (l.findIdx? fun x => !itV x) = J at *
  subst hz
  refine ya Try.func47 rfl Try.ntmps47 (Nat.le_of_ble_eq_true rfl) hB ?_
  by_cases h0 : 0 ≤ J
  · rw [decide_eq_true h0]
    refine ze ?_; refine zb (id := 0) ?_; refine Zs2 ?_; refine zd ?_; refine zf ?_; refine ze ?_; refine zb (id := 1) ?_; refine Zs1 ?_; refine Zs1 ?_; refine z7 (zo L rfl rfl (zg rfl) rfl rfl rfl (fun u H hH hle _ => hJ ▸ idxI_ret hlm (hv.le hle) hH)) rfl ?_; refine Zs30 ?_; refine Zs2 ?_; refine zd ?_; refine zf ?_
    refine qn L (rs := [.tmp 4]) rfl (fun _ _ h => h) Since.refl fun u H hH hle => ?_
    rfl
  · rw [decide_eq_false h0]
    refine ze ?_; refine zb (id := 0) ?_; refine Zs2 ?_; refine zd ?_; refine zf ?_; refine ze ?_; refine zb (id := 1) ?_; refine Zs1 ?_; refine Zs1 ?_; refine z7 (zo L rfl rfl (zg rfl) rfl rfl rfl (fun u H hH hle _ => hJ ▸ idxI_ret hlm (hv.le hle) hH)) rfl ?_; refine Zs22 ?_; refine Zs2 ?_; refine zd ?_; refine zf ?_
    refine qn L (rs := [.tmp 4]) rfl (fun _ _ h => h) Since.refl fun u H hH hle => ?_
    rfl
end Go.V.L39
namespace Go.V.L39
open Go.Proofs Go.RowKit Go.V
section
variable {P : Program} {F : Fr} {B : Heap} {n : Nat} {O : Boxes} {ops : Array Oper} {ex : Exs} {κ : Kap} {Q : Exit → Act → World → Prop} {o : Oper} {os : List Oper} {d : Nat} {k : Kn}
theorem _root_.Go.V.Zs12 (h : Par P F B n O ops ex (upd κ d k) os Q) (s : StepOK P F B n ops O κ o d k := by exact zh rfl (zg rfl) rfl) (v : vd o = some d := by rfl) : Par P F B n O ops ex κ (o :: os) Q := z8 s v h
theorem _root_.Go.V.Zs28 (h : Par P F B n O ops ex (upd κ d k) os Q) (s : StepOK P F B n ops O κ o d k := by exact zk rfl rfl rfl rfl) (v : vd o = some d := by rfl) : Par P F B n O ops ex κ (o :: os) Q := z8 s v h
theorem _root_.Go.V.Zs29 (h : Par P F B n O ops ex (upd κ d k) os Q) (s : StepOK P F B n ops O κ o d k := by exact StepOK.seeV (zj L (zl rfl) rfl rfl rfl rfl) (by assumption)) (v : vd o = some d := by rfl) : Par P F B n O ops ex κ (o :: os) Q := z8 s v h
theorem _root_.Go.V.Zs32 (h : Par P F B n O ops ex (upd κ d k) os Q) (s : StepOK P F B n ops O κ o d k := by exact zi L rfl rfl rfl rfl) (v : vd o = some d := by rfl) : Par P F B n O ops ex κ (o :: os) Q := z8 s v h
theorem _root_.Go.V.Zs39 (h : Par P F B n O ops ex (upd κ d k) os Q) (s : StepOK P F B n ops O κ o d k := by exact zj L (zl rfl) rfl rfl rfl rfl) (v : vd o = some d := by rfl) : Par P F B n O ops ex κ (o :: os) Q := z8 s v h
theorem _root_.Go.V.Zs40 (h : Par P F B n O ops ex (upd κ d k) os Q) (s : StepOK P F B n ops O κ o d k := by exact qf rfl rfl rfl rfl (decide_eq_false (by omega))) (v : vd o = some d := by rfl) : Par P F B n O ops ex κ (o :: os) Q := z8 s v h
theorem _root_.Go.V.Zs44 (h : Par P F B n O ops ex (upd κ d k) os Q) (s : StepOK P F B n ops O κ o d k := by exact y4 rfl rfl rfl rfl (by assumption)) (v : vd o = some d := by rfl) : Par P F B n O ops ex κ (o :: os) Q := z8 s v h
theorem _root_.Go.V.Zs51 (h : Par P F B n O ops ex (upd κ d k) os Q) (s : StepOK P F B n ops O κ o d k := by exact qw L rfl rfl rfl rfl rfl) (v : vd o = some d := by rfl) : Par P F B n O ops ex κ (o :: os) Q := z8 s v h
theorem _root_.Go.V.Zs52 (h : Par P F B n O ops ex (upd κ d k) os Q) (s : StepOK P F B n ops O κ o d k := by exact ok_leq rfl rfl rfl rfl (decide_eq_true (by omega))) (v : vd o = some d := by rfl) : Par P F B n O ops ex κ (o :: os) Q := z8 s v h
theorem _root_.Go.V.Zs53 (h : Par P F B n O ops ex (upd κ d k) os Q) (s : StepOK P F B n ops O κ o d k := by exact qv rfl rfl rfl rfl (decide_eq_true (by omega))) (v : vd o = some d := by rfl) : Par P F B n O ops ex κ (o :: os) Q := z8 s v h
theorem _root_.Go.V.Zs55 (h : Par P F B n O ops ex (upd κ d k) os Q) (s : StepOK P F B n ops O κ o d k := by exact qq L rfl rfl rfl rfl) (v : vd o = some d := by rfl) : Par P F B n O ops ex κ (o :: os) Q := z8 s v h
theorem _root_.Go.V.Zs62 (h : Par P F B n O ops ex (upd κ d k) os Q) (s : StepOK P F B n ops O κ o d k := by exact qv rfl rfl rfl rfl (decide_eq_false (by omega))) (v : vd o = some d := by rfl) : Par P F B n O ops ex κ (o :: os) Q := z8 s v h
theorem _root_.Go.V.Zs63 (h : Par P F B n O ops ex (upd κ d k) os Q) (s : StepOK P F B n ops O κ o d k := by exact ok_leq rfl rfl rfl rfl (decide_eq_false (by omega))) (v : vd o = some d := by rfl) : Par P F B n O ops ex κ (o :: os) Q := z8 s v h
theorem _root_.Go.V.Zs79 (h : Par P F B n O ops ex (upd κ d k) os Q) (s : StepOK P F B n ops O κ o d k := by exact qf rfl rfl rfl rfl (decide_eq_true (by omega))) (v : vd o = some d := by rfl) : Par P F B n O ops ex κ (o :: os) Q := z8 s v h
end
theorem chk_bad {t : Tb} (hnx : 0 ≤ t.nx ∧ t.nx ≤ 2147483647) (hit : ¬ 1024 < itsN t.fl) {i : Nat} {f : Fl} (hli : t.fl[i]? = some f) (hok : flsE t.nx [] (t.fl.take i) = 0) {e : Int} (he : flE t.nx (t.fl.take i) f = e) (h0 : e ≠ 0) : chkE t = e := by
  unfold chkE
  rw [if_neg (by omega), if_neg hit]
  have hl : t.fl = t.fl.take i ++ f :: t.fl.drop (i + 1) := by
    conv => lhs; rw [← List.take_append_drop i t.fl]
    congr 1
    have hi : i < t.fl.length := get_lt hli
    rw [List.getElem?_eq_getElem hi] at hli
    cases hli
    exact List.drop_eq_getElem_cons hi
  rw [hl, flsE_bad t.nx _ [] _ f hok (by rw [List.nil_append, he]; exact h0), List.nil_append, he]
theorem chk_good {t : Tb} {i : Nat} {f : Fl} (hli : t.fl[i]? = some f) (hok : flsE t.nx [] (t.fl.take i) = 0) (he : flE t.nx (t.fl.take i) f = 0) : flsE t.nx [] (t.fl.take (i + 1)) = 0 := by
  rw [take_snoc hli]
  exact flsE_good t.nx _ [] f hok (by rw [List.nil_append]; exact he)
section
variable {nx : Int} {pre : List Fl} {f : Fl}
theorem flE_rng (h : rngB nx f = false) : flE nx pre f = 4 := if_pos h
theorem flE_ord (h1 : rngB nx f = true) (h : ordB pre f = false) : flE nx pre f = 18 := by unfold flE; rw [if_neg (by simp [h1]), if_pos h]
theorem flE_qu (h1 : rngB nx f = true) (h2 : ordB pre f = true) (h : quE f.q ≠ 0) : flE nx pre f = quE f.q := by unfold flE; rw [if_neg (by simp [h1]), if_neg (by simp [h2]), if_pos h]
theorem flE_em (h1 : rngB nx f = true) (h2 : ordB pre f = true) (h3 : quE f.q = 0) (h : f.is = []) : flE nx pre f = 20 := by unfold flE; rw [if_neg (by simp [h1]), if_neg (by simp [h2]), if_neg (by simp [h3]), if_pos h]
theorem flE_mem (h1 : rngB nx f = true) (h2 : ordB pre f = true) (h3 : quE f.q = 0) (h4 : f.is ≠ []) (h : memB f = false) : flE nx pre f = 4 := by unfold flE; rw [if_neg (by simp [h1]), if_neg (by simp [h2]), if_neg (by simp [h3]), if_neg h4, if_pos h]
theorem flE_tw (h1 : rngB nx f = true) (h2 : ordB pre f = true) (h3 : quE f.q = 0) (h4 : f.is ≠ []) (h5 : memB f = true) (h : twB pre f = true) : flE nx pre f = 7 := by unfold flE; rw [if_neg (by simp [h1]), if_neg (by simp [h2]), if_neg (by simp [h3]), if_neg h4, if_neg (by simp [h5]), if_pos h]
theorem flE_ok (h1 : rngB nx f = true) (h2 : ordB pre f = true) (h3 : quE f.q = 0) (h4 : f.is ≠ []) (h5 : memB f = true) (h : twB pre f = false) : flE nx pre f = 0 := by unfold flE; rw [if_neg (by simp [h1]), if_neg (by simp [h2]), if_neg (by simp [h3]), if_neg h4, if_neg (by simp [h5]), if_neg (by simp [h])]
end
theorem ord_zero {l : List Fl} {f : Fl} : ordB (l.take 0) f = true := rfl
theorem ord_at {l : List Fl} {i : Nat} {f g : Fl} (hi : 0 < i) (hg : l[i - 1]? = some g) : ordB (l.take i) f = decide (g.id < f.id ∧ g.si ≤ f.si) := by
  obtain ⟨j, rfl⟩ : ∃ j, i = j + 1 := ⟨i - 1, by omega⟩
  rw [Nat.add_sub_cancel] at hg
  rw [take_snoc hg]
  unfold ordB
  rw [List.getLast?_append]
  rfl
theorem fls_mem {l : List Fl} {i : Nat} {f : Fl} (h : l[i]? = some f) : f ∈ l := List.mem_of_getElem? h
def qkc (k : Int × Qu) : List Value := .int .u64 k.1 :: quc k.2
abbrev tyK : TypeId := 118
theorem ba_self (a : ByteArray) : (a == a) = true := by
  first
  | exact beq_self_eq_true a
  | (show (a.data == a.data) = true; simp)
theorem eqK (a b : Int × Qu) : eqCs [1, 1, 0, 0, 0, 0, 0] (qkc a) (qkc b) = some (decide (a = b)) := by
  unfold qkc
  rw [eqCs, eqQ]
  simp only [eqC, if_true]
  congr 1
  rw [Bool.eq_iff_iff]
  simp only [Bool.and_eq_true, decide_eq_true_eq]
  exact ⟨fun h => Prod.ext h.1 h.2, fun h => ⟨congrArg Prod.fst h, congrArg Prod.snd h⟩⟩
theorem mpq_key : KeyT Try.prog tyK [1, 1, 0, 0, 0, 0, 0] qkc := ⟨eq118, fun _ => rfl, eqK, fun a => by simp [qkc, quc, Instr.sameBits, ba_self]⟩
theorem mpq_und : Try.prog.underlying 113 = some (.map tyK 4) := by kernel_rfl
theorem mpb_zero (w : World) : (zeroValue 4).run Try.prog w = .ok (.bool false) w := Try.zeroValue4 w
def SeenQ (l : List Fl) (a : List ((Int × Qu) × Bool)) : Prop := ∀ k, mget k a = if l.any (fun g => decide (g.rv = k.1 ∧ g.q = k.2)) = true then some true else none
theorem seen_nil : SeenQ [] [] := fun _ => rfl
theorem seen_get {l : List Fl} {a : List ((Int × Qu) × Bool)} (h : SeenQ l a) (f : Fl) : (mget (f.rv, f.q) a).elim (.bool false) Value.bool = .bool (twB l f) := by
  rw [h]
  unfold twB
  dsimp only
  split
  · rename_i h1; rw [h1]; rfl
  · rename_i h1; rw [Bool.eq_false_iff.2 h1]; rfl
theorem seen_put {l : List Fl} {a : List ((Int × Qu) × Bool)} (h : SeenQ l a) (f : Fl) : SeenQ (l ++ [f]) (mput (f.rv, f.q) true a) := fun k => by
  rw [mget_put, h, List.any_append]
  by_cases hk : k = (f.rv, f.q)
  · subst hk; simp
  · rw [if_neg hk]
    have : ([f].any fun g => decide (g.rv = k.1 ∧ g.q = k.2)) = false := by
      simp only [List.any_cons, List.any_nil, Bool.or_false, decide_eq_false_iff_not]
      rintro ⟨h1, h2⟩
      exact hk (Prod.ext h1.symm h2.symm)
    rw [this, Bool.or_false]
theorem memB_eq {f : Fl} : memB f = (f.is.all itV && decide (f.is.head?.map It.cl = some f.cl) && decide (f.cs = cls f.is)) := rfl
attribute [local irreducible] V N X VO Par StepOK Has Ret RetL RetO RetT RetG Src
set_option maxHeartbeats 8000000 in
set_option maxRecDepth 20000 in
theorem check_ret {t : Tb} {zs : List (Fl × Value)} (hz : zs.map Prod.fst = t.fl) {fu fi : Bool} {s : Value} {w : World} {B : Heap} (hs : FsB zs fu fi s B) (hZ : ∀ f ∈ t.fl, QuZ f.q) (hn : itsN t.fl ≤ 4611686018427387904) {e : Int} (he : chkE t = e) (hB : B.Le (hp w)) :
    Ret Try.prog 14 [tbv t.nx s] w B (fun v _ => v = .int .i64 e) := by
  have hsl := hs.sl
  have hlen := fls_len hz
  have hzl := hs.ln
  refine ya Try.func14 rfl Try.ntmps14 (Nat.le_of_ble_eq_true rfl) hB ?_
  by_cases hnx : 0 ≤ t.nx ∧ t.nx ≤ 2147483647
  · by_cases hit : 1024 < itsN t.fl
    · have : e = 3 := by rw [← he]; unfold chkE; rw [if_neg (by omega), if_pos hit]
      subst this
      refine ze ?_; refine zb (id := 0) ?_; refine Zs21 ?_; refine Zs2 ?_; refine zd ?_; refine zf ?_; refine ze ?_; refine ze ?_; refine zb (id := 1) ?_; refine Zs5 ?_; refine Zs4 ?_; refine z7 (zo L rfl rfl (zg rfl) rfl rfl rfl (fun u H hH _ _ => withinT (by omega) (by omega) hH)) rfl ?_; refine Zs49 ?_; refine zd ?_; refine zf ?_; refine zm rfl ?_; refine zt ?_; refine zf ?_; refine ze ?_; refine ze ?_; refine zb (id := 3) ?_; refine z7 (zn L (vs := [_, _]) (zl rfl) rfl rfl rfl rfl ⟨_, rfl⟩) rfl ?_; refine z7 (zo L rfl rfl (zg rfl) rfl rfl rfl (fun u H hH hle _ => items_ret hz (hs.le hle) hn hH)) rfl ?_; refine Zs23 ?_; refine zd ?_; refine zf ?_; refine zw rfl ?_; refine ze ?_; refine zb (id := 4) ?_; refine Zs2 ?_; refine zd ?_; refine zf ?_
      refine qn L (rs := [.tmp 2]) rfl (fun _ _ h => h) Since.refl fun u H hH hle => ?_
      rfl
    · refine ze ?_; refine zb (id := 0) ?_; refine Zs21 ?_; refine Zs2 ?_; refine zd ?_; refine zf ?_; refine ze ?_; refine ze ?_; refine zb (id := 1) ?_; refine Zs5 ?_; refine Zs4 ?_; refine z7 (zo L rfl rfl (zg rfl) rfl rfl rfl (fun u H hH _ _ => withinT (by omega) (by omega) hH)) rfl ?_; refine Zs49 ?_; refine zd ?_; refine zf ?_; refine zm rfl ?_; refine zt ?_; refine zf ?_; refine ze ?_; refine ze ?_; refine zb (id := 3) ?_; refine z7 (zn L (vs := [_, _]) (zl rfl) rfl rfl rfl rfl ⟨_, rfl⟩) rfl ?_; refine z7 (zo L rfl rfl (zg rfl) rfl rfl rfl (fun u H hH hle _ => items_ret hz (hs.le hle) hn hH)) rfl ?_; refine Zs16 ?_; refine zd ?_; refine zf ?_; refine zm rfl ?_; refine zt ?_; refine zf ?_; refine ze ?_; refine zb (id := 5) ?_; refine z7 (ok_makeMap (K := Int × Qu) (Y := Bool) qkc Value.bool rfl rfl) rfl ?_; refine qh (ok_moveO (.inr rfl) rfl rfl rfl rfl) ?_; refine zd ?_; refine zf ?_; refine ze ?_; refine ze ?_
      refine V_holdM 3 900 rfl fun b => ?_
      refine zb (id := 6) ?_; refine Zs5 ?_; refine Zs17 ?_; refine Zs31 ?_; refine Zs1 ?_; refine zd ?_; refine zf ?_; refine zy ?_
      refine V_loop (fun x : Nat × List ((Int × Qu) × Bool) => [(1, .sat (At [.int .i64 t.nx, s] tyT 0)), (3, .is (.map (some b))), (17, .sat (SlV tyF 14 (zs.flatMap flc) zs.length fu)), (18, .is (.int .i64 zs.length)), (19, .is (.int .i64 x.1)), (900, .own (MapH b qkc Value.bool x.2))]) (fun x => x.1 ≤ zs.length ∧ flsE t.nx [] (t.fl.take x.1) = 0 ∧ SeenQ (t.fl.take x.1) x.2) (fun x => zs.length - x.1) (0, []) ⟨Nat.zero_le _, rfl, seen_nil⟩ ⟨rfl, rfl, rfl, rfl, rfl, rfl, trivial⟩ ?_
      rintro ⟨i, a⟩ ⟨hi, hok, hsn⟩
      dsimp only at hi hok hsn ⊢
      by_cases hlt : i < zs.length
      · obtain ⟨f, p, c, hzi, hli, hzv, hil, hc⟩ := hs.at hz hlt
        have hQ := hZ f (fls_mem hli)
        refine ze ?_; refine zb (id := 7) ?_; refine Zs11 ?_; refine zd ?_; refine zf ?_; refine ze ?_; refine zw rfl ?_; refine zt ?_; refine zf ?_; refine ze ?_; refine zy ?_; refine ze ?_; refine zb (id := 8) ?_; refine Zs1 ?_; refine z7 (qb L _ rfl rfl rfl rfl rfl rfl rfl (by first | omega | decide) (by assumption)) rfl ?_; refine z7 (y5 L (vs := [_, _, _, _, _, _, _, _, _, _, _, _, _, _]) rfl rfl rfl rfl rfl ⟨_, rfl⟩) rfl ?_; refine Zs24 ?_; refine Zs2 ?_; refine Zs14 ?_; refine zd ?_; refine zf ?_; refine ze ?_; refine ze ?_
        refine V_pub 5 rfl ?_
        cases hr : rngB t.nx f with
        | false =>
          have hr' := hr
          unfold rngB at hr'
          rw [decide_eq_false_iff_not] at hr'
          by_cases c1 : 0 ≤ f.id
          · by_cases c2 : f.id < t.nx
            · by_cases c3 : f.rv ≠ 0
              · by_cases c4 : 0 ≤ f.si ∧ f.si ≤ 4611686018427387904
                · by_cases c5 : 0 ≤ f.ve ∧ f.ve ≤ 1048576
                  · have c6 : ¬ (0 ≤ f.sp ∧ f.sp ≤ 1048576) := by omega
                    rw [← he, chk_bad hnx hit hli hok (flE_rng hr) (by first | decide | assumption)]
                    refine zb (id := 9) ?_; refine Zs5 ?_; refine Zs4 ?_; refine Zs8 ?_; refine Zs1 ?_; refine Zs5 ?_; refine Zs4 ?_; refine Zs5 ?_; refine Zs4 ?_; refine Zs22 ?_; refine Zs6 ?_; refine Zs1 ?_; refine Zs5 ?_; refine Zs4 ?_; refine Zs9 ?_; refine Zs6 ?_; refine Zs1 ?_; refine Zs5 ?_; refine Zs4 ?_; refine z7 (zo L rfl rfl (zg rfl) rfl rfl rfl (fun u H hH _ _ => within64T (by omega) (by omega) hH)) rfl ?_; refine Zs49 ?_; refine Zs6 ?_; refine Zs1 ?_; refine Zs5 ?_; refine Zs4 ?_; refine z7 (zo L rfl rfl (zg rfl) rfl rfl rfl (fun u H hH _ _ => withinT (by omega) (by omega) hH)) rfl ?_; refine Zs49 ?_; refine Zs6 ?_; refine Zs1 ?_; refine Zs5 ?_; refine Zs4 ?_; refine z7 (zo L rfl rfl (zg rfl) rfl rfl rfl (fun u H hH _ _ => withinF (by omega) hH)) rfl ?_; refine Zs49 ?_; refine Zs6 ?_; refine zd ?_; refine zf ?_; refine zw rfl ?_; refine ze ?_; refine zb (id := 10) ?_; refine Zs2 ?_; refine zd ?_; refine zf ?_
                    refine qn L (rs := [.tmp 2]) rfl (fun _ _ h => h) Since.refl fun u H hH hle => ?_
                    rfl
                  · rw [← he, chk_bad hnx hit hli hok (flE_rng hr) (by first | decide | assumption)]
                    refine zb (id := 9) ?_; refine Zs5 ?_; refine Zs4 ?_; refine Zs8 ?_; refine Zs1 ?_; refine Zs5 ?_; refine Zs4 ?_; refine Zs5 ?_; refine Zs4 ?_; refine Zs22 ?_; refine Zs6 ?_; refine Zs1 ?_; refine Zs5 ?_; refine Zs4 ?_; refine Zs9 ?_; refine Zs6 ?_; refine Zs1 ?_; refine Zs5 ?_; refine Zs4 ?_; refine z7 (zo L rfl rfl (zg rfl) rfl rfl rfl (fun u H hH _ _ => within64T (by omega) (by omega) hH)) rfl ?_; refine Zs49 ?_; refine Zs6 ?_; refine Zs1 ?_; refine Zs5 ?_; refine Zs4 ?_; refine z7 (zo L rfl rfl (zg rfl) rfl rfl rfl (fun u H hH _ _ => withinF (by omega) hH)) rfl ?_; refine Zs49 ?_; refine Zs6 ?_; refine Zs1 ?_; refine Zs3 ?_; refine Zs3 ?_; refine Zs3 ?_; refine Zs3 ?_; refine Zs6 ?_; refine zd ?_; refine zf ?_; refine zw rfl ?_; refine ze ?_; refine zb (id := 10) ?_; refine Zs2 ?_; refine zd ?_; refine zf ?_
                    refine qn L (rs := [.tmp 2]) rfl (fun _ _ h => h) Since.refl fun u H hH hle => ?_
                    rfl
                · rw [← he, chk_bad hnx hit hli hok (flE_rng hr) (by first | decide | assumption)]
                  refine zb (id := 9) ?_; refine Zs5 ?_; refine Zs4 ?_; refine Zs8 ?_; refine Zs1 ?_; refine Zs5 ?_; refine Zs4 ?_; refine Zs5 ?_; refine Zs4 ?_; refine Zs22 ?_; refine Zs6 ?_; refine Zs1 ?_; refine Zs5 ?_; refine Zs4 ?_; refine Zs9 ?_; refine Zs6 ?_; refine Zs1 ?_; refine Zs5 ?_; refine Zs4 ?_; refine z7 (zo L rfl rfl (zg rfl) rfl rfl rfl (fun u H hH _ _ => within64F (by omega) hH)) rfl ?_; refine Zs49 ?_; refine Zs6 ?_; refine Zs1 ?_; refine Zs3 ?_; refine Zs3 ?_; refine Zs3 ?_; refine Zs3 ?_; refine Zs6 ?_; refine Zs1 ?_; refine Zs3 ?_; refine Zs3 ?_; refine Zs3 ?_; refine Zs3 ?_; refine Zs6 ?_; refine zd ?_; refine zf ?_; refine zw rfl ?_; refine ze ?_; refine zb (id := 10) ?_; refine Zs2 ?_; refine zd ?_; refine zf ?_
                  refine qn L (rs := [.tmp 2]) rfl (fun _ _ h => h) Since.refl fun u H hH hle => ?_
                  rfl
              · rw [← he, chk_bad hnx hit hli hok (flE_rng hr) (by first | decide | assumption)]
                refine zb (id := 9) ?_; refine Zs5 ?_; refine Zs4 ?_; refine Zs8 ?_; refine Zs1 ?_; refine Zs5 ?_; refine Zs4 ?_; refine Zs5 ?_; refine Zs4 ?_; refine Zs22 ?_; refine Zs6 ?_; refine Zs1 ?_; refine Zs5 ?_; refine Zs4 ?_; refine Zs15 ?_; refine Zs6 ?_; refine Zs1 ?_; refine Zs3 ?_; refine Zs3 ?_; refine Zs3 ?_; refine Zs3 ?_; refine Zs6 ?_; refine Zs1 ?_; refine Zs3 ?_; refine Zs3 ?_; refine Zs3 ?_; refine Zs3 ?_; refine Zs6 ?_; refine Zs1 ?_; refine Zs3 ?_; refine Zs3 ?_; refine Zs3 ?_; refine Zs3 ?_; refine Zs6 ?_; refine zd ?_; refine zf ?_; refine zw rfl ?_; refine ze ?_; refine zb (id := 10) ?_; refine Zs2 ?_; refine zd ?_; refine zf ?_
                refine qn L (rs := [.tmp 2]) rfl (fun _ _ h => h) Since.refl fun u H hH hle => ?_
                rfl
            · rw [← he, chk_bad hnx hit hli hok (flE_rng hr) (by first | decide | assumption)]
              refine zb (id := 9) ?_; refine Zs5 ?_; refine Zs4 ?_; refine Zs8 ?_; refine Zs1 ?_; refine Zs5 ?_; refine Zs4 ?_; refine Zs5 ?_; refine Zs4 ?_; refine Zs30 ?_; refine Zs6 ?_; refine Zs1 ?_; refine Zs3 ?_; refine Zs3 ?_; refine Zs3 ?_; refine Zs6 ?_; refine Zs1 ?_; refine Zs3 ?_; refine Zs3 ?_; refine Zs3 ?_; refine Zs3 ?_; refine Zs6 ?_; refine Zs1 ?_; refine Zs3 ?_; refine Zs3 ?_; refine Zs3 ?_; refine Zs3 ?_; refine Zs6 ?_; refine Zs1 ?_; refine Zs3 ?_; refine Zs3 ?_; refine Zs3 ?_; refine Zs3 ?_; refine Zs6 ?_; refine zd ?_; refine zf ?_; refine zw rfl ?_; refine ze ?_; refine zb (id := 10) ?_; refine Zs2 ?_; refine zd ?_; refine zf ?_
              refine qn L (rs := [.tmp 2]) rfl (fun _ _ h => h) Since.refl fun u H hH hle => ?_
              rfl
          · rw [← he, chk_bad hnx hit hli hok (flE_rng hr) (by first | decide | assumption)]
            refine zb (id := 9) ?_; refine Zs5 ?_; refine Zs4 ?_; refine Zs11 ?_; refine Zs1 ?_; refine Zs3 ?_; refine Zs3 ?_; refine Zs3 ?_; refine Zs3 ?_; refine Zs3 ?_; refine Zs6 ?_; refine Zs1 ?_; refine Zs3 ?_; refine Zs3 ?_; refine Zs3 ?_; refine Zs6 ?_; refine Zs1 ?_; refine Zs3 ?_; refine Zs3 ?_; refine Zs3 ?_; refine Zs3 ?_; refine Zs6 ?_; refine Zs1 ?_; refine Zs3 ?_; refine Zs3 ?_; refine Zs3 ?_; refine Zs3 ?_; refine Zs6 ?_; refine Zs1 ?_; refine Zs3 ?_; refine Zs3 ?_; refine Zs3 ?_; refine Zs3 ?_; refine Zs6 ?_; refine zd ?_; refine zf ?_; refine zw rfl ?_; refine ze ?_; refine zb (id := 10) ?_; refine Zs2 ?_; refine zd ?_; refine zf ?_
            refine qn L (rs := [.tmp 2]) rfl (fun _ _ h => h) Since.refl fun u H hH hle => ?_
            rfl
        | true =>
          have hr' := hr
          unfold rngB at hr'
          rw [decide_eq_true_eq] at hr'
          obtain ⟨r1, r2, r3, r4, r5, r6, r7, r8, r9⟩ := hr'
          refine zb (id := 9) ?_; refine Zs5 ?_; refine Zs4 ?_; refine Zs8 ?_; refine Zs1 ?_; refine Zs5 ?_; refine Zs4 ?_; refine Zs5 ?_; refine Zs4 ?_; refine Zs22 ?_; refine Zs6 ?_; refine Zs1 ?_; refine Zs5 ?_; refine Zs4 ?_; refine Zs9 ?_; refine Zs6 ?_; refine Zs1 ?_; refine Zs5 ?_; refine Zs4 ?_; refine z7 (zo L rfl rfl (zg rfl) rfl rfl rfl (fun u H hH _ _ => within64T (by omega) (by omega) hH)) rfl ?_; refine Zs49 ?_; refine Zs6 ?_; refine Zs1 ?_; refine Zs5 ?_; refine Zs4 ?_; refine z7 (zo L rfl rfl (zg rfl) rfl rfl rfl (fun u H hH _ _ => withinT (by omega) (by omega) hH)) rfl ?_; refine Zs49 ?_; refine Zs6 ?_; refine Zs1 ?_; refine Zs5 ?_; refine Zs4 ?_; refine z7 (zo L rfl rfl (zg rfl) rfl rfl rfl (fun u H hH _ _ => withinT (by omega) (by omega) hH)) rfl ?_; refine Zs49 ?_; refine Zs6 ?_; refine zd ?_; refine zf ?_; refine zm rfl ?_; refine zt ?_; refine zf ?_; refine ze ?_; refine ze ?_
          refine V_meetC (fun _ : Unit => [(1, .sat (At [.int .i64 t.nx, s] tyT 0)), (3, .is (.map (some b))), (17, .sat (SlV tyF 14 (zs.flatMap flc) zs.length fu)), (18, .is (.int .i64 zs.length)), (19, .is (.int .i64 i)), (900, .own (MapH b qkc Value.bool a)), (4, .is (.int .i64 i)), (5, .sat (At [.int .i64 f.id, .int .u64 f.rv, .int .u8 f.q.kd, .string f.q.g.1.1, .string f.q.g.1.2, .string f.q.g.2, .string f.q.u.1, .string f.q.u.2, .int .i64 f.cl, .int .i64 f.cs, .int .i64 f.si, .int .i64 f.ve, .int .i64 f.sp, .slice p f.is.length c] tyF 0))]) (fun _ => ordB (t.fl.take i) f = true) (fun _ => []) ?rest ?first
          case first =>
            by_cases hi0 : 0 < i
            · obtain ⟨g, pg, cg, _, hgl, _, _, hcg⟩ := hs.at hz (show i - 1 < zs.length by omega)
              have hw : IntKind.i64.wrap ((i : Int) - 1) = ((i - 1 : Nat) : Int) := wrap_i64 (by omega) (by omega) |>.trans (by omega)
              have ho := ord_at (f := f) hi0 hgl
              by_cases o1 : g.id < f.id
              · by_cases o2 : g.si ≤ f.si
                · rw [decide_eq_true ⟨o1, o2⟩] at ho
                  refine zz (id := 11) [] mixed (by kernel_rfl) ?_; refine Zs7 ?_; refine Zs53 ?_; refine Zs7 ?_; refine Zs32 ?_; refine Zs39 ?_; refine Zs32 ?_; refine Zs29 ?_; refine Zs7 ?_; refine Zs44 ?_; refine z8 (qb L _ rfl rfl rfl rfl rfl rfl rfl (by first | omega | decide) (by assumption)) rfl ?_; refine Zs55 ?_; refine Zs51 ?_; refine Zs63 ?_; refine Zs7 ?_; refine Zs32 ?_; refine Zs39 ?_; refine Zs32 ?_; refine Zs29 ?_; refine Zs7 ?_; refine Zs44 ?_; refine z8 (qb L _ rfl rfl rfl rfl rfl rfl rfl (by first | omega | decide) (by assumption)) rfl ?_; refine Zs55 ?_; refine Zs51 ?_; refine Zs78 ?_; refine Zs28 ?_; refine Zs28 ?_; refine qk ?_; refine zf ?_; refine zm rfl ?_; refine zt ?_
                  exact N_mids () Since.refl ho rfl ⟨rfl, rfl, rfl, rfl, rfl, rfl, rfl, rfl, trivial⟩
                · rw [decide_eq_false (fun h => o2 h.2)] at ho
                  rw [← he, chk_bad hnx hit hli hok (flE_ord hr ho) (by decide)]
                  refine zz (id := 11) [] mixed (by kernel_rfl) ?_; refine Zs7 ?_; refine Zs53 ?_; refine Zs7 ?_; refine Zs32 ?_; refine Zs39 ?_; refine Zs32 ?_; refine Zs29 ?_; refine Zs7 ?_; refine Zs44 ?_; refine z8 (qb L _ rfl rfl rfl rfl rfl rfl rfl (by first | omega | decide) (by assumption)) rfl ?_; refine Zs55 ?_; refine Zs51 ?_; refine Zs63 ?_; refine Zs7 ?_; refine Zs32 ?_; refine Zs39 ?_; refine Zs32 ?_; refine Zs29 ?_; refine Zs7 ?_; refine Zs44 ?_; refine z8 (qb L _ rfl rfl rfl rfl rfl rfl rfl (by first | omega | decide) (by assumption)) rfl ?_; refine Zs55 ?_; refine Zs51 ?_; refine Zs67 ?_; refine Zs28 ?_; refine Zs28 ?_; refine qk ?_; refine zf ?_; refine zw rfl ?_; refine ze ?_; refine zb (id := 12) ?_; refine Zs2 ?_; refine zd ?_; refine zf ?_
                  refine qn L (rs := [.tmp 2]) rfl (fun _ _ h => h) Since.refl fun u H hH hle => ?_
                  rfl
              · rw [decide_eq_false (fun h => o1 h.1)] at ho
                rw [← he, chk_bad hnx hit hli hok (flE_ord hr ho) (by decide)]
                refine zz (id := 11) [] mixed (by kernel_rfl) ?_; refine Zs7 ?_; refine Zs53 ?_; refine Zs7 ?_; refine Zs32 ?_; refine Zs39 ?_; refine Zs32 ?_; refine Zs29 ?_; refine Zs7 ?_; refine Zs44 ?_; refine z8 (qb L _ rfl rfl rfl rfl rfl rfl rfl (by first | omega | decide) (by assumption)) rfl ?_; refine Zs55 ?_; refine Zs51 ?_; refine Zs52 ?_; refine Zs7 ?_; refine Zs12 ?_; refine Zs12 ?_; refine Zs12 ?_; refine Zs12 ?_; refine Zs12 ?_; refine Zs12 ?_; refine Zs12 ?_; refine Zs12 ?_; refine Zs12 ?_; refine Zs12 ?_; refine Zs28 ?_; refine Zs28 ?_; refine qk ?_; refine zf ?_; refine zw rfl ?_; refine ze ?_; refine zb (id := 12) ?_; refine Zs2 ?_; refine zd ?_; refine zf ?_
                refine qn L (rs := [.tmp 2]) rfl (fun _ _ h => h) Since.refl fun u H hH hle => ?_
                rfl
            · obtain rfl : i = 0 := by omega
              refine zz (id := 11) [] mixed (by kernel_rfl) ?_; refine Zs7 ?_; refine Zs62 ?_; refine Zs7 ?_; refine Zs12 ?_; refine Zs12 ?_; refine Zs12 ?_; refine Zs12 ?_; refine Zs12 ?_; refine Zs12 ?_; refine Zs12 ?_; refine Zs12 ?_; refine Zs12 ?_; refine Zs12 ?_; refine Zs12 ?_; refine Zs12 ?_; refine Zs12 ?_; refine Zs12 ?_; refine Zs12 ?_; refine Zs12 ?_; refine Zs12 ?_; refine Zs12 ?_; refine Zs12 ?_; refine Zs12 ?_; refine Zs12 ?_; refine Zs12 ?_; refine Zs28 ?_; refine qk ?_; refine zf ?_; refine zm rfl ?_; refine zt ?_
              exact N_mids () Since.refl ord_zero rfl ⟨rfl, rfl, rfl, rfl, rfl, rfl, rfl, rfl, trivial⟩
          intro _ ho
          by_cases hq : quE f.q = 0
          · by_cases hem : f.is = []
            · have hl0 : f.is.length = 0 := by rw [hem]; rfl
              rw [← he, chk_bad hnx hit hli hok (flE_em hr ho hq hem) (by decide)]
              refine ze ?_; refine ze ?_; refine zb (id := 13) ?_; refine Zs5 ?_; refine z7 (zn L (vs := [_, _, _, _, _, _]) (zl rfl) rfl rfl rfl rfl ⟨_, rfl⟩) rfl ?_; refine z7 (zo L rfl rfl (zg rfl) rfl rfl rfl (fun u H hH _ _ => query_ret hQ (by first | exact hq | rfl) hH)) rfl ?_; refine Zs2 ?_; refine zd ?_; refine zf ?_; refine ze ?_; refine zb (id := 14) ?_; refine Zs1 ?_; refine Zs10 ?_; refine zd ?_; refine zf ?_; refine zm rfl ?_; refine zt ?_; refine zf ?_; refine ze ?_; refine ze ?_; refine zb (id := 16) ?_; refine Zs5 ?_; refine Zs4 ?_; refine Zs35 ?_; refine Zs15 ?_; refine zd ?_; refine zf ?_; refine zw rfl ?_; refine ze ?_; refine zb (id := 17) ?_; refine Zs2 ?_; refine zd ?_; refine zf ?_
              refine qn L (rs := [.tmp 2]) rfl (fun _ _ h => h) Since.refl fun u H hH hle => ?_
              rfl
            · have hl0 : 0 < f.is.length := List.length_pos_iff.2 hem
              obtain ⟨x0, hx0⟩ := get_some hl0
              have hc0 := it_at hx0
              have hhd : f.is.head?.map It.cl = some x0.cl := by
                cases hfi : f.is with
                | nil => exact absurd hfi hem
                | cons y l => rw [hfi] at hx0; simp at hx0; subst hx0; rfl
              have hm := memB_eq (f := f)
              rw [hhd] at hm
              cases hall : f.is.all itV with
              | false =>
                rw [hall] at hm
                rw [← he, chk_bad hnx hit hli hok (flE_mem hr ho hq hem hm) (by decide)]
                refine ze ?_; refine ze ?_; refine zb (id := 13) ?_; refine Zs5 ?_; refine z7 (zn L (vs := [_, _, _, _, _, _]) (zl rfl) rfl rfl rfl rfl ⟨_, rfl⟩) rfl ?_; refine z7 (zo L rfl rfl (zg rfl) rfl rfl rfl (fun u H hH _ _ => query_ret hQ (by first | exact hq | rfl) hH)) rfl ?_; refine Zs2 ?_; refine zd ?_; refine zf ?_; refine ze ?_; refine zb (id := 14) ?_; refine Zs1 ?_; refine Zs10 ?_; refine zd ?_; refine zf ?_; refine zm rfl ?_; refine zt ?_; refine zf ?_; refine ze ?_; refine ze ?_; refine zb (id := 16) ?_; refine Zs5 ?_; refine Zs4 ?_; refine Zs35 ?_; refine Zs9 ?_; refine zd ?_; refine zf ?_; refine zm rfl ?_; refine zt ?_; refine zf ?_; refine ze ?_; refine ze ?_; refine zz (id := 18) [] mixed (by kernel_rfl) ?_; refine Zs32 ?_; refine Zs39 ?_; refine z8 (zo L rfl rfl (zg rfl) rfl rfl rfl (fun u H hH hle _ => contI_ret (b := true) hil (by rw [hall]; rfl) (hzv.le hle) hH)) rfl ?_; refine Zs7 ?_; refine Zs12 ?_; refine Zs12 ?_; refine Zs12 ?_; refine Zs12 ?_; refine Zs12 ?_; refine Zs12 ?_; refine Zs12 ?_; refine Zs12 ?_; refine Zs28 ?_; refine Zs7 ?_; refine Zs12 ?_; refine Zs12 ?_; refine Zs12 ?_; refine Zs12 ?_; refine Zs12 ?_; refine Zs12 ?_; refine Zs28 ?_; refine qk ?_; refine zf ?_; refine zw rfl ?_; refine ze ?_; refine zb (id := 19) ?_; refine Zs2 ?_; refine zd ?_; refine zf ?_
                refine qn L (rs := [.tmp 2]) rfl (fun _ _ h => h) Since.refl fun u H hH hle => ?_
                rfl
              | true =>
                rw [hall] at hm
                by_cases m1 : f.cl = x0.cl
                · by_cases m2 : f.cs = cls f.is
                  · rw [decide_eq_true (by rw [m1]), decide_eq_true m2] at hm
                    cases htw : twB (t.fl.take i) f with
                    | true =>
                      rw [← he, chk_bad hnx hit hli hok (flE_tw hr ho hq hem hm htw) (by decide)]
                      have hgr := seen_get hsn f
                      rw [htw] at hgr
                      refine ze ?_; refine ze ?_; refine zb (id := 13) ?_; refine Zs5 ?_; refine z7 (zn L (vs := [_, _, _, _, _, _]) (zl rfl) rfl rfl rfl rfl ⟨_, rfl⟩) rfl ?_; refine z7 (zo L rfl rfl (zg rfl) rfl rfl rfl (fun u H hH _ _ => query_ret hQ (by first | exact hq | rfl) hH)) rfl ?_; refine Zs2 ?_; refine zd ?_; refine zf ?_; refine ze ?_; refine zb (id := 14) ?_; refine Zs1 ?_; refine Zs10 ?_; refine zd ?_; refine zf ?_; refine zm rfl ?_; refine zt ?_; refine zf ?_; refine ze ?_; refine ze ?_; refine zb (id := 16) ?_; refine Zs5 ?_; refine Zs4 ?_; refine Zs35 ?_; refine Zs9 ?_; refine zd ?_; refine zf ?_; refine zm rfl ?_; refine zt ?_; refine zf ?_; refine ze ?_; refine ze ?_; refine zz (id := 18) [] mixed (by kernel_rfl) ?_; refine Zs32 ?_; refine Zs39 ?_; refine z8 (zo L rfl rfl (zg rfl) rfl rfl rfl (fun u H hH hle _ => contI_ret (b := false) hil (by rw [hall]; rfl) (hzv.le hle) hH)) rfl ?_; refine Zs7 ?_; refine Zs32 ?_; refine Zs39 ?_; refine Zs32 ?_; refine Zs29 ?_; refine z8 (qb L _ rfl rfl rfl rfl rfl rfl rfl (by first | omega | decide) (by assumption)) rfl ?_; refine Zs55 ?_; refine Zs51 ?_; refine Zs40 ?_; refine Zs28 ?_; refine Zs7 ?_; refine Zs32 ?_; refine Zs39 ?_; refine Zs32 ?_; refine Zs39 ?_; refine z8 (zo L rfl rfl (zg rfl) rfl rfl rfl (fun u H hH hle _ => class_ret hil hl0 (fun x hx => (itV_iff.1 (List.all_eq_true.1 hall x hx)).2.2.2.2.2.2.2.1) (hzv.le hle) hH)) rfl ?_; refine Zs40 ?_; refine Zs28 ?_; refine qk ?_; refine zf ?_; refine zm rfl ?_; refine zt ?_; refine zf ?_; refine ze ?_; refine zb (id := 20) ?_; refine Zs5 ?_; refine Zs4 ?_; refine Zs5 ?_; refine z7 (zn L (vs := [_, _, _, _, _, _]) (zl rfl) rfl rfl rfl rfl ⟨_, rfl⟩) rfl ?_; refine z7 (qt (cs := [_, _, _, _, _, _, _]) rfl rfl pl118 rfl rfl) rfl ?_; refine Zs24 ?_; refine Zs14 ?_; refine zd ?_; refine zf ?_; refine ze ?_; refine ze ?_; refine zb (id := 21) ?_; refine Zs1 ?_; refine z7 (zn L (vs := [_, _, _, _, _, _, _]) (qe rfl) rfl rfl rfl rfl ⟨_, rfl⟩) rfl ?_; refine vo_stepR (ok_lookupM1 (q := 900) (K := Int × Qu) (f.rv, f.q) (r := .bool true) mpq_und mpq_key mpb_zero rfl rfl rfl rfl rfl rfl hgr) ?_; refine zd ?_; refine zf ?_; refine zw rfl ?_; refine ze ?_; refine zb (id := 22) ?_; refine Zs2 ?_; refine zd ?_; refine zf ?_
                      refine qn L (rs := [.tmp 2]) rfl (fun _ _ h => h) Since.refl fun u H hH hle => ?_
                      rfl
                    | false =>
                      have hgr := seen_get hsn f
                      rw [htw] at hgr
                      refine ze ?_; refine ze ?_; refine zb (id := 13) ?_; refine Zs5 ?_; refine z7 (zn L (vs := [_, _, _, _, _, _]) (zl rfl) rfl rfl rfl rfl ⟨_, rfl⟩) rfl ?_; refine z7 (zo L rfl rfl (zg rfl) rfl rfl rfl (fun u H hH _ _ => query_ret hQ (by first | exact hq | rfl) hH)) rfl ?_; refine Zs2 ?_; refine zd ?_; refine zf ?_; refine ze ?_; refine zb (id := 14) ?_; refine Zs1 ?_; refine Zs10 ?_; refine zd ?_; refine zf ?_; refine zm rfl ?_; refine zt ?_; refine zf ?_; refine ze ?_; refine ze ?_; refine zb (id := 16) ?_; refine Zs5 ?_; refine Zs4 ?_; refine Zs35 ?_; refine Zs9 ?_; refine zd ?_; refine zf ?_; refine zm rfl ?_; refine zt ?_; refine zf ?_; refine ze ?_; refine ze ?_; refine zz (id := 18) [] mixed (by kernel_rfl) ?_; refine Zs32 ?_; refine Zs39 ?_; refine z8 (zo L rfl rfl (zg rfl) rfl rfl rfl (fun u H hH hle _ => contI_ret (b := false) hil (by rw [hall]; rfl) (hzv.le hle) hH)) rfl ?_; refine Zs7 ?_; refine Zs32 ?_; refine Zs39 ?_; refine Zs32 ?_; refine Zs29 ?_; refine z8 (qb L _ rfl rfl rfl rfl rfl rfl rfl (by first | omega | decide) (by assumption)) rfl ?_; refine Zs55 ?_; refine Zs51 ?_; refine Zs40 ?_; refine Zs28 ?_; refine Zs7 ?_; refine Zs32 ?_; refine Zs39 ?_; refine Zs32 ?_; refine Zs39 ?_; refine z8 (zo L rfl rfl (zg rfl) rfl rfl rfl (fun u H hH hle _ => class_ret hil hl0 (fun x hx => (itV_iff.1 (List.all_eq_true.1 hall x hx)).2.2.2.2.2.2.2.1) (hzv.le hle) hH)) rfl ?_; refine Zs40 ?_; refine Zs28 ?_; refine qk ?_; refine zf ?_; refine zm rfl ?_; refine zt ?_; refine zf ?_; refine ze ?_; refine zb (id := 20) ?_; refine Zs5 ?_; refine Zs4 ?_; refine Zs5 ?_; refine z7 (zn L (vs := [_, _, _, _, _, _]) (zl rfl) rfl rfl rfl rfl ⟨_, rfl⟩) rfl ?_; refine z7 (qt (cs := [_, _, _, _, _, _, _]) rfl rfl pl118 rfl rfl) rfl ?_; refine Zs24 ?_; refine Zs14 ?_; refine zd ?_; refine zf ?_; refine ze ?_; refine ze ?_; refine zb (id := 21) ?_; refine Zs1 ?_; refine z7 (zn L (vs := [_, _, _, _, _, _, _]) (qe rfl) rfl rfl rfl rfl ⟨_, rfl⟩) rfl ?_; refine vo_stepR (ok_lookupM1 (q := 900) (K := Int × Qu) (f.rv, f.q) (r := .bool false) mpq_und mpq_key mpb_zero rfl rfl rfl rfl rfl rfl hgr) ?_; refine zd ?_; refine zf ?_; refine zm rfl ?_; refine zt ?_; refine zf ?_
                      refine zb (id := 23) ?_; refine Zs1 ?_; refine z7 (zn L (vs := [_, _, _, _, _, _, _]) (qe rfl) rfl rfl rfl rfl ⟨_, rfl⟩) rfl ?_; refine vo_stepS (ok_mapUpdM (q := 900) (f.rv, f.q) true mpq_und mpq_key rfl rfl rfl rfl rfl rfl rfl rfl) ?_; refine zd ?_; refine qm ?_; refine zf ?_; refine zb (id := 24) ?_; refine Zs13 ?_; refine Zs1 ?_; refine zd ?_
                      exact y1 (x := (i, a)) (i + 1, mput (f.rv, f.q) true a) ⟨hlt, chk_good hli hok (flE_ok hr ho hq hem hm htw), by dsimp only; rw [take_snoc hli]; exact seen_put hsn f⟩ (by dsimp only; omega) ⟨rfl, rfl, rfl, rfl, rfl, rfl, trivial⟩
                  · rw [decide_eq_false m2, Bool.and_false] at hm
                    rw [← he, chk_bad hnx hit hli hok (flE_mem hr ho hq hem hm) (by decide)]
                    refine ze ?_; refine ze ?_; refine zb (id := 13) ?_; refine Zs5 ?_; refine z7 (zn L (vs := [_, _, _, _, _, _]) (zl rfl) rfl rfl rfl rfl ⟨_, rfl⟩) rfl ?_; refine z7 (zo L rfl rfl (zg rfl) rfl rfl rfl (fun u H hH _ _ => query_ret hQ (by first | exact hq | rfl) hH)) rfl ?_; refine Zs2 ?_; refine zd ?_; refine zf ?_; refine ze ?_; refine zb (id := 14) ?_; refine Zs1 ?_; refine Zs10 ?_; refine zd ?_; refine zf ?_; refine zm rfl ?_; refine zt ?_; refine zf ?_; refine ze ?_; refine ze ?_; refine zb (id := 16) ?_; refine Zs5 ?_; refine Zs4 ?_; refine Zs35 ?_; refine Zs9 ?_; refine zd ?_; refine zf ?_; refine zm rfl ?_; refine zt ?_; refine zf ?_; refine ze ?_; refine ze ?_; refine zz (id := 18) [] mixed (by kernel_rfl) ?_; refine Zs32 ?_; refine Zs39 ?_; refine z8 (zo L rfl rfl (zg rfl) rfl rfl rfl (fun u H hH hle _ => contI_ret (b := false) hil (by rw [hall]; rfl) (hzv.le hle) hH)) rfl ?_; refine Zs7 ?_; refine Zs32 ?_; refine Zs39 ?_; refine Zs32 ?_; refine Zs29 ?_; refine z8 (qb L _ rfl rfl rfl rfl rfl rfl rfl (by first | omega | decide) (by assumption)) rfl ?_; refine Zs55 ?_; refine Zs51 ?_; refine Zs40 ?_; refine Zs28 ?_; refine Zs7 ?_; refine Zs32 ?_; refine Zs39 ?_; refine Zs32 ?_; refine Zs39 ?_; refine z8 (zo L rfl rfl (zg rfl) rfl rfl rfl (fun u H hH hle _ => class_ret hil hl0 (fun x hx => (itV_iff.1 (List.all_eq_true.1 hall x hx)).2.2.2.2.2.2.2.1) (hzv.le hle) hH)) rfl ?_; refine Zs79 ?_; refine Zs28 ?_; refine qk ?_; refine zf ?_; refine zw rfl ?_; refine ze ?_; refine zb (id := 19) ?_; refine Zs2 ?_; refine zd ?_; refine zf ?_
                    refine qn L (rs := [.tmp 2]) rfl (fun _ _ h => h) Since.refl fun u H hH hle => ?_
                    rfl
                · rw [decide_eq_false (fun h => m1 (Option.some.inj h).symm), Bool.and_false, Bool.false_and] at hm
                  rw [← he, chk_bad hnx hit hli hok (flE_mem hr ho hq hem hm) (by decide)]
                  refine ze ?_; refine ze ?_; refine zb (id := 13) ?_; refine Zs5 ?_; refine z7 (zn L (vs := [_, _, _, _, _, _]) (zl rfl) rfl rfl rfl rfl ⟨_, rfl⟩) rfl ?_; refine z7 (zo L rfl rfl (zg rfl) rfl rfl rfl (fun u H hH _ _ => query_ret hQ (by first | exact hq | rfl) hH)) rfl ?_; refine Zs2 ?_; refine zd ?_; refine zf ?_; refine ze ?_; refine zb (id := 14) ?_; refine Zs1 ?_; refine Zs10 ?_; refine zd ?_; refine zf ?_; refine zm rfl ?_; refine zt ?_; refine zf ?_; refine ze ?_; refine ze ?_; refine zb (id := 16) ?_; refine Zs5 ?_; refine Zs4 ?_; refine Zs35 ?_; refine Zs9 ?_; refine zd ?_; refine zf ?_; refine zm rfl ?_; refine zt ?_; refine zf ?_; refine ze ?_; refine ze ?_; refine zz (id := 18) [] mixed (by kernel_rfl) ?_; refine Zs32 ?_; refine Zs39 ?_; refine z8 (zo L rfl rfl (zg rfl) rfl rfl rfl (fun u H hH hle _ => contI_ret (b := false) hil (by rw [hall]; rfl) (hzv.le hle) hH)) rfl ?_; refine Zs7 ?_; refine Zs32 ?_; refine Zs39 ?_; refine Zs32 ?_; refine Zs29 ?_; refine z8 (qb L _ rfl rfl rfl rfl rfl rfl rfl (by first | omega | decide) (by assumption)) rfl ?_; refine Zs55 ?_; refine Zs51 ?_; refine Zs79 ?_; refine Zs28 ?_; refine Zs7 ?_; refine Zs12 ?_; refine Zs12 ?_; refine Zs12 ?_; refine Zs12 ?_; refine Zs12 ?_; refine Zs12 ?_; refine Zs28 ?_; refine qk ?_; refine zf ?_; refine zw rfl ?_; refine ze ?_; refine zb (id := 19) ?_; refine Zs2 ?_; refine zd ?_; refine zf ?_
                  refine qn L (rs := [.tmp 2]) rfl (fun _ _ h => h) Since.refl fun u H hH hle => ?_
                  rfl
          · rw [← he, chk_bad hnx hit hli hok (flE_qu hr ho hq) hq]
            refine ze ?_; refine ze ?_; refine zb (id := 13) ?_; refine Zs5 ?_; refine z7 (zn L (vs := [_, _, _, _, _, _]) (zl rfl) rfl rfl rfl rfl ⟨_, rfl⟩) rfl ?_; refine z7 (zo L rfl rfl (zg rfl) rfl rfl rfl (fun u H hH _ _ => query_ret hQ (by first | exact hq | rfl) hH)) rfl ?_; refine Zs2 ?_; refine zd ?_; refine zf ?_; refine ze ?_; refine zb (id := 14) ?_; refine Zs1 ?_; refine Zs27 ?_; refine zd ?_; refine zf ?_; refine zw rfl ?_; refine ze ?_; refine zb (id := 15) ?_; refine Zs1 ?_; refine Zs2 ?_; refine zd ?_; refine zf ?_
            refine qn L (rs := [.tmp 2]) rfl (fun _ _ h => h) Since.refl fun u H hH hle => ?_
            rfl
      · obtain rfl : i = zs.length := by omega
        rw [hlen, List.take_length] at hok
        have : e = 0 := by rw [← he]; unfold chkE; rw [if_neg (by omega), if_neg hit, hok]
        subst this
        refine ze ?_; refine zb (id := 7) ?_; refine Zs8 ?_; refine zd ?_; refine zf ?_; refine ze ?_; refine zm rfl ?_; refine y7 ?_; refine qg ?_; refine qg ?_; refine y6 ?_; refine zf ?_; refine ze ?_; refine zb (id := 25) ?_; refine Zs2 ?_; refine zd ?_; refine zf ?_
        refine qn L (rs := [.tmp 2]) rfl (fun _ _ h => h) Since.refl fun u H hH hle => ?_
        rfl
  · have : e = 4 := by rw [← he]; unfold chkE; rw [if_pos hnx]
    subst this
    refine ze ?_; refine zb (id := 0) ?_; refine Zs21 ?_; refine Zs2 ?_; refine zd ?_; refine zf ?_; refine ze ?_; refine ze ?_; refine zb (id := 1) ?_; refine Zs5 ?_; refine Zs4 ?_; refine z7 (zo L rfl rfl (zg rfl) rfl rfl rfl (fun u H hH _ _ => withinF (by omega) hH)) rfl ?_; refine Zs49 ?_; refine zd ?_; refine zf ?_; refine zw rfl ?_; refine ze ?_; refine zb (id := 2) ?_; refine Zs2 ?_; refine zd ?_; refine zf ?_
    refine qn L (rs := [.tmp 2]) rfl (fun _ _ h => h) Since.refl fun u H hH hle => ?_
    rfl
end Go.V.L39
namespace Go.V.L39
open Go.Proofs Go.RowKit Go.V
section
variable {P : Program} {F : Fr} {B : Heap} {n : Nat} {O : Boxes} {ops : Array Oper} {ex : Exs} {κ : Kap} {Q : Exit → Act → World → Prop} {o : Oper} {os : List Oper} {d : Nat} {k : Kn}
theorem _root_.Go.V.Zs19 (h : VO P F B n O ops (upd κ d k) os Q) (s : StepOK P F B n ops O κ o d k := by exact zq L rfl rfl rfl rfl) (v : vd o = some d := by rfl) : VO P F B n O ops κ (o :: os) Q := z7 s v h
theorem _root_.Go.V.Zs38 (h : Par P F B n O ops ex (upd κ d k) os Q) (s : StepOK P F B n ops O κ o d k := by exact zq L rfl rfl rfl rfl) (v : vd o = some d := by rfl) : Par P F B n O ops ex κ (o :: os) Q := z8 s v h
theorem _root_.Go.V.Zs76 (h : Par P F B n O ops ex (upd κ d k) os Q) (s : StepOK P F B n ops O κ o d k := by exact qs L rfl rfl rfl rfl rfl rfl rfl rfl rfl) (v : vd o = some d := by rfl) : Par P F B n O ops ex κ (o :: os) Q := z8 s v h
end
theorem lsts1 {e : TypeId} {s n : Nat} {B : Heap} {a : Value} {xs : List Value} {fa : Bool} (ha : SlV e s xs n fa a B) (px : xs.all plainV = true) : Lsts e s B [a] [(xs, n)] := ⟨rfl, fun i x p h1 h2 => by
  match i with
  | 0 => cases h1; cases h2; exact ⟨⟨fa, ha⟩, px⟩
  | i + 1 => cases h1⟩
theorem lsts2 {e : TypeId} {s n m : Nat} {B : Heap} {a b : Value} {xs ys : List Value} {fa fb : Bool} (ha : SlV e s xs n fa a B) (hb : SlV e s ys m fb b B) (px : xs.all plainV = true) (py : ys.all plainV = true) : Lsts e s B [a, b] [(xs, n), (ys, m)] := ⟨rfl, fun i x p h1 h2 => by
  match i with
  | 0 => cases h1; cases h2; exact ⟨⟨fa, ha⟩, px⟩
  | 1 => cases h1; cases h2; exact ⟨⟨fb, hb⟩, py⟩
  | i + 2 => cases h1⟩
theorem SlN.le {B B' H : Heap} {e : TypeId} {s n : Nat} {xs : List Value} {fu : Bool} {v : Value} (h : SlN B' e s xs n fu v H) (hle : B.Le B') : SlN B e s xs n fu v H := ⟨h.1, h.2.1.le hle, h.2.2⟩
theorem fl_drop {zs : List (Fl × Value)} {i : Nat} {z : Fl × Value} (h : zs[i]? = some z) {off : Nat} (ho : off = 0 + i * 14 + 13) : ∃ r, (zs.flatMap flc).drop off = z.2 :: r := by
  have h1 := fl_at h
  have hi := get_lt h
  have hl := flatMap_len flc_len zs
  have h2 : ((zs.flatMap flc).drop (i * 14))[13]? = some z.2 := by
    rw [← List.getElem?_take_of_lt (show 13 < 14 by omega), h1]; rfl
  rw [List.getElem?_drop] at h2
  have h3 : off < (zs.flatMap flc).length := by omega
  refine ⟨(zs.flatMap flc).drop (off + 1), ?_⟩
  rw [List.drop_eq_getElem_cons h3]
  congr 1
  rw [show i * 14 + 13 = off by omega, List.getElem?_eq_getElem h3] at h2
  exact Option.some.inj h2
theorem flat_set {α : Type} {f : α → List Value} {s : Nat} (hf : ∀ a, (f a).length = s) : ∀ (l : List α) (i : Nat) (y : α), i < l.length → (l.set i y).flatMap f = (l.flatMap f).take (i * s) ++ (f y ++ (l.flatMap f).drop (i * s + s))
  | [], _, _, h => by simp at h
  | x :: l, 0, y, _ => by
    rw [List.set_cons_zero, List.flatMap_cons, List.flatMap_cons, Nat.zero_mul, List.take_zero, List.nil_append, Nat.zero_add, ← hf x, List.drop_left]
  | x :: l, i + 1, y, h => by
    rw [List.set_cons_succ, List.flatMap_cons, flat_set hf l i y (by simpa using h), List.flatMap_cons]
    have e : (i + 1) * s = (f x).length + i * s := by rw [hf, Nat.succ_mul]; omega
    rw [e, List.take_length_add_append, List.append_assoc, Nat.add_assoc, List.drop_length_add_append]
theorem fl_set {zs : List (Fl × Value)} {i : Nat} {f : Fl} {v0 v : Value} (h : zs[i]? = some (f, v0)) {off : Nat} (ho : off = 0 + i * 14 + 13) : (zs.flatMap flc).take off ++ ([v] ++ (zs.flatMap flc).drop (off + 1)) = (zs.set i (f, v)).flatMap flc := by
  have hi := get_lt h
  have hl := flatMap_len flc_len zs
  rw [flat_set flc_len zs i _ hi]
  have h1 := fl_at h
  have h2 : (zs.flatMap flc).take off = (zs.flatMap flc).take (i * 14) ++ ((zs.flatMap flc).drop (i * 14)).take 13 := by
    rw [ho, show 0 + i * 14 + 13 = i * 14 + 13 by omega, List.take_add]
  have h3 : ((zs.flatMap flc).drop (i * 14)).take 13 = (flc (f, v)).take 13 := by
    have : ((zs.flatMap flc).drop (i * 14)).take 13 = (((zs.flatMap flc).drop (i * 14)).take 14).take 13 := by rw [List.take_take]; rfl
    rw [this, h1]; rfl
  rw [h2, h3, List.append_assoc, ho, show 0 + i * 14 + 13 + 1 = i * 14 + 14 by omega]
  rfl
def CpI (B : Heap) (l : List Fl) (old : List (Fl × Value)) (k : Nat) : List Value → Heap → Prop := fun cs H =>
  ∃ zs : List (Fl × Value), cs = zs.flatMap flc ∧ zs.map Prod.fst = l ∧ (∀ (i : Nat) z, i < k → zs[i]? = some z → SlN B tyI 5 (z.1.is.flatMap itc) z.1.is.length true z.2 H) ∧ ∀ i, k ≤ i → zs[i]? = old[i]?
theorem CpI.mono {B : Heap} {l : List Fl} {old : List (Fl × Value)} {k : Nat} : MonoX (CpI B l old k) := fun _ _ _ ⟨zs, h1, h2, h3, h4⟩ hle => ⟨zs, h1, h2, fun i z hi hz => SlN.mono _ _ _ (h3 i z hi hz) hle, h4⟩
def NewF (B : Heap) (zs : List (Fl × Value)) (H : Heap) : Prop := ∀ (i : Nat) z, zs[i]? = some z → SlN B tyI 5 (z.1.is.flatMap itc) z.1.is.length true z.2 H
def CpP (B : Heap) (l : List Fl) : List (Fl × Value) → Heap → Prop := fun zs H => zs.map Prod.fst = l ∧ NewF B zs H
theorem CpP.mono {B : Heap} {l : List Fl} : MonoX (CpP B l) := fun _ _ _ ⟨h1, h2⟩ hle => ⟨h1, fun i z hz => SlN.mono _ _ _ (h2 i z hz) hle⟩
def CpR (B : Heap) (nx : Int) (l : List Fl) : Res := ExR (fun zs : List (Fl × Value) => AggE [.int .i64 nx] tyF 14 zs.length (zs.flatMap flc)) (CpP B l) CpP.mono
theorem sln_cell {B H : Heap} {e : TypeId} {s n : Nat} {xs : List Value} {fu : Bool} {v : Value} (h : SlN B e s xs n fu v H) : (cellsL v).length = 1 ∧ (cellsL v).all plainV = true := by
  obtain ⟨p, c, rfl⟩ := slv_sh h.1
  exact ⟨rfl, rfl⟩
theorem sln_cells {B H : Heap} {e : TypeId} {s n : Nat} {xs : List Value} {fu : Bool} {v : Value} (h : SlN B e s xs n fu v H) : cellsL v = [v] := by
  obtain ⟨p, c, rfl⟩ := slv_sh h.1
  rfl
attribute [local irreducible] V N X VO Par StepOK Has Ret RetL RetO RetT RetG Src
theorem ownI1_ret {l : List It} {fu : Bool} {a v : Value} {w : World} {B : Heap} (ha : IsV l fu a B) (hl : l.length ≤ 50000) (hB : B.Le (hp w)) (hv : SlB [a] 47 1 v B) :
    Ret Try.prog 45 [v] w B (SlN B tyI 5 (l.flatMap itc) l.length true) := by
  have h := ownI_ret (lsts1 ha (itc_plain l)) (by simp) (by simpa [nXs] using hl) hB hv
  have e1 : nXs [(l.flatMap itc, l.length)] = l.length := by simp [nXs]
  have e2 : cXs [(l.flatMap itc, l.length)] = l.flatMap itc := by simp [cXs]
  rw [e1, e2] at h
  exact h.toN hB
theorem ownI2_ret {l m : List It} {fa fb : Bool} {a b v : Value} {w : World} {B : Heap} (ha : IsV l fa a B) (hb : IsV m fb b B) (hl : l.length + m.length ≤ 50000) (hB : B.Le (hp w)) (hv : SlB [a, b] 47 2 v B) :
    Ret Try.prog 45 [v] w B (SlN B tyI 5 ((l ++ m).flatMap itc) (l ++ m).length true) := by
  have e1 : nXs [(l.flatMap itc, l.length), (m.flatMap itc, m.length)] = (l ++ m).length := by simp [nXs]
  have e2 : cXs [(l.flatMap itc, l.length), (m.flatMap itc, m.length)] = (l ++ m).flatMap itc := by simp [cXs]
  have h := ownI_ret (lsts2 ha hb (itc_plain l) (itc_plain m)) (by simp) (by rw [e1, List.length_append]; exact hl) hB hv
  rw [e1, e2] at h
  exact h.toN hB
theorem ownF2_ret {zs ys : List (Fl × Value)} {fu fi gu gi : Bool} {s m v : Value} {w : World} {B : Heap} (hs : FsB zs fu fi s B) (hm : FsB ys gu gi m B) (hl : zs.length + ys.length ≤ 50000) (hB : B.Le (hp w)) (hv : SlB [s, m] 22 2 v B) :
    RetO Try.prog 52 [v] w B (SlE tyF 14 (zs ++ ys).length ((zs ++ ys).flatMap flc)) := by
  have e1 : nXs [(zs.flatMap flc, zs.length), (ys.flatMap flc, ys.length)] = (zs ++ ys).length := by simp [nXs]
  have e2 : cXs [(zs.flatMap flc, zs.length), (ys.flatMap flc, ys.length)] = (zs ++ ys).flatMap flc := by simp [cXs]
  have h := ownF_ret (lsts2 hs.sl hm.sl hs.plain hm.plain) (by simp) (by rw [e1, List.length_append]; exact hl) hB hv
  rw [e1, e2] at h
  exact h
set_option maxHeartbeats 2000000 in
set_option maxRecDepth 20000 in
theorem copied_ret {nx : Int} {zs ys : List (Fl × Value)} {l : List Fl} (hl : (zs ++ ys).map Prod.fst = l) (hlen : zs.length + ys.length ≤ 50000) (hit : ∀ f ∈ l, f.is.length ≤ 50000) {fu fi gu gi : Bool} {s m : Value} {w : World} {B : Heap} (hs : FsB zs fu fi s B) (hm : FsB ys gu gi m B) (hB : B.Le (hp w)) :
    RetO Try.prog 44 [tbv nx s, m] w B (CpR B nx l) := by
  obtain ⟨ps, cs, rfl⟩ := hs.shape
  obtain ⟨pm, cm, rfl⟩ := hm.shape
  obtain ⟨old, hold⟩ : ∃ old, old = zs ++ ys := ⟨_, rfl⟩
  obtain ⟨n, hn⟩ : ∃ n, n = old.length := ⟨_, rfl⟩
  have hn5 : n ≤ 50000 := by rw [hn, hold, List.length_append]; exact hlen
  have hown : ∀ {u : World} {H : Heap} {v : Value}, H.Le (hp u) → B.Le H → SlB [.slice ps zs.length cs, .slice pm ys.length cm] 22 2 v H → RetO Try.prog 52 [v] u H (SlE tyF 14 n (old.flatMap flc)) := fun hH hle hv => by
    rw [hn, hold]; exact ownF2_ret (hs.le hle) (hm.le hle) hlen hH hv
  have hol : old.map Prod.fst = l := by rw [hold]; exact hl
  have hoz : ∀ (i : Nat) z, old[i]? = some z → (∃ fu, IsV z.1.is fu z.2 B) ∧ z.1.is.length ≤ 50000 := fun i z hz => by
    refine ⟨?_, hit z.1 (by rw [← hol]; exact List.mem_map_of_mem (List.mem_of_getElem? hz))⟩
    rw [hold, List.getElem?_append] at hz
    split at hz
    · exact ⟨_, hs.is _ z hz⟩
    · exact ⟨_, hm.is _ z hz⟩
  clear hl
  have hlo := flatMap_len flc_len old
  refine V_enterO Try.func44 rfl Try.ntmps44 (Nat.le_of_ble_eq_true rfl) hB ?_
  refine ze ?_; refine zb (id := 0) ?_; refine z7 (ok_boxR rfl rfl rfl rfl) rfl ?_; refine Zs24 ?_; refine zd ?_; refine zf ?_; refine ze ?_
  refine V_box 2 rfl fun b2 _ => ?_
  by_cases h0 : n = 0
  · have hown0 : ∀ {u : World} {H : Heap} {v : Value}, H.Le (hp u) → B.Le H → SlB [.slice ps zs.length cs, .slice pm ys.length cm] 22 2 v H → Ret Try.prog 52 [v] u H (fun x _ => x = .slice none 0 0) := fun hH hle hv =>
      own0F_ret (lsts2 (hs.sl.le hle) (hm.sl.le hle) hs.plain hm.plain) (by simp) (by rw [hn, hold, List.length_append] at h0; show zs.length + (ys.length + 0) = 0; omega) hH hv
    have ho0 : old = [] := List.eq_nil_of_length_eq_zero (by omega)
    subst h0 ho0
    subst hol
    refine zb (id := 1) ?_; refine Zs19 ?_; refine z7 (zj L (qy rfl (List.Mem.head _)) rfl rfl rfl rfl) rfl ?_; refine Zs1 ?_; refine Zs25 ?_; refine z7 (zo L rfl rfl (zg rfl) rfl rfl rfl (fun u H hH hle _ v hv => hown0 hH hle hv)) rfl ?_; refine Zs19 ?_; refine box_store L (O1 := []) rfl rfl rfl rfl rfl rfl rfl rfl rfl ?_; refine zd ?_; refine zf ?_; refine ze ?_; refine ze ?_; refine zb (id := 2) ?_; refine Zs19 ?_; refine z7 (zj L (qy rfl (List.Mem.head _)) rfl rfl rfl rfl) rfl ?_; refine Zs35 ?_; refine Zs1 ?_; refine zd ?_; refine zf ?_; refine zy ?_
    refine V_loopO (fun _ => [bx b2 [.int .i64 nx, .slice none 0 0] tyT]) (fun _ : Nat => [(2, .is (.pointer (some ⟨b2, 0, none⟩))), (4, .own (Cell [.int .i64 0, .slice none 0 0] tyT)), (14, .is (.int .i64 0)), (15, .is (.int .i64 0))]) (fun _ => True) (fun _ => 0) 0 trivial rfl ⟨rfl, rfl, rfl, rfl, trivial⟩ ?_
    rintro _ _
    refine ze ?_; refine zb (id := 3) ?_; refine Zs8 ?_; refine zd ?_; refine zf ?_; refine ze ?_; refine zm rfl ?_; refine y7 ?_; refine qg ?_; refine qg ?_; refine y6 ?_; refine zf ?_; refine ze ?_; refine zb (id := 7) ?_; refine z7 (zn L (vs := [_, _]) (qy rfl (List.Mem.head _)) rfl rfl rfl rfl ⟨_, rfl⟩) rfl ?_; refine Zs14 ?_; refine zd ?_; refine zf ?_
    refine V_retO0 L (v := .agg #[.int .i64 nx, .slice none 0 0]) (rs := [.cell 4 tyT]) rfl (fun _ _ h => h) Since.refl (fun H => ?_) fun H u hle => ?_
    · refine resK_cellA (qe rfl) rfl rfl ?_
      rfl
    · exact ⟨[], ⟨rfl, fun i z hz => by cases hz⟩, .slice none 0 0, rfl, rfl, .inl ⟨rfl, rfl, fun _ h => h⟩⟩
  · refine zb (id := 1) ?_; refine Zs19 ?_; refine z7 (zj L (qy rfl (List.Mem.head _)) rfl rfl rfl rfl) rfl ?_; refine Zs1 ?_; refine Zs25 ?_; refine z7 (ok_callO L rfl rfl (zg rfl) rfl rfl rfl (fun u H hH hle _ v hv => hown hH hle hv)) rfl ?_; refine vo_holdE 10 901 (Nat.pos_of_ne_zero h0) rfl fun b hbl => ?_; refine Zs19 ?_; refine box_store L (O1 := []) rfl rfl rfl rfl rfl rfl rfl rfl rfl ?_; refine zd ?_; refine zf ?_; refine ze ?_; refine ze ?_; refine zb (id := 2) ?_; refine Zs19 ?_; refine z7 (zj L (qy rfl (List.Mem.head _)) rfl rfl rfl rfl) rfl ?_; refine Zs35 ?_; refine Zs1 ?_; refine zd ?_; refine zf ?_; refine zy ?_
    refine V_clsX 901 (r := fun cs => HeldR b cs tyF) (CpI.mono (B := B) (l := l) (old := old) (k := 0)) (old.flatMap flc) ⟨old, rfl, hol, fun i z h => absurd h (Nat.not_lt_zero _), fun i _ => rfl⟩ rfl ?_
    refine V_loopO (fun _ => [bx b2 [.int .i64 nx, .slice (some ⟨b, 0, none⟩) n n] tyT]) (fun k : Nat => [(2, .is (.pointer (some ⟨b2, 0, none⟩))), (4, .own (Cell [.int .i64 0, .slice none 0 0] tyT)), (14, .is (.int .i64 n)), (15, .is (.int .i64 k)), (901, .own (HeldX b tyF (CpI B l old k) CpI.mono))]) (fun k => k ≤ n) (fun k => n - k) 0 (Nat.zero_le _) rfl ⟨rfl, rfl, rfl, rfl, rfl, trivial⟩ ?_
    rintro k hk
    by_cases hlt : k < n
    · refine V_opnX 901 rfl fun cs1 H1 hs1 ⟨zs1, hcs, g1, g2, g3⟩ => ?_
      subst hcs
      have hz : ∃ z, zs1[k]? = some z := by rw [g3 k (Nat.le_refl _)]; exact get_some (by omega)
      obtain ⟨⟨f, sv⟩, hz⟩ := hz
      obtain ⟨⟨fz, hzv⟩, hzl⟩ := hoz k _ ((g3 k (Nat.le_refl _)).symm.trans hz)
      dsimp only at hzv hzl
      have hzv1 := hzv.le hs1.le
      obtain ⟨p, c, hsv⟩ := slv_sh hzv
      subst hsv
      obtain ⟨_, hq⟩ := fl_drop hz (off := 0 + k * 14 + 13) rfl
      have hl1 := flatMap_len flc_len zs1
      have hk1 := get_lt hz
      refine ze ?_; refine zb (id := 3) ?_; refine Zs11 ?_; refine zd ?_; refine zf ?_; refine ze ?_; refine zw rfl ?_; refine zt ?_; refine zf ?_; refine ze ?_; refine zy ?_; refine ze ?_; refine zb (id := 4) ?_; refine Zs1 ?_; refine Zs2 ?_; refine zd ?_; refine zf ?_; refine zz (id := 5) [(200026, [901]), (100030, [901])] mixed (by kernel_rfl) ?_; refine Zs38 ?_; refine z8 (zj L (qy rfl (List.Mem.head _)) rfl rfl rfl rfl) rfl ?_; refine Zs7 ?_; refine Zs38 ?_; refine z8 (zj L (qy rfl (List.Mem.head _)) rfl rfl rfl rfl) rfl ?_; refine Zs7 ?_; refine z8 (zp L _ rfl rfl rfl rfl rfl rfl rfl (by omega)) rfl ?_; refine Zs38 ?_; refine q8 (zx L (q := 901) rfl rfl rfl rfl rfl hq) rfl rfl ?_; refine Zs76 ?_; refine z8 (ok_call (φ := SlN B tyI 5 (f.is.flatMap itc) f.is.length true) L rfl rfl (zg rfl) rfl rfl rfl SlN.mono (fun u H hH hle _ v hv => Ret.mono (ownI1_ret (hzv1.le hle) hzl hH hv) fun v H' _ h => SlN.le h (hs1.le.trans hle))) rfl ?_; refine z8 (zp L _ rfl rfl rfl rfl rfl rfl rfl (by omega)) rfl ?_; refine Zs38 ?_; refine y9 (ok_storeHS L (q := 901) SlN.mono rfl rfl rfl rfl rfl (fun _ _ h => sln_cell h) (by omega)) rfl ?_; refine qk ?_; refine qm ?_; refine zf ?_; refine zb (id := 6) ?_; refine Zs13 ?_; refine Zs1 ?_; refine zd ?_
      refine N_opnX 901 rfl fun cs2 H2 hs2 ⟨cs3, v, hc3, hv, hc2⟩ => ?_
      subst hc3 hc2
      rw [sln_cells hv, fl_set hz rfl]
      refine N_clsX 901 (r := fun cs => HeldR b cs tyF) (CpI.mono (B := B) (l := l) (old := old) (k := k + 1)) ((zs1.set k (f, v)).flatMap flc) ⟨_, rfl, ?_, fun i z hi hzi => ?_, fun i hi => ?_⟩ rfl ?_
      · rw [List.map_set, g1]
        refine List.ext_getElem? fun j => ?_
        rw [List.getElem?_set]
        have hlk : l[k]? = some f := by rw [← g1, List.getElem?_map, hz]; rfl
        split
        · rename_i e
          subst e
          rw [hlk, if_pos (get_lt hlk)]
        · rfl
      · rw [List.getElem?_set] at hzi
        split at hzi
        · rename_i e
          subst e
          first
          | (cases hzi; exact hv)
          | (rw [if_pos hk1] at hzi; cases hzi; exact hv)
        · exact SlN.mono _ _ _ (g2 i z (by omega) hzi) hs2.le
      · rw [List.getElem?_set, if_neg (by omega)]
        exact g3 i (by omega)
      exact N_roundO (x := k) (k + 1) (hs1.trans hs2) hlt (by omega) rfl ⟨rfl, rfl, rfl, rfl, rfl, trivial⟩
    · obtain rfl : k = n := by omega
      refine V_opnX 901 rfl fun cs1 H1 hs1 ⟨zs1, hcs, g1, g2, g3⟩ => ?_
      subst hcs
      have hzl : zs1.length = k := by rw [hn, ← List.length_map (f := Prod.fst), g1, ← hol, List.length_map]
      refine ze ?_; refine zb (id := 3) ?_; refine Zs8 ?_; refine zd ?_; refine zf ?_; refine ze ?_; refine zm rfl ?_; refine y7 ?_; refine qg ?_; refine qg ?_; refine y6 ?_; refine zf ?_; refine ze ?_; refine zb (id := 7) ?_; refine z7 (zn L (vs := [_, _]) (qy rfl (List.Mem.head _)) rfl rfl rfl rfl ⟨_, rfl⟩) rfl ?_; refine Zs14 ?_; refine zd ?_; refine zf ?_
      refine V_retGO L 901 (v := .agg #[.int .i64 nx, .slice (some ⟨b, 0, none⟩) k k]) (rs := [.cell 4 tyT]) rfl (fun _ _ h => h) hs1 rfl (fun H => ?_) fun H u C hle hsub hr => ?_
      · refine resK_cellA (qe rfl) rfl rfl ?_
        rfl
      · exact ⟨zs1, ⟨g1, fun i z hz => SlN.mono _ _ _ (g2 i z (by have := get_lt hz; omega) hz) hle⟩, .slice (some ⟨b, 0, none⟩) k k, rfl, by rw [flatMap_len flc_len, hzl], .inr ⟨b, by rw [hzl], hr.1, by rw [hzl]; unfold maxLen; omega, hr.2⟩⟩
end Go.V.L39
namespace Go.V.L39
open Go.Proofs Go.RowKit Go.V
section
variable {P : Program} {F : Fr} {B : Heap} {n : Nat} {O : Boxes} {ops : Array Oper} {ex : Exs} {κ : Kap} {Q : Exit → Act → World → Prop} {o : Oper} {os : List Oper} {d : Nat} {k : Kn}
theorem _root_.Go.V.Zs41 (h : VO P F B n O ops (upd κ d k) os Q) (s : StepOK P F B n ops O κ o d k := by exact zj L (qz rfl (by assumption)) rfl rfl rfl rfl) (v : vd o = some d := by rfl) : VO P F B n O ops κ (o :: os) Q := z7 s v h
end
abbrev flv (f : Fl) (sv : Value) : Value := .agg #[.int .i64 f.id, .int .u64 f.rv, .int .u8 f.q.kd, .string f.q.g.1.1, .string f.q.g.1.2, .string f.q.g.2, .string f.q.u.1, .string f.q.u.2, .int .i64 f.cl, .int .i64 f.cs, .int .i64 f.si, .int .i64 f.ve, .int .i64 f.sp, sv]
theorem fl_dropK {zs : List (Fl × Value)} {i k : Nat} {z : Fl × Value} {v : Value} (h : zs[i]? = some z) (hv : (flc z)[k]? = some v) {off : Nat} (ho : off = 0 + i * 14 + k) : ∃ r, (zs.flatMap flc).drop off = v :: r := by
  have hk : k < 14 := by have := get_lt hv; rwa [flc_len] at this
  have h1 := flatMap_at flc_len zs i z h
  have hi := get_lt h
  have hl := flatMap_len flc_len zs
  have h2 : ((zs.flatMap flc).drop (i * 14))[k]? = some v := by rw [← List.getElem?_take_of_lt hk, h1, hv]
  rw [List.getElem?_drop] at h2
  have h3 : off < (zs.flatMap flc).length := by omega
  refine ⟨(zs.flatMap flc).drop (off + 1), ?_⟩
  rw [List.drop_eq_getElem_cons h3]
  congr 1
  rw [show i * 14 + k = off by omega, List.getElem?_eq_getElem h3] at h2
  exact Option.some.inj h2
theorem fl_setK {zs : List (Fl × Value)} {i k : Nat} {z z' : Fl × Value} {v : Value} (h : zs[i]? = some z) (hk : k < 14) (hz : flc z' = (flc z).set k v) {off : Nat} (ho : off = 0 + i * 14 + k) : (zs.flatMap flc).take off ++ ([v] ++ (zs.flatMap flc).drop (off + 1)) = (zs.set i z').flatMap flc := by
  have hi := get_lt h
  have hl := flatMap_len flc_len zs
  rw [flat_set flc_len zs i _ hi, hz]
  have h1 := flatMap_at flc_len zs i z h
  have h2 : (zs.flatMap flc).take off = (zs.flatMap flc).take (i * 14) ++ (flc z).take k := by
    rw [ho, show 0 + i * 14 + k = i * 14 + k by omega, List.take_add, ← h1, List.take_take, Nat.min_eq_left (by omega)]
  have h3 : (zs.flatMap flc).drop (off + 1) = (flc z).drop (k + 1) ++ (zs.flatMap flc).drop (i * 14 + 14) := by
    have h4 : (zs.flatMap flc).drop (i * 14) = flc z ++ (zs.flatMap flc).drop (i * 14 + 14) := by
      rw [← h1, ← List.drop_drop, List.take_append_drop]
    rw [ho, show 0 + i * 14 + k + 1 = i * 14 + (k + 1) by omega, ← List.drop_drop, h4, List.drop_append_of_le_length (by rw [flc_len]; omega)]
  rw [h2, h3, List.set_eq_take_append_cons_drop, if_pos (by rw [flc_len]; exact hk)]
  simp only [List.append_assoc, List.cons_append, List.nil_append]
theorem fsb_nil {s : Value} {B : Heap} {fu fi : Bool} (h : s = .slice none 0 0) : FsB [] fu fi s B := ⟨by subst h; exact ⟨rfl, .inl ⟨rfl, _, rfl⟩⟩, fun i z hz => (by cases hz), Nat.zero_le _, fun i z hz => (by cases hz)⟩
def TbN (B : Heap) (t : Tb) (tv : Value) (H : Heap) : Prop := ∃ zs s, tv = tbv t.nx s ∧ zs.map Prod.fst = t.fl ∧ FsB zs true true s H ∧ NewIn B s ∧ ∀ (i : Nat) z, zs[i]? = some z → NewIn B z.2 ∧ OwnB tyI (z.1.is.flatMap itc) z.2 H
theorem newin_nil {B : Heap} : NewIn B (.slice none 0 0) := fun b o k m c e => by cases e
theorem tbn_zero {B H : Heap} : TbN B T0 (tbv 0 (.slice none 0 0)) H := ⟨[], _, rfl, rfl, fsb_nil rfl, newin_nil, fun i z hz => by cases hz⟩
theorem tbn_mono {B H H' : Heap} {t : Tb} {tv : Value} (h : TbN B t tv H) (hle : H.Le H') : TbN B t tv H' := let ⟨zs, s, h1, h2, h3, h4, h5⟩ := h; ⟨zs, s, h1, h2, h3.le hle, h4, fun i z hz => ⟨(h5 i z hz).1, (h5 i z hz).2.le hle⟩⟩
theorem tbn_le {B B' H : Heap} {t : Tb} {tv : Value} (h : TbN B' t tv H) (hle : B.Le B') : TbN B t tv H := let ⟨zs, s, h1, h2, h3, h4, h5⟩ := h; ⟨zs, s, h1, h2, h3, h4.le hle, fun i z hz => ⟨(h5 i z hz).1.le hle, (h5 i z hz).2⟩⟩
theorem CpR.le {B B' : Heap} {nx : Int} {l : List Fl} (hle : B.Le B') : ∀ v H u C, (CpR B' nx l).P v H u C → (CpR B nx l).P v H u C := fun _ _ _ _ ⟨zs, ⟨h1, h2⟩, h3⟩ => ⟨zs, ⟨h1, fun i z hz => SlN.le (h2 i z hz) hle⟩, h3⟩
theorem tbn_of {B H : Heap} {nx : Int} {l : List Fl} {zs : List (Fl × Value)} {b m : Nat} (hm : m = zs.length) (hl : zs.map Prod.fst = l) (hn : NewF B zs H) (hb : H b = some (.cells (zs.flatMap flc).toArray tyF)) (hB : B b = none) (hln : zs.length ≤ 100000) (hli : ∀ f ∈ l, f.is.length ≤ 4611686018427387904) :
    TbN B ⟨nx, l⟩ (tbv nx (.slice (some ⟨b, 0, none⟩) m m)) H := by
  subst hm
  refine ⟨zs, _, rfl, hl, ⟨⟨flatMap_len flc_len zs, .inr ⟨b, 0, zs.length, _, _, (0, 0), rfl, hb, by show ((zs.flatMap flc).drop 0).take (zs.flatMap flc).length = _; rw [List.drop_zero, List.take_length], Nat.le_refl _, fun _ => rfl⟩⟩, fun i z hz => (hn i z hz).1, hln, fun i z hz => hli z.1 (by rw [← hl]; exact List.mem_map_of_mem (List.mem_of_getElem? hz))⟩, fun b' o k m c e => by cases e; exact hB, fun i z hz => (hn i z hz).2⟩
theorem last_at {l : List Fl} {g : Fl} (h0 : 0 < l.length) (h : l[l.length - 1]? = some g) : lastS l = g.si := by
  unfold lastS
  rw [List.getLast?_eq_getElem?, h]
theorem hit_eq {q : Qu} {rv : Int} {lo : Bool} {f : Fl} : hitB q rv lo f = (decide (f.q = q) && (lo || decide (f.rv = rv))) := rfl
attribute [local irreducible] V N X VO Par StepOK Has Ret RetL RetO RetT RetG Src
theorem j1_ret {f : Fl} {q : Qu} {rv : Int} {lo : Bool} {sv : Value} {b7 b11 b8 : Nat} (hsv : (cellsL sv).length = 1 ∧ (cellsL sv).all plainV = true) {r : Bool} (hr : hitB q rv lo f = r) {w : World} {B : Heap} (h7 : B b7 = some (.cells #[.int .u8 q.kd, .string q.g.1.1, .string q.g.1.2, .string q.g.2, .string q.u.1, .string q.u.2] tyQ)) (h11 : B b11 = some (.cells #[.bool lo] 4)) (h8 : B b8 = some (.cells #[.int .u64 rv] 31)) (hB : B.Le (hp w)) :
    Ret Try.prog 42 ([flv f sv] ++ [.pointer (some ⟨b7, 0, none⟩), .pointer (some ⟨b11, 0, none⟩), .pointer (some ⟨b8, 0, none⟩)]) w B (fun v _ => v = .bool r) := by
  rw [hit_eq] at hr
  refine ya Try.func42 rfl Try.ntmps42 (Nat.le_of_ble_eq_true rfl) hB ?_
  by_cases hq : f.q = q
  · have hqe := eqQv (decide_eq_true hq)
    cases lo with
    | true =>
      obtain rfl : r = true := by rw [← hr]; simp [hq]
      refine ze ?_; refine zb (id := 0) ?_; refine Zs21 ?_; refine Zs2 ?_; refine zd ?_; refine zf ?_; refine ze ?_; refine zb (id := 1) ?_; refine Zs5 ?_; refine z7 (zn L (vs := [_, _, _, _, _, _]) (zl rfl) rfl rfl rfl rfl ⟨_, rfl⟩) rfl ?_; refine z7 (zn L (vs := [_, _, _, _, _, _]) (qz rfl (by assumption)) rfl rfl rfl rfl ⟨_, rfl⟩) rfl ?_; refine z7 (ok_aeql rfl rfl rfl rfl eq30 (by assumption) rfl) rfl ?_; refine Zs1 ?_; refine Zs41 ?_; refine Zs1 ?_; refine Zs3 ?_; refine Zs3 ?_; refine Zs3 ?_; refine Zs3 ?_; refine Zs6 ?_; refine Zs6 ?_; refine Zs2 ?_; refine zd ?_; refine zf ?_
      refine qn L (rs := [.tmp 5]) rfl (fun _ _ h => h) Since.refl fun u H hH hle => ?_
      rfl
    | false =>
      by_cases hv : f.rv = rv
      · obtain rfl : r = true := by rw [← hr]; simp [hq, hv]
        refine ze ?_; refine zb (id := 0) ?_; refine Zs21 ?_; refine Zs2 ?_; refine zd ?_; refine zf ?_; refine ze ?_; refine zb (id := 1) ?_; refine Zs5 ?_; refine z7 (zn L (vs := [_, _, _, _, _, _]) (zl rfl) rfl rfl rfl rfl ⟨_, rfl⟩) rfl ?_; refine z7 (zn L (vs := [_, _, _, _, _, _]) (qz rfl (by assumption)) rfl rfl rfl rfl ⟨_, rfl⟩) rfl ?_; refine z7 (ok_aeql rfl rfl rfl rfl eq30 (by assumption) rfl) rfl ?_; refine Zs1 ?_; refine Zs41 ?_; refine Zs1 ?_; refine Zs5 ?_; refine Zs4 ?_; refine Zs41 ?_; refine Zs15 ?_; refine Zs6 ?_; refine Zs6 ?_; refine Zs2 ?_; refine zd ?_; refine zf ?_
        refine qn L (rs := [.tmp 5]) rfl (fun _ _ h => h) Since.refl fun u H hH hle => ?_
        rfl
      · obtain rfl : r = false := by rw [← hr]; simp [hv]
        refine ze ?_; refine zb (id := 0) ?_; refine Zs21 ?_; refine Zs2 ?_; refine zd ?_; refine zf ?_; refine ze ?_; refine zb (id := 1) ?_; refine Zs5 ?_; refine z7 (zn L (vs := [_, _, _, _, _, _]) (zl rfl) rfl rfl rfl rfl ⟨_, rfl⟩) rfl ?_; refine z7 (zn L (vs := [_, _, _, _, _, _]) (qz rfl (by assumption)) rfl rfl rfl rfl ⟨_, rfl⟩) rfl ?_; refine z7 (ok_aeql rfl rfl rfl rfl eq30 (by assumption) rfl) rfl ?_; refine Zs1 ?_; refine Zs41 ?_; refine Zs1 ?_; refine Zs5 ?_; refine Zs4 ?_; refine Zs41 ?_; refine Zs9 ?_; refine Zs6 ?_; refine Zs6 ?_; refine Zs2 ?_; refine zd ?_; refine zf ?_
        refine qn L (rs := [.tmp 5]) rfl (fun _ _ h => h) Since.refl fun u H hH hle => ?_
        rfl
  · have hqe := eqQv (decide_eq_false hq)
    obtain rfl : r = false := by rw [← hr]; simp [hq]
    refine ze ?_; refine zb (id := 0) ?_; refine Zs21 ?_; refine Zs2 ?_; refine zd ?_; refine zf ?_; refine ze ?_; refine zb (id := 1) ?_; refine Zs5 ?_; refine z7 (zn L (vs := [_, _, _, _, _, _]) (zl rfl) rfl rfl rfl rfl ⟨_, rfl⟩) rfl ?_; refine z7 (zn L (vs := [_, _, _, _, _, _]) (qz rfl (by assumption)) rfl rfl rfl rfl ⟨_, rfl⟩) rfl ?_; refine z7 (ok_aeql rfl rfl rfl rfl eq30 (by assumption) rfl) rfl ?_; refine Zs1 ?_; refine Zs3 ?_; refine Zs3 ?_; refine Zs3 ?_; refine Zs3 ?_; refine Zs3 ?_; refine Zs3 ?_; refine Zs3 ?_; refine Zs6 ?_; refine Zs2 ?_; refine zd ?_; refine zf ?_
    refine qn L (rs := [.tmp 5]) rfl (fun _ _ h => h) Since.refl fun u H hH hle => ?_
    rfl
abbrev IFF : Nat := 41
theorem idxF_ret {zs : List (Fl × Value)} {l : List Fl} (hz : zs.map Prod.fst = l) {fu fi : Bool} {s : Value} {cf : Nat} {caps : List Value} {pr : Fl → Bool} {w : World} {B : Heap} (hs : FsB zs fu fi s B) (hfn : L.fn cf = some ()) (hB : B.Le (hp w))
    (hcl : ∀ (f : Fl) (p : Option Addr) (c : Nat) (u : World) (H : Heap), H.Le (hp u) → B.Le H → Ret Try.prog cf ([flv f (.slice p f.is.length c)] ++ caps) u H (fun r _ => r = .bool (pr f))) :
    Ret Try.prog IFF [s, .func (.func cf) #[] caps.toArray] w B (fun r _ => r = .int .i64 (idxZ (l.findIdx? pr))) := by
  have hln := hs.ln
  have hlen := fls_len hz
  refine ya Try.func41 rfl Try.ntmps41 (Nat.le_of_ble_eq_true rfl) hB ?_
  refine V_seen 0 (SlV tyF 14 (zs.flatMap flc) zs.length fu) rfl SlV.mono hs.sl ?_
  refine ze ?_; refine zb (id := 0) ?_; refine Zs2 ?_; refine zd ?_; refine zf ?_; refine ze ?_; refine ze ?_; refine zb (id := 1) ?_; refine Zs37 ?_; refine Zs31 ?_; refine Zs1 ?_; refine zd ?_; refine zf ?_; refine zy ?_
  refine V_loop (fun i : Nat => [(0, .sat (SlV tyF 14 (zs.flatMap flc) zs.length fu)), (1, .is (.func (.func cf) #[] caps.toArray)), (7, .is (.int .i64 zs.length)), (8, .is (.int .i64 i))]) (fun i => i ≤ zs.length ∧ ∀ (j : Nat) y, j < i → l[j]? = some y → pr y = false) (fun i => zs.length - i) 0 ⟨Nat.zero_le _, fun j _ h => absurd h (Nat.not_lt_zero _)⟩ ⟨rfl, rfl, rfl, rfl, trivial⟩ ?_
  rintro i ⟨h1, h2⟩
  by_cases hlt : i < zs.length
  · obtain ⟨f, p, c, hzi, hli, hzv, hil, hc⟩ := hs.at hz hlt
    have hf := hcl f p c
    cases hb : pr f with
    | true =>
      rw [hb] at hf
      rw [idxh hli hb h2]
      refine ze ?_; refine zb (id := 2) ?_; refine Zs11 ?_; refine zd ?_; refine zf ?_; refine ze ?_; refine zw rfl ?_; refine zt ?_; refine zf ?_; refine ze ?_; refine zy ?_; refine ze ?_; refine zb (id := 3) ?_; refine Zs1 ?_; refine Zs2 ?_; refine zd ?_; refine zf ?_; refine ze ?_; refine zb (id := 4) ?_; refine Zs1 ?_; refine Zs37 ?_; refine Zs1 ?_; refine z7 (qb L _ rfl rfl rfl rfl rfl rfl rfl (by first | omega | decide) (by assumption)) rfl ?_; refine z7 (y5 L (vs := [_, _, _, _, _, _, _, _, _, _, _, _, _, _]) rfl rfl rfl rfl rfl ⟨_, rfl⟩) rfl ?_; refine z7 (zo L rfl rfl (zg rfl) rfl rfl hfn (fun u H hH hle _ => hf u H hH hle)) rfl ?_; refine zd ?_; refine zf ?_; refine zw rfl ?_; refine ze ?_; refine zb (id := 5) ?_; refine Zs1 ?_; refine Zs2 ?_; refine zd ?_; refine zf ?_
      refine qn L (rs := [.tmp 4]) rfl (fun _ _ h => h) Since.refl fun u H hH hle => ?_
      rfl
    | false =>
      rw [hb] at hf
      refine ze ?_; refine zb (id := 2) ?_; refine Zs11 ?_; refine zd ?_; refine zf ?_; refine ze ?_; refine zw rfl ?_; refine zt ?_; refine zf ?_; refine ze ?_; refine zy ?_; refine ze ?_; refine zb (id := 3) ?_; refine Zs1 ?_; refine Zs2 ?_; refine zd ?_; refine zf ?_; refine ze ?_; refine zb (id := 4) ?_; refine Zs1 ?_; refine Zs37 ?_; refine Zs1 ?_; refine z7 (qb L _ rfl rfl rfl rfl rfl rfl rfl (by first | omega | decide) (by assumption)) rfl ?_; refine z7 (y5 L (vs := [_, _, _, _, _, _, _, _, _, _, _, _, _, _]) rfl rfl rfl rfl rfl ⟨_, rfl⟩) rfl ?_; refine z7 (zo L rfl rfl (zg rfl) rfl rfl hfn (fun u H hH hle _ => hf u H hH hle)) rfl ?_; refine zd ?_; refine zf ?_; refine zm rfl ?_; refine zt ?_; refine qm ?_; refine zf ?_; refine zb (id := 6) ?_; refine Zs13 ?_; refine Zs1 ?_; refine zd ?_
      exact y1 (x := i) (i + 1) ⟨hlt, fun j y hj hy => by
        rcases Nat.lt_or_ge j i with h | h
        · exact h2 j y h hy
        · have : j = i := by omega
          subst this; rw [hli] at hy; cases hy; exact hb⟩ (by omega) ⟨rfl, rfl, rfl, rfl, trivial⟩
  · rw [idxn (fun j y hy => h2 j y (by have := get_lt hy; omega) hy)]
    refine ze ?_; refine zb (id := 2) ?_; refine Zs8 ?_; refine zd ?_; refine zf ?_; refine ze ?_; refine zm rfl ?_; refine y7 ?_; refine qg ?_; refine qg ?_; refine y6 ?_; refine zf ?_; refine ze ?_; refine zb (id := 7) ?_; refine Zs2 ?_; refine zd ?_; refine zf ?_
    refine qn L (rs := [.tmp 4]) rfl (fun _ _ h => h) Since.refl fun u H hH hle => ?_
    rfl
end Go.V.L39
namespace Go.V
open Go.RowKit
def PtrS : Value → Heap → Prop := fun v _ => ∃ a, v = .pointer (some a)
theorem PtrS.mono : Kn.mono (.sat PtrS) := fun _ _ _ h _ => h
section
variable {P : Program} {F : Fr} {B : Heap} {O : Boxes} {n : Nat} {ops : Array Oper} {κ : Kap} {d : Nat} {ty : TypeId} {pos : String} {aft : Array Edge} {g : Option (Nat × Bool)}
theorem built_of {t : TypeId} {places : List (Nat × Nat)} {z cs : List Value} {vs : List (Nat × Value)} (hp : PL P t places z) (hc : buildL places z vs = some cs) : P.built t vs = some cs.toArray := by
  obtain ⟨zv, hz1, hz2⟩ := hp.zr
  have hpl := hp.pl
  unfold plI at hpl
  unfold zrI at hz1
  split at hz1
  · rename_i it hit
    unfold Program.built
    split at hpl
    · rename_i fs hu
      simp only [hit, hu, hz1, hpl]
      rw [cellsL_eq, hz2]
      exact fill_buildL (fun i p h => by simpa using h) vs z cs hc
    · rename_i m el hu
      split at hpl
      · rename_i ie hie
        simp only [hit, hu, hz1, hie]
        cases hpl
        rw [cellsL_eq, hz2]
        exact fill_buildL (fun i p h => by
          rw [List.getElem?_map] at h
          cases hr : (List.range m)[i]? with
          | none => rw [hr] at h; cases h
          | some j =>
            rw [hr] at h
            have : j = i := by
              have := List.getElem?_eq_some_iff.1 hr
              obtain ⟨h1, h2⟩ := this
              simpa using h2.symm
            subst this
            simpa using h) vs z cs hc
      · cases hpl
    · cases hpl
  · cases hz1
theorem ok_buildS {t : TypeId} {parts : Array (Nat × Operand)} {places : List (Nat × Nat)} {z : List Value} {ψ : Value → Heap → Prop} (hn : Nat.blt d n = true) (hg : gK ops κ ⟨some d, .build t parts, ty, pos, aft, g⟩ = some true)
    (hp : PL P t places z) (hm : Kn.mono (.sat ψ)) (h : ∀ H, B.Le H → Args κ H (parts.toList.map (·.2)) [] (fun vs => ∃ cs, buildL places z ((parts.toList.map (·.1)).zip vs) = some cs ∧ ψ (.agg cs.toArray) H)) :
    StepOK P F B n ops O κ ⟨some d, .build t parts, ty, pos, aft, g⟩ d (.sat ψ) := by
  rintro κ' a u hl ⟨H, fp, hh⟩
  unfold After
  rw [if_pos (wanted_gK hh hl hg)]
  have e := hh.env (o := ⟨some d, .build t parts, ty, pos, aft, g⟩) hl
  have hc := Args.use e (parts.toList.map (·.2)) [] (fun x hx => by
    simp only [Op.operands]
    obtain ⟨q, hq, rfl⟩ := List.mem_map.1 hx
    simp
    exact ⟨q.1, by simpa using hq⟩) (h H e.base)
  obtain ⟨cs, hb, hψ⟩ := hc
  simp only [List.reverse_nil, List.nil_append, List.map_map] at hb
  have hz : (parts.toList.map (·.1)).zip (parts.toList.map (a.eval ∘ (·.2))) = parts.toList.map fun p => (p.1, a.eval p.2) := by
    generalize parts.toList = l
    induction l with
    | nil => rfl
    | cons x l ih => simp only [List.map_cons, List.zip_cons_cons, ih]; rfl
  rw [hz] at hb
  have hbt := built_of hp hb
  have hr := run_build (P := P) u t (parts.toList.map fun p => (p.1, a.eval p.2)).toArray cs.toArray (by simpa using hbt)
  have harr : (parts.map fun (p : Nat × Operand) => (p.1, a.eval p.2)) = (parts.toList.map fun p => (p.1, a.eval p.2)).toArray := by
    rw [← List.map_toArray, Array.toArray_toList]
  have hrun : (execOp a.eval ⟨some d, .build t parts, ty, pos, aft, g⟩).run P u = .ok (.value (.agg cs.toArray)) u := by
    simp only [execOp, Sem.run_bind]
    show Result.andThen ((Instr.build t (parts.map fun (p : Nat × Operand) => (p.1, a.eval p.2))).run P u) _ = _
    rw [harr, hr]
    rfl
  rw [hrun]
  simp only [Upon]
  exact ⟨H, fp, hh.put (zg hn) hm hψ⟩
end
end Go.V
namespace Go.V.L39
open Go.Proofs Go.RowKit Go.V
section
variable {P : Program} {F : Fr} {B : Heap} {n : Nat} {O : Boxes} {ops : Array Oper} {ex : Exs} {κ : Kap} {Q : Exit → Act → World → Prop} {o : Oper} {os : List Oper} {d : Nat} {k : Kn}
theorem _root_.Go.V.Zs45 (h : VO P F B n O ops (upd κ d k) os Q) (s : StepOK P F B n ops O κ o d k := by exact qq L rfl rfl rfl rfl) (v : vd o = some d := by rfl) : VO P F B n O ops κ (o :: os) Q := z7 s v h
theorem _root_.Go.V.Zs54 (h : Par P F B n O ops ex (upd κ d k) os Q) (s : StepOK P F B n ops O κ o d k := by exact zc rfl rfl rfl) (v : vd o = some d := by rfl) : Par P F B n O ops ex κ (o :: os) Q := z8 s v h
theorem _root_.Go.V.Zs75 (h : Par P F B n O ops ex (upd κ d k) os Q) (s : StepOK P F B n ops O κ o d k := by exact ok_nil rfl rfl rfl) (v : vd o = some d := by rfl) : Par P F B n O ops ex κ (o :: os) Q := z8 s v h
end
section
variable {t : Tb} {q : Qu} {rv : Int} {x : It} {rd : Int} {lo : Bool}
theorem jE1 (h : chkE t ≠ 0) : joinE t q rv x rd lo = chkE t := if_pos h
theorem jE2 (h1 : chkE t = 0) (h : quE q ≠ 0) : joinE t q rv x rd lo = quE q := by unfold joinE; rw [if_neg (by simp [h1]), if_pos h]
theorem jE3 (h1 : chkE t = 0) (h2 : quE q = 0) (h : itV x = false ∨ rv = 0 ∨ rd < lastS t.fl ∨ 4611686018427387904 < rd) : joinE t q rv x rd lo = 4 := by unfold joinE; rw [if_neg (by simp [h1]), if_neg (by simp [h2]), if_pos h]
theorem jE4 (h1 : chkE t = 0) (h2 : quE q = 0) (h3 : ¬ (itV x = false ∨ rv = 0 ∨ rd < lastS t.fl ∨ 4611686018427387904 < rd)) (h : itsN t.fl = 1024 ∨ (t.fl.findIdx? (hitB q rv lo) = none ∧ t.nx = 2147483647)) : joinE t q rv x rd lo = 3 := by unfold joinE; rw [if_neg (by simp [h1]), if_neg (by simp [h2]), if_neg h3, if_pos h]
theorem jE5 (h1 : chkE t = 0) (h2 : quE q = 0) (h3 : ¬ (itV x = false ∨ rv = 0 ∨ rd < lastS t.fl ∨ 4611686018427387904 < rd)) (h : ¬ (itsN t.fl = 1024 ∨ (t.fl.findIdx? (hitB q rv lo) = none ∧ t.nx = 2147483647))) : joinE t q rv x rd lo = 0 := by unfold joinE; rw [if_neg (by simp [h1]), if_neg (by simp [h2]), if_neg h3, if_neg h]
theorem jT0 (h : joinE t q rv x rd lo ≠ 0) : joinT t q rv x rd lo = (T0, 0, false) := if_pos h
theorem jTh (h : joinE t q rv x rd lo = 0) {i : Nat} (hi : t.fl.findIdx? (hitB q rv lo) = some i) {f : Fl} (hf : t.fl[i]? = some f) : joinT t q rv x rd lo = (⟨t.nx, t.fl.modify i (addI x)⟩, f.id, false) := by unfold joinT; rw [if_neg (by simp [h]), hi]; dsimp only; rw [hf]; rfl
theorem jTn (h : joinE t q rv x rd lo = 0) (hi : t.fl.findIdx? (hitB q rv lo) = none) : joinT t q rv x rd lo = (⟨t.nx + 1, t.fl ++ [newF t.nx rv q x rd]⟩, t.nx, true) := by unfold joinT; rw [if_neg (by simp [h]), hi]
end
def JoinP (B : Heap) (r : Tb × Int × Bool) (e : Int) : Value → Heap → Prop := fun v H => ∃ tv, v = .tuple #[tv, .int .i64 r.2.1, .bool r.2.2, .int .i64 e] ∧ TbN B r.1 tv H
theorem JoinP.mono {B : Heap} {r : Tb × Int × Bool} {e : Int} : Kn.mono (.sat (JoinP B r e)) := fun _ _ _ ⟨tv, h1, h2⟩ hle => ⟨tv, h1, tbn_mono h2 hle⟩
theorem itc_one (x : It) : ([x] : List It).flatMap itc = [.int .i64 x.tk, .int .i64 x.im, .int .i64 x.cl, .int .i64 x.cs, .int .u64 x.rv] := by simp [itc]
def Two (p : Option Addr) (n c : Nat) (x : It) : Value → Heap → Prop := fun v H => ∃ sl, SlB [.slice p n c, sl] 47 2 v H ∧ IsV [x] true sl H
theorem Two.mono {p : Option Addr} {n c : Nat} {x : It} : Kn.mono (.sat (Two p n c x)) := fun _ _ _ ⟨sl, h1, h2⟩ hle => ⟨sl, SlB.mono _ _ _ h1 hle, h2.le hle⟩
theorem slb_is {x : It} {v : Value} {H : Heap} (h : SlB [.int .i64 x.tk, .int .i64 x.im, .int .i64 x.cl, .int .i64 x.cs, .int .u64 x.rv] tyI 1 v H) : IsV [x] true v H := by
  have h2 := SlB.toV (s := 5) h rfl
  rw [← itc_one] at h2
  exact h2
def NewV (f : Fl) : Value → Heap → Prop := fun v H => ∃ sl, v = flv f sl ∧ IsV f.is true sl H
theorem NewV.mono {f : Fl} : Kn.mono (.sat (NewV f)) := fun _ _ _ ⟨sl, h1, h2⟩ hle => ⟨sl, h1, h2.le hle⟩
def NewS (f : Fl) : Value → Heap → Prop := fun v H => ∃ sl, FsB [(f, sl)] true true v H
theorem NewS.mono {f : Fl} : Kn.mono (.sat (NewS f)) := fun _ _ _ ⟨sl, h⟩ hle => ⟨sl, h.le hle⟩
theorem news_of {f : Fl} {sl v : Value} {H : Heap} (hl : f.is.length ≤ 4611686018427387904) (h : IsV f.is true sl H) (hv : SlB (flc (f, sl)) tyF 1 v H) : NewS f v H :=
  ⟨sl, by have h2 := SlB.toV (s := 14) hv rfl; simpa using h2, fun i z hz => (by
    match i with
    | 0 => cases hz; exact h
    | i + 1 => cases hz), by simp, fun i z hz => (by
    match i with
    | 0 => cases hz; exact hl
    | i + 1 => cases hz)⟩
theorem le_sum : ∀ {l : List Nat} {n : Nat}, n ∈ l → n ≤ l.sum
  | [], _, h => by cases h
  | a :: l, n, h => by
    rw [List.sum_cons]
    rcases List.mem_cons.1 h with rfl | h
    · omega
    · have := le_sum h; omega
theorem is_le {l : List Fl} {f : Fl} (h : f ∈ l) : f.is.length ≤ itsN l := by
  unfold itsN
  exact le_sum (List.mem_map_of_mem (f := fun f => f.is.length) h)
theorem chk_its {t : Tb} (h : chkE t = 0) : itsN t.fl ≤ 1024 := by
  unfold chkE at h
  split at h
  · cases h
  · split at h
    · cases h
    · omega
theorem chk_nx {t : Tb} (h : chkE t = 0) : 0 ≤ t.nx ∧ t.nx ≤ 2147483647 := by
  unfold chkE at h
  split at h
  · cases h
  · omega
theorem none_le {B H : Heap} {b : Nat} (h : B.Le H) (hn : H b = none) : B b = none := by
  cases hb : B b with
  | none => rfl
  | some y => rw [h _ _ hb] at hn; cases hn
attribute [local irreducible] V N X VO Par StepOK Has Ret RetL RetO RetT RetG Src
set_option maxHeartbeats 8000000 in
set_option maxRecDepth 20000 in
theorem join_ret {t : Tb} {q : Qu} {rv : Int} {x : It} {rd : Int} {lo : Bool} {zs : List (Fl × Value)} (hz : zs.map Prod.fst = t.fl) {fu fi : Bool} {s : Value} {w : World} {B0 : Heap} (hs0 : FsB zs fu fi s B0) (hZ : ∀ f ∈ t.fl, QuZ f.q) (hQ : QuZ q) (hn4 : itsN t.fl ≤ 4611686018427387904) (hln : zs.length ≤ 40000) (hB : B0.Le (hp w)) :
    Ret Try.prog 13 [tbv t.nx s, quv q, .int .u64 rv, itv x, .int .i64 rd, .bool lo] w B0 (JoinP B0 (joinT t q rv x rd lo) (joinE t q rv x rd lo)) := by
  have hn := hn4
  have hlen := fls_len hz
  refine ya Try.func13 rfl Try.ntmps13 (Nat.le_of_ble_eq_true rfl) hB ?_
  refine ze ?_; refine zb (id := 0) ?_; refine Zs21 ?_; refine Zs21 ?_; refine Zs21 ?_; refine Zs21 ?_; refine Zs21 ?_; refine Zs24 ?_; refine Zs2 ?_; refine Zs2 ?_; refine Zs2 ?_; refine zd ?_; refine zf ?_; refine ze ?_; refine ze ?_
  refine V_opn 7 rfl fun v7 H1 s1 ⟨b7, e7, hb7⟩ => ?_
  subst e7
  refine V_opn 11 rfl fun v11 H2 s2 ⟨b11, e11, hb11⟩ => ?_
  subst e11
  refine V_opn 8 rfl fun v8 B s3 ⟨b8, e8, hb8⟩ => ?_
  subst e8
  have hs0B := (s1.trans s2).trans s3
  have hs := hs0.le hs0B.le
  have hsl := hs.sl
  replace hb7 := s3.le _ _ (s2.le _ _ hb7)
  replace hb11 := s3.le _ _ hb11
  clear hs0
  obtain ⟨e1, hc⟩ : ∃ e, chkE t = e := ⟨_, rfl⟩
  obtain ⟨e2, hq⟩ : ∃ e, quE q = e := ⟨_, rfl⟩
  obtain ⟨vx, hv⟩ : ∃ e, itV x = e := ⟨_, rfl⟩
  by_cases h1 : e1 = 0
  · subst h1
    by_cases h2 : e2 = 0
    · subst h2
      refine zb (id := 1) ?_; refine z7 (zn L (vs := [_, _]) (zl rfl) rfl rfl rfl rfl ⟨_, rfl⟩) rfl ?_; refine z7 (zo L rfl rfl (zg rfl) rfl rfl rfl (fun u H hH hle _ => check_ret hz (hs.le hle) hZ hn hc hH)) rfl ?_; refine Zs2 ?_; refine zd ?_; refine zf ?_; refine ze ?_; refine zb (id := 2) ?_; refine Zs1 ?_; refine Zs10 ?_; refine zd ?_; refine zf ?_; refine zm rfl ?_; refine zt ?_; refine zf ?_; refine ze ?_; refine ze ?_; refine zb (id := 4) ?_; refine z7 (zn L (vs := [_, _, _, _, _, _]) (qz rfl (by assumption)) rfl rfl rfl rfl ⟨_, rfl⟩) rfl ?_; refine z7 (zo L rfl rfl (zg rfl) rfl rfl rfl (fun u H hH _ _ => query_ret hQ hq hH)) rfl ?_; refine Zs2 ?_; refine zd ?_; refine zf ?_; refine ze ?_; refine zb (id := 5) ?_; refine Zs1 ?_; refine Zs10 ?_; refine zd ?_; refine zf ?_; refine zm rfl ?_; refine zt ?_; refine zf ?_; refine ze ?_; refine zb (id := 7) ?_; refine Zs2 ?_; refine zd ?_; refine zf ?_; refine ze ?_; refine ze ?_
      refine zb (id := 8) ?_; refine Zs5 ?_; refine Zs17 ?_; refine Zs31 ?_; refine Zs2 ?_; refine zd ?_; refine zf ?_; refine ze ?_
      refine V_meetC (fun _ : Unit => [(4, .is (.int .i64 rd)), (6, .sat (At [.int .i64 t.nx, s] tyT 0)), (7, .is (.pointer (some ⟨b7, 0, none⟩))), (8, .is (.pointer (some ⟨b8, 0, none⟩))), (9, .sat (At [.int .i64 x.tk, .int .i64 x.im, .int .i64 x.cl, .int .i64 x.cs, .int .u64 x.rv] tyI 0)), (11, .is (.pointer (some ⟨b11, 0, none⟩))), (12, .own (Cell [.int .i64 0, .slice none 0 0] tyT)), (18, .is (.int .i64 (lastS t.fl)))]) (fun _ => True) (fun _ => []) ?rest ?first
      case first =>
        by_cases hl0 : 0 < zs.length
        · obtain ⟨g, pg, cg, _, hgl, _, _, hcg⟩ := hs.at hz (show zs.length - 1 < zs.length by omega)
          have hw : IntKind.i64.wrap ((zs.length : Int) - 1) = ((zs.length - 1 : Nat) : Int) := wrap_i64 (by omega) (by omega) |>.trans (by omega)
          rw [last_at (by omega) (by rw [← hlen]; exact hgl)]
          refine zb (id := 9) ?_; refine Zs1 ?_; refine Zs23 ?_; refine zd ?_; refine zf ?_; refine zw rfl ?_; refine zb (id := 10) ?_; refine Zs5 ?_; refine Zs17 ?_; refine Zs1 ?_; refine Zs20 ?_; refine z7 (qb L _ rfl rfl rfl rfl rfl rfl rfl (by first | omega | decide) (by assumption)) rfl ?_; refine Zs45 ?_; refine Zs43 ?_; refine Zs2 ?_; refine zd ?_
          exact N_mids () Since.refl trivial rfl ⟨rfl, rfl, rfl, rfl, rfl, rfl, rfl, rfl, trivial⟩
        · have : lastS t.fl = 0 := by
            have : t.fl = [] := List.eq_nil_of_length_eq_zero (by omega)
            rw [this]; rfl
          rw [this]
          refine zb (id := 9) ?_; refine Zs1 ?_; refine Zs16 ?_; refine zd ?_; refine zf ?_; refine zm rfl ?_; refine zt ?_
          exact N_mids () Since.refl trivial rfl ⟨rfl, rfl, rfl, rfl, rfl, rfl, rfl, rfl, trivial⟩
      intro _ _
      cases vx with
      | false =>
        have hE := jE3 (rd := rd) (lo := lo) (rv := rv) hc hq (Or.inl hv)
        rw [hE, jT0 (by rw [hE]; decide)]
        refine ze ?_; refine ze ?_; refine zb (id := 11) ?_; refine z7 (zn L (vs := [_, _, _, _, _]) (zl rfl) rfl rfl rfl rfl ⟨_, rfl⟩) rfl ?_; refine z7 (zo L rfl rfl (zg rfl) rfl rfl rfl (fun u H hH _ _ => valid_ret hv hH)) rfl ?_; refine Zs49 ?_; refine Zs1 ?_; refine Zs3 ?_; refine Zs3 ?_; refine Zs6 ?_; refine Zs1 ?_; refine Zs3 ?_; refine Zs3 ?_; refine Zs3 ?_; refine Zs3 ?_; refine Zs6 ?_; refine zd ?_; refine zf ?_; refine zw rfl ?_; refine ze ?_; refine zb (id := 12) ?_; refine z7 (qt (cs := [_, _]) rfl rfl pl24 rfl rfl) rfl ?_; refine Zs14 ?_; refine Zs2 ?_; refine Zs2 ?_; refine Zs2 ?_; refine zd ?_; refine zf ?_
        refine qn L (rs := [.cell 12 24, .tmp 13, .tmp 14, .tmp 15]) rfl (fun _ _ h => h) hs0B fun u H hH hle => ?_
        refine resK_cellA (qe rfl) rfl rfl ?_
        exact ⟨_, rfl, tbn_zero⟩
      | true =>
        by_cases hr0 : rv = 0
        · have hE := jE3 (x := x) (rd := rd) (lo := lo) (rv := rv) hc hq (Or.inr (Or.inl hr0))
          rw [hE, jT0 (by rw [hE]; decide)]
          refine ze ?_; refine ze ?_; refine zb (id := 11) ?_; refine z7 (zn L (vs := [_, _, _, _, _]) (zl rfl) rfl rfl rfl rfl ⟨_, rfl⟩) rfl ?_; refine z7 (zo L rfl rfl (zg rfl) rfl rfl rfl (fun u H hH _ _ => valid_ret hv hH)) rfl ?_; refine Zs49 ?_; refine Zs1 ?_; refine Zs41 ?_; refine Zs15 ?_; refine Zs6 ?_; refine Zs1 ?_; refine Zs3 ?_; refine Zs3 ?_; refine Zs3 ?_; refine Zs3 ?_; refine Zs6 ?_; refine zd ?_; refine zf ?_; refine zw rfl ?_; refine ze ?_; refine zb (id := 12) ?_; refine z7 (qt (cs := [_, _]) rfl rfl pl24 rfl rfl) rfl ?_; refine Zs14 ?_; refine Zs2 ?_; refine Zs2 ?_; refine Zs2 ?_; refine zd ?_; refine zf ?_
          refine qn L (rs := [.cell 12 24, .tmp 13, .tmp 14, .tmp 15]) rfl (fun _ _ h => h) hs0B fun u H hH hle => ?_
          refine resK_cellA (qe rfl) rfl rfl ?_
          exact ⟨_, rfl, tbn_zero⟩
        · by_cases hrd : lastS t.fl ≤ rd ∧ rd ≤ 4611686018427387904
          · have h3 : ¬ (itV x = false ∨ rv = 0 ∨ rd < lastS t.fl ∨ 4611686018427387904 < rd) := by rw [hv]; simp; omega
            obtain ⟨oi, hoi⟩ : ∃ oi, t.fl.findIdx? (hitB q rv lo) = oi := ⟨_, rfl⟩
            refine ze ?_; refine ze ?_; refine zb (id := 11) ?_; refine z7 (zn L (vs := [_, _, _, _, _]) (zl rfl) rfl rfl rfl rfl ⟨_, rfl⟩) rfl ?_; refine z7 (zo L rfl rfl (zg rfl) rfl rfl rfl (fun u H hH _ _ => valid_ret hv hH)) rfl ?_; refine Zs49 ?_; refine Zs1 ?_; refine Zs41 ?_; refine Zs9 ?_; refine Zs6 ?_; refine Zs1 ?_; refine Zs1 ?_; refine Zs1 ?_; refine z7 (zo L rfl rfl (zg rfl) rfl rfl rfl (fun u H hH _ _ => within64T (by omega) (by omega) hH)) rfl ?_; refine Zs49 ?_; refine Zs6 ?_; refine zd ?_; refine zf ?_; refine zm rfl ?_; refine zt ?_; refine zf ?_; refine ze ?_; refine zb (id := 13) ?_; refine Zs5 ?_; refine Zs4 ?_; refine z7 (ok_makeFunc rfl rfl rfl rfl) rfl ?_; refine z7 (zo (r := .int .i64 (idxZ (t.fl.findIdx? (hitB q rv lo)))) L rfl rfl (zg rfl) rfl rfl rfl (fun u H hH hle _ => idxF_ret (caps := [.pointer (some ⟨b7, 0, none⟩), .pointer (some ⟨b11, 0, none⟩), .pointer (some ⟨b8, 0, none⟩)]) hz (hs.le hle) rfl hH (fun f p c u' H' hH' hle' => j1_ret ⟨rfl, rfl⟩ rfl (hle' _ _ (hle _ _ hb7)) (hle' _ _ (hle _ _ hb11)) (hle' _ _ (hle _ _ hb8)) hH'))) rfl ?_; refine Zs2 ?_; refine zd ?_; refine zf ?_; refine ze ?_; refine ze ?_
            rw [hoi]
            by_cases h4 : itsN t.fl = 1024 ∨ (oi = none ∧ t.nx = 2147483647)
            · have hE := jE4 hc hq h3 (by rw [hoi]; exact h4)
              rw [hE, jT0 (by rw [hE]; decide)]
              by_cases h4a : itsN t.fl = 1024
              · refine zb (id := 14) ?_; refine z7 (zn L (vs := [_, _]) (zl rfl) rfl rfl rfl rfl ⟨_, rfl⟩) rfl ?_; refine z7 (zo L rfl rfl (zg rfl) rfl rfl rfl (fun u H hH hle _ => items_ret hz (hs.le hle) hn hH)) rfl ?_; refine Zs15 ?_; refine Zs1 ?_; refine Zs3 ?_; refine Zs3 ?_; refine Zs3 ?_; refine Zs3 ?_; refine Zs3 ?_; refine Zs3 ?_; refine Zs3 ?_; refine Zs6 ?_; refine zd ?_; refine zf ?_; refine zw rfl ?_; refine ze ?_; refine zb (id := 15) ?_; refine z7 (qt (cs := [_, _]) rfl rfl pl24 rfl rfl) rfl ?_; refine Zs14 ?_; refine Zs2 ?_; refine Zs2 ?_; refine Zs2 ?_; refine zd ?_; refine zf ?_
                refine qn L (rs := [.cell 12 24, .tmp 13, .tmp 14, .tmp 15]) rfl (fun _ _ h => h) hs0B fun u H hH hle => ?_
                refine resK_cellA (qe rfl) rfl rfl ?_
                exact ⟨_, rfl, tbn_zero⟩
              · obtain ⟨ho, hnx⟩ := h4.resolve_left h4a
                subst ho
                have hz1 : idxZ none = -1 := rfl
                refine zb (id := 14) ?_; refine z7 (zn L (vs := [_, _]) (zl rfl) rfl rfl rfl rfl ⟨_, rfl⟩) rfl ?_; refine z7 (zo L rfl rfl (zg rfl) rfl rfl rfl (fun u H hH hle _ => items_ret hz (hs.le hle) hn hH)) rfl ?_; refine Zs9 ?_; refine Zs1 ?_; refine Zs1 ?_; refine Zs11 ?_; refine Zs1 ?_; refine Zs5 ?_; refine Zs4 ?_; refine Zs15 ?_; refine Zs6 ?_; refine Zs6 ?_; refine zd ?_; refine zf ?_; refine zw rfl ?_; refine ze ?_; refine zb (id := 15) ?_; refine z7 (qt (cs := [_, _]) rfl rfl pl24 rfl rfl) rfl ?_; refine Zs14 ?_; refine Zs2 ?_; refine Zs2 ?_; refine Zs2 ?_; refine zd ?_; refine zf ?_
                refine qn L (rs := [.cell 12 24, .tmp 13, .tmp 14, .tmp 15]) rfl (fun _ _ h => h) hs0B fun u H hH hle => ?_
                refine resK_cellA (qe rfl) rfl rfl ?_
                exact ⟨_, rfl, tbn_zero⟩
            · have hE := jE5 hc hq h3 (by rw [hoi]; exact h4)
              rw [hE]
              have h1024 := chk_its hc
              have hnx := chk_nx hc
              have hit5 : ∀ f ∈ t.fl, f.is.length ≤ 50000 := fun f hf => by have := is_le hf; omega
              have hit6 : ∀ f ∈ t.fl ++ [newF t.nx rv q x rd], f.is.length ≤ 50000 := fun f hf => by
                rcases List.mem_append.1 hf with h | h
                · exact hit5 f h
                · rw [List.mem_singleton.1 h]; simp [newF]
              cases oi with
              | some i =>
                have hi : i < zs.length := by have := (List.findIdx?_eq_some_iff_getElem.1 hoi).1; omega
                obtain ⟨f, p, c, hzi, hli, hzv, hil, hcF⟩ := hs.at hz hi
                rw [jTh hE hoi hli]
                have hz1 : idxZ (some i) = (i : Int) := rfl
                have h4a : ¬ itsN t.fl = 1024 := fun h => h4 (Or.inl h)
                refine zb (id := 14) ?_; refine z7 (zn L (vs := [_, _]) (zl rfl) rfl rfl rfl rfl ⟨_, rfl⟩) rfl ?_; refine z7 (zo L rfl rfl (zg rfl) rfl rfl rfl (fun u H hH hle _ => items_ret hz (hs.le hle) hn hH)) rfl ?_; refine Zs9 ?_; refine Zs1 ?_; refine Zs1 ?_; refine Zs8 ?_; refine Zs1 ?_; refine Zs3 ?_; refine Zs3 ?_; refine Zs3 ?_; refine Zs6 ?_; refine Zs6 ?_; refine zd ?_; refine zf ?_; refine zm rfl ?_; refine zt ?_; refine zf ?_; refine ze ?_; refine ze ?_; refine zb (id := 16) ?_; refine Zs1 ?_; refine Zs30 ?_; refine zd ?_; refine zf ?_; refine zw rfl ?_; refine ze ?_
                refine zb (id := 17) ?_; refine z7 (zn L (vs := [_, _]) (zl rfl) rfl rfl rfl rfl ⟨_, rfl⟩) rfl ?_; refine z7 (ok_callO (r := CpR B t.nx t.fl) L rfl rfl (zg rfl) rfl rfl rfl (fun u H hH hle _ => (copied_ret (zs := zs) (ys := []) (l := t.fl) (by rw [List.append_nil]; exact hz) (by simp only [List.length_nil]; omega) hit5 (hs.le hle) (fsb_nil (fu := true) (fi := true) rfl) hH).mono (CpR.le hle))) rfl ?_; refine vo_opnX 80 rfl fun zs1 H4 s4 ⟨g1, g2⟩ => ?_; refine vo_openAgg 80 901 rfl (fun h _ => absurd h (by rw [fls_len g1]; omega)) fun b hbl hbm => ?_; refine Zs14 ?_; refine zd ?_; refine zf ?_; refine ze ?_
                obtain ⟨sv1, hz1i⟩ : ∃ sv, zs1[i]? = some (f, sv) := by
                  obtain ⟨z, hzz⟩ := get_some (show i < zs1.length by rw [fls_len g1]; omega)
                  have := fls_get g1 hzz
                  rw [hli] at this
                  obtain ⟨a1, a2⟩ := z
                  cases this
                  exact ⟨a2, hzz⟩
                have hsv := g2 i _ hz1i
                dsimp only at hsv
                obtain ⟨p1, c1, hsv1⟩ := slv_sh hsv.1
                subst hsv1
                have hl1 := flatMap_len flc_len zs1
                have hl1z := fls_len g1
                obtain ⟨_, hq13⟩ := fl_dropK (k := 13) hz1i rfl (off := 0 + i * 14 + 13) rfl
                refine V_hold 12 902 rfl fun b12 => ?_
                refine zb (id := 18) ?_; refine Zs19 ?_; refine vo_stepR (zx L (q := 902) rfl rfl rfl rfl rfl rfl) ?_; refine Zs1 ?_; refine z7 (zp L _ rfl rfl rfl rfl rfl rfl rfl (by omega)) rfl ?_; refine Zs2 ?_; refine zd ?_; refine zf ?_; refine ze ?_
                refine zz (id := 19) [(200089, [901]), (100095, [901])] mixed (by kernel_rfl) ?_; refine Zs7 ?_; refine Zs7 ?_; refine Zs75 ?_; refine Zs38 ?_; refine q8 (zx L (q := 901) rfl rfl rfl rfl rfl hq13) rfl rfl ?_; refine z8 (zn L (vs := [_, _, _, _, _]) (zl rfl) rfl rfl rfl rfl ⟨_, rfl⟩) rfl ?_; refine Zs76 ?_; refine z8 (ok_buildSliceS L (Two p1 f.is.length c1 x) rfl rfl rfl rfl rfl rfl rfl Two.mono (fun H hle v hv => by obtain ⟨b', rfl, hb'⟩ := hv; exact ⟨rfl, fun v2 H2 hle2 h2 => ⟨_, h2, (slb_is ⟨b', rfl, hb'⟩).le hle2⟩⟩)) rfl ?_; refine z8 (ok_call (φ := SlN B tyI 5 ((f.is ++ [x]).flatMap itc) (f.is ++ [x]).length true) L rfl rfl (zg rfl) rfl rfl rfl SlN.mono (fun u H hH hle _ v hv => by obtain ⟨sl, h1, h2⟩ := hv; exact Ret.mono (ownI2_ret (hsv.1.le hle) h2 (by simp only [List.length_cons, List.length_nil]; have := is_le (fls_mem hli); omega) hH h1) fun v H' _ h => SlN.le h (s4.le.trans hle))) rfl ?_; refine Zs75 ?_; refine Zs38 ?_; refine y9 (ok_storeHS L (q := 901) SlN.mono rfl rfl rfl rfl rfl (fun _ _ h => sln_cell h) (by omega)) rfl ?_; refine qk ?_; refine zf ?_; refine ze ?_
                refine V_opnX 901 rfl fun cs2 H5 s5 ⟨cs3, v, hc3, hv5, hc2⟩ => ?_
                subst hc3 hc2
                obtain ⟨p5, c5, hv5e⟩ := slv_sh hv5.1
                rw [sln_cells hv5, fl_setK (z' := ({ f with is := f.is ++ [x] }, v)) hz1i (by decide) rfl rfl]
                have hz2i : (zs1.set i ({ f with is := f.is ++ [x] }, v))[i]? = some ({ f with is := f.is ++ [x] }, v) := List.getElem?_set_self (by omega)
                obtain ⟨_, hq9⟩ := fl_dropK (k := 9) hz2i rfl (off := 0 + i * 14 + 9) rfl
                have hs9 := fl_setK (k := 9) (z' := (addI x f, v)) (v := .int .i64 (min f.cs x.cs)) hz2i (by decide) rfl (off := 0 + i * 14 + 9) rfl
                have hl2 := flatMap_len flc_len (zs1.set i ({ f with is := f.is ++ [x] }, v))
                have hb9 : Nat.ble (0 + i * 14 + 9 + 1) ((zs1.set i ({ f with is := f.is ++ [x] }, v)).flatMap flc).length = true := Nat.ble_eq_true_of_le (by rw [hl2, List.length_set]; omega)
                rw [List.set_set] at hs9
                have hmin : (if x.cs < f.cs then x.cs else f.cs) = min f.cs x.cs := by rw [Int.min_def]; split <;> split <;> omega
                refine zz (id := 20) [(200100, [901]), (100105, [901])] mixed (by kernel_rfl) ?_; refine Zs7 ?_; refine Zs7 ?_; refine Zs75 ?_; refine Zs38 ?_; refine q8 (zx L (q := 901) rfl rfl rfl rfl rfl hq9) rfl rfl ?_; refine Zs32 ?_; refine Zs39 ?_; refine z8 (ok_min rfl rfl rfl rfl (by assumption)) rfl ?_; refine Zs75 ?_; refine Zs38 ?_; refine y9 (y2 L (q := 901) rfl rfl rfl rfl rfl rfl hb9 rfl hs9) rfl ?_; refine qk ?_; refine zf ?_; refine ze ?_
                have hz3i : (zs1.set i (addI x f, v))[i]? = some (addI x f, v) := List.getElem?_set_self (by omega)
                obtain ⟨_, hq0⟩ := fl_dropK (k := 0) hz3i rfl (off := 0 + i * 14 + 0) rfl
                refine zz (id := 21) [(200106, [902]), (200110, [901]), (100012, [902])] mixed (by kernel_rfl) ?_; refine q8 (ok_loadHA L (q := 902) (vs := [_, _]) rfl rfl rfl rfl rfl rfl ⟨_, rfl⟩) rfl rfl ?_; refine Zs7 ?_; refine Zs75 ?_; refine Zs38 ?_; refine q8 (zx L (q := 901) rfl rfl rfl rfl rfl hq0) rfl rfl ?_; refine y9 (y2 L (q := 902) rfl rfl rfl rfl rfl rfl rfl rfl rfl) rfl ?_; refine Zs54 ?_; refine Zs54 ?_; refine Zs54 ?_; refine qk ?_; refine zf ?_
                refine V_release 12 902 rfl rfl ?_
                refine V_pubH 901 rfl fun H6 s6 hnb hb6 => ?_
                refine qn L (rs := [.cell 12 24, .tmp 13, .tmp 14, .tmp 15]) rfl (fun _ _ h => h) (((hs0B.trans s4).trans s5).trans s6) fun u H hH hle => ?_
                refine resK_cellA (qe rfl) rfl rfl ?_
                refine ⟨_, rfl, tbn_mono (tbn_of (zs := zs1.set i (addI x f, v)) (by rw [List.length_set]) ?_ (fun j z hj => ?_) hb6 ?_ (by rw [List.length_set]; omega) fun g hg => ?_) hle⟩
                · rw [List.map_set, g1]
                  refine List.ext_getElem? fun j => ?_
                  rw [List.getElem?_set, List.getElem?_modify]
                  by_cases hj : i = j
                  · subst hj; rw [if_pos rfl, if_pos (by omega), hli]; simp
                  · rw [if_neg hj]; simp [hj]
                · rw [List.getElem?_set] at hj
                  by_cases hij : i = j
                  · subst hij
                    rw [if_pos rfl, if_pos (by omega)] at hj
                    cases hj
                    exact SlN.le (SlN.mono _ _ _ hv5 s6.le) hs0B.le
                  · rw [if_neg hij] at hj
                    exact SlN.le (SlN.mono _ _ _ (g2 j z hj) (s5.le.trans s6.le)) hs0B.le
                · exact none_le ((hs0B.le.trans s4.le).trans s5.le) hnb
                · obtain ⟨j, hj⟩ := List.getElem?_of_mem hg
                  rw [List.getElem?_modify] at hj
                  cases hlj : t.fl[j]? with
                  | none => rw [hlj] at hj; cases hj
                  | some g' =>
                    rw [hlj] at hj
                    have h1 := is_le (fls_mem hlj)
                    have hj' : (if i = j then addI x g' else g') = g := Option.some.inj hj
                    by_cases hij : i = j
                    · rw [if_pos hij] at hj'; subst hj'; simp only [addI, List.length_append, List.length_cons, List.length_nil]; omega
                    · rw [if_neg hij] at hj'; subst hj'; omega
              | none =>
                rw [jTn hE hoi]
                have hz1 : idxZ none = -1 := rfl
                have h4a : ¬ itsN t.fl = 1024 := fun h => h4 (Or.inl h)
                have h4b : ¬ t.nx = 2147483647 := fun h => h4 (Or.inr ⟨rfl, h⟩)
                have hwn : IntKind.i64.wrap (t.nx + 1) = t.nx + 1 := wrap_i64 (by omega) (by omega)
                refine zb (id := 14) ?_; refine z7 (zn L (vs := [_, _]) (zl rfl) rfl rfl rfl rfl ⟨_, rfl⟩) rfl ?_; refine z7 (zo L rfl rfl (zg rfl) rfl rfl rfl (fun u H hH hle _ => items_ret hz (hs.le hle) hn hH)) rfl ?_; refine Zs9 ?_; refine Zs1 ?_; refine Zs1 ?_; refine Zs11 ?_; refine Zs1 ?_; refine Zs5 ?_; refine Zs4 ?_; refine Zs9 ?_; refine Zs6 ?_; refine Zs6 ?_; refine zd ?_; refine zf ?_; refine zm rfl ?_; refine zt ?_; refine zf ?_; refine ze ?_; refine ze ?_; refine zb (id := 16) ?_; refine Zs1 ?_; refine Zs22 ?_; refine zd ?_; refine zf ?_; refine zm rfl ?_; refine zt ?_; refine zf ?_; refine ze ?_
                refine zb (id := 22) ?_; refine z7 (zn L (vs := [_, _]) (zl rfl) rfl rfl rfl rfl ⟨_, rfl⟩) rfl ?_; refine Zs5 ?_; refine Zs4 ?_; refine Zs41 ?_; refine z7 (zn L (vs := [_, _, _, _, _, _]) (qz rfl (by assumption)) rfl rfl rfl rfl ⟨_, rfl⟩) rfl ?_; refine Zs5 ?_; refine Zs4 ?_; refine Zs5 ?_; refine Zs4 ?_; refine Zs1 ?_; refine z7 (zn L (vs := [_, _, _, _, _]) (zl rfl) rfl rfl rfl rfl ⟨_, rfl⟩) rfl ?_; refine Zs25 ?_; refine z7 (ok_buildS rfl rfl pl49 (NewV.mono (f := newF t.nx rv q x rd)) (fun H hle v hv => by obtain ⟨b', rfl, hb'⟩ := hv; exact ⟨_, rfl, _, rfl, slb_is ⟨b', rfl, hb'⟩⟩)) rfl ?_; refine z7 (ok_buildSliceS L (NewS (newF t.nx rv q x rd)) rfl rfl rfl rfl rfl rfl rfl NewS.mono (fun H hle v hv => by obtain ⟨sl, rfl, hsl⟩ := hv; exact ⟨rfl, fun v2 H2 hle2 h2 => news_of (by simp [newF]) (hsl.le hle2) h2⟩)) rfl ?_; refine z7 (ok_callO (r := CpR B t.nx (t.fl ++ [newF t.nx rv q x rd])) L rfl rfl (zg rfl) rfl rfl rfl (fun u H hH hle _ v hv => by obtain ⟨sl, hy⟩ := hv; exact (copied_ret (zs := zs) (ys := [(newF t.nx rv q x rd, sl)]) (by rw [List.map_append, hz]; rfl) (by simp only [List.length_cons, List.length_nil]; omega) hit6 (hs.le hle) hy hH).mono (CpR.le hle))) rfl ?_; refine vo_opnX 125 rfl fun zs1 H4 s4 ⟨g1, g2⟩ => ?_; refine vo_openAgg 125 901 rfl (fun h _ => absurd h (by rw [fls_len g1, List.length_append, List.length_cons]; omega)) fun b hbl hbm => ?_; refine Zs14 ?_; refine zd ?_; refine zf ?_; refine ze ?_
                have hl1z := fls_len g1
                rw [List.length_append, List.length_cons, List.length_nil] at hl1z
                refine V_hold 12 902 rfl fun b12 => ?_
                refine zb (id := 23) ?_; refine Zs19 ?_; refine vo_stepR (zx L (q := 902) rfl rfl rfl rfl rfl rfl) ?_; refine Zs18 ?_; refine Zs19 ?_; refine vo_stepS (y2 L (q := 902) rfl rfl rfl rfl rfl rfl rfl rfl rfl) ?_; refine zd ?_; refine zf ?_; refine ze ?_
                refine zz (id := 24) [(200130, [902]), (100012, [902])] mixed (by kernel_rfl) ?_; refine q8 (ok_loadHA L (q := 902) (vs := [_, _]) rfl rfl rfl rfl rfl rfl ⟨_, rfl⟩) rfl rfl ?_; refine Zs32 ?_; refine Zs39 ?_; refine y9 (y2 L (q := 902) rfl rfl rfl rfl rfl rfl rfl rfl rfl) rfl ?_; refine Zs54 ?_; refine Zs54 ?_; refine Zs54 ?_; refine qk ?_; refine zf ?_
                refine V_release 12 902 rfl rfl ?_
                refine V_pubH 901 rfl fun H6 s6 hnb hb6 => ?_
                refine qn L (rs := [.cell 12 24, .tmp 13, .tmp 14, .tmp 15]) rfl (fun _ _ h => h) ((hs0B.trans s4).trans s6) fun u H hH hle => ?_
                refine resK_cellA (qe rfl) rfl rfl ?_
                refine ⟨_, rfl, tbn_mono (tbn_of rfl g1 (fun j z hj => SlN.le (SlN.mono _ _ _ (g2 j z hj) s6.le) hs0B.le) hb6 (none_le (hs0B.le.trans s4.le) hnb) (by omega) fun g hg => ?_) hle⟩
                have := hit6 g hg
                omega
          · have hE := jE3 (x := x) (rd := rd) (lo := lo) (rv := rv) hc hq (Or.inr (Or.inr (by omega)))
            rw [hE, jT0 (by rw [hE]; decide)]
            refine ze ?_; refine ze ?_; refine zb (id := 11) ?_; refine z7 (zn L (vs := [_, _, _, _, _]) (zl rfl) rfl rfl rfl rfl ⟨_, rfl⟩) rfl ?_; refine z7 (zo L rfl rfl (zg rfl) rfl rfl rfl (fun u H hH _ _ => valid_ret hv hH)) rfl ?_; refine Zs49 ?_; refine Zs1 ?_; refine Zs41 ?_; refine Zs9 ?_; refine Zs6 ?_; refine Zs1 ?_; refine Zs1 ?_; refine Zs1 ?_; refine z7 (zo L rfl rfl (zg rfl) rfl rfl rfl (fun u H hH _ _ => within64F (by omega) hH)) rfl ?_; refine Zs49 ?_; refine Zs6 ?_; refine zd ?_; refine zf ?_; refine zw rfl ?_; refine ze ?_; refine zb (id := 12) ?_; refine z7 (qt (cs := [_, _]) rfl rfl pl24 rfl rfl) rfl ?_; refine Zs14 ?_; refine Zs2 ?_; refine Zs2 ?_; refine Zs2 ?_; refine zd ?_; refine zf ?_
            refine qn L (rs := [.cell 12 24, .tmp 13, .tmp 14, .tmp 15]) rfl (fun _ _ h => h) hs0B fun u H hH hle => ?_
            refine resK_cellA (qe rfl) rfl rfl ?_
            exact ⟨_, rfl, tbn_zero⟩
    · have hE := jE2 (rv := rv) (x := x) (rd := rd) (lo := lo) hc (by rw [hq]; exact h2)
      rw [hE, jT0 (by rw [hE, hq]; exact h2), hq]
      refine zb (id := 1) ?_; refine z7 (zn L (vs := [_, _]) (zl rfl) rfl rfl rfl rfl ⟨_, rfl⟩) rfl ?_; refine z7 (zo L rfl rfl (zg rfl) rfl rfl rfl (fun u H hH hle _ => check_ret hz (hs.le hle) hZ hn hc hH)) rfl ?_; refine Zs2 ?_; refine zd ?_; refine zf ?_; refine ze ?_; refine zb (id := 2) ?_; refine Zs1 ?_; refine Zs10 ?_; refine zd ?_; refine zf ?_; refine zm rfl ?_; refine zt ?_; refine zf ?_; refine ze ?_; refine ze ?_; refine zb (id := 4) ?_; refine z7 (zn L (vs := [_, _, _, _, _, _]) (qz rfl (by assumption)) rfl rfl rfl rfl ⟨_, rfl⟩) rfl ?_; refine z7 (zo L rfl rfl (zg rfl) rfl rfl rfl (fun u H hH _ _ => query_ret hQ hq hH)) rfl ?_; refine Zs2 ?_; refine zd ?_; refine zf ?_; refine ze ?_; refine zb (id := 5) ?_; refine Zs1 ?_; refine Zs27 ?_; refine zd ?_; refine zf ?_; refine zw rfl ?_; refine ze ?_; refine zb (id := 6) ?_; refine z7 (qt (cs := [_, _]) rfl rfl pl24 rfl rfl) rfl ?_; refine Zs1 ?_; refine Zs14 ?_; refine Zs2 ?_; refine Zs2 ?_; refine Zs2 ?_; refine zd ?_; refine zf ?_
      refine qn L (rs := [.cell 12 24, .tmp 13, .tmp 14, .tmp 15]) rfl (fun _ _ h => h) hs0B fun u H hH hle => ?_
      refine resK_cellA (qe rfl) rfl rfl ?_
      exact ⟨_, rfl, tbn_zero⟩
  · have hE := jE1 (q := q) (rv := rv) (x := x) (rd := rd) (lo := lo) (by rw [hc]; exact h1)
    rw [hE, jT0 (by rw [hE, hc]; exact h1), hc]
    refine zb (id := 1) ?_; refine z7 (zn L (vs := [_, _]) (zl rfl) rfl rfl rfl rfl ⟨_, rfl⟩) rfl ?_; refine z7 (zo L rfl rfl (zg rfl) rfl rfl rfl (fun u H hH hle _ => check_ret hz (hs.le hle) hZ hn hc hH)) rfl ?_; refine Zs2 ?_; refine zd ?_; refine zf ?_; refine ze ?_; refine zb (id := 2) ?_; refine Zs1 ?_; refine Zs27 ?_; refine zd ?_; refine zf ?_; refine zw rfl ?_; refine ze ?_; refine zb (id := 3) ?_; refine z7 (qt (cs := [_, _]) rfl rfl pl24 rfl rfl) rfl ?_; refine Zs1 ?_; refine Zs14 ?_; refine Zs2 ?_; refine Zs2 ?_; refine Zs2 ?_; refine zd ?_; refine zf ?_
    refine qn L (rs := [.cell 12 24, .tmp 13, .tmp 14, .tmp 15]) rfl (fun _ _ h => h) hs0B fun u H hH hle => ?_
    refine resK_cellA (qe rfl) rfl rfl ?_
    exact ⟨_, rfl, tbn_zero⟩
end Go.V.L39
namespace Go.V.L39
open Go.Proofs Go.RowKit Go.V
section
variable {P : Program} {F : Fr} {B : Heap} {n : Nat} {O : Boxes} {ops : Array Oper} {ex : Exs} {κ : Kap} {Q : Exit → Act → World → Prop} {o : Oper} {os : List Oper} {d : Nat} {k : Kn}
theorem _root_.Go.V.Zs50 (h : VO P F B n O ops (upd κ d k) os Q) (s : StepOK P F B n ops O κ o d k := by exact yc rfl rfl rfl rfl) (v : vd o = some d := by rfl) : VO P F B n O ops κ (o :: os) Q := z7 s v h
end
def plK (t : Tb) (id : Int) : Int := if plE t id = 0 then idxZ (posF t.fl id) else 0
theorem pl_chk {t : Tb} {id : Int} (h : chkE t ≠ 0) : plE t id = chkE t ∧ plK t id = 0 := by
  have h1 : plE t id = chkE t := if_pos h
  exact ⟨h1, if_neg (by rw [h1]; exact h)⟩
theorem pl_none {t : Tb} {id : Int} (h : chkE t = 0) (hp : posF t.fl id = none) : plE t id = 8 ∧ plK t id = 0 := by
  have h1 : plE t id = 8 := by unfold plE; rw [if_neg (by simp [h]), if_pos hp]
  exact ⟨h1, if_neg (by rw [h1]; decide)⟩
theorem pl_some {t : Tb} {id : Int} {k : Nat} (h : chkE t = 0) (hp : posF t.fl id = some k) : plE t id = 0 ∧ plK t id = k := by
  have h1 : plE t id = 0 := by unfold plE; rw [if_neg (by simp [h]), if_neg (by rw [hp]; simp)]
  exact ⟨h1, by unfold plK; rw [if_pos h1, hp]; rfl⟩
theorem plE_zero {t : Tb} {id : Int} (h : plE t id = 0) : chkE t = 0 ∧ ∃ k f, posF t.fl id = some k ∧ t.fl[k]? = some f ∧ f.id = id := by
  unfold plE at h
  split at h
  · rename_i h1; exact absurd h h1
  · rename_i h1
    split at h
    · cases h
    · rename_i h2
      cases hp : posF t.fl id with
      | none => exact absurd hp h2
      | some k =>
        obtain ⟨f, h3, h4, _⟩ := idx_lt hp
        exact ⟨by simpa using h1, k, f, rfl, h3, by simpa using h4⟩
theorem map_one {t : Tb} (h : TOk t) {id : Int} {k : Nat} {f : Fl} (hf : t.fl[k]? = some f) (hid : f.id = id) (φ : Fl → Fl) : t.fl.map (fun g => if g.id = id then φ g else g) = t.fl.set k (φ f) := by
  refine List.ext_getElem? fun j => ?_
  rw [List.getElem?_map, List.getElem?_set]
  by_cases hj : k = j
  · subst hj
    rw [if_pos rfl, if_pos (get_lt hf), hf]
    simp [hid]
  · rw [if_neg hj]
    cases hg : t.fl[j]? with
    | none => rfl
    | some g =>
      have : g.id ≠ id := fun e => hj (h.id_one hf hg (hid.trans e.symm))
      simp [this]
theorem findF_eq {t : Tb} {id : Int} (h : plE t id = 0) {k : Nat} {f : Fl} (hp : posF t.fl id = some k) (hf : t.fl[k]? = some f) : findF t id = f := by
  unfold findF
  rw [if_neg (by simp [h]), find_of_pos hp hf]
  rfl
theorem fls_at {zs : List (Fl × Value)} {l : List Fl} (h : zs.map Prod.fst = l) {i : Nat} {f : Fl} (hf : l[i]? = some f) : ∃ sv, zs[i]? = some (f, sv) := by
  subst h
  rw [List.getElem?_map] at hf
  cases hz : zs[i]? with
  | none => rw [hz] at hf; cases hf
  | some z =>
    rw [hz] at hf
    obtain ⟨a, b⟩ := z
    cases hf
    exact ⟨b, rfl⟩
theorem newf_set {B H H' : Heap} {zs : List (Fl × Value)} (h : NewF B zs H) {k : Nat} {f f' : Fl} {sv : Value} (hz : zs[k]? = some (f, sv)) (hi : f'.is = f.is) (hle : H.Le H') : NewF B (zs.set k (f', sv)) H' := fun i z hzi => by
  rw [List.getElem?_set] at hzi
  by_cases hik : k = i
  · subst hik
    rw [if_pos rfl, if_pos (get_lt hz)] at hzi
    cases hzi
    have := SlN.mono _ _ _ (h k _ hz) hle
    dsimp only at this ⊢
    rw [hi]; exact this
  · rw [if_neg hik] at hzi
    exact SlN.mono _ _ _ (h i z hzi) hle
theorem fls_one {zs : List (Fl × Value)} {f : Fl} (h : zs.map Prod.fst = [f]) : ∃ sv, zs = [(f, sv)] := by
  match zs, h with
  | [(g, sv)], h => cases h; exact ⟨sv, rfl⟩
attribute [local irreducible] V N X VO Par StepOK Has Ret RetL RetO RetT RetG Src
set_option maxRecDepth 20000 in
theorem place_ret {t : Tb} {zs : List (Fl × Value)} (hz : zs.map Prod.fst = t.fl) {fu fi : Bool} {s : Value} {id : Int} {w : World} {B : Heap} (hs : FsB zs fu fi s B) (hZ : ∀ f ∈ t.fl, QuZ f.q) (hn : itsN t.fl ≤ 4611686018427387904) (hB : B.Le (hp w)) :
    Ret Try.prog 51 [tbv t.nx s, .int .i64 id] w B (fun v _ => v = .tuple #[.int .i64 (plK t id), .int .i64 (plE t id)]) := by
  have hsl := hs.sl
  have hlen := fls_len hz
  have hzl := hs.ln
  obtain ⟨e, hc⟩ : ∃ e, chkE t = e := ⟨_, rfl⟩
  refine ya Try.func51 rfl Try.ntmps51 (Nat.le_of_ble_eq_true rfl) hB ?_
  by_cases h0 : e = 0
  · subst h0
    have hT := chkE_iff.1 hc
    refine ze ?_; refine zb (id := 0) ?_; refine Zs21 ?_; refine Zs2 ?_; refine Zs2 ?_; refine zd ?_; refine zf ?_; refine V_scope ?_; refine ze ?_; refine ze ?_; refine zb (id := 1) ?_; refine z7 (zn L (vs := [_, _]) (zl rfl) rfl rfl rfl rfl ⟨_, rfl⟩) rfl ?_; refine z7 (zo L rfl rfl (zg rfl) rfl rfl rfl (fun u H hH hle _ => check_ret hz (hs.le hle) hZ hn hc hH)) rfl ?_; refine Zs2 ?_; refine zd ?_; refine zf ?_; refine ze ?_; refine zb (id := 2) ?_; refine Zs1 ?_; refine Zs10 ?_; refine zd ?_; refine zf ?_; refine zm rfl ?_; refine zt ?_; refine zf ?_; refine ze ?_; refine V_label ?_; refine zf ?_; refine ze ?_; refine ze ?_; refine zb (id := 4) ?_; refine Zs5 ?_; refine Zs17 ?_; refine Zs31 ?_; refine Zs1 ?_; refine zd ?_; refine zf ?_; refine zy ?_
    refine V_loop (fun i : Nat => [(1, .is (.int .i64 id)), (15, .sat (SlV tyF 14 (zs.flatMap flc) zs.length fu)), (16, .is (.int .i64 zs.length)), (17, .is (.int .i64 i))]) (fun i => i ≤ zs.length ∧ ∀ (j : Nat) g, j < i → t.fl[j]? = some g → decide (g.id = id) = false) (fun i => zs.length - i) 0 ⟨Nat.zero_le _, fun j _ h => absurd h (Nat.not_lt_zero _)⟩ ⟨rfl, rfl, rfl, rfl, trivial⟩ ?_
    rintro i ⟨hi, hno⟩
    by_cases hlt : i < zs.length
    · obtain ⟨f, p, c, hzi, hli, hzv, hil, hc14⟩ := hs.at hz hlt
      refine ze ?_; refine zb (id := 5) ?_; refine Zs11 ?_; refine zd ?_; refine zf ?_; refine ze ?_; refine zw rfl ?_; refine zt ?_; refine zf ?_; refine ze ?_; refine zy ?_; refine ze ?_; refine zb (id := 6) ?_; refine Zs1 ?_; refine z7 (qb L _ rfl rfl rfl rfl rfl rfl rfl (by first | omega | decide) (by assumption)) rfl ?_; refine z7 (y5 L (vs := [_, _, _, _, _, _, _, _, _, _, _, _, _, _]) rfl rfl rfl rfl rfl ⟨_, rfl⟩) rfl ?_; refine Zs24 ?_; refine Zs2 ?_; refine Zs14 ?_; refine zd ?_; refine zf ?_; refine zy ?_; refine ze ?_
      refine V_pub 8 rfl ?_
      by_cases hid : f.id = id
      · obtain ⟨g1, g2⟩ := pl_some (t := t) (id := id) hc (idxh hli (decide_eq_true hid) hno)
        rw [g1, g2]
        refine zb (id := 7) ?_; refine Zs5 ?_; refine Zs4 ?_; refine Zs1 ?_; refine Zs15 ?_; refine Zs2 ?_; refine zd ?_; refine zf ?_; refine zw rfl ?_; refine ze ?_; refine zb (id := 8) ?_; refine Zs1 ?_; refine Zs2 ?_; refine Zs2 ?_; refine zd ?_; refine zf ?_
        refine qn L (rs := [.tmp 4, .tmp 5]) rfl (fun _ _ h => h) Since.refl fun u H hH hle => ?_
        rfl
      · by_cases hgt : id < f.id
        · obtain ⟨g1, g2⟩ := pl_none (t := t) (id := id) hc (idxn fun j g hg => decide_eq_false fun e => by
            rcases Nat.lt_trichotomy j i with h | h | h
            · have := hno j g h hg; rw [decide_eq_false_iff_not] at this; exact this e
            · subst h; rw [hli] at hg; cases hg; exact hid e
            · have := (hT.asc h hli hg).1; omega)
          rw [g1, g2]
          refine zb (id := 7) ?_; refine Zs5 ?_; refine Zs4 ?_; refine Zs1 ?_; refine Zs9 ?_; refine Zs2 ?_; refine zd ?_; refine zf ?_; refine zm rfl ?_; refine ze ?_; refine zb (id := 9) ?_; refine Zs5 ?_; refine Zs4 ?_; refine Zs1 ?_; refine Zs23 ?_; refine Zs2 ?_; refine zd ?_; refine zf ?_; refine zw rfl ?_; refine y7 ?_; refine X_there rfl ?_; refine X_there rfl ?_; refine qg ?_; refine qg ?_; refine y6 ?_; refine zf ?_; refine ze ?_; refine zb (id := 11) ?_; refine Zs2 ?_; refine Zs2 ?_; refine zd ?_; refine zf ?_
          refine qn L (rs := [.tmp 4, .tmp 5]) rfl (fun _ _ h => h) Since.refl fun u H hH hle => ?_
          rfl
        · refine zb (id := 7) ?_; refine Zs5 ?_; refine Zs4 ?_; refine Zs1 ?_; refine Zs9 ?_; refine Zs2 ?_; refine zd ?_; refine zf ?_; refine zm rfl ?_; refine ze ?_; refine zb (id := 9) ?_; refine Zs5 ?_; refine Zs4 ?_; refine Zs1 ?_; refine Zs16 ?_; refine Zs2 ?_; refine zd ?_; refine zf ?_; refine zm rfl ?_; refine zt ?_; refine qm ?_; refine qm ?_; refine zf ?_; refine zb (id := 10) ?_; refine Zs13 ?_; refine Zs1 ?_; refine zd ?_
          exact y1 (x := i) (i + 1) ⟨hlt, fun j g hj hg => by
            rcases Nat.lt_or_ge j i with h | h
            · exact hno j g h hg
            · have : j = i := by omega
              subst this; rw [hli] at hg; cases hg; exact decide_eq_false hid⟩ (by omega) ⟨rfl, rfl, rfl, rfl, trivial⟩
    · obtain ⟨g1, g2⟩ := pl_none (t := t) (id := id) hc (idxn fun j g hg => hno j g (by have := get_lt hg; omega) hg)
      rw [g1, g2]
      refine ze ?_; refine zb (id := 5) ?_; refine Zs8 ?_; refine zd ?_; refine zf ?_; refine ze ?_; refine zm rfl ?_; refine y7 ?_; refine qg ?_; refine qg ?_; refine y6 ?_; refine zf ?_; refine ze ?_; refine zb (id := 11) ?_; refine Zs2 ?_; refine Zs2 ?_; refine zd ?_; refine zf ?_
      refine qn L (rs := [.tmp 4, .tmp 5]) rfl (fun _ _ h => h) Since.refl fun u H hH hle => ?_
      rfl
  · obtain ⟨g1, g2⟩ := pl_chk (t := t) (id := id) (by rw [hc]; exact h0)
    rw [g1, g2, hc]
    refine ze ?_; refine zb (id := 0) ?_; refine Zs21 ?_; refine Zs2 ?_; refine Zs2 ?_; refine zd ?_; refine zf ?_; refine V_scope ?_; refine ze ?_; refine ze ?_; refine zb (id := 1) ?_; refine z7 (zn L (vs := [_, _]) (zl rfl) rfl rfl rfl rfl ⟨_, rfl⟩) rfl ?_; refine z7 (zo L rfl rfl (zg rfl) rfl rfl rfl (fun u H hH hle _ => check_ret hz (hs.le hle) hZ hn hc hH)) rfl ?_; refine Zs2 ?_; refine zd ?_; refine zf ?_; refine ze ?_; refine zb (id := 2) ?_; refine Zs1 ?_; refine Zs27 ?_; refine zd ?_; refine zf ?_; refine zw rfl ?_; refine ze ?_; refine zb (id := 3) ?_; refine Zs1 ?_; refine Zs2 ?_; refine Zs2 ?_; refine zd ?_; refine zf ?_
    refine qn L (rs := [.tmp 4, .tmp 5]) rfl (fun _ _ h => h) Since.refl fun u H hH hle => ?_
    rfl
def FindP (B : Heap) (f : Fl) (e : Int) : Value → Heap → Prop := fun v H => ∃ sv, v = .tuple #[flv f sv, .int .i64 e] ∧ SlN B tyI 5 (f.is.flatMap itc) f.is.length true sv H
theorem FindP.mono {B : Heap} {f : Fl} {e : Int} : Kn.mono (.sat (FindP B f e)) := fun _ _ _ ⟨sv, h1, h2⟩ hle => ⟨sv, h1, SlN.mono _ _ _ h2 hle⟩
def OneT (f : Fl) (sv : Value) (fu fi : Bool) : Value → Heap → Prop := fun v H => ∃ s, v = tbv 0 s ∧ FsB [(f, sv)] fu fi s H
theorem OneT.mono {f : Fl} {sv : Value} {fu fi : Bool} : Kn.mono (.sat (OneT f sv fu fi)) := fun _ _ _ ⟨s, h1, h2⟩ hle => ⟨s, h1, h2.le hle⟩
theorem onet_of {f : Fl} {sv s : Value} {fu fi : Bool} {H : Heap} (hs : SlV tyF 14 (flc (f, sv)) 1 fu s H) (hi : IsV f.is fi sv H) (hl : f.is.length ≤ 4611686018427387904) : OneT f sv fu fi (tbv 0 s) H :=
  ⟨s, rfl, by simpa using hs, fun i z hz => (by
    match i with
    | 0 => cases hz; exact hi
    | i + 1 => cases hz), by simp, fun i z hz => (by
    match i with
    | 0 => cases hz; exact hl
    | i + 1 => cases hz)⟩
theorem onet_cut {xs : List Value} {k : Nat} {f : Fl} {sv v : Value} {fu fi : Bool} {H : Heap} (hc : (xs.drop (k * 14)).take 14 = flc (f, sv)) (hv : SlV tyF 14 ((xs.drop (k * 14)).take ((k + 1 - k) * 14)) (k + 1 - k) fu v H) (hi : IsV f.is fi sv H) (hl : f.is.length ≤ 4611686018427387904) : ∃ p' c', v = .slice p' 1 c' ∧ OneT f sv fu fi (tbv 0 v) H := by
  rw [Nat.add_sub_cancel_left, Nat.one_mul, hc] at hv
  obtain ⟨p', c', rfl⟩ := slv_sh hv
  exact ⟨p', c', rfl, onet_of hv hi hl⟩
theorem sln_nil {B H : Heap} {e : TypeId} {s : Nat} {fu : Bool} : SlN B e s [] 0 fu (.slice none 0 0) H := ⟨⟨by simp, .inl ⟨rfl, _, rfl⟩⟩, newin_nil, ownB_nil⟩
set_option maxHeartbeats 2000000 in
set_option maxRecDepth 20000 in
theorem find_ret {t : Tb} {zs : List (Fl × Value)} (hz : zs.map Prod.fst = t.fl) {fu fi : Bool} {s : Value} {id : Int} {w : World} {B : Heap} (hs : FsB zs fu fi s B) (hZ : ∀ f ∈ t.fl, QuZ f.q) (hn : itsN t.fl ≤ 4611686018427387904) (hB : B.Le (hp w)) :
    Ret Try.prog 17 [tbv t.nx s, .int .i64 id] w B (FindP B (findF t id) (plE t id)) := by
  have hsl := hs.sl
  have hlen := fls_len hz
  have hzl := hs.ln
  refine ya Try.func17 rfl Try.ntmps17 (Nat.le_of_ble_eq_true rfl) hB ?_
  by_cases h0 : plE t id = 0
  · obtain ⟨hc, k, f, hp, hf, hid⟩ := plE_zero h0
    have hkk := (pl_some hc hp).2
    have hk : k < zs.length := by have := get_lt hf; omega
    have h1024 := chk_its hc
    obtain ⟨f', p, c, hzi, hli, hzv, hil, hc14⟩ := hs.at hz hk
    rw [hf] at hli
    cases hli
    have hfit : f.is.length ≤ 50000 := by have := is_le (fls_mem hf); omega
    rw [findF_eq h0 hp hf, h0]
    have hw : IntKind.i64.wrap ((k : Int) + 1) = ((k + 1 : Nat) : Int) := wrap_i64 (by omega) (by omega)
    refine ze ?_; refine zb (id := 0) ?_; refine Zs21 ?_; refine Zs24 ?_; refine Zs2 ?_; refine zd ?_; refine zf ?_; refine ze ?_; refine zb (id := 1) ?_; refine z7 (zn L (vs := [_, _]) (zl rfl) rfl rfl rfl rfl ⟨_, rfl⟩) rfl ?_; refine Zs1 ?_; refine z7 (zo L rfl rfl (zg rfl) rfl rfl rfl (fun u H hH hle _ => place_ret hz (hs.le hle) hZ hn hH)) rfl ?_; refine Zs1 ?_; refine Zs50 ?_; refine Zs50 ?_; refine Zs2 ?_; refine Zs2 ?_; refine zd ?_; refine zf ?_; refine ze ?_; refine ze ?_; refine zb (id := 2) ?_; refine Zs1 ?_; refine Zs10 ?_; refine zd ?_; refine zf ?_; refine zm rfl ?_; refine zt ?_; refine zf ?_; refine ze ?_
    rw [hkk]
    refine zb (id := 4) ?_; refine Zs5 ?_; refine Zs17 ?_; refine Zs1 ?_; refine Zs1 ?_; refine Zs18 ?_; refine z7 (ok_sliceV L (km := .i64) (pm := 0) _ _ false rfl rfl rfl rfl rfl ⟨rfl, rfl⟩ ⟨rfl, rfl⟩ (fun h => by cases h) (by omega) (by omega) rfl) rfl ?_; refine z7 (ok_buildS rfl rfl pl24 (OneT.mono (f := f) (sv := .slice p f.is.length c) (fu := false) (fi := fi)) (fun H hle v hv => by obtain ⟨p', c', rfl, h1⟩ := onet_cut (f := f) hc14 hv (hzv.le hle) hil; exact ⟨_, rfl, h1⟩)) rfl ?_; refine z7 (ok_callO (r := CpR B 0 [f]) L rfl rfl (zg rfl) rfl rfl rfl (fun u H hH hle _ v hv => by obtain ⟨s', rfl, hs'⟩ := hv; exact (copied_ret (zs := [(f, .slice p f.is.length c)]) (ys := []) (l := [f]) rfl (by simp) (fun g hg => by rw [List.mem_singleton.1 hg]; exact hfit) hs' (fsb_nil (fu := true) (fi := true) rfl) hH).mono (CpR.le hle))) rfl ?_; refine vo_opnX 25 rfl fun zs1 H4 s4 ⟨g1, g2⟩ => ?_; obtain ⟨sv1, hz1⟩ := fls_one g1; subst hz1; obtain ⟨p1, c1, hsv1⟩ := slv_sh (g2 0 _ rfl).1; dsimp only at hsv1; subst hsv1; refine vo_openAgg 25 901 rfl (fun h _ => absurd h (by simp)) fun b hbl hbm => ?_; refine z7 (ok_field1 (off := 1) (s := 1) rfl rfl rfl (by kernel_rfl) rfl) rfl ?_; refine z7 (zp L 0 rfl rfl rfl rfl rfl rfl rfl (by simp)) rfl ?_; refine vo_stepR (ok_loadHA L (q := 901) (vs := [_, _, _, _, _, _, _, _, _, _, _, _, _, _]) rfl rfl rfl rfl rfl rfl ⟨_, rfl⟩) ?_; refine Zs14 ?_; refine Zs2 ?_; refine zd ?_; refine zf ?_
    refine qn L (rs := [.cell 4 49, .tmp 5]) rfl (fun _ _ h => h) s4 fun u H hH hle => ?_
    refine resK_cellA (qe rfl) rfl rfl ?_
    exact ⟨_, rfl, SlN.mono _ _ _ (g2 0 _ rfl) hle⟩
  · have hk : findF t id = F0 := if_pos h0
    rw [hk]
    refine ze ?_; refine zb (id := 0) ?_; refine Zs21 ?_; refine Zs24 ?_; refine Zs2 ?_; refine zd ?_; refine zf ?_; refine ze ?_; refine zb (id := 1) ?_; refine z7 (zn L (vs := [_, _]) (zl rfl) rfl rfl rfl rfl ⟨_, rfl⟩) rfl ?_; refine Zs1 ?_; refine z7 (zo L rfl rfl (zg rfl) rfl rfl rfl (fun u H hH hle _ => place_ret hz (hs.le hle) hZ hn hH)) rfl ?_; refine Zs1 ?_; refine Zs50 ?_; refine Zs50 ?_; refine Zs2 ?_; refine Zs2 ?_; refine zd ?_; refine zf ?_; refine ze ?_; refine ze ?_; refine zb (id := 2) ?_; refine Zs1 ?_; refine Zs27 ?_; refine zd ?_; refine zf ?_; refine zw rfl ?_; refine ze ?_; refine zb (id := 3) ?_; refine z7 (qt (cs := [_, _, _, _, _, _, _, _, _, _, _, _, _, _]) rfl rfl pl49 rfl rfl) rfl ?_; refine Zs1 ?_; refine Zs14 ?_; refine Zs2 ?_; refine zd ?_; refine zf ?_
    refine qn L (rs := [.cell 4 49, .tmp 5]) rfl (fun _ _ h => h) Since.refl fun u H hH hle => ?_
    refine resK_cellA (qe rfl) rfl rfl ?_
    exact ⟨_, rfl, sln_nil⟩
def TabP (B : Heap) (t : Tb) (e : Int) : Value → Heap → Prop := fun v H => ∃ tv, v = .tuple #[tv, .int .i64 e] ∧ TbN B t tv H
theorem TabP.mono {B : Heap} {t : Tb} {e : Int} : Kn.mono (.sat (TabP B t e)) := fun _ _ _ ⟨tv, h1, h2⟩ hle => ⟨tv, h1, tbn_mono h2 hle⟩
theorem cmE1 {t : Tb} {id st : Int} (h : plE t id ≠ 0) : cmE t id st = plE t id ∧ cmT t id st = T0 := by
  have h1 : cmE t id st = plE t id := if_pos h
  exact ⟨h1, if_pos (by rw [h1]; exact h)⟩
theorem cmE2 {t : Tb} {id st : Int} (h : plE t id = 0) (h2 : st < 0 ∨ (findF t id).ve = 1048576 ∨ 1048576 - (findF t id).sp < st) : cmE t id st = 4 ∧ cmT t id st = T0 := by
  have h1 : cmE t id st = 4 := by unfold cmE; rw [if_neg (by simp [h]), if_pos h2]
  exact ⟨h1, if_pos (by rw [h1]; decide)⟩
theorem cmE3 {t : Tb} {id st : Int} (h : plE t id = 0) (h2 : ¬ (st < 0 ∨ (findF t id).ve = 1048576 ∨ 1048576 - (findF t id).sp < st)) : cmE t id st = 0 ∧ cmT t id st = ⟨t.nx, t.fl.map fun f => if f.id = id then mvF st f else f⟩ := by
  have h1 : cmE t id st = 0 := by unfold cmE; rw [if_neg (by simp [h]), if_neg h2]
  exact ⟨h1, if_neg (by rw [h1]; simp)⟩
set_option maxHeartbeats 4000000 in
set_option maxRecDepth 20000 in
theorem commit_ret {t : Tb} {zs : List (Fl × Value)} (hz : zs.map Prod.fst = t.fl) {fu fi : Bool} {s : Value} {id st : Int} {w : World} {B : Heap} (hs : FsB zs fu fi s B) (hZ : ∀ f ∈ t.fl, QuZ f.q) (hn : itsN t.fl ≤ 4611686018427387904) (hln : zs.length ≤ 40000) (hI : I64 st) (hB : B.Le (hp w)) :
    Ret Try.prog 18 [tbv t.nx s, .int .i64 id, .int .i64 st] w B (TabP B (cmT t id st) (cmE t id st)) := by
  have hsl := hs.sl
  have hlen := fls_len hz
  have hzl := hs.ln
  obtain ⟨i1, i2⟩ := hI
  refine ya Try.func18 rfl Try.ntmps18 (Nat.le_of_ble_eq_true rfl) hB ?_
  by_cases h0 : plE t id = 0
  · obtain ⟨hc, k, f, hp, hf, hid⟩ := plE_zero h0
    have hT := chkE_iff.1 hc
    have hkk := (pl_some hc hp).2
    have hk : k < zs.length := by have := get_lt hf; omega
    have h1024 := chk_its hc
    obtain ⟨f', p, c, hzi, hli, hzv, hil, hc14⟩ := hs.at hz hk
    rw [hf] at hli
    cases hli
    have hff := findF_eq h0 hp hf
    obtain ⟨_, _, _, _, _, b1, b2, b3, b4⟩ := rngB_iff.1 (hT.fl k f hf).rng
    have hw0 : IntKind.i64.wrap (1048576 - f.sp) = 1048576 - f.sp := wrap_i64 (by omega) (by omega)
    refine ze ?_; refine zb (id := 0) ?_; refine Zs21 ?_; refine Zs24 ?_; refine Zs2 ?_; refine zd ?_; refine zf ?_; refine ze ?_; refine zb (id := 1) ?_; refine z7 (zn L (vs := [_, _]) (zl rfl) rfl rfl rfl rfl ⟨_, rfl⟩) rfl ?_; refine Zs1 ?_; refine z7 (zo L rfl rfl (zg rfl) rfl rfl rfl (fun u H hH hle _ => place_ret hz (hs.le hle) hZ hn hH)) rfl ?_; refine Zs1 ?_; refine Zs50 ?_; refine Zs50 ?_; refine Zs2 ?_; refine Zs2 ?_; refine zd ?_; refine zf ?_; refine ze ?_; refine ze ?_; refine zb (id := 2) ?_; refine Zs1 ?_; refine Zs10 ?_; refine zd ?_; refine zf ?_; refine zm rfl ?_; refine zt ?_; refine zf ?_; refine ze ?_; refine ze ?_
    rw [hkk]
    by_cases hb1 : st < 0
    · obtain ⟨g1, g2⟩ := cmE2 (st := st) h0 (Or.inl hb1)
      rw [g1, g2]
      refine zb (id := 4) ?_; refine Zs1 ?_; refine Zs11 ?_; refine Zs1 ?_; refine Zs3 ?_; refine Zs3 ?_; refine Zs3 ?_; refine Zs3 ?_; refine Zs3 ?_; refine Zs3 ?_; refine Zs3 ?_; refine Zs6 ?_; refine Zs1 ?_; refine Zs3 ?_; refine Zs3 ?_; refine Zs3 ?_; refine Zs3 ?_; refine Zs3 ?_; refine Zs3 ?_; refine Zs3 ?_; refine Zs3 ?_; refine Zs3 ?_; refine Zs6 ?_; refine zd ?_; refine zf ?_; refine zw rfl ?_; refine ze ?_; refine zb (id := 5) ?_; refine z7 (qt (cs := [_, _]) rfl rfl pl24 rfl rfl) rfl ?_; refine Zs14 ?_; refine Zs2 ?_; refine zd ?_; refine zf ?_
      refine qn L (rs := [.cell 6 24, .tmp 7]) rfl (fun _ _ h => h) Since.refl fun u H hH hle => ?_
      refine resK_cellA (qe rfl) rfl rfl ?_
      exact ⟨_, rfl, tbn_zero⟩
    · by_cases hb2 : f.ve = 1048576
      · obtain ⟨g1, g2⟩ := cmE2 (st := st) h0 (Or.inr (Or.inl (by rw [hff]; exact hb2)))
        rw [g1, g2]
        refine zb (id := 4) ?_; refine Zs1 ?_; refine Zs8 ?_; refine Zs1 ?_; refine Zs5 ?_; refine Zs17 ?_; refine Zs1 ?_; refine z7 (qb L _ rfl rfl rfl rfl rfl rfl rfl (by first | omega | decide) (by assumption)) rfl ?_; refine Zs45 ?_; refine Zs43 ?_; refine Zs15 ?_; refine Zs6 ?_; refine Zs1 ?_; refine Zs3 ?_; refine Zs3 ?_; refine Zs3 ?_; refine Zs3 ?_; refine Zs3 ?_; refine Zs3 ?_; refine Zs3 ?_; refine Zs3 ?_; refine Zs3 ?_; refine Zs6 ?_; refine zd ?_; refine zf ?_; refine zw rfl ?_; refine ze ?_; refine zb (id := 5) ?_; refine z7 (qt (cs := [_, _]) rfl rfl pl24 rfl rfl) rfl ?_; refine Zs14 ?_; refine Zs2 ?_; refine zd ?_; refine zf ?_
        refine qn L (rs := [.cell 6 24, .tmp 7]) rfl (fun _ _ h => h) Since.refl fun u H hH hle => ?_
        refine resK_cellA (qe rfl) rfl rfl ?_
        exact ⟨_, rfl, tbn_zero⟩
      · by_cases hb3 : 1048576 - f.sp < st
        · obtain ⟨g1, g2⟩ := cmE2 (st := st) h0 (Or.inr (Or.inr (by rw [hff]; exact hb3)))
          rw [g1, g2]
          refine zb (id := 4) ?_; refine Zs1 ?_; refine Zs8 ?_; refine Zs1 ?_; refine Zs5 ?_; refine Zs17 ?_; refine Zs1 ?_; refine z7 (qb L _ rfl rfl rfl rfl rfl rfl rfl (by first | omega | decide) (by assumption)) rfl ?_; refine Zs45 ?_; refine Zs43 ?_; refine Zs9 ?_; refine Zs6 ?_; refine Zs1 ?_; refine Zs1 ?_; refine Zs5 ?_; refine Zs17 ?_; refine Zs1 ?_; refine z7 (qb L _ rfl rfl rfl rfl rfl rfl rfl (by first | omega | decide) (by assumption)) rfl ?_; refine Zs45 ?_; refine Zs43 ?_; refine Zs20 ?_; refine Zs23 ?_; refine Zs6 ?_; refine zd ?_; refine zf ?_; refine zw rfl ?_; refine ze ?_; refine zb (id := 5) ?_; refine z7 (qt (cs := [_, _]) rfl rfl pl24 rfl rfl) rfl ?_; refine Zs14 ?_; refine Zs2 ?_; refine zd ?_; refine zf ?_
          refine qn L (rs := [.cell 6 24, .tmp 7]) rfl (fun _ _ h => h) Since.refl fun u H hH hle => ?_
          refine resK_cellA (qe rfl) rfl rfl ?_
          exact ⟨_, rfl, tbn_zero⟩
        · obtain ⟨g1, g2⟩ := cmE3 (st := st) h0 (by rw [hff]; omega)
          rw [g1, g2, map_one hT hf hid]
          have hit5 : ∀ g ∈ t.fl, g.is.length ≤ 50000 := fun g hg => by have := is_le hg; omega
          refine zb (id := 4) ?_; refine Zs1 ?_; refine Zs8 ?_; refine Zs1 ?_; refine Zs5 ?_; refine Zs17 ?_; refine Zs1 ?_; refine z7 (qb L _ rfl rfl rfl rfl rfl rfl rfl (by first | omega | decide) (by assumption)) rfl ?_; refine Zs45 ?_; refine Zs43 ?_; refine Zs9 ?_; refine Zs6 ?_; refine Zs1 ?_; refine Zs1 ?_; refine Zs5 ?_; refine Zs17 ?_; refine Zs1 ?_; refine z7 (qb L _ rfl rfl rfl rfl rfl rfl rfl (by first | omega | decide) (by assumption)) rfl ?_; refine Zs45 ?_; refine Zs43 ?_; refine Zs20 ?_; refine Zs16 ?_; refine Zs6 ?_; refine zd ?_; refine zf ?_; refine zm rfl ?_; refine zt ?_; refine zf ?_; refine ze ?_; refine zb (id := 6) ?_; refine z7 (zn L (vs := [_, _]) (zl rfl) rfl rfl rfl rfl ⟨_, rfl⟩) rfl ?_; refine z7 (ok_callO (r := CpR B t.nx t.fl) L rfl rfl (zg rfl) rfl rfl rfl (fun u H hH hle _ => (copied_ret (zs := zs) (ys := []) (l := t.fl) (by rw [List.append_nil]; exact hz) (by simp only [List.length_nil]; omega) hit5 (hs.le hle) (fsb_nil (fu := true) (fi := true) rfl) hH).mono (CpR.le hle))) rfl ?_; refine vo_opnX 45 rfl fun zs1 H4 s4 ⟨q1, q2⟩ => ?_; refine vo_openAgg 45 901 rfl (fun h _ => absurd h (by rw [fls_len q1]; omega)) fun b hbl hbm => ?_; refine Zs24 ?_; refine Zs14 ?_; refine zd ?_; refine zf ?_; refine ze ?_
          obtain ⟨sv, hz1⟩ := fls_at q1 hf
          have hl1z := fls_len q1
          have hl1 := flatMap_len flc_len zs1
          have hwv : IntKind.i64.wrap (f.ve + 1) = f.ve + 1 := wrap_i64 (by omega) (by omega)
          have hws : IntKind.i64.wrap (f.sp + st) = f.sp + st := wrap_i64 (by omega) (by omega)
          obtain ⟨_, hq11⟩ := fl_dropK (k := 11) hz1 rfl (off := 0 + k * 14 + 11) rfl
          have hs11 := fl_setK (k := 11) (z' := ({ f with ve := f.ve + 1 }, sv)) (v := .int .i64 (f.ve + 1)) hz1 (by decide) rfl (off := 0 + k * 14 + 11) rfl
          have hb11 : Nat.ble (0 + k * 14 + 11 + 1) (zs1.flatMap flc).length = true := Nat.ble_eq_true_of_le (by rw [hl1]; omega)
          refine V_hold 10 902 rfl fun b10 => ?_
          refine zb (id := 7) ?_; refine Zs19 ?_; refine vo_stepR (zx L (q := 902) rfl rfl rfl rfl rfl rfl) ?_; refine Zs1 ?_; refine z7 (zp L _ rfl rfl rfl rfl rfl rfl rfl (by omega)) rfl ?_; refine Zs19 ?_; refine vo_stepR (zx L (q := 901) rfl rfl rfl rfl rfl hq11) ?_; refine Zs18 ?_; refine z7 (zp L _ rfl rfl rfl rfl rfl rfl rfl (by omega)) rfl ?_; refine Zs19 ?_; refine vo_stepS (y2 L (q := 901) rfl rfl rfl rfl rfl rfl hb11 rfl hs11) ?_; refine zd ?_; refine zf ?_; refine ze ?_
          have hz2 : (zs1.set k ({ f with ve := f.ve + 1 }, sv))[k]? = some ({ f with ve := f.ve + 1 }, sv) := List.getElem?_set_self (by omega)
          obtain ⟨_, hq12⟩ := fl_dropK (k := 12) hz2 rfl (off := 0 + k * 14 + 12) rfl
          have hs12 := fl_setK (k := 12) (z' := (mvF st f, sv)) (v := .int .i64 (f.sp + st)) hz2 (by decide) rfl (off := 0 + k * 14 + 12) rfl
          have hb12 : Nat.ble (0 + k * 14 + 12 + 1) ((zs1.set k ({ f with ve := f.ve + 1 }, sv)).flatMap flc).length = true := Nat.ble_eq_true_of_le (by rw [flatMap_len flc_len, List.length_set]; omega)
          rw [List.set_set] at hs12
          refine zb (id := 8) ?_; refine Zs19 ?_; refine vo_stepR (zx L (q := 902) rfl rfl rfl rfl rfl rfl) ?_; refine Zs1 ?_; refine z7 (zp L _ rfl rfl rfl rfl rfl rfl rfl (by omega)) rfl ?_; refine Zs19 ?_; refine vo_stepR (zx L (q := 901) rfl rfl rfl rfl rfl hq12) ?_; refine Zs1 ?_; refine Zs18 ?_; refine z7 (zp L _ rfl rfl rfl rfl rfl rfl rfl (by omega)) rfl ?_; refine Zs19 ?_; refine vo_stepS (y2 L (q := 901) rfl rfl rfl rfl rfl rfl hb12 rfl hs12) ?_; refine zd ?_; refine zf ?_; refine ze ?_
          refine V_release 10 902 rfl rfl ?_
          refine zb (id := 9) ?_; refine z7 (zn L (vs := [_, _]) (qe rfl) rfl rfl rfl rfl ⟨_, rfl⟩) rfl ?_; refine Zs14 ?_; refine Zs2 ?_; refine zd ?_; refine zf ?_
          refine V_pubH 901 rfl fun H6 s6 hnb hb6 => ?_
          refine qn L (rs := [.cell 6 24, .tmp 7]) rfl (fun _ _ h => h) (s4.trans s6) fun u H hH hle => ?_
          refine resK_cellA (qe rfl) rfl rfl ?_
          refine ⟨_, rfl, tbn_mono (tbn_of (zs := zs1.set k (mvF st f, sv)) (by rw [List.length_set]) (by rw [List.map_set, q1]) (newf_set q2 hz1 rfl s6.le) hb6 (none_le s4.le hnb) (by rw [List.length_set]; omega) fun g hg => ?_) hle⟩
          rcases List.mem_or_eq_of_mem_set hg with h | h
          · have := hit5 g h; omega
          · subst h; show f.is.length ≤ _; omega
  · obtain ⟨g1, g2⟩ := cmE1 (st := st) h0
    rw [g1, g2]
    refine ze ?_; refine zb (id := 0) ?_; refine Zs21 ?_; refine Zs24 ?_; refine Zs2 ?_; refine zd ?_; refine zf ?_; refine ze ?_; refine zb (id := 1) ?_; refine z7 (zn L (vs := [_, _]) (zl rfl) rfl rfl rfl rfl ⟨_, rfl⟩) rfl ?_; refine Zs1 ?_; refine z7 (zo L rfl rfl (zg rfl) rfl rfl rfl (fun u H hH hle _ => place_ret hz (hs.le hle) hZ hn hH)) rfl ?_; refine Zs1 ?_; refine Zs50 ?_; refine Zs50 ?_; refine Zs2 ?_; refine Zs2 ?_; refine zd ?_; refine zf ?_; refine ze ?_; refine ze ?_; refine zb (id := 2) ?_; refine Zs1 ?_; refine Zs27 ?_; refine zd ?_; refine zf ?_; refine zw rfl ?_; refine ze ?_; refine zb (id := 3) ?_; refine z7 (qt (cs := [_, _]) rfl rfl pl24 rfl rfl) rfl ?_; refine Zs1 ?_; refine Zs14 ?_; refine Zs2 ?_; refine zd ?_; refine zf ?_
    refine qn L (rs := [.cell 6 24, .tmp 7]) rfl (fun _ _ h => h) Since.refl fun u H hH hle => ?_
    refine resK_cellA (qe rfl) rfl rfl ?_
    exact ⟨_, rfl, tbn_zero⟩
end Go.V.L39
namespace Go.V.L39
open Go.Proofs Go.RowKit Go.V
abbrev tyE : TypeId := 85
attribute [local irreducible] V N X VO Par StepOK Has Ret RetL RetO RetT RetG Src
set_option maxRecDepth 20000 in
theorem growE_ret {n : Nat} (hn : n ≤ 100000) {w : World} {B : Heap} (hB : B.Le (hp w)) : RetO Try.prog 101 [.slice none 0 0, .int .i64 n] w B (SlR tyE 3 0 []) := by
  refine V_enterO Try.func101 rfl Try.ntmps101 (Nat.le_of_ble_eq_true rfl) hB ?_
  have hs : IntKind.i64.wrap ((n : Int) - 0) = (n : Int) := wrap_i64 (by omega) (by omega) |>.trans (by omega)
  by_cases h0 : 0 < n
  · refine ze ?_; refine zb (id := 0) ?_; refine Zs2 ?_; refine zd ?_; refine zf ?_; refine ze ?_; refine ze ?_; refine zb (id := 1) ?_; refine Zs1 ?_; refine Zs8 ?_; refine zd ?_; refine zf ?_; refine zm rfl ?_; refine zt ?_; refine zf ?_; refine ze ?_; refine ze ?_; refine zb (id := 3) ?_; refine Zs1 ?_; refine Zs1 ?_; refine Zs69 ?_; refine Zs1 ?_; refine Zs35 ?_; refine Zs68 ?_; refine Zs20 ?_; refine Zs2 ?_; refine zd ?_; refine zf ?_; refine ze ?_; refine zb (id := 4) ?_; refine Zs1 ?_; refine Zs23 ?_; refine zd ?_; refine zf ?_; refine zw rfl ?_; refine zb (id := 5) ?_; refine Zs1 ?_; refine Zs1 ?_; refine Zs69 ?_; refine z7 (ok_sliceN L 0 rfl rfl rfl rfl rfl rfl rfl) rfl ?_; refine Zs1 ?_; refine z7 (ok_appendM L rfl rfl rfl rfl rfl Try.underlying3 el85 h0 (by omega) (by omega)) rfl ?_; refine Zs1 ?_; refine Zs35 ?_; refine qh (ok_slice0 L 0 rfl h0 rfl rfl rfl rfl rfl rfl) ?_; refine qh (ok_moveO (.inr rfl) rfl rfl rfl rfl) ?_; refine zd ?_; refine zf ?_; refine ze ?_; refine zb (id := 6) ?_; refine qh (ok_moveO (.inl rfl) rfl rfl rfl rfl) ?_; refine qh (ok_moveO (.inr rfl) rfl rfl rfl rfl) ?_; refine zd ?_; refine zf ?_
    exact V_retO rfl (fun _ _ h => h) Since.refl rfl
  · obtain rfl : n = 0 := by omega
    refine ze ?_; refine zb (id := 0) ?_; refine Zs2 ?_; refine zd ?_; refine zf ?_; refine ze ?_; refine ze ?_; refine zb (id := 1) ?_; refine Zs1 ?_; refine Zs8 ?_; refine zd ?_; refine zf ?_; refine zm rfl ?_; refine zt ?_; refine zf ?_; refine ze ?_; refine ze ?_; refine zb (id := 3) ?_; refine Zs1 ?_; refine Zs1 ?_; refine Zs69 ?_; refine Zs1 ?_; refine Zs35 ?_; refine Zs20 ?_; refine Zs20 ?_; refine Zs2 ?_; refine zd ?_; refine zf ?_; refine ze ?_; refine zb (id := 4) ?_; refine Zs1 ?_; refine Zs16 ?_; refine zd ?_; refine zf ?_; refine zm rfl ?_; refine zt ?_; refine zf ?_; refine ze ?_
    refine V_nilR 0 tyE 3 rfl ?_
    refine zb (id := 6) ?_; refine qh (ok_moveO (.inl rfl) rfl rfl rfl rfl) ?_; refine qh (ok_moveO (.inr rfl) rfl rfl rfl rfl) ?_; refine zd ?_; refine zf ?_
    exact V_retO rfl (fun _ _ h => h) Since.refl rfl
set_option maxHeartbeats 2000000 in
theorem concatE_ret {avs : List Value} {Xs : List (List Value × Nat)} {B : Heap} (hX : Lsts tyE 3 B avs Xs) (hk : avs.length ≤ 1000) (hn : nXs Xs ≤ 50000) {v : Value} {w : World} (hB : B.Le (hp w)) (hv : SlB avs 78 avs.length v B) :
    Ret Try.prog 81 [v] w B (SlV tyE 3 (cXs Xs) (nXs Xs) false) := by
  obtain ⟨k, hkk⟩ : ∃ k, k = avs.length := ⟨_, rfl⟩
  rw [← hkk] at hk hv
  obtain ⟨sz, hsz⟩ : ∃ sz : Nat → Nat, sz = fun i => nXs (Xs.take i) := ⟨_, rfl⟩
  obtain ⟨ac, hac⟩ : ∃ ac : Nat → List Value, ac = fun i => cXs (Xs.take i) := ⟨_, rfl⟩
  have step : ∀ i, i < k → ∃ x p c f l m, avs[i * 1]? = some x ∧ x = .slice p m c ∧ SlV tyE 3 l m f x B ∧ sz (i + 1) = sz i + m ∧ ac (i + 1) = ac i ++ l ∧ sz (i + 1) ≤ 50000 ∧ l.all plainV = true ∧ l.length = m * 3 := fun i hi => by
    subst hkk hsz hac
    obtain ⟨x, p, c, f, l, m, h1, h2, h3, h4, h5⟩ := hX.at hi
    refine ⟨x, p, c, f, l, m, by rw [Nat.mul_one]; exact h1, h2, h3, nXs_take h4, cXs_take h4, Nat.le_trans (nXs_le _ _) hn, h5, h3.1⟩
  have h0 : sz 0 = 0 := by subst hsz; rfl
  have a0 : ac 0 = [] := by subst hac; rfl
  have a2 : ac k = cXs Xs := by subst hac; dsimp only; rw [List.take_of_length_le (by rw [hkk, hX.1]; omega)]
  have s2 : sz k = nXs Xs := by subst hsz; dsimp only; rw [List.take_of_length_le (by rw [hkk, hX.1]; omega)]
  have hal : ∀ i, (ac i).length = sz i * 3 ∧ sz i ≤ 50000 := fun i => by
    subst hsz hac
    exact ⟨hX.len i, Nat.le_trans (nXs_le _ _) hn⟩
  rw [← a2, ← s2]
  have s3 : sz k ≤ 100000 := by have := (hal k).2; omega
  clear hsz hac hX hn a2 s2 hkk
  refine ya Try.func81 rfl Try.ntmps81 (Nat.le_of_ble_eq_true rfl) hB ?_
  refine V_seen 0 (SlB avs 78 k) rfl SlB.mono hv ?_
  refine ze ?_; refine zb (id := 0) ?_; refine Zs2 ?_; refine zd ?_; refine zf ?_; refine ze ?_; refine zb (id := 1) ?_; refine Zs2 ?_; refine zd ?_; refine zf ?_; refine ze ?_; refine ze ?_; refine zb (id := 2) ?_; refine Zs37 ?_; refine Zs81 ?_; refine Zs1 ?_; refine zd ?_; refine zf ?_; refine zy ?_
  refine V_loop (fun i : Nat => [(0, .sat (SlB avs 78 k)), (3, .is (.int .i64 (sz i))), (9, .sat (SlB avs 78 k)), (10, .is (.int .i64 k)), (11, .is (.int .i64 i))]) (fun i => i ≤ k) (fun i => k - i) 0 (Nat.zero_le _) ⟨rfl, by rw [h0]; rfl, rfl, rfl, rfl, trivial⟩ ?_
  rintro i hi
  by_cases hlt : i < k
  · obtain ⟨x, p, c, f, l, m, hx, hxe, hk, hs, _, hb5, _, _⟩ := step i hlt
    subst hxe
    have had : IntKind.i64.wrap ((sz i : Int) + (m : Int)) = (sz (i + 1) : Int) := wrap_i64 (by omega) (by omega) |>.trans (by omega)
    refine ze ?_; refine zb (id := 3) ?_; refine Zs11 ?_; refine zd ?_; refine zf ?_; refine ze ?_; refine zw rfl ?_; refine zt ?_; refine zf ?_; refine ze ?_; refine zy ?_; refine ze ?_; refine zb (id := 4) ?_; refine z7 (ok_indexSl L _ rfl rfl rfl rfl rfl rfl rfl (by omega)) rfl ?_; refine Zs65 ?_; refine Zs2 ?_; refine zd ?_; refine zf ?_; refine ze ?_; refine zb (id := 5) ?_; refine Zs1 ?_; refine Zs1 ?_; refine Zs35 ?_; refine Zs18 ?_; refine Zs2 ?_; refine zd ?_; refine zf ?_; refine ze ?_; refine zb (id := 6) ?_; refine Zs1 ?_; refine Zs8 ?_; refine zd ?_; refine zf ?_; refine zm rfl ?_; refine zt ?_; refine qm ?_; refine zf ?_; refine zb (id := 8) ?_; refine Zs13 ?_; refine Zs1 ?_; refine zd ?_
    exact y1 (x := i) (i + 1) hlt (by omega) ⟨rfl, rfl, rfl, rfl, rfl, trivial⟩
  · obtain rfl : i = k := by omega
    refine ze ?_; refine zb (id := 3) ?_; refine Zs8 ?_; refine zd ?_; refine zf ?_; refine ze ?_; refine zm rfl ?_; refine y7 ?_; refine qg ?_; refine qg ?_; refine y6 ?_; refine zf ?_; refine ze ?_; refine zb (id := 9) ?_; refine Zs1 ?_; refine z7 (ok_callO L rfl rfl (zg rfl) rfl rfl rfl (fun u H hH _ _ => growE_ret s3 hH)) rfl ?_; refine qh (ok_moveO (.inr rfl) rfl rfl rfl rfl) ?_; refine zd ?_; refine zf ?_; refine ze ?_; refine ze ?_; refine zb (id := 10) ?_; refine Zs37 ?_; refine Zs81 ?_; refine Zs1 ?_; refine zd ?_; refine zf ?_; refine zy ?_
    refine V_loop (fun j : Nat => [(6, .own (SlR tyE 3 (sz j) (ac j))), (25, .sat (SlB avs 78 i)), (26, .is (.int .i64 i)), (27, .is (.int .i64 j))]) (fun j => j ≤ i) (fun j => i - j) 0 (Nat.zero_le _) ⟨by rw [a0, h0]; rfl, rfl, rfl, rfl, trivial⟩ ?_
    rintro j hj
    obtain ⟨hlj, hlj2⟩ := hal j
    by_cases hjl : j < i
    · obtain ⟨x, p, c, f, l, m, hx, _, hk, hs', ha', hb5, hpl, hlen⟩ := step j hjl
      refine ze ?_; refine zb (id := 11) ?_; refine Zs11 ?_; refine zd ?_; refine zf ?_; refine ze ?_; refine zw rfl ?_; refine zt ?_; refine zf ?_; refine ze ?_; refine zy ?_; refine ze ?_; refine zb (id := 12) ?_; refine z7 (ok_indexSl L _ rfl rfl rfl rfl rfl rfl rfl (by omega)) rfl ?_; refine Zs65 ?_; refine Zs2 ?_; refine zd ?_; refine zf ?_
      refine V_seen 8 (SlV tyE 3 l m f) rfl SlV.mono hk ?_
      refine zb (id := 13) ?_; refine qh (ok_moveO (.inl rfl) rfl rfl rfl rfl) ?_; refine Zs37 ?_; refine qh (ok_append L rfl rfl rfl (apd_V rfl) rfl el85 (by assumption) (by assumption) (by omega) (by omega)) ?_; refine qh (ok_moveO (.inr rfl) rfl rfl rfl rfl) ?_; refine zd ?_; refine qm ?_; refine zf ?_; refine zb (id := 14) ?_; refine Zs13 ?_; refine Zs1 ?_; refine zd ?_
      exact y1 (x := j) (j + 1) hjl (by omega) ⟨by rw [ha', hs']; rfl, rfl, rfl, rfl, trivial⟩
    · obtain rfl : j = i := by omega
      refine V_pubR 6 rfl ?_
      refine ze ?_; refine zb (id := 11) ?_; refine Zs8 ?_; refine zd ?_; refine zf ?_; refine ze ?_; refine zm rfl ?_; refine y7 ?_; refine qg ?_; refine qg ?_; refine y6 ?_; refine zf ?_; refine ze ?_; refine zb (id := 15) ?_; refine Zs37 ?_; refine Zs60 ?_; refine zd ?_; refine zf ?_
      refine qn L (rs := [.tmp 2]) rfl (fun _ _ h => h) Since.refl fun u H hH hle => ?_
      exact fun v hv => hv
theorem ownE_ret {avs : List Value} {Xs : List (List Value × Nat)} {B : Heap} (hX : Lsts tyE 3 B avs Xs) (hk : avs.length ≤ 1000) (hn : nXs Xs ≤ 50000) {v : Value} {w : World} (hB : B.Le (hp w)) (hv : SlB avs 78 avs.length v B) :
    RetO Try.prog 61 [v] w B (SlE tyE 3 (nXs Xs) (cXs Xs)) := by
  have hpl := hX.plain
  have hlen : (cXs Xs).length = nXs Xs * 3 := by have := hX.len Xs.length; rwa [List.take_length] at this
  have hc : ∀ {u : World} {H : Heap}, H.Le (hp u) → B.Le H → Ret Try.prog 81 [v] u H (SlV tyE 3 (cXs Xs) (nXs Xs) false) := fun hH hle => concatE_ret (hX.le hle) hk hn hH (SlB.mono _ _ _ hv hle)
  generalize cXs Xs = cs at *
  generalize nXs Xs = m at *
  clear hX
  refine V_enterO Try.func61 rfl Try.ntmps61 (Nat.le_of_ble_eq_true rfl) hB ?_
  by_cases h0 : m = 0
  · subst h0
    obtain rfl : cs = [] := List.eq_nil_of_length_eq_zero (by omega)
    refine ze ?_; refine zb (id := 0) ?_; refine Zs2 ?_; refine zd ?_; refine zf ?_; refine ze ?_; refine zb (id := 1) ?_; refine Zs1 ?_; refine z7 (ok_call L rfl rfl (zg rfl) rfl rfl rfl SlV.mono (fun u H hH hle _ => hc hH hle)) rfl ?_; refine Zs60 ?_; refine zd ?_; refine zf ?_; refine ze ?_; refine ze ?_; refine zb (id := 2) ?_; refine Zs37 ?_; refine Zs31 ?_; refine Zs15 ?_; refine zd ?_; refine zf ?_; refine zw rfl ?_; refine ze ?_; refine zb (id := 3) ?_; refine Zs2 ?_; refine zd ?_; refine zf ?_
    refine V_nilE 2 tyE 3 rfl ?_
    exact V_retO rfl (fun _ _ h => h) Since.refl rfl
  · refine ze ?_; refine zb (id := 0) ?_; refine Zs2 ?_; refine zd ?_; refine zf ?_; refine ze ?_; refine zb (id := 1) ?_; refine Zs1 ?_; refine z7 (ok_call L rfl rfl (zg rfl) rfl rfl rfl SlV.mono (fun u H hH hle _ => hc hH hle)) rfl ?_; refine Zs60 ?_; refine zd ?_; refine zf ?_; refine ze ?_; refine ze ?_; refine zb (id := 2) ?_; refine Zs37 ?_; refine Zs31 ?_; refine Zs9 ?_; refine zd ?_; refine zf ?_; refine zm rfl ?_; refine zt ?_; refine zf ?_; refine ze ?_; refine zb (id := 4) ?_; refine Zs37 ?_; refine Zs31 ?_; refine z7 (ok_makeN L m rfl rfl rfl el85 rfl rfl rfl rfl (by omega) (by unfold maxLen; omega)) rfl ?_; refine qh (ok_moveO (.inr rfl) rfl rfl rfl rfl) ?_; refine zd ?_; refine zf ?_; refine ze ?_
    refine V_holdE 4 901 (by omega) rfl fun b hzl => ?_
    refine zb (id := 5) ?_; refine Zs1 ?_; refine Zs37 ?_; refine qh (ok_copyH L (q := 901) (by omega) rfl rfl rfl rfl (apd_V rfl) rfl el85 hzl hlen hpl) ?_; refine zd ?_; refine zf ?_; refine ze ?_; refine zb (id := 6) ?_; refine Zs1 ?_; refine Zs2 ?_; refine zd ?_; refine zf ?_
    refine V_relE 2 901 rfl rfl hlen (by unfold maxLen; omega) ?_
    exact V_retO rfl (fun _ _ h => h) Since.refl rfl
end Go.V.L39
namespace Go.V.L39
open Go.Proofs Go.RowKit Go.V
def ckE (t : Tb) (cl : Int) : Int := if chkE t ≠ 0 then chkE t else if 0 ≤ cl ∧ cl ≤ 15 then 0 else 4
theorem ckE_zero {t : Tb} {cl : Int} (h : ckE t cl = 0) : chkE t = 0 ∧ 0 ≤ cl ∧ cl ≤ 15 := by
  unfold ckE at h
  split at h
  · rename_i h1; exact absurd h h1
  · rename_i h1
    split at h
    · rename_i h2; exact ⟨by simpa using h1, h2⟩
    · cases h
theorem cntB_take {p : It → Bool} {l : List Fl} {i : Nat} {f : Fl} (h : l[i]? = some f) : cntB p (l.take (i + 1)) = cntB p (l.take i) + f.is.countP p := by
  rw [take_snoc h]; simp [cntB]
theorem countP_take {p : It → Bool} {l : List It} {i : Nat} {x : It} (h : l[i]? = some x) : (l.take (i + 1)).countP p = (l.take i).countP p + if p x = true then 1 else 0 := by
  rw [take_snoc h, List.countP_append, List.countP_cons, List.countP_nil, Nat.zero_add]
theorem countP_le_its {p : It → Bool} : ∀ {l : List Fl}, cntB p l ≤ itsN l
  | [] => Nat.le_refl _
  | f :: l => by
    have h1 := countP_le_its (p := p) (l := l)
    have h2 := List.countP_le_length (p := p) (l := f.is)
    unfold cntB itsN at *
    simp only [List.map_cons, List.sum_cons]
    omega
theorem cntB_app {p : It → Bool} {l m : List Fl} : cntB p (l ++ m) = cntB p l + cntB p m := by simp [cntB]
theorem cntB_le {p : It → Bool} (l : List Fl) (i : Nat) : cntB p (l.take i) ≤ cntB p l := by
  have h : cntB p l = cntB p (l.take i) + cntB p (l.drop i) := by
    conv => lhs; rw [← List.take_append_drop i l]
    exact cntB_app
  omega
theorem countP_take_le {p : It → Bool} (l : List It) (i : Nat) : (l.take i).countP p ≤ l.countP p := by
  conv => rhs; rw [← List.take_append_drop i l, List.countP_append]
  omega
def quF (t : Tb) (cl : Int) : List Fl := t.fl.filter fun f => decide (f.cl = cl)
def quErr (t : Tb) (cl : Int) : Int := if ckE t cl ≠ 0 then ckE t cl else if 64 < (quF t cl).length then 3 else 0
def enc3 (f : Fl) : List Value := [.int .i64 f.id, .int .i64 f.cs, .int .i64 f.si]
theorem enc3_plain (l : List Fl) : (l.flatMap enc3).all plainV = true := by
  rw [List.all_eq_true]
  intro v hv
  obtain ⟨x, _, hx⟩ := List.mem_flatMap.1 hv
  simp only [enc3, List.mem_cons, List.mem_nil_iff, or_false] at hx
  rcases hx with rfl | rfl | rfl <;> rfl
def QueP (l : List Fl) (e : Int) : Value → Heap → Prop := fun v H => ∃ sv, v = .tuple #[.agg #[sv], .int .i64 e] ∧ SlV tyE 3 (l.flatMap enc3) l.length true sv H
theorem QueP.mono {l : List Fl} {e : Int} : Kn.mono (.sat (QueP l e)) := fun _ _ _ ⟨sv, h1, h2⟩ hle => ⟨sv, h1, h2.le hle⟩
def OneL (e : TypeId) (s : Nat) (xs : List Value) (n : Nat) (te : TypeId) : Value → Heap → Prop := fun v H => ∃ sl fu, SlB [sl] te 1 v H ∧ SlV e s xs n fu sl H
theorem OneL.mono {e : TypeId} {s : Nat} {xs : List Value} {n : Nat} {te : TypeId} : Kn.mono (.sat (OneL e s xs n te)) := fun _ _ _ ⟨sl, fu, h1, h2⟩ hle => ⟨sl, fu, SlB.mono _ _ _ h1 hle, h2.le hle⟩
attribute [local irreducible] V N X VO Par StepOK Has Ret RetL RetO RetT RetG Src
theorem ownE1_ret {xs : List Value} {n : Nat} {fa : Bool} {a v : Value} {w : World} {B : Heap} (ha : SlV tyE 3 xs n fa a B) (px : xs.all plainV = true) (hl : n ≤ 50000) (hB : B.Le (hp w)) (hv : SlB [a] 78 1 v B) :
    Ret Try.prog 61 [v] w B (SlN B tyE 3 xs n true) := by
  have h := ownE_ret (lsts1 ha px) (by simp) (by simpa [nXs] using hl) hB hv
  have e1 : nXs [(xs, n)] = n := by simp [nXs]
  have e2 : cXs [(xs, n)] = xs := by simp [cXs]
  rw [e1, e2] at h
  exact h.toN hB
theorem fcheck_ret {t : Tb} {zs : List (Fl × Value)} (hz : zs.map Prod.fst = t.fl) {fu fi : Bool} {s : Value} {cl : Int} {w : World} {B : Heap} (hs : FsB zs fu fi s B) (hZ : ∀ f ∈ t.fl, QuZ f.q) (hn : itsN t.fl ≤ 4611686018427387904) {e : Int} (he : ckE t cl = e) (hB : B.Le (hp w)) :
    Ret Try.prog 60 [tbv t.nx s, .int .i64 cl] w B (fun v _ => v = .int .i64 e) := by
  subst he
  obtain ⟨e1, hc⟩ : ∃ e, chkE t = e := ⟨_, rfl⟩
  unfold ckE
  rw [hc]
  refine ya Try.func60 rfl Try.ntmps60 (Nat.le_of_ble_eq_true rfl) hB ?_
  by_cases h0 : e1 = 0
  · subst h0
    rw [if_neg (by simp)]
    by_cases h1 : 0 ≤ cl ∧ cl ≤ 15
    · rw [if_pos h1]
      refine ze ?_; refine zb (id := 0) ?_; refine Zs21 ?_; refine Zs2 ?_; refine zd ?_; refine zf ?_; refine ze ?_; refine ze ?_; refine zb (id := 1) ?_; refine z7 (zn L (vs := [_, _]) (zl rfl) rfl rfl rfl rfl ⟨_, rfl⟩) rfl ?_; refine z7 (zo L rfl rfl (zg rfl) rfl rfl rfl (fun u H hH hle _ => check_ret hz (hs.le hle) hZ hn hc hH)) rfl ?_; refine Zs2 ?_; refine zd ?_; refine zf ?_; refine ze ?_; refine zb (id := 2) ?_; refine Zs1 ?_; refine Zs10 ?_; refine zd ?_; refine zf ?_; refine zm rfl ?_; refine zt ?_; refine zf ?_; refine ze ?_; refine ze ?_; refine zb (id := 4) ?_; refine Zs1 ?_; refine z7 (zo L rfl rfl (zg rfl) rfl rfl rfl (fun u H hH _ _ => withinT (by omega) (by omega) hH)) rfl ?_; refine Zs49 ?_; refine zd ?_; refine zf ?_; refine zm rfl ?_; refine zt ?_; refine zf ?_; refine ze ?_; refine zb (id := 6) ?_; refine Zs2 ?_; refine zd ?_; refine zf ?_
      refine qn L (rs := [.tmp 4]) rfl (fun _ _ h => h) Since.refl fun u H hH hle => ?_
      rfl
    · rw [if_neg h1]
      refine ze ?_; refine zb (id := 0) ?_; refine Zs21 ?_; refine Zs2 ?_; refine zd ?_; refine zf ?_; refine ze ?_; refine ze ?_; refine zb (id := 1) ?_; refine z7 (zn L (vs := [_, _]) (zl rfl) rfl rfl rfl rfl ⟨_, rfl⟩) rfl ?_; refine z7 (zo L rfl rfl (zg rfl) rfl rfl rfl (fun u H hH hle _ => check_ret hz (hs.le hle) hZ hn hc hH)) rfl ?_; refine Zs2 ?_; refine zd ?_; refine zf ?_; refine ze ?_; refine zb (id := 2) ?_; refine Zs1 ?_; refine Zs10 ?_; refine zd ?_; refine zf ?_; refine zm rfl ?_; refine zt ?_; refine zf ?_; refine ze ?_; refine ze ?_; refine zb (id := 4) ?_; refine Zs1 ?_; refine z7 (zo L rfl rfl (zg rfl) rfl rfl rfl (fun u H hH _ _ => withinF (by omega) hH)) rfl ?_; refine Zs49 ?_; refine zd ?_; refine zf ?_; refine zw rfl ?_; refine ze ?_; refine zb (id := 5) ?_; refine Zs2 ?_; refine zd ?_; refine zf ?_
      refine qn L (rs := [.tmp 4]) rfl (fun _ _ h => h) Since.refl fun u H hH hle => ?_
      rfl
  · rw [if_pos h0]
    refine ze ?_; refine zb (id := 0) ?_; refine Zs21 ?_; refine Zs2 ?_; refine zd ?_; refine zf ?_; refine ze ?_; refine ze ?_; refine zb (id := 1) ?_; refine z7 (zn L (vs := [_, _]) (zl rfl) rfl rfl rfl rfl ⟨_, rfl⟩) rfl ?_; refine z7 (zo L rfl rfl (zg rfl) rfl rfl rfl (fun u H hH hle _ => check_ret hz (hs.le hle) hZ hn hc hH)) rfl ?_; refine Zs2 ?_; refine zd ?_; refine zf ?_; refine ze ?_; refine zb (id := 2) ?_; refine Zs1 ?_; refine Zs27 ?_; refine zd ?_; refine zf ?_; refine zw rfl ?_; refine ze ?_; refine zb (id := 3) ?_; refine Zs1 ?_; refine Zs2 ?_; refine zd ?_; refine zf ?_
    refine qn L (rs := [.tmp 4]) rfl (fun _ _ h => h) Since.refl fun u H hH hle => ?_
    rfl
set_option maxHeartbeats 2000000 in
set_option maxRecDepth 20000 in
theorem waiting_ret {t : Tb} {zs : List (Fl × Value)} (hz : zs.map Prod.fst = t.fl) {fu fi : Bool} {s : Value} {cl : Int} {w : World} {B : Heap} (hs : FsB zs fu fi s B) (hZ : ∀ f ∈ t.fl, QuZ f.q) (hn : itsN t.fl ≤ 4611686018427387904) (hB : B.Le (hp w)) :
    Ret Try.prog 29 [tbv t.nx s, .int .i64 cl] w B (fun v _ => v = .tuple #[.int .i64 (if ckE t cl = 0 then (cntB (fun x => decide (x.cl = cl)) t.fl : Int) else 0), .int .i64 (ckE t cl)]) := by
  have hsl := hs.sl
  have hlen := fls_len hz
  have hzl := hs.ln
  obtain ⟨e, hck⟩ : ∃ e, ckE t cl = e := ⟨_, rfl⟩
  rw [hck]
  refine ya Try.func29 rfl Try.ntmps29 (Nat.le_of_ble_eq_true rfl) hB ?_
  by_cases h0 : e = 0
  · subst h0
    obtain ⟨hc, _⟩ := ckE_zero hck
    have h1024 := chk_its hc
    have hle := countP_le_its (p := fun x => decide (x.cl = cl)) (l := t.fl)
    rw [if_pos rfl]
    obtain ⟨p, hp⟩ : ∃ p : It → Bool, p = fun x => decide (x.cl = cl) := ⟨_, rfl⟩
    rw [← hp] at hle ⊢
    refine ze ?_; refine zb (id := 0) ?_; refine Zs21 ?_; refine Zs2 ?_; refine Zs2 ?_; refine zd ?_; refine zf ?_; refine ze ?_; refine ze ?_; refine zb (id := 1) ?_; refine z7 (zn L (vs := [_, _]) (zl rfl) rfl rfl rfl rfl ⟨_, rfl⟩) rfl ?_; refine Zs1 ?_; refine z7 (zo L rfl rfl (zg rfl) rfl rfl rfl (fun u H hH hle _ => fcheck_ret hz (hs.le hle) hZ hn hck hH)) rfl ?_; refine Zs2 ?_; refine zd ?_; refine zf ?_; refine ze ?_; refine zb (id := 2) ?_; refine Zs1 ?_; refine Zs10 ?_; refine zd ?_; refine zf ?_; refine zm rfl ?_; refine zt ?_; refine zf ?_; refine ze ?_; refine zb (id := 4) ?_; refine Zs2 ?_; refine zd ?_; refine zf ?_; refine ze ?_; refine ze ?_; refine zb (id := 5) ?_; refine Zs5 ?_; refine Zs17 ?_; refine Zs31 ?_; refine Zs1 ?_; refine zd ?_; refine zf ?_; refine zy ?_
    refine V_loop (fun i : Nat => [(1, .is (.int .i64 cl)), (7, .is (.int .i64 (cntB p (t.fl.take i)))), (19, .sat (SlV tyF 14 (zs.flatMap flc) zs.length fu)), (20, .is (.int .i64 zs.length)), (21, .is (.int .i64 i))]) (fun i => i ≤ zs.length) (fun i => zs.length - i) 0 (Nat.zero_le _) ⟨rfl, rfl, rfl, rfl, rfl, trivial⟩ ?_
    rintro i hi
    by_cases hlt : i < zs.length
    · obtain ⟨f, pp, c, hzi, hli, hzv, hil, hc14⟩ := hs.at hz hlt
      have h1 := cntB_take (p := p) hli
      have h2 := cntB_le (p := p) t.fl (i + 1)
      refine ze ?_; refine zb (id := 6) ?_; refine Zs11 ?_; refine zd ?_; refine zf ?_; refine ze ?_; refine zw rfl ?_; refine zt ?_; refine zf ?_; refine ze ?_; refine zy ?_; refine ze ?_; refine zb (id := 7) ?_; refine z7 (qb L _ rfl rfl rfl rfl rfl rfl rfl (by first | omega | decide) (by assumption)) rfl ?_; refine z7 (y5 L (vs := [_, _, _, _, _, _, _, _, _, _, _, _, _, _]) rfl rfl rfl rfl rfl ⟨_, rfl⟩) rfl ?_; refine Zs24 ?_; refine Zs14 ?_; refine zd ?_; refine zf ?_; refine ze ?_
      refine V_pub 9 rfl ?_
      refine zb (id := 8) ?_; refine Zs5 ?_; refine Zs17 ?_; refine Zs31 ?_; refine Zs1 ?_; refine zd ?_; refine zf ?_; refine zy ?_
      refine V_loop (fun k : Nat => [(1, .is (.int .i64 cl)), (7, .is (.int .i64 (cntB p (t.fl.take i) + (f.is.take k).countP p : Nat))), (19, .sat (SlV tyF 14 (zs.flatMap flc) zs.length fu)), (20, .is (.int .i64 zs.length)), (21, .is (.int .i64 i)), (26, .sat (IsV f.is fi)), (27, .is (.int .i64 f.is.length)), (28, .is (.int .i64 k))]) (fun k => k ≤ f.is.length) (fun k => f.is.length - k) 0 (Nat.zero_le _) ⟨rfl, rfl, rfl, rfl, rfl, rfl, rfl, rfl, trivial⟩ ?_
      rintro k hk
      by_cases hkl : k < f.is.length
      · obtain ⟨x, hx⟩ := get_some hkl
        have hc := it_at hx
        have h3 := countP_take (p := p) hx
        have h4 := countP_take_le (p := p) f.is (k + 1)
        by_cases hxc : x.cl = cl
        · have hpx : p x = true := by rw [hp]; exact decide_eq_true hxc
          rw [if_pos hpx] at h3
          have had : IntKind.i64.wrap (((cntB p (t.fl.take i) + (f.is.take k).countP p : Nat) : Int) + 1) = ((cntB p (t.fl.take i) + (f.is.take (k + 1)).countP p : Nat) : Int) := wrap_i64 (by omega) (by omega) |>.trans (by omega)
          refine ze ?_; refine zb (id := 9) ?_; refine Zs11 ?_; refine zd ?_; refine zf ?_; refine ze ?_; refine zw rfl ?_; refine zt ?_; refine zf ?_; refine ze ?_; refine zy ?_; refine ze ?_; refine zb (id := 10) ?_; refine z7 (qb L _ rfl rfl rfl rfl rfl rfl rfl (by first | omega | decide) (by assumption)) rfl ?_; refine z7 (y5 L (vs := [_, _, _, _, _]) rfl rfl rfl rfl rfl ⟨_, rfl⟩) rfl ?_; refine Zs24 ?_; refine Zs14 ?_; refine zd ?_; refine zf ?_; refine ze ?_
          refine V_pub 11 rfl ?_
          refine zb (id := 11) ?_; refine Zs5 ?_; refine Zs4 ?_; refine Zs1 ?_; refine Zs15 ?_; refine zd ?_; refine zf ?_; refine zw rfl ?_; refine zb (id := 12) ?_; refine Zs1 ?_; refine Zs18 ?_; refine Zs2 ?_; refine zd ?_; refine qm ?_; refine zf ?_; refine zb (id := 13) ?_; refine Zs13 ?_; refine Zs1 ?_; refine zd ?_
          exact y1 (x := k) (k + 1) hkl (by omega) ⟨rfl, rfl, rfl, rfl, rfl, rfl, rfl, rfl, trivial⟩
        · have hpx : ¬ p x = true := by rw [hp]; simpa using hxc
          rw [if_neg hpx] at h3
          refine ze ?_; refine zb (id := 9) ?_; refine Zs11 ?_; refine zd ?_; refine zf ?_; refine ze ?_; refine zw rfl ?_; refine zt ?_; refine zf ?_; refine ze ?_; refine zy ?_; refine ze ?_; refine zb (id := 10) ?_; refine z7 (qb L _ rfl rfl rfl rfl rfl rfl rfl (by first | omega | decide) (by assumption)) rfl ?_; refine z7 (y5 L (vs := [_, _, _, _, _]) rfl rfl rfl rfl rfl ⟨_, rfl⟩) rfl ?_; refine Zs24 ?_; refine Zs14 ?_; refine zd ?_; refine zf ?_; refine ze ?_
          refine V_pub 11 rfl ?_
          refine zb (id := 11) ?_; refine Zs5 ?_; refine Zs4 ?_; refine Zs1 ?_; refine Zs9 ?_; refine zd ?_; refine zf ?_; refine zm rfl ?_; refine zt ?_; refine qm ?_; refine zf ?_; refine zb (id := 13) ?_; refine Zs13 ?_; refine Zs1 ?_; refine zd ?_
          exact y1 (x := k) (k + 1) hkl (by omega) ⟨rfl, by rw [h3]; rfl, rfl, rfl, rfl, rfl, rfl, rfl, trivial⟩
      · obtain rfl : k = f.is.length := by omega
        refine ze ?_; refine zb (id := 9) ?_; refine Zs8 ?_; refine zd ?_; refine zf ?_; refine ze ?_; refine zm rfl ?_; refine y7 ?_; refine qg ?_; refine qg ?_; refine y6 ?_; refine qm ?_; refine zf ?_; refine zb (id := 14) ?_; refine Zs13 ?_; refine Zs1 ?_; refine zd ?_
        exact y1 (x := i) (i + 1) hlt (by omega) ⟨rfl, by rw [h1, List.take_length]; rfl, rfl, rfl, rfl, trivial⟩
    · obtain rfl : i = zs.length := by omega
      rw [hlen, List.take_length]
      refine ze ?_; refine zb (id := 6) ?_; refine Zs8 ?_; refine zd ?_; refine zf ?_; refine ze ?_; refine zm rfl ?_; refine y7 ?_; refine qg ?_; refine qg ?_; refine y6 ?_; refine zf ?_; refine ze ?_; refine zb (id := 15) ?_; refine Zs1 ?_; refine Zs2 ?_; refine Zs2 ?_; refine zd ?_; refine zf ?_
      refine qn L (rs := [.tmp 4, .tmp 5]) rfl (fun _ _ h => h) Since.refl fun u H hH hle => ?_
      rfl
  · rw [if_neg h0]
    refine ze ?_; refine zb (id := 0) ?_; refine Zs21 ?_; refine Zs2 ?_; refine Zs2 ?_; refine zd ?_; refine zf ?_; refine ze ?_; refine ze ?_; refine zb (id := 1) ?_; refine z7 (zn L (vs := [_, _]) (zl rfl) rfl rfl rfl rfl ⟨_, rfl⟩) rfl ?_; refine Zs1 ?_; refine z7 (zo L rfl rfl (zg rfl) rfl rfl rfl (fun u H hH hle _ => fcheck_ret hz (hs.le hle) hZ hn hck hH)) rfl ?_; refine Zs2 ?_; refine zd ?_; refine zf ?_; refine ze ?_; refine zb (id := 2) ?_; refine Zs1 ?_; refine Zs27 ?_; refine zd ?_; refine zf ?_; refine zw rfl ?_; refine ze ?_; refine zb (id := 3) ?_; refine Zs1 ?_; refine Zs2 ?_; refine Zs2 ?_; refine zd ?_; refine zf ?_
    refine qn L (rs := [.tmp 4, .tmp 5]) rfl (fun _ _ h => h) Since.refl fun u H hH hle => ?_
    rfl
theorem quF_take {l : List Fl} {cl : Int} {i : Nat} {f : Fl} (h : l[i]? = some f) : (l.take (i + 1)).filter (fun f => decide (f.cl = cl)) = (l.take i).filter (fun f => decide (f.cl = cl)) ++ if f.cl = cl then [f] else [] := by
  rw [take_snoc h, List.filter_append, List.filter_cons, List.filter_nil]
  by_cases hc : f.cl = cl
  · rw [if_pos (decide_eq_true hc), if_pos hc]
  · rw [if_neg (by simpa using hc), if_neg hc]
theorem que_snoc {κ : Kap} {s : Nat} {r : List Fl} {f : Fl} (h : κ s = some (.own (SlR tyE 3 (r.length + 1) (r.flatMap enc3 ++ [.int .i64 f.id, .int .i64 f.cs, .int .i64 f.si])))) : κ s = some (.own (SlR tyE 3 (r ++ [f]).length ((r ++ [f]).flatMap enc3))) := by
  rw [h, List.flatMap_append, List.length_append]; rfl
set_option maxHeartbeats 2000000 in
set_option maxRecDepth 20000 in
theorem queue_ret {t : Tb} {zs : List (Fl × Value)} (hz : zs.map Prod.fst = t.fl) {fu fi : Bool} {s : Value} {cl : Int} {w : World} {B : Heap} (hs : FsB zs fu fi s B) (hZ : ∀ f ∈ t.fl, QuZ f.q) (hn : itsN t.fl ≤ 4611686018427387904) (hln : zs.length ≤ 40000) (hB : B.Le (hp w)) :
    Ret Try.prog 30 [tbv t.nx s, .int .i64 cl] w B (QueP (if quErr t cl = 0 then quF t cl else []) (quErr t cl)) := by
  have hsl := hs.sl
  have hlen := fls_len hz
  have hzl := hs.ln
  obtain ⟨e, hck⟩ : ∃ e, ckE t cl = e := ⟨_, rfl⟩
  refine ya Try.func30 rfl Try.ntmps30 (Nat.le_of_ble_eq_true rfl) hB ?_
  by_cases h0 : e = 0
  · subst h0
    refine ze ?_; refine zb (id := 0) ?_; refine Zs21 ?_; refine Zs24 ?_; refine Zs2 ?_; refine zd ?_; refine zf ?_; refine ze ?_; refine ze ?_; refine zb (id := 1) ?_; refine z7 (zn L (vs := [_, _]) (zl rfl) rfl rfl rfl rfl ⟨_, rfl⟩) rfl ?_; refine Zs1 ?_; refine z7 (zo L rfl rfl (zg rfl) rfl rfl rfl (fun u H hH hle _ => fcheck_ret hz (hs.le hle) hZ hn hck hH)) rfl ?_; refine Zs2 ?_; refine zd ?_; refine zf ?_; refine ze ?_; refine zb (id := 2) ?_; refine Zs1 ?_; refine Zs10 ?_; refine zd ?_; refine zf ?_; refine zm rfl ?_; refine zt ?_; refine zf ?_; refine ze ?_; refine zb (id := 4) ?_; refine Zs2 ?_; refine zd ?_; refine zf ?_; refine ze ?_; refine ze ?_; refine zb (id := 5) ?_; refine Zs5 ?_; refine Zs17 ?_; refine Zs31 ?_; refine Zs1 ?_; refine zd ?_; refine zf ?_; refine zy ?_
    refine V_nilR 7 tyE 3 rfl ?_
    refine V_loop (fun i : Nat => [(1, .is (.int .i64 cl)), (4, .own (Cell [.slice none 0 0] 80)), (7, .own (SlR tyE 3 ((t.fl.take i).filter fun f => decide (f.cl = cl)).length (((t.fl.take i).filter fun f => decide (f.cl = cl)).flatMap enc3))), (18, .sat (SlV tyF 14 (zs.flatMap flc) zs.length fu)), (19, .is (.int .i64 zs.length)), (20, .is (.int .i64 i))]) (fun i => i ≤ zs.length) (fun i => zs.length - i) 0 (Nat.zero_le _) ⟨rfl, rfl, rfl, rfl, rfl, rfl, trivial⟩ ?_
    rintro i hi
    have hfl : ((t.fl.take i).filter fun f => decide (f.cl = cl)).length ≤ i := Nat.le_trans (List.length_filter_le _ _) (by rw [List.length_take]; omega)
    by_cases hlt : i < zs.length
    · obtain ⟨f, pp, c, hzi, hli, hzv, hil, hc14⟩ := hs.at hz hlt
      have h1 := quF_take (cl := cl) hli
      have hpl := enc3_plain ((t.fl.take i).filter fun f => decide (f.cl = cl))
      refine ze ?_; refine zb (id := 6) ?_; refine Zs11 ?_; refine zd ?_; refine zf ?_; refine ze ?_; refine zw rfl ?_; refine zt ?_; refine zf ?_; refine ze ?_; refine zy ?_; refine ze ?_; refine zb (id := 7) ?_; refine z7 (qb L _ rfl rfl rfl rfl rfl rfl rfl (by first | omega | decide) (by assumption)) rfl ?_; refine z7 (y5 L (vs := [_, _, _, _, _, _, _, _, _, _, _, _, _, _]) rfl rfl rfl rfl rfl ⟨_, rfl⟩) rfl ?_; refine Zs24 ?_; refine Zs14 ?_; refine zd ?_; refine zf ?_; refine ze ?_
      refine V_pub 9 rfl ?_
      by_cases hfc : f.cl = cl
      · rw [if_pos hfc] at h1
        refine zb (id := 8) ?_; refine Zs5 ?_; refine Zs4 ?_; refine Zs1 ?_; refine Zs15 ?_; refine zd ?_; refine zf ?_; refine zw rfl ?_; refine zb (id := 9) ?_; refine qh (ok_moveO (.inl rfl) rfl rfl rfl rfl) ?_; refine Zs5 ?_; refine Zs4 ?_; refine Zs5 ?_; refine Zs4 ?_; refine Zs5 ?_; refine Zs4 ?_; refine z7 (qt (cs := [_, _, _]) rfl rfl pl85 rfl rfl) rfl ?_; refine Zs25 ?_; refine qh (ok_append L rfl rfl rfl (apd_B rfl) rfl el85 rfl rfl (by omega) (by omega)) ?_; refine qh (ok_moveO (.inr rfl) rfl rfl rfl rfl) ?_; refine zd ?_; refine qm ?_; refine zf ?_; refine zb (id := 10) ?_; refine Zs13 ?_; refine Zs1 ?_; refine zd ?_
        exact y1 (x := i) (i + 1) hlt (by omega) ⟨rfl, rfl, by rw [h1]; exact que_snoc rfl, rfl, rfl, rfl, trivial⟩
      · rw [if_neg hfc, List.append_nil] at h1
        refine zb (id := 8) ?_; refine Zs5 ?_; refine Zs4 ?_; refine Zs1 ?_; refine Zs9 ?_; refine zd ?_; refine zf ?_; refine zm rfl ?_; refine zt ?_; refine qm ?_; refine zf ?_; refine zb (id := 10) ?_; refine Zs13 ?_; refine Zs1 ?_; refine zd ?_
        exact y1 (x := i) (i + 1) hlt (by omega) ⟨rfl, rfl, by rw [h1]; rfl, rfl, rfl, rfl, trivial⟩
    · obtain rfl : i = zs.length := by omega
      rw [hlen, List.take_length] at hfl ⊢
      have hfe : (t.fl.filter fun f => decide (f.cl = cl)) = quF t cl := rfl
      rw [hfe] at hfl ⊢
      have hpl := enc3_plain (quF t cl)
      refine V_pubR 7 rfl ?_
      by_cases h64 : 64 < (quF t cl).length
      · have hE : quErr t cl = 3 := by unfold quErr; rw [if_neg (by rw [hck]; simp), if_pos h64]
        rw [hE]
        refine ze ?_; refine zb (id := 6) ?_; refine Zs8 ?_; refine zd ?_; refine zf ?_; refine ze ?_; refine zm rfl ?_; refine y7 ?_; refine qg ?_; refine qg ?_; refine y6 ?_; refine zf ?_; refine ze ?_; refine ze ?_; refine zb (id := 11) ?_; refine Zs37 ?_; refine Zs31 ?_; refine Zs23 ?_; refine zd ?_; refine zf ?_; refine zw rfl ?_; refine ze ?_; refine zb (id := 12) ?_; refine z7 (qt (cs := [_]) rfl rfl pl80 rfl rfl) rfl ?_; refine Zs14 ?_; refine Zs2 ?_; refine zd ?_; refine zf ?_
        refine qn L (rs := [.cell 4 80, .tmp 5]) rfl (fun _ _ h => h) Since.refl fun u H hH hle => ?_
        refine resK_cellA (qe rfl) rfl rfl ?_
        exact ⟨_, rfl, rfl, .inl ⟨rfl, _, rfl⟩⟩
      · have hE : quErr t cl = 0 := by unfold quErr; rw [if_neg (by rw [hck]; simp), if_neg h64]
        rw [hE]
        refine ze ?_; refine zb (id := 6) ?_; refine Zs8 ?_; refine zd ?_; refine zf ?_; refine ze ?_; refine zm rfl ?_; refine y7 ?_; refine qg ?_; refine qg ?_; refine y6 ?_; refine zf ?_; refine ze ?_; refine ze ?_; refine zb (id := 11) ?_; refine Zs37 ?_; refine Zs31 ?_; refine Zs16 ?_; refine zd ?_; refine zf ?_; refine zm rfl ?_; refine zt ?_; refine zf ?_; refine ze ?_; refine zb (id := 13) ?_; refine Zs37 ?_; refine z7 (ok_buildSliceS L (OneL tyE 3 ((quF t cl).flatMap enc3) (quF t cl).length 78) rfl rfl rfl rfl rfl rfl rfl OneL.mono (fun H hle v hv => by obtain ⟨p', c', rfl⟩ := slv_sh hv; exact ⟨rfl, fun v2 H2 hle2 h2 => ⟨_, _, h2, hv.le hle2⟩⟩)) rfl ?_; refine z7 (ok_call (φ := SlV tyE 3 ((quF t cl).flatMap enc3) (quF t cl).length true) L rfl rfl (zg rfl) rfl rfl rfl SlV.mono (fun u H hH hle _ v hv => by obtain ⟨sl, fa, h1, h2⟩ := hv; exact Ret.mono (ownE1_ret h2 hpl (by omega) hH h1) fun v H' _ h => h.1)) rfl ?_; refine vo_opn 45 rfl fun sv H4 s4 hsv => ?_; obtain ⟨p4, c4, he4⟩ := slv_sh hsv; subst he4; refine z7 (qt (cs := [_]) rfl rfl pl80 rfl rfl) rfl ?_; refine Zs14 ?_; refine Zs2 ?_; refine zd ?_; refine zf ?_
        refine qn L (rs := [.cell 4 80, .tmp 5]) rfl (fun _ _ h => h) s4 fun u H hH hle => ?_
        refine resK_cellA (qe rfl) rfl rfl ?_
        exact ⟨_, rfl, hsv.le hle⟩
  · have hE : quErr t cl = e := by unfold quErr; rw [if_pos (by rw [hck]; exact h0), hck]
    rw [hE, if_neg h0]
    refine ze ?_; refine zb (id := 0) ?_; refine Zs21 ?_; refine Zs24 ?_; refine Zs2 ?_; refine zd ?_; refine zf ?_; refine ze ?_; refine ze ?_; refine zb (id := 1) ?_; refine z7 (zn L (vs := [_, _]) (zl rfl) rfl rfl rfl rfl ⟨_, rfl⟩) rfl ?_; refine Zs1 ?_; refine z7 (zo L rfl rfl (zg rfl) rfl rfl rfl (fun u H hH hle _ => fcheck_ret hz (hs.le hle) hZ hn hck hH)) rfl ?_; refine Zs2 ?_; refine zd ?_; refine zf ?_; refine ze ?_; refine zb (id := 2) ?_; refine Zs1 ?_; refine Zs27 ?_; refine zd ?_; refine zf ?_; refine zw rfl ?_; refine ze ?_; refine zb (id := 3) ?_; refine z7 (qt (cs := [_]) rfl rfl pl80 rfl rfl) rfl ?_; refine Zs1 ?_; refine Zs14 ?_; refine Zs2 ?_; refine zd ?_; refine zf ?_
    refine qn L (rs := [.cell 4 80, .tmp 5]) rfl (fun _ _ h => h) Since.refl fun u H hH hle => ?_
    refine resK_cellA (qe rfl) rfl rfl ?_
    exact ⟨_, rfl, rfl, .inl ⟨rfl, _, rfl⟩⟩
end Go.V.L39
namespace Go.V
open Go.Proofs Go.RowKit
section
variable {P : Program} {F : Fr} {B : Heap} {O : Boxes} {n : Nat} {ops : Array Oper} {κ : Kap} {d : Nat} {ty : TypeId} {pos : String} {aft : Array Edge} {g : Option (Nat × Bool)} {os : List Oper} {Q : Exit → Act → World → Prop}
def HeldL (S : List (Nat × List Value × TypeId)) : Res where
  P _ _ u C := (∀ y ∈ S, u.heap[y.1]? = some (.cells y.2.1.toArray y.2.2)) ∧ ∀ k, C k ↔ ∃ y ∈ S, y.1 = k
  st := fun ⟨h1, h2⟩ _ _ _ hk => ⟨fun y hy => (hk y.1 ((h2 y.1).2 ⟨y, hy, rfl⟩)).trans (h1 y hy), h2⟩
theorem V_splitL (q g1 : Nat) {b : Nat} {cs : List Value} {t' : TypeId} {S : List (Nat × List Value × TypeId)} {c : Code} (hne : q ≠ g1) (hd : ∀ y ∈ S, y.1 ≠ b) (hk : κ q = some (.own (HeldL ((b, cs, t') :: S))))
    (h : V P F B n O (upd (upd κ q (.own (HeldL S))) g1 (.own (HeldR b cs t'))) c Q) : V P F B n O κ c Q := fun a u hh => by
  obtain ⟨H, fp, hh⟩ := hh
  obtain ⟨⟨hcs, hC⟩, hM⟩ := hh.slot q _ hk
  have hCb : fp q b := (hC b).2 ⟨_, List.mem_cons_self .., rfl⟩
  have h2 := hh.putR (d := q) (r := HeldL S) (C := fun k => fp q k ∧ k ≠ b) (a' := a) rfl rfl (fun _ _ => rfl) ⟨fun y hy => hcs y (List.mem_cons_of_mem _ hy), fun k => by
    show fp q k ∧ k ≠ b ↔ _
    rw [hC]
    constructor
    · rintro ⟨⟨y, hy, rfl⟩, hne⟩
      rcases List.mem_cons.1 hy with rfl | hy
      · exact absurd rfl hne
      · exact ⟨y, hy, rfl⟩
    · rintro ⟨y, hy, rfl⟩
      exact ⟨⟨y, List.mem_cons_of_mem _ hy, rfl⟩, hd y hy⟩⟩ (fun k hk' => hM k hk'.1) (fun t r' hne' hk' k hf hc => hh.owns t q _ _ hne' hk' hk k hf hc.1)
  have h3 := h2.putR (d := g1) (r := HeldR b cs t') (C := fun k => k = b) (a' := a) rfl rfl (fun _ _ => rfl) ⟨hcs _ (List.mem_cons_self ..), fun _ => Iff.rfl⟩ (fun k hk' => by subst hk'; exact hM _ hCb) (fun t r' hne' hk' k hf hc => by
    subst hc
    by_cases e : t = q
    · subst e; rw [fpu_same] at hf; exact hf.2 rfl
    · rw [fpu_other _ _ e] at hf
      rw [upd_other _ _ e] at hk'
      exact hh.owns t q _ _ e hk' hk k hf hCb)
  exact h a u ⟨H, _, h3⟩
end
end Go.V
namespace Go.V.L39
open Go.Proofs Go.RowKit Go.V
abbrev tyO : TypeId := 26
attribute [local irreducible] V N X VO Par StepOK Has Ret RetL RetO RetT RetG Src
end Go.V.L39
namespace Go.V.L39
open Go.Proofs Go.RowKit Go.V
abbrev tyR : TypeId := 98
attribute [local irreducible] V N X VO Par StepOK Has Ret RetL RetO RetT RetG Src
end Go.V.L39
namespace Go.V.L39
open Go.Proofs Go.RowKit Go.V
theorem list_eq_of {α : Type} {l m : List α} (hl : l.length = m.length) (h : ∀ (i : Nat) a b, l[i]? = some a → m[i]? = some b → a = b) : l = m := by
  refine List.ext_getElem? fun i => ?_
  cases ha : l[i]? with
  | none =>
    have : m.length ≤ i := by rw [← hl]; exact List.getElem?_eq_none_iff.1 ha
    rw [List.getElem?_eq_none this]
  | some a =>
    have hi := get_lt ha
    have hb : m[i]? = some m[i] := List.getElem?_eq_getElem (by omega)
    rw [hb, h i a _ ha hb]
attribute [local irreducible] V N X VO Par StepOK Has Ret RetL RetO RetT RetG Src
def ucells (l : List Str2) : List Value := l.flatMap fun x => [.string x.1, .string x.2]
def rpc (kd : Int) (ys : Bool) (z : It × Value) : List Value := [.int .i64 z.1.tk, .int .i64 z.1.im, .int .i64 z.1.cl, .int .u8 kd, .int .u64 z.1.rv, .bool ys, z.2, .slice none 0 0, .int .i64 0]
def Apart (a b : Value) : Prop := ∀ b1 o1 k1 n1 c1 b2 o2 k2 n2 c2, a = .slice (some ⟨b1, o1, k1⟩) n1 c1 → b = .slice (some ⟨b2, o2, k2⟩) n2 c2 → b1 ≠ b2
theorem Apart.symm {a b : Value} (h : Apart a b) : Apart b a := fun b1 o1 k1 n1 c1 b2 o2 k2 n2 c2 e1 e2 => (h b2 o2 k2 n2 c2 b1 o1 k1 n1 c1 e2 e1).symm
theorem apart_of {a b : Value} {H : Heap} (ha : Lies H a) (hb : NewIn H b) : Apart a b := fun b1 o1 k1 n1 c1 b2 o2 k2 n2 c2 e1 e2 => by
  rintro rfl
  exact ha _ _ _ _ _ e1 (hb _ _ _ _ _ e2)
structure RepI (B : Heap) (l : List It) (us : List Str2) (zs : List (It × Value)) (H : Heap) : Prop where
  its : zs.map Prod.fst = l
  nw : ∀ (i : Nat) z, zs[i]? = some z → SlN B tyO 2 (ucells us) us.length true z.2 H
  ap : ∀ (i j : Nat) z y, i < j → zs[i]? = some z → zs[j]? = some y → Apart z.2 y.2
theorem RepI.mono {B : Heap} {l : List It} {us : List Str2} : MonoX (RepI B l us) := fun _ _ _ h hle => ⟨h.its, fun i z hz => SlN.mono _ _ _ (h.nw i z hz) hle, h.ap⟩
theorem RepI.snoc {B : Heap} {l : List It} {us : List Str2} {zs : List (It × Value)} {H H1 : Heap} {x : It} {sl : Value} (h : RepI B l us zs H1) (hle : B.Le H1) (hH : H1.Le H) (hs : SlN H1 tyO 2 (ucells us) us.length true sl H) : RepI B (l ++ [x]) us (zs ++ [(x, sl)]) H := by
  refine ⟨by rw [List.map_append, h.its]; rfl, fun i z hz => ?_, fun i j z y hij hz hy => ?_⟩
  · rw [List.getElem?_append] at hz
    split at hz
    · exact SlN.mono _ _ _ (h.nw i z hz) hH
    · have := get_lt hz
      simp only [List.length_cons, List.length_nil] at this
      rw [show i - zs.length = 0 by omega] at hz
      cases hz
      exact SlN.le hs hle
  · have hjl := get_lt hy
    rw [List.length_append] at hjl
    simp only [List.length_cons, List.length_nil] at hjl
    rw [List.getElem?_append_left (by omega)] at hz
    rw [List.getElem?_append] at hy
    split at hy
    · exact h.ap i j z y hij hz hy
    · rw [show j - zs.length = 0 by omega] at hy
      cases hy
      exact apart_of (h.nw i z hz).lies hs.2.1
def FanP (B : Heap) (kd : Int) (ys : Bool) (l : List It) (us : List Str2) : Value → Heap → Prop := fun v H => ∃ zs, RepI B l us zs H ∧ SlN B tyR 9 (zs.flatMap (rpc kd ys)) zs.length true v H ∧ ∀ (i : Nat) z, zs[i]? = some z → Apart z.2 v
theorem FanP.mono {B : Heap} {kd : Int} {ys : Bool} {l : List It} {us : List Str2} : Kn.mono (.sat (FanP B kd ys l us)) := fun _ _ _ ⟨zs, h1, h2, h3⟩ hle => ⟨zs, RepI.mono _ _ _ h1 hle, SlN.mono _ _ _ h2 hle, h3⟩
def RepV (H1 : Heap) (kd : Int) (ys : Bool) (x : It) (us : List Str2) : Value → Heap → Prop := fun v H => ∃ sl, v = .agg (rpc kd ys (x, sl)).toArray ∧ SlN H1 tyO 2 (ucells us) us.length true sl H
theorem RepV.mono {H1 : Heap} {kd : Int} {ys : Bool} {x : It} {us : List Str2} : Kn.mono (.sat (RepV H1 kd ys x us)) := fun _ _ _ ⟨sl, h1, h2⟩ hle => ⟨sl, h1, SlN.mono _ _ _ h2 hle⟩
def RepS (H1 : Heap) (kd : Int) (ys : Bool) (x : It) (us : List Str2) : Value → Heap → Prop := fun v H => ∃ sl, SlB (rpc kd ys (x, sl)) tyR 1 v H ∧ SlN H1 tyO 2 (ucells us) us.length true sl H
theorem RepS.mono {H1 : Heap} {kd : Int} {ys : Bool} {x : It} {us : List Str2} : Kn.mono (.sat (RepS H1 kd ys x us)) := fun _ _ _ ⟨sl, h1, h2⟩ hle => ⟨sl, SlB.mono _ _ _ h1 hle, SlN.mono _ _ _ h2 hle⟩
def RepT (H1 : Heap) (kd : Int) (ys : Bool) (x : It) (us : List Str2) : List Value → Heap → Prop := fun news H => ∃ sl, news = rpc kd ys (x, sl) ∧ SlN H1 tyO 2 (ucells us) us.length true sl H
theorem RepT.mono {H1 : Heap} {kd : Int} {ys : Bool} {x : It} {us : List Str2} : MonoX (RepT H1 kd ys x us) := fun _ _ _ ⟨sl, h1, h2⟩ hle => ⟨sl, h1, SlN.mono _ _ _ h2 hle⟩
def OneR (xs : List Value) (n : Nat) : Value → Heap → Prop := fun v H => ∃ sl fu, SlB [sl] 93 1 v H ∧ SlV tyR 9 xs n fu sl H
theorem OneR.mono {xs : List Value} {n : Nat} : Kn.mono (.sat (OneR xs n)) := fun _ _ _ ⟨sl, fu, h1, h2⟩ hle => ⟨sl, fu, SlB.mono _ _ _ h1 hle, h2.le hle⟩
end Go.V.L39
namespace Go.V
open Go.Proofs Go.RowKit
attribute [local irreducible] V N X VO Par StepOK Has Ret RetL Src
set_option maxHeartbeats 1000000 in
theorem rcheck_ret {s : ByteArray} (hs : s.size ≤ 9223372036854775807) {w : World} {B : Heap} (hB : B.Le (hp w)) :
    Ret Try.prog 84 [.string s] w B (fun v _ => v = .int .i64 (chk s)) := by
  refine ya Try.func84 rfl Try.ntmps84 (Nat.le_of_ble_eq_true rfl) hB ?_
  by_cases h0 : 1 ≤ s.size ∧ s.size ≤ 16
  · obtain ⟨h1, h2⟩ := h0
    refine ze ?_; refine zb (id := 0) ?_; refine Zs2 ?_; refine zd ?_; refine zf ?_; refine ze ?_; refine zb (id := 1) ?_; refine Zs1 ?_; refine Zs59 ?_; refine Zs23 ?_; refine Zs1 ?_; refine Zs1 ?_; refine Zs59 ?_; refine Zs57 ?_; refine Zs6 ?_; refine Zs2 ?_; refine zd ?_; refine zf ?_; refine ze ?_; refine ze ?_; refine zb (id := 2) ?_; refine Zs2 ?_; refine zd ?_; refine zf ?_; refine zy ?_
    refine V_loop (fun p : Nat × Bool => [(0, .is (.string s)), (3, .is (.bool p.2)), (4, .is (.int .i64 p.1))])
      (fun p => p.1 ≤ s.size ∧ (p.2 = true → (s.data.toList.take p.1).all okB = true) ∧ (p.2 = false → chk s = 6)) (fun p => s.size - p.1) (0, true) ⟨Nat.zero_le _, fun _ => by simp, fun h => by cases h⟩ ⟨rfl, rfl, rfl, trivial⟩ ?_
    rintro ⟨k, b⟩ ⟨hk, hall, hbad⟩
    dsimp only at hk hall hbad ⊢
    by_cases hlt : k < s.size
    · cases b with
      | false =>
        refine ze ?_; refine ze ?_; refine zb (id := 3) ?_; refine Zs1 ?_; refine Zs1 ?_; refine Zs59 ?_; refine Zs11 ?_; refine Zs1 ?_; refine Zs1 ?_; refine Zs6 ?_; refine zd ?_; refine zf ?_; refine zm rfl ?_; refine y7 ?_; refine qg ?_; refine qg ?_; refine y6 ?_; refine zf ?_; refine ze ?_; refine ze ?_; refine zb (id := 6) ?_; refine Zs1 ?_; refine zd ?_; refine zf ?_; refine zm rfl ?_; refine zt ?_; refine zf ?_; refine ze ?_; refine zb (id := 8) ?_; refine Zs2 ?_; refine zd ?_; refine zf ?_
        refine qn L (rs := [.tmp 2]) rfl (fun _ _ h => h) Since.refl fun u H hH hle => ?_
        exact congrArg _ (hbad rfl).symm
      | true =>
        obtain ⟨c, hc⟩ := getElem?_lt hlt
        have hu := u8_lt c
        by_cases a1 : 97 ≤ (c.toNat : Int)
        · by_cases a4 : (c.toNat : Int) ≤ 122
          · refine ze ?_; refine ze ?_; refine zb (id := 3) ?_; refine Zs1 ?_; refine Zs1 ?_; refine Zs59 ?_; refine Zs11 ?_; refine Zs1 ?_; refine Zs1 ?_; refine Zs6 ?_; refine zd ?_; refine zf ?_; refine zw rfl ?_; refine zt ?_; refine zf ?_; refine ze ?_; refine zy ?_; refine zb (id := 5) ?_; refine Zs1 ?_; refine Zs1 ?_; refine Zs42 ?_; refine Zs30 ?_; refine Zs1 ?_; refine Zs1 ?_; refine Zs1 ?_; refine Zs42 ?_; refine Zs57 ?_; refine Zs6 ?_; refine Zs1 ?_; refine Zs3 ?_; refine Zs3 ?_; refine Zs3 ?_; refine Zs3 ?_; refine Zs3 ?_; refine Zs3 ?_; refine Zs3 ?_; refine Zs3 ?_; refine Zs3 ?_; refine Zs3 ?_; refine Zs6 ?_; refine Zs2 ?_; refine zd ?_; refine qm ?_; refine zf ?_; refine zb (id := 4) ?_; refine Zs1 ?_; refine Zs13 ?_; refine Zs2 ?_; refine zd ?_
            exact y1 (x := (k, true)) (k + 1, true) ⟨hlt, fun _ => take_all hc (okB_4 (by omega) (by omega)) (hall rfl), fun h => (by cases h)⟩ (by dsimp only; omega) ⟨rfl, rfl, rfl, trivial⟩
          · refine ze ?_; refine ze ?_; refine zb (id := 3) ?_; refine Zs1 ?_; refine Zs1 ?_; refine Zs59 ?_; refine Zs11 ?_; refine Zs1 ?_; refine Zs1 ?_; refine Zs6 ?_; refine zd ?_; refine zf ?_; refine zw rfl ?_; refine zt ?_; refine zf ?_; refine ze ?_; refine zy ?_; refine zb (id := 5) ?_; refine Zs1 ?_; refine Zs1 ?_; refine Zs42 ?_; refine Zs30 ?_; refine Zs1 ?_; refine Zs1 ?_; refine Zs1 ?_; refine Zs42 ?_; refine Zs56 ?_; refine Zs6 ?_; refine Zs1 ?_; refine Zs1 ?_; refine Zs1 ?_; refine Zs42 ?_; refine Zs30 ?_; refine Zs1 ?_; refine Zs1 ?_; refine Zs1 ?_; refine Zs42 ?_; refine Zs56 ?_; refine Zs6 ?_; refine Zs6 ?_; refine Zs2 ?_; refine zd ?_; refine qm ?_; refine zf ?_; refine zb (id := 4) ?_; refine Zs1 ?_; refine Zs13 ?_; refine Zs2 ?_; refine zd ?_
            exact y1 (x := (k, true)) (k + 1, false) ⟨hlt, fun h => (by cases h), fun _ => chk_at hc (okB_3 (by omega))⟩ (by dsimp only; omega) ⟨rfl, rfl, rfl, trivial⟩
        · by_cases a2 : 48 ≤ (c.toNat : Int)
          · by_cases a3 : (c.toNat : Int) ≤ 57
            · refine ze ?_; refine ze ?_; refine zb (id := 3) ?_; refine Zs1 ?_; refine Zs1 ?_; refine Zs59 ?_; refine Zs11 ?_; refine Zs1 ?_; refine Zs1 ?_; refine Zs6 ?_; refine zd ?_; refine zf ?_; refine zw rfl ?_; refine zt ?_; refine zf ?_; refine ze ?_; refine zy ?_; refine zb (id := 5) ?_; refine Zs1 ?_; refine Zs1 ?_; refine Zs42 ?_; refine Zs22 ?_; refine Zs1 ?_; refine Zs3 ?_; refine Zs3 ?_; refine Zs3 ?_; refine Zs3 ?_; refine Zs6 ?_; refine Zs1 ?_; refine Zs1 ?_; refine Zs1 ?_; refine Zs42 ?_; refine Zs30 ?_; refine Zs1 ?_; refine Zs1 ?_; refine Zs1 ?_; refine Zs42 ?_; refine Zs57 ?_; refine Zs6 ?_; refine Zs6 ?_; refine Zs2 ?_; refine zd ?_; refine qm ?_; refine zf ?_; refine zb (id := 4) ?_; refine Zs1 ?_; refine Zs13 ?_; refine Zs2 ?_; refine zd ?_
              exact y1 (x := (k, true)) (k + 1, true) ⟨hlt, fun _ => take_all hc (okB_5 (by omega) (by omega)) (hall rfl), fun h => (by cases h)⟩ (by dsimp only; omega) ⟨rfl, rfl, rfl, trivial⟩
            · refine ze ?_; refine ze ?_; refine zb (id := 3) ?_; refine Zs1 ?_; refine Zs1 ?_; refine Zs59 ?_; refine Zs11 ?_; refine Zs1 ?_; refine Zs1 ?_; refine Zs6 ?_; refine zd ?_; refine zf ?_; refine zw rfl ?_; refine zt ?_; refine zf ?_; refine ze ?_; refine zy ?_; refine zb (id := 5) ?_; refine Zs1 ?_; refine Zs1 ?_; refine Zs42 ?_; refine Zs22 ?_; refine Zs1 ?_; refine Zs3 ?_; refine Zs3 ?_; refine Zs3 ?_; refine Zs3 ?_; refine Zs6 ?_; refine Zs1 ?_; refine Zs1 ?_; refine Zs1 ?_; refine Zs42 ?_; refine Zs30 ?_; refine Zs1 ?_; refine Zs1 ?_; refine Zs1 ?_; refine Zs42 ?_; refine Zs56 ?_; refine Zs6 ?_; refine Zs6 ?_; refine Zs2 ?_; refine zd ?_; refine qm ?_; refine zf ?_; refine zb (id := 4) ?_; refine Zs1 ?_; refine Zs13 ?_; refine Zs2 ?_; refine zd ?_
              exact y1 (x := (k, true)) (k + 1, false) ⟨hlt, fun h => (by cases h), fun _ => chk_at hc (okB_2 (by omega) (by omega))⟩ (by dsimp only; omega) ⟨rfl, rfl, rfl, trivial⟩
          · refine ze ?_; refine ze ?_; refine zb (id := 3) ?_; refine Zs1 ?_; refine Zs1 ?_; refine Zs59 ?_; refine Zs11 ?_; refine Zs1 ?_; refine Zs1 ?_; refine Zs6 ?_; refine zd ?_; refine zf ?_; refine zw rfl ?_; refine zt ?_; refine zf ?_; refine ze ?_; refine zy ?_; refine zb (id := 5) ?_; refine Zs1 ?_; refine Zs1 ?_; refine Zs42 ?_; refine Zs22 ?_; refine Zs1 ?_; refine Zs3 ?_; refine Zs3 ?_; refine Zs3 ?_; refine Zs3 ?_; refine Zs6 ?_; refine Zs1 ?_; refine Zs1 ?_; refine Zs1 ?_; refine Zs42 ?_; refine Zs22 ?_; refine Zs1 ?_; refine Zs3 ?_; refine Zs3 ?_; refine Zs3 ?_; refine Zs3 ?_; refine Zs6 ?_; refine Zs6 ?_; refine Zs2 ?_; refine zd ?_; refine qm ?_; refine zf ?_; refine zb (id := 4) ?_; refine Zs1 ?_; refine Zs13 ?_; refine Zs2 ?_; refine zd ?_
            exact y1 (x := (k, true)) (k + 1, false) ⟨hlt, fun h => (by cases h), fun _ => chk_at hc (okB_1 (by omega) (by omega))⟩ (by dsimp only; omega) ⟨rfl, rfl, rfl, trivial⟩
    · cases b with
      | false =>
        refine ze ?_; refine ze ?_; refine zb (id := 3) ?_; refine Zs1 ?_; refine Zs1 ?_; refine Zs59 ?_; refine Zs8 ?_; refine Zs1 ?_; refine Zs3 ?_; refine Zs6 ?_; refine zd ?_; refine zf ?_; refine zm rfl ?_; refine y7 ?_; refine qg ?_; refine qg ?_; refine y6 ?_; refine zf ?_; refine ze ?_; refine ze ?_; refine zb (id := 6) ?_; refine Zs1 ?_; refine zd ?_; refine zf ?_; refine zm rfl ?_; refine zt ?_; refine zf ?_; refine ze ?_; refine zb (id := 8) ?_; refine Zs2 ?_; refine zd ?_; refine zf ?_
        refine qn L (rs := [.tmp 2]) rfl (fun _ _ h => h) Since.refl fun u H hH hle => ?_
        exact congrArg _ (hbad rfl).symm
      | true =>
        refine ze ?_; refine ze ?_; refine zb (id := 3) ?_; refine Zs1 ?_; refine Zs1 ?_; refine Zs59 ?_; refine Zs8 ?_; refine Zs1 ?_; refine Zs3 ?_; refine Zs6 ?_; refine zd ?_; refine zf ?_; refine zm rfl ?_; refine y7 ?_; refine qg ?_; refine qg ?_; refine y6 ?_; refine zf ?_; refine ze ?_; refine ze ?_; refine zb (id := 6) ?_; refine Zs1 ?_; refine zd ?_; refine zf ?_; refine zw rfl ?_; refine ze ?_; refine zb (id := 7) ?_; refine Zs2 ?_; refine zd ?_; refine zf ?_
        refine qn L (rs := [.tmp 2]) rfl (fun _ _ h => h) Since.refl fun u H hH hle => ?_
        exact congrArg _ (chk_all h1 h2 (all_take (by omega) (hall rfl))).symm
  · have hbad := chk_bad h0
    by_cases h1 : 1 ≤ s.size
    · have h2 : 16 < s.size := by omega
      refine ze ?_; refine zb (id := 0) ?_; refine Zs2 ?_; refine zd ?_; refine zf ?_; refine ze ?_; refine zb (id := 1) ?_; refine Zs1 ?_; refine Zs59 ?_; refine Zs23 ?_; refine Zs1 ?_; refine Zs1 ?_; refine Zs59 ?_; refine Zs56 ?_; refine Zs6 ?_; refine Zs2 ?_; refine zd ?_; refine zf ?_; refine ze ?_; refine ze ?_; refine zb (id := 2) ?_; refine Zs2 ?_; refine zd ?_; refine zf ?_; refine zy ?_
      refine V_loop (fun _ : Unit => [(0, .is (.string s)), (3, .is (.bool false)), (4, .is (.int .i64 0))]) (fun _ => True) (fun _ => 0) () trivial ⟨rfl, rfl, rfl, trivial⟩ ?_
      rintro _ _
      refine ze ?_; refine ze ?_; refine zb (id := 3) ?_; refine Zs1 ?_; refine Zs1 ?_; refine Zs59 ?_; refine Zs11 ?_; refine Zs1 ?_; refine Zs1 ?_; refine Zs6 ?_; refine zd ?_; refine zf ?_; refine zm rfl ?_; refine y7 ?_; refine qg ?_; refine qg ?_; refine y6 ?_; refine zf ?_; refine ze ?_; refine ze ?_; refine zb (id := 6) ?_; refine Zs1 ?_; refine zd ?_; refine zf ?_; refine zm rfl ?_; refine zt ?_; refine zf ?_; refine ze ?_; refine zb (id := 8) ?_; refine Zs2 ?_; refine zd ?_; refine zf ?_
      refine qn L (rs := [.tmp 2]) rfl (fun _ _ h => h) Since.refl fun u H hH hle => ?_
      exact congrArg _ hbad.symm
    · refine ze ?_; refine zb (id := 0) ?_; refine Zs2 ?_; refine zd ?_; refine zf ?_; refine ze ?_; refine zb (id := 1) ?_; refine Zs1 ?_; refine Zs59 ?_; refine Zs16 ?_; refine Zs1 ?_; refine Zs3 ?_; refine Zs3 ?_; refine Zs3 ?_; refine Zs6 ?_; refine Zs2 ?_; refine zd ?_; refine zf ?_; refine ze ?_; refine ze ?_; refine zb (id := 2) ?_; refine Zs2 ?_; refine zd ?_; refine zf ?_; refine zy ?_
      refine V_loop (fun _ : Unit => [(0, .is (.string s)), (3, .is (.bool false)), (4, .is (.int .i64 0))]) (fun _ => True) (fun _ => 0) () trivial ⟨rfl, rfl, rfl, trivial⟩ ?_
      rintro _ _
      refine ze ?_; refine ze ?_; refine zb (id := 3) ?_; refine Zs1 ?_; refine Zs1 ?_; refine Zs59 ?_; refine Zs8 ?_; refine Zs1 ?_; refine Zs3 ?_; refine Zs6 ?_; refine zd ?_; refine zf ?_; refine zm rfl ?_; refine y7 ?_; refine qg ?_; refine qg ?_; refine y6 ?_; refine zf ?_; refine ze ?_; refine ze ?_; refine zb (id := 6) ?_; refine Zs1 ?_; refine zd ?_; refine zf ?_; refine zm rfl ?_; refine zt ?_; refine zf ?_; refine ze ?_; refine zb (id := 8) ?_; refine Zs2 ?_; refine zd ?_; refine zf ?_
      refine qn L (rs := [.tmp 2]) rfl (fun _ _ h => h) Since.refl fun u H hH hle => ?_
      exact congrArg _ hbad.symm
theorem max2 (a b : ByteArray) : (if chk b > chk a then chk b else chk a) = allE [a, b] := by
  simp only [allE]
  rcases chk_cases a with h | h <;> rcases chk_cases b with h' | h' <;> simp [h, h']
theorem max3 (a b c : ByteArray) : (if chk c > allE [a, b] then chk c else allE [a, b]) = allE [a, b, c] := by
  simp only [allE]
  rcases chk_cases a with h | h <;> rcases chk_cases b with h' | h' <;> rcases chk_cases c with h'' | h'' <;> simp [h, h', h'']
theorem robject_ret {a b : ByteArray} (ha : a.size ≤ 9223372036854775807) (hb : b.size ≤ 9223372036854775807) {w : World} {B : Heap} (hB : B.Le (hp w)) :
    Ret Try.prog 69 [.agg #[.string a, .string b]] w B (fun v _ => v = .int .i64 (allE [a, b])) := by
  refine ya Try.func69 rfl Try.ntmps69 (Nat.le_of_ble_eq_true rfl) hB ?_
  refine ze ?_; refine zb (id := 0) ?_; refine Zs21 ?_; refine Zs2 ?_; refine zd ?_; refine zf ?_; refine ze ?_; refine zz (id := 1) [] mixed (by kernel_rfl) ?_; refine Zs32 ?_; refine Zs39 ?_; refine z8 (zo L rfl rfl (zg rfl) rfl rfl rfl (fun u H hH _ _ => rcheck_ret (by first | omega | decide) hH)) rfl ?_; refine Zs32 ?_; refine Zs39 ?_; refine z8 (zo L rfl rfl (zg rfl) rfl rfl rfl (fun u H hH _ _ => rcheck_ret (by first | omega | decide) hH)) rfl ?_; refine z8 (ok_max rfl rfl rfl rfl rfl) rfl ?_; refine Zs54 ?_; refine qk ?_; refine zf ?_
  refine qn L (rs := [.tmp 2]) rfl (fun _ _ h => h) Since.refl fun u H hH hle => ?_
  exact congrArg _ (max2 a b)
theorem rgoal_ret {a b c : ByteArray} (ha : a.size ≤ 9223372036854775807) (hb : b.size ≤ 9223372036854775807) (hc : c.size ≤ 9223372036854775807) {w : World} {B : Heap} (hB : B.Le (hp w)) :
    Ret Try.prog 68 [.agg #[.string a, .string b, .string c]] w B (fun v _ => v = .int .i64 (allE [a, b, c])) := by
  refine ya Try.func68 rfl Try.ntmps68 (Nat.le_of_ble_eq_true rfl) hB ?_
  refine ze ?_; refine zb (id := 0) ?_; refine Zs21 ?_; refine Zs2 ?_; refine zd ?_; refine zf ?_; refine ze ?_; refine zz (id := 1) [] mixed (by kernel_rfl) ?_; refine Zs32 ?_; refine z8 (zn L (vs := [_, _]) (zl rfl) rfl rfl rfl rfl ⟨_, rfl⟩) rfl ?_; refine z8 (zo L rfl rfl (zg rfl) rfl rfl rfl (fun u H hH _ _ => robject_ret (by first | assumption | omega | decide) (by first | assumption | omega | decide) hH)) rfl ?_; refine Zs32 ?_; refine Zs39 ?_; refine z8 (zo L rfl rfl (zg rfl) rfl rfl rfl (fun u H hH _ _ => rcheck_ret (by first | omega | decide) hH)) rfl ?_; refine z8 (ok_max rfl rfl rfl rfl rfl) rfl ?_; refine Zs54 ?_; refine qk ?_; refine zf ?_
  refine qn L (rs := [.tmp 2]) rfl (fun _ _ h => h) Since.refl fun u H hH hle => ?_
  exact congrArg _ (max3 a b c)
end Go.V
