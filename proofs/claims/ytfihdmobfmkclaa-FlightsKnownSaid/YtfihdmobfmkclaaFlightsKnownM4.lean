/- Texts on the way to FlightsKnown, part 4: one behind another. -/
import Derived.Test.YtfihdmobfmkclaaFlightsKnownM3
import Derived.Sort.AssemblyPlain
set_option linter.unusedVariables false
set_option linter.unusedSimpArgs false
namespace Go.V.L39
open Go.Proofs Go.RowKit Go.V
section
variable {P : Program} {F : Fr} {B : Heap} {n : Nat} {O : Boxes} {ops : Array Oper} {ex : Exs} {κ : Kap} {Q : Exit → Act → World → Prop} {o : Oper} {os : List Oper} {d : Nat} {k : Kn}
theorem _root_.Go.V.Zs71 (h : Par P F B n O ops ex (upd κ d k) os Q) (s : StepOK P F B n ops O κ o d k := by exact q9 rfl rfl rfl rfl (decide_eq_false (by omega))) (v : vd o = some d := by rfl) : Par P F B n O ops ex κ (o :: os) Q := z8 s v h
theorem _root_.Go.V.Zs77 (h : Par P F B n O ops ex (upd κ d k) os Q) (s : StepOK P F B n ops O κ o d k := by exact ok_aeql rfl rfl rfl rfl eq30 (by assumption) rfl) (v : vd o = some d := by rfl) : Par P F B n O ops ex κ (o :: os) Q := z8 s v h
theorem _root_.Go.V.Zs80 (h : Par P F B n O ops ex (upd κ d k) os Q) (s : StepOK P F B n ops O κ o d k := by exact q9 rfl rfl rfl rfl (decide_eq_true (by omega))) (v : vd o = some d := by rfl) : Par P F B n O ops ex κ (o :: os) Q := z8 s v h
end
theorem allE_pos : ∀ l : List ByteArray, 0 ≤ allE l
  | [] => Int.le_refl _
  | s :: l => by
    rw [allE]
    split
    · exact allE_pos l
    · rcases chk_cases s with h | h <;> rw [h] <;> decide
theorem quE_pos (q : Qu) : 0 ≤ quE q := by
  unfold quE
  split
  · decide
  · split
    · decide
    · split <;> decide
theorem flE_pos (nx : Int) (pre : List Fl) (f : Fl) : 0 ≤ flE nx pre f := by
  have := quE_pos f.q
  unfold flE
  split
  · decide
  · split
    · decide
    · split
      · exact this
      · split
        · decide
        · split
          · decide
          · split <;> decide
attribute [local irreducible] V N X VO Par StepOK Has Ret RetL RetO RetT RetG Src
theorem rquery_ret {q : Qu} (hz : QuZ q) {e : Int} (he : quE q = e) {w : World} {B : Heap} (hB : B.Le (hp w)) : Ret Try.prog 36 [quv q] w B (fun v _ => v = .int .i64 e) := by
  subst he
  obtain ⟨⟨hk0, hk1⟩, z1, z2, z3, z4, z5⟩ := hz
  obtain ⟨e, he⟩ : ∃ e, e = quE q := ⟨_, rfl⟩
  rw [← he]
  unfold quE gE uE at he
  have hgp := allE_pos [q.g.1.1, q.g.1.2, q.g.2]
  have hup := allE_pos [q.u.1, q.u.2]
  refine ya Try.func36 rfl Try.ntmps36 (Nat.le_of_ble_eq_true rfl) hB ?_
  by_cases hk : q.kd = 1 ∨ q.kd = 2
  · rw [if_neg (by omega)] at he
    by_cases hg : allE [q.g.1.1, q.g.1.2, q.g.2] = 0
    · by_cases h1 : q.kd = 1
      · by_cases hu : allE [q.u.1, q.u.2] = 0
        · rw [if_neg (by omega), if_neg (by omega)] at he
          subst he
          refine ze ?_; refine zb (id := 0) ?_; refine Zs21 ?_; refine Zs2 ?_; refine zd ?_; refine zf ?_; refine ze ?_; refine ze ?_; refine zb (id := 1) ?_; refine Zs5 ?_; refine Zs4 ?_; refine Zs10 ?_; refine Zs1 ?_; refine Zs3 ?_; refine Zs3 ?_; refine Zs3 ?_; refine Zs6 ?_; refine zd ?_; refine zf ?_; refine zm rfl ?_; refine zt ?_; refine zf ?_; refine ze ?_; refine ze ?_; refine zb (id := 3) ?_; refine Zs5 ?_; refine z7 (zn L (vs := [_, _, _]) (zl rfl) rfl rfl rfl rfl ⟨_, rfl⟩) rfl ?_; refine z7 (zo L rfl rfl (zg rfl) rfl rfl rfl (fun u H hH _ _ => rgoal_ret (by first | assumption | omega | decide) (by first | assumption | omega | decide) (by first | assumption | omega | decide) hH)) rfl ?_; refine Zs16 ?_; refine Zs1 ?_; refine Zs5 ?_; refine Zs4 ?_; refine Zs15 ?_; refine Zs1 ?_; refine Zs5 ?_; refine z7 (zn L (vs := [_, _]) (zl rfl) rfl rfl rfl rfl ⟨_, rfl⟩) rfl ?_; refine z7 (zo L rfl rfl (zg rfl) rfl rfl rfl (fun u H hH _ _ => robject_ret (by first | assumption | omega | decide) (by first | assumption | omega | decide) hH)) rfl ?_; refine Zs16 ?_; refine Zs6 ?_; refine Zs6 ?_; refine zd ?_; refine zf ?_; refine zm rfl ?_; refine zt ?_; refine zf ?_; refine ze ?_; refine ze ?_; refine zb (id := 5) ?_; refine Zs5 ?_; refine Zs4 ?_; refine Zs9 ?_; refine Zs1 ?_; refine Zs3 ?_; refine Zs3 ?_; refine Zs3 ?_; refine Zs3 ?_; refine Zs3 ?_; refine Zs3 ?_; refine Zs3 ?_; refine Zs3 ?_; refine Zs3 ?_; refine Zs3 ?_; refine Zs6 ?_; refine zd ?_; refine zf ?_; refine zm rfl ?_; refine zt ?_; refine zf ?_; refine ze ?_; refine zb (id := 7) ?_; refine Zs2 ?_; refine zd ?_; refine zf ?_
          refine qn L (rs := [.tmp 2]) rfl (fun _ _ h => h) Since.refl fun u H hH hle => ?_
          rfl
        · rw [if_pos (by omega)] at he
          subst he
          refine ze ?_; refine zb (id := 0) ?_; refine Zs21 ?_; refine Zs2 ?_; refine zd ?_; refine zf ?_; refine ze ?_; refine ze ?_; refine zb (id := 1) ?_; refine Zs5 ?_; refine Zs4 ?_; refine Zs10 ?_; refine Zs1 ?_; refine Zs3 ?_; refine Zs3 ?_; refine Zs3 ?_; refine Zs6 ?_; refine zd ?_; refine zf ?_; refine zm rfl ?_; refine zt ?_; refine zf ?_; refine ze ?_; refine ze ?_; refine zb (id := 3) ?_; refine Zs5 ?_; refine z7 (zn L (vs := [_, _, _]) (zl rfl) rfl rfl rfl rfl ⟨_, rfl⟩) rfl ?_; refine z7 (zo L rfl rfl (zg rfl) rfl rfl rfl (fun u H hH _ _ => rgoal_ret (by first | assumption | omega | decide) (by first | assumption | omega | decide) (by first | assumption | omega | decide) hH)) rfl ?_; refine Zs16 ?_; refine Zs1 ?_; refine Zs5 ?_; refine Zs4 ?_; refine Zs15 ?_; refine Zs1 ?_; refine Zs5 ?_; refine z7 (zn L (vs := [_, _]) (zl rfl) rfl rfl rfl rfl ⟨_, rfl⟩) rfl ?_; refine z7 (zo L rfl rfl (zg rfl) rfl rfl rfl (fun u H hH _ _ => robject_ret (by first | assumption | omega | decide) (by first | assumption | omega | decide) hH)) rfl ?_; refine Zs23 ?_; refine Zs6 ?_; refine Zs6 ?_; refine zd ?_; refine zf ?_; refine zw rfl ?_; refine ze ?_; refine zb (id := 4) ?_; refine Zs2 ?_; refine zd ?_; refine zf ?_
          refine qn L (rs := [.tmp 2]) rfl (fun _ _ h => h) Since.refl fun u H hH hle => ?_
          rfl
      · have h2 : q.kd = 2 := by omega
        rw [if_neg (by omega)] at he
        by_cases hu1 : q.u.1 = ⟨#[]⟩
        · have hn1 : ¬ (q.u.1 ≠ ⟨#[]⟩) := fun h => h hu1
          by_cases hu2 : q.u.2 = ⟨#[]⟩
          · have hn2 : ¬ (q.u.2 ≠ ⟨#[]⟩) := fun h => h hu2
            rw [if_neg (fun h => h.2 (Prod.ext hu1 hu2))] at he
            subst he
            refine ze ?_; refine zb (id := 0) ?_; refine Zs21 ?_; refine Zs2 ?_; refine zd ?_; refine zf ?_; refine ze ?_; refine ze ?_; refine zb (id := 1) ?_; refine Zs5 ?_; refine Zs4 ?_; refine Zs27 ?_; refine Zs1 ?_; refine Zs5 ?_; refine Zs4 ?_; refine Zs10 ?_; refine Zs6 ?_; refine zd ?_; refine zf ?_; refine zm rfl ?_; refine zt ?_; refine zf ?_; refine ze ?_; refine ze ?_; refine zb (id := 3) ?_; refine Zs5 ?_; refine z7 (zn L (vs := [_, _, _]) (zl rfl) rfl rfl rfl rfl ⟨_, rfl⟩) rfl ?_; refine z7 (zo L rfl rfl (zg rfl) rfl rfl rfl (fun u H hH _ _ => rgoal_ret (by first | assumption | omega | decide) (by first | assumption | omega | decide) (by first | assumption | omega | decide) hH)) rfl ?_; refine Zs16 ?_; refine Zs1 ?_; refine Zs5 ?_; refine Zs4 ?_; refine Zs9 ?_; refine Zs1 ?_; refine Zs3 ?_; refine Zs3 ?_; refine Zs3 ?_; refine Zs3 ?_; refine Zs6 ?_; refine Zs6 ?_; refine zd ?_; refine zf ?_; refine zm rfl ?_; refine zt ?_; refine zf ?_; refine ze ?_; refine ze ?_; refine zb (id := 5) ?_; refine Zs5 ?_; refine Zs4 ?_; refine Zs15 ?_; refine Zs1 ?_; refine Zs5 ?_; refine Zs5 ?_; refine Zs4 ?_; refine z7 (ok_sneq rfl rfl rfl rfl (decide_eq_false (by assumption))) rfl ?_; refine Zs1 ?_; refine Zs5 ?_; refine Zs5 ?_; refine Zs4 ?_; refine z7 (ok_sneq rfl rfl rfl rfl (decide_eq_false (by assumption))) rfl ?_; refine Zs6 ?_; refine Zs6 ?_; refine zd ?_; refine zf ?_; refine zm rfl ?_; refine zt ?_; refine zf ?_; refine ze ?_; refine zb (id := 7) ?_; refine Zs2 ?_; refine zd ?_; refine zf ?_
            refine qn L (rs := [.tmp 2]) rfl (fun _ _ h => h) Since.refl fun u H hH hle => ?_
            rfl
          · rw [if_pos ⟨h2, fun h => hu2 (by rw [h])⟩] at he
            subst he
            refine ze ?_; refine zb (id := 0) ?_; refine Zs21 ?_; refine Zs2 ?_; refine zd ?_; refine zf ?_; refine ze ?_; refine ze ?_; refine zb (id := 1) ?_; refine Zs5 ?_; refine Zs4 ?_; refine Zs27 ?_; refine Zs1 ?_; refine Zs5 ?_; refine Zs4 ?_; refine Zs10 ?_; refine Zs6 ?_; refine zd ?_; refine zf ?_; refine zm rfl ?_; refine zt ?_; refine zf ?_; refine ze ?_; refine ze ?_; refine zb (id := 3) ?_; refine Zs5 ?_; refine z7 (zn L (vs := [_, _, _]) (zl rfl) rfl rfl rfl rfl ⟨_, rfl⟩) rfl ?_; refine z7 (zo L rfl rfl (zg rfl) rfl rfl rfl (fun u H hH _ _ => rgoal_ret (by first | assumption | omega | decide) (by first | assumption | omega | decide) (by first | assumption | omega | decide) hH)) rfl ?_; refine Zs16 ?_; refine Zs1 ?_; refine Zs5 ?_; refine Zs4 ?_; refine Zs9 ?_; refine Zs1 ?_; refine Zs3 ?_; refine Zs3 ?_; refine Zs3 ?_; refine Zs3 ?_; refine Zs6 ?_; refine Zs6 ?_; refine zd ?_; refine zf ?_; refine zm rfl ?_; refine zt ?_; refine zf ?_; refine ze ?_; refine ze ?_; refine zb (id := 5) ?_; refine Zs5 ?_; refine Zs4 ?_; refine Zs15 ?_; refine Zs1 ?_; refine Zs5 ?_; refine Zs5 ?_; refine Zs4 ?_; refine z7 (ok_sneq rfl rfl rfl rfl (decide_eq_false (by assumption))) rfl ?_; refine Zs1 ?_; refine Zs5 ?_; refine Zs5 ?_; refine Zs4 ?_; refine z7 (ok_sneq rfl rfl rfl rfl (decide_eq_true (by assumption))) rfl ?_; refine Zs6 ?_; refine Zs6 ?_; refine zd ?_; refine zf ?_; refine zw rfl ?_; refine ze ?_; refine zb (id := 6) ?_; refine Zs2 ?_; refine zd ?_; refine zf ?_
            refine qn L (rs := [.tmp 2]) rfl (fun _ _ h => h) Since.refl fun u H hH hle => ?_
            rfl
        · rw [if_pos ⟨h2, fun h => hu1 (by rw [h])⟩] at he
          subst he
          refine ze ?_; refine zb (id := 0) ?_; refine Zs21 ?_; refine Zs2 ?_; refine zd ?_; refine zf ?_; refine ze ?_; refine ze ?_; refine zb (id := 1) ?_; refine Zs5 ?_; refine Zs4 ?_; refine Zs27 ?_; refine Zs1 ?_; refine Zs5 ?_; refine Zs4 ?_; refine Zs10 ?_; refine Zs6 ?_; refine zd ?_; refine zf ?_; refine zm rfl ?_; refine zt ?_; refine zf ?_; refine ze ?_; refine ze ?_; refine zb (id := 3) ?_; refine Zs5 ?_; refine z7 (zn L (vs := [_, _, _]) (zl rfl) rfl rfl rfl rfl ⟨_, rfl⟩) rfl ?_; refine z7 (zo L rfl rfl (zg rfl) rfl rfl rfl (fun u H hH _ _ => rgoal_ret (by first | assumption | omega | decide) (by first | assumption | omega | decide) (by first | assumption | omega | decide) hH)) rfl ?_; refine Zs16 ?_; refine Zs1 ?_; refine Zs5 ?_; refine Zs4 ?_; refine Zs9 ?_; refine Zs1 ?_; refine Zs3 ?_; refine Zs3 ?_; refine Zs3 ?_; refine Zs3 ?_; refine Zs6 ?_; refine Zs6 ?_; refine zd ?_; refine zf ?_; refine zm rfl ?_; refine zt ?_; refine zf ?_; refine ze ?_; refine ze ?_; refine zb (id := 5) ?_; refine Zs5 ?_; refine Zs4 ?_; refine Zs15 ?_; refine Zs1 ?_; refine Zs5 ?_; refine Zs5 ?_; refine Zs4 ?_; refine z7 (ok_sneq rfl rfl rfl rfl (decide_eq_true (by assumption))) rfl ?_; refine Zs1 ?_; refine Zs3 ?_; refine Zs3 ?_; refine Zs3 ?_; refine Zs3 ?_; refine Zs6 ?_; refine Zs6 ?_; refine zd ?_; refine zf ?_; refine zw rfl ?_; refine ze ?_; refine zb (id := 6) ?_; refine Zs2 ?_; refine zd ?_; refine zf ?_
          refine qn L (rs := [.tmp 2]) rfl (fun _ _ h => h) Since.refl fun u H hH hle => ?_
          rfl
    · rw [if_pos (by omega)] at he
      subst he
      rcases hk with h1 | h1
      · refine ze ?_; refine zb (id := 0) ?_; refine Zs21 ?_; refine Zs2 ?_; refine zd ?_; refine zf ?_; refine ze ?_; refine ze ?_; refine zb (id := 1) ?_; refine Zs5 ?_; refine Zs4 ?_; refine Zs10 ?_; refine Zs1 ?_; refine Zs3 ?_; refine Zs3 ?_; refine Zs3 ?_; refine Zs6 ?_; refine zd ?_; refine zf ?_; refine zm rfl ?_; refine zt ?_; refine zf ?_; refine ze ?_; refine ze ?_; refine zb (id := 3) ?_; refine Zs5 ?_; refine z7 (zn L (vs := [_, _, _]) (zl rfl) rfl rfl rfl rfl ⟨_, rfl⟩) rfl ?_; refine z7 (zo L rfl rfl (zg rfl) rfl rfl rfl (fun u H hH _ _ => rgoal_ret (by first | assumption | omega | decide) (by first | assumption | omega | decide) (by first | assumption | omega | decide) hH)) rfl ?_; refine Zs23 ?_; refine Zs1 ?_; refine Zs3 ?_; refine Zs3 ?_; refine Zs3 ?_; refine Zs3 ?_; refine Zs3 ?_; refine Zs3 ?_; refine Zs3 ?_; refine Zs3 ?_; refine Zs3 ?_; refine Zs6 ?_; refine zd ?_; refine zf ?_; refine zw rfl ?_; refine ze ?_; refine zb (id := 4) ?_; refine Zs2 ?_; refine zd ?_; refine zf ?_
        refine qn L (rs := [.tmp 2]) rfl (fun _ _ h => h) Since.refl fun u H hH hle => ?_
        rfl
      · refine ze ?_; refine zb (id := 0) ?_; refine Zs21 ?_; refine Zs2 ?_; refine zd ?_; refine zf ?_; refine ze ?_; refine ze ?_; refine zb (id := 1) ?_; refine Zs5 ?_; refine Zs4 ?_; refine Zs27 ?_; refine Zs1 ?_; refine Zs5 ?_; refine Zs4 ?_; refine Zs10 ?_; refine Zs6 ?_; refine zd ?_; refine zf ?_; refine zm rfl ?_; refine zt ?_; refine zf ?_; refine ze ?_; refine ze ?_; refine zb (id := 3) ?_; refine Zs5 ?_; refine z7 (zn L (vs := [_, _, _]) (zl rfl) rfl rfl rfl rfl ⟨_, rfl⟩) rfl ?_; refine z7 (zo L rfl rfl (zg rfl) rfl rfl rfl (fun u H hH _ _ => rgoal_ret (by first | assumption | omega | decide) (by first | assumption | omega | decide) (by first | assumption | omega | decide) hH)) rfl ?_; refine Zs23 ?_; refine Zs1 ?_; refine Zs3 ?_; refine Zs3 ?_; refine Zs3 ?_; refine Zs3 ?_; refine Zs3 ?_; refine Zs3 ?_; refine Zs3 ?_; refine Zs3 ?_; refine Zs3 ?_; refine Zs6 ?_; refine zd ?_; refine zf ?_; refine zw rfl ?_; refine ze ?_; refine zb (id := 4) ?_; refine Zs2 ?_; refine zd ?_; refine zf ?_
        refine qn L (rs := [.tmp 2]) rfl (fun _ _ h => h) Since.refl fun u H hH hle => ?_
        rfl
  · rw [if_pos (by omega)] at he
    subst he
    refine ze ?_; refine zb (id := 0) ?_; refine Zs21 ?_; refine Zs2 ?_; refine zd ?_; refine zf ?_; refine ze ?_; refine ze ?_; refine zb (id := 1) ?_; refine Zs5 ?_; refine Zs4 ?_; refine Zs27 ?_; refine Zs1 ?_; refine Zs5 ?_; refine Zs4 ?_; refine Zs27 ?_; refine Zs6 ?_; refine zd ?_; refine zf ?_; refine zw rfl ?_; refine ze ?_; refine zb (id := 2) ?_; refine Zs2 ?_; refine zd ?_; refine zf ?_
    refine qn L (rs := [.tmp 2]) rfl (fun _ _ h => h) Since.refl fun u H hH hle => ?_
    rfl
theorem ritem_ret {x : It} (hr0 : 0 ≤ x.rv) {b : Bool} (hb : itV x = b) {w : World} {B : Heap} (hB : B.Le (hp w)) : Ret Try.prog 37 [itv x] w B (fun v _ => v = .int .i64 (if b = true then 1 else 0)) := by
  cases b with
  | true =>
    obtain ⟨h1, h2, h3, h4, h5, h6, h7, h8, h9⟩ := itV_iff.1 hb
    refine ya Try.func37 rfl Try.ntmps37 (Nat.le_of_ble_eq_true rfl) hB ?_
    refine ze ?_; refine zb (id := 0) ?_; refine Zs21 ?_; refine Zs2 ?_; refine zd ?_; refine zf ?_; refine ze ?_; refine ze ?_; refine zb (id := 1) ?_; refine Zs5 ?_; refine Zs4 ?_; refine Zs8 ?_; refine Zs1 ?_; refine Zs5 ?_; refine Zs4 ?_; refine Zs16 ?_; refine Zs6 ?_; refine Zs1 ?_; refine Zs5 ?_; refine Zs4 ?_; refine Zs8 ?_; refine Zs6 ?_; refine Zs1 ?_; refine Zs5 ?_; refine Zs4 ?_; refine Zs16 ?_; refine Zs6 ?_; refine Zs1 ?_; refine Zs5 ?_; refine Zs4 ?_; refine Zs8 ?_; refine Zs6 ?_; refine Zs1 ?_; refine Zs5 ?_; refine Zs4 ?_; refine Zs16 ?_; refine Zs6 ?_; refine Zs1 ?_; refine Zs5 ?_; refine Zs4 ?_; refine Zs8 ?_; refine Zs6 ?_; refine Zs1 ?_; refine Zs5 ?_; refine Zs4 ?_; refine Zs16 ?_; refine Zs6 ?_; refine Zs1 ?_; refine Zs5 ?_; refine Zs4 ?_; refine Zs9 ?_; refine Zs6 ?_; refine zd ?_; refine zf ?_; refine zm rfl ?_; refine zt ?_; refine zf ?_; refine ze ?_; refine zb (id := 3) ?_; refine Zs2 ?_; refine zd ?_; refine zf ?_
    refine qn L (rs := [.tmp 2]) rfl (fun _ _ h => h) Since.refl fun u H hH hle => ?_
    rfl
  | false =>
    have hn : ¬ (0 ≤ x.tk ∧ x.tk ≤ 2147483647 ∧ 0 ≤ x.im ∧ x.im ≤ 7 ∧ 0 ≤ x.cl ∧ x.cl ≤ 15 ∧ 0 ≤ x.cs ∧ x.cs ≤ 7 ∧ 0 < x.rv) := fun h => by rw [itV_iff.2 h] at hb; cases hb
    refine ya Try.func37 rfl Try.ntmps37 (Nat.le_of_ble_eq_true rfl) hB ?_
    by_cases h1 : 0 ≤ x.tk
    · by_cases h2 : x.tk ≤ 2147483647
      · by_cases h3 : 0 ≤ x.im
        · by_cases h4 : x.im ≤ 7
          · by_cases h5 : 0 ≤ x.cl
            · by_cases h6 : x.cl ≤ 15
              · by_cases h7 : 0 ≤ x.cs
                · by_cases h8 : x.cs ≤ 7
                  · have hz9 : ¬ 0 < x.rv := by omega
                    refine ze ?_; refine zb (id := 0) ?_; refine Zs21 ?_; refine Zs2 ?_; refine zd ?_; refine zf ?_; refine ze ?_; refine ze ?_; refine zb (id := 1) ?_; refine Zs5 ?_; refine Zs4 ?_; refine Zs8 ?_; refine Zs1 ?_; refine Zs5 ?_; refine Zs4 ?_; refine Zs16 ?_; refine Zs6 ?_; refine Zs1 ?_; refine Zs5 ?_; refine Zs4 ?_; refine Zs8 ?_; refine Zs6 ?_; refine Zs1 ?_; refine Zs5 ?_; refine Zs4 ?_; refine Zs16 ?_; refine Zs6 ?_; refine Zs1 ?_; refine Zs5 ?_; refine Zs4 ?_; refine Zs8 ?_; refine Zs6 ?_; refine Zs1 ?_; refine Zs5 ?_; refine Zs4 ?_; refine Zs16 ?_; refine Zs6 ?_; refine Zs1 ?_; refine Zs5 ?_; refine Zs4 ?_; refine Zs8 ?_; refine Zs6 ?_; refine Zs1 ?_; refine Zs5 ?_; refine Zs4 ?_; refine Zs16 ?_; refine Zs6 ?_; refine Zs1 ?_; refine Zs5 ?_; refine Zs4 ?_; refine Zs15 ?_; refine Zs6 ?_; refine zd ?_; refine zf ?_; refine zw rfl ?_; refine ze ?_; refine zb (id := 2) ?_; refine Zs2 ?_; refine zd ?_; refine zf ?_
                    refine qn L (rs := [.tmp 2]) rfl (fun _ _ h => h) Since.refl fun u H hH hle => ?_
                    rfl
                  · refine ze ?_; refine zb (id := 0) ?_; refine Zs21 ?_; refine Zs2 ?_; refine zd ?_; refine zf ?_; refine ze ?_; refine ze ?_; refine zb (id := 1) ?_; refine Zs5 ?_; refine Zs4 ?_; refine Zs8 ?_; refine Zs1 ?_; refine Zs5 ?_; refine Zs4 ?_; refine Zs16 ?_; refine Zs6 ?_; refine Zs1 ?_; refine Zs5 ?_; refine Zs4 ?_; refine Zs8 ?_; refine Zs6 ?_; refine Zs1 ?_; refine Zs5 ?_; refine Zs4 ?_; refine Zs16 ?_; refine Zs6 ?_; refine Zs1 ?_; refine Zs5 ?_; refine Zs4 ?_; refine Zs8 ?_; refine Zs6 ?_; refine Zs1 ?_; refine Zs5 ?_; refine Zs4 ?_; refine Zs16 ?_; refine Zs6 ?_; refine Zs1 ?_; refine Zs5 ?_; refine Zs4 ?_; refine Zs8 ?_; refine Zs6 ?_; refine Zs1 ?_; refine Zs5 ?_; refine Zs4 ?_; refine Zs23 ?_; refine Zs6 ?_; refine Zs1 ?_; refine Zs3 ?_; refine Zs3 ?_; refine Zs3 ?_; refine Zs6 ?_; refine zd ?_; refine zf ?_; refine zw rfl ?_; refine ze ?_; refine zb (id := 2) ?_; refine Zs2 ?_; refine zd ?_; refine zf ?_
                    refine qn L (rs := [.tmp 2]) rfl (fun _ _ h => h) Since.refl fun u H hH hle => ?_
                    rfl
                · refine ze ?_; refine zb (id := 0) ?_; refine Zs21 ?_; refine Zs2 ?_; refine zd ?_; refine zf ?_; refine ze ?_; refine ze ?_; refine zb (id := 1) ?_; refine Zs5 ?_; refine Zs4 ?_; refine Zs8 ?_; refine Zs1 ?_; refine Zs5 ?_; refine Zs4 ?_; refine Zs16 ?_; refine Zs6 ?_; refine Zs1 ?_; refine Zs5 ?_; refine Zs4 ?_; refine Zs8 ?_; refine Zs6 ?_; refine Zs1 ?_; refine Zs5 ?_; refine Zs4 ?_; refine Zs16 ?_; refine Zs6 ?_; refine Zs1 ?_; refine Zs5 ?_; refine Zs4 ?_; refine Zs8 ?_; refine Zs6 ?_; refine Zs1 ?_; refine Zs5 ?_; refine Zs4 ?_; refine Zs16 ?_; refine Zs6 ?_; refine Zs1 ?_; refine Zs5 ?_; refine Zs4 ?_; refine Zs11 ?_; refine Zs6 ?_; refine Zs1 ?_; refine Zs3 ?_; refine Zs3 ?_; refine Zs3 ?_; refine Zs6 ?_; refine Zs1 ?_; refine Zs3 ?_; refine Zs3 ?_; refine Zs3 ?_; refine Zs6 ?_; refine zd ?_; refine zf ?_; refine zw rfl ?_; refine ze ?_; refine zb (id := 2) ?_; refine Zs2 ?_; refine zd ?_; refine zf ?_
                  refine qn L (rs := [.tmp 2]) rfl (fun _ _ h => h) Since.refl fun u H hH hle => ?_
                  rfl
              · refine ze ?_; refine zb (id := 0) ?_; refine Zs21 ?_; refine Zs2 ?_; refine zd ?_; refine zf ?_; refine ze ?_; refine ze ?_; refine zb (id := 1) ?_; refine Zs5 ?_; refine Zs4 ?_; refine Zs8 ?_; refine Zs1 ?_; refine Zs5 ?_; refine Zs4 ?_; refine Zs16 ?_; refine Zs6 ?_; refine Zs1 ?_; refine Zs5 ?_; refine Zs4 ?_; refine Zs8 ?_; refine Zs6 ?_; refine Zs1 ?_; refine Zs5 ?_; refine Zs4 ?_; refine Zs16 ?_; refine Zs6 ?_; refine Zs1 ?_; refine Zs5 ?_; refine Zs4 ?_; refine Zs8 ?_; refine Zs6 ?_; refine Zs1 ?_; refine Zs5 ?_; refine Zs4 ?_; refine Zs23 ?_; refine Zs6 ?_; refine Zs1 ?_; refine Zs3 ?_; refine Zs3 ?_; refine Zs3 ?_; refine Zs6 ?_; refine Zs1 ?_; refine Zs3 ?_; refine Zs3 ?_; refine Zs3 ?_; refine Zs6 ?_; refine Zs1 ?_; refine Zs3 ?_; refine Zs3 ?_; refine Zs3 ?_; refine Zs6 ?_; refine zd ?_; refine zf ?_; refine zw rfl ?_; refine ze ?_; refine zb (id := 2) ?_; refine Zs2 ?_; refine zd ?_; refine zf ?_
                refine qn L (rs := [.tmp 2]) rfl (fun _ _ h => h) Since.refl fun u H hH hle => ?_
                rfl
            · refine ze ?_; refine zb (id := 0) ?_; refine Zs21 ?_; refine Zs2 ?_; refine zd ?_; refine zf ?_; refine ze ?_; refine ze ?_; refine zb (id := 1) ?_; refine Zs5 ?_; refine Zs4 ?_; refine Zs8 ?_; refine Zs1 ?_; refine Zs5 ?_; refine Zs4 ?_; refine Zs16 ?_; refine Zs6 ?_; refine Zs1 ?_; refine Zs5 ?_; refine Zs4 ?_; refine Zs8 ?_; refine Zs6 ?_; refine Zs1 ?_; refine Zs5 ?_; refine Zs4 ?_; refine Zs16 ?_; refine Zs6 ?_; refine Zs1 ?_; refine Zs5 ?_; refine Zs4 ?_; refine Zs11 ?_; refine Zs6 ?_; refine Zs1 ?_; refine Zs3 ?_; refine Zs3 ?_; refine Zs3 ?_; refine Zs6 ?_; refine Zs1 ?_; refine Zs3 ?_; refine Zs3 ?_; refine Zs3 ?_; refine Zs6 ?_; refine Zs1 ?_; refine Zs3 ?_; refine Zs3 ?_; refine Zs3 ?_; refine Zs6 ?_; refine Zs1 ?_; refine Zs3 ?_; refine Zs3 ?_; refine Zs3 ?_; refine Zs6 ?_; refine zd ?_; refine zf ?_; refine zw rfl ?_; refine ze ?_; refine zb (id := 2) ?_; refine Zs2 ?_; refine zd ?_; refine zf ?_
              refine qn L (rs := [.tmp 2]) rfl (fun _ _ h => h) Since.refl fun u H hH hle => ?_
              rfl
          · refine ze ?_; refine zb (id := 0) ?_; refine Zs21 ?_; refine Zs2 ?_; refine zd ?_; refine zf ?_; refine ze ?_; refine ze ?_; refine zb (id := 1) ?_; refine Zs5 ?_; refine Zs4 ?_; refine Zs8 ?_; refine Zs1 ?_; refine Zs5 ?_; refine Zs4 ?_; refine Zs16 ?_; refine Zs6 ?_; refine Zs1 ?_; refine Zs5 ?_; refine Zs4 ?_; refine Zs8 ?_; refine Zs6 ?_; refine Zs1 ?_; refine Zs5 ?_; refine Zs4 ?_; refine Zs23 ?_; refine Zs6 ?_; refine Zs1 ?_; refine Zs3 ?_; refine Zs3 ?_; refine Zs3 ?_; refine Zs6 ?_; refine Zs1 ?_; refine Zs3 ?_; refine Zs3 ?_; refine Zs3 ?_; refine Zs6 ?_; refine Zs1 ?_; refine Zs3 ?_; refine Zs3 ?_; refine Zs3 ?_; refine Zs6 ?_; refine Zs1 ?_; refine Zs3 ?_; refine Zs3 ?_; refine Zs3 ?_; refine Zs6 ?_; refine Zs1 ?_; refine Zs3 ?_; refine Zs3 ?_; refine Zs3 ?_; refine Zs6 ?_; refine zd ?_; refine zf ?_; refine zw rfl ?_; refine ze ?_; refine zb (id := 2) ?_; refine Zs2 ?_; refine zd ?_; refine zf ?_
            refine qn L (rs := [.tmp 2]) rfl (fun _ _ h => h) Since.refl fun u H hH hle => ?_
            rfl
        · refine ze ?_; refine zb (id := 0) ?_; refine Zs21 ?_; refine Zs2 ?_; refine zd ?_; refine zf ?_; refine ze ?_; refine ze ?_; refine zb (id := 1) ?_; refine Zs5 ?_; refine Zs4 ?_; refine Zs8 ?_; refine Zs1 ?_; refine Zs5 ?_; refine Zs4 ?_; refine Zs16 ?_; refine Zs6 ?_; refine Zs1 ?_; refine Zs5 ?_; refine Zs4 ?_; refine Zs11 ?_; refine Zs6 ?_; refine Zs1 ?_; refine Zs3 ?_; refine Zs3 ?_; refine Zs3 ?_; refine Zs6 ?_; refine Zs1 ?_; refine Zs3 ?_; refine Zs3 ?_; refine Zs3 ?_; refine Zs6 ?_; refine Zs1 ?_; refine Zs3 ?_; refine Zs3 ?_; refine Zs3 ?_; refine Zs6 ?_; refine Zs1 ?_; refine Zs3 ?_; refine Zs3 ?_; refine Zs3 ?_; refine Zs6 ?_; refine Zs1 ?_; refine Zs3 ?_; refine Zs3 ?_; refine Zs3 ?_; refine Zs6 ?_; refine Zs1 ?_; refine Zs3 ?_; refine Zs3 ?_; refine Zs3 ?_; refine Zs6 ?_; refine zd ?_; refine zf ?_; refine zw rfl ?_; refine ze ?_; refine zb (id := 2) ?_; refine Zs2 ?_; refine zd ?_; refine zf ?_
          refine qn L (rs := [.tmp 2]) rfl (fun _ _ h => h) Since.refl fun u H hH hle => ?_
          rfl
      · refine ze ?_; refine zb (id := 0) ?_; refine Zs21 ?_; refine Zs2 ?_; refine zd ?_; refine zf ?_; refine ze ?_; refine ze ?_; refine zb (id := 1) ?_; refine Zs5 ?_; refine Zs4 ?_; refine Zs8 ?_; refine Zs1 ?_; refine Zs5 ?_; refine Zs4 ?_; refine Zs23 ?_; refine Zs6 ?_; refine Zs1 ?_; refine Zs3 ?_; refine Zs3 ?_; refine Zs3 ?_; refine Zs6 ?_; refine Zs1 ?_; refine Zs3 ?_; refine Zs3 ?_; refine Zs3 ?_; refine Zs6 ?_; refine Zs1 ?_; refine Zs3 ?_; refine Zs3 ?_; refine Zs3 ?_; refine Zs6 ?_; refine Zs1 ?_; refine Zs3 ?_; refine Zs3 ?_; refine Zs3 ?_; refine Zs6 ?_; refine Zs1 ?_; refine Zs3 ?_; refine Zs3 ?_; refine Zs3 ?_; refine Zs6 ?_; refine Zs1 ?_; refine Zs3 ?_; refine Zs3 ?_; refine Zs3 ?_; refine Zs6 ?_; refine Zs1 ?_; refine Zs3 ?_; refine Zs3 ?_; refine Zs3 ?_; refine Zs6 ?_; refine zd ?_; refine zf ?_; refine zw rfl ?_; refine ze ?_; refine zb (id := 2) ?_; refine Zs2 ?_; refine zd ?_; refine zf ?_
        refine qn L (rs := [.tmp 2]) rfl (fun _ _ h => h) Since.refl fun u H hH hle => ?_
        rfl
    · refine ze ?_; refine zb (id := 0) ?_; refine Zs21 ?_; refine Zs2 ?_; refine zd ?_; refine zf ?_; refine ze ?_; refine ze ?_; refine zb (id := 1) ?_; refine Zs5 ?_; refine Zs4 ?_; refine Zs11 ?_; refine Zs1 ?_; refine Zs3 ?_; refine Zs3 ?_; refine Zs3 ?_; refine Zs6 ?_; refine Zs1 ?_; refine Zs3 ?_; refine Zs3 ?_; refine Zs3 ?_; refine Zs6 ?_; refine Zs1 ?_; refine Zs3 ?_; refine Zs3 ?_; refine Zs3 ?_; refine Zs6 ?_; refine Zs1 ?_; refine Zs3 ?_; refine Zs3 ?_; refine Zs3 ?_; refine Zs6 ?_; refine Zs1 ?_; refine Zs3 ?_; refine Zs3 ?_; refine Zs3 ?_; refine Zs6 ?_; refine Zs1 ?_; refine Zs3 ?_; refine Zs3 ?_; refine Zs3 ?_; refine Zs6 ?_; refine Zs1 ?_; refine Zs3 ?_; refine Zs3 ?_; refine Zs3 ?_; refine Zs6 ?_; refine Zs1 ?_; refine Zs3 ?_; refine Zs3 ?_; refine Zs3 ?_; refine Zs6 ?_; refine zd ?_; refine zf ?_; refine zw rfl ?_; refine ze ?_; refine zb (id := 2) ?_; refine Zs2 ?_; refine zd ?_; refine zf ?_
      refine qn L (rs := [.tmp 2]) rfl (fun _ _ h => h) Since.refl fun u H hH hle => ?_
      rfl
theorem ritems_ret {nx : Int} {l : List Fl} {zs : List (Fl × Value)} (hz : zs.map Prod.fst = l) {fu fi : Bool} {s : Value} {w : World} {B : Heap} (hs : FsB zs fu fi s B) (hn : itsN l ≤ 9223372036854775807) (hB : B.Le (hp w)) :
    Ret Try.prog 27 [tbv nx s] w B (fun v _ => v = .int .i64 (itsN l)) := by
  have hsl := hs.sl
  have hlen := fls_len hz
  have hzl := hs.ln
  refine ya Try.func27 rfl Try.ntmps27 (Nat.le_of_ble_eq_true rfl) hB ?_
  refine ze ?_; refine zb (id := 0) ?_; refine Zs21 ?_; refine Zs2 ?_; refine zd ?_; refine zf ?_; refine ze ?_; refine zb (id := 1) ?_; refine Zs2 ?_; refine zd ?_; refine zf ?_; refine ze ?_; refine ze ?_; refine zb (id := 2) ?_; refine Zs2 ?_; refine zd ?_; refine zf ?_; refine zy ?_
  refine V_loop (fun i : Nat => [(1, .sat (At [.int .i64 nx, s] tyT 0)), (3, .is (.int .i64 (itsN (l.take i)))), (4, .is (.int .i64 i))]) (fun i => i ≤ zs.length) (fun i => zs.length - i) 0 (Nat.zero_le _) ⟨rfl, rfl, rfl, trivial⟩ ?_
  rintro i hi
  by_cases hlt : i < zs.length
  · obtain ⟨f, p, c, hzi, hli, hzv, hil, hc⟩ := hs.at hz hlt
    have h1 := itsN_take hli
    have h2 := itsN_le l (i + 1)
    have had : IntKind.i64.wrap ((itsN (l.take i) : Int) + (f.is.length : Int)) = (itsN (l.take (i + 1)) : Int) := wrap_i64 (by omega) (by omega) |>.trans (by omega)
    refine ze ?_; refine ze ?_; refine zb (id := 3) ?_; refine Zs1 ?_; refine Zs5 ?_; refine Zs17 ?_; refine Zs31 ?_; refine Zs11 ?_; refine zd ?_; refine zf ?_; refine zw rfl ?_; refine zt ?_; refine zf ?_; refine ze ?_; refine zy ?_; refine zb (id := 5) ?_; refine Zs1 ?_; refine Zs5 ?_; refine Zs17 ?_; refine Zs1 ?_; refine z7 (qb L _ rfl rfl rfl rfl rfl rfl rfl (by first | omega | decide) (by assumption)) rfl ?_; refine Zs45 ?_; refine Zs43 ?_; refine Zs35 ?_; refine Zs18 ?_; refine Zs2 ?_; refine zd ?_; refine qm ?_; refine zf ?_; refine zb (id := 4) ?_; refine Zs1 ?_; refine Zs13 ?_; refine Zs2 ?_; refine zd ?_
    exact y1 (x := i) (i + 1) hlt (by omega) ⟨rfl, rfl, rfl, trivial⟩
  · obtain rfl : i = zs.length := by omega
    rw [hlen, List.take_length]
    refine ze ?_; refine ze ?_; refine zb (id := 3) ?_; refine Zs1 ?_; refine Zs5 ?_; refine Zs17 ?_; refine Zs31 ?_; refine Zs8 ?_; refine zd ?_; refine zf ?_; refine zm rfl ?_; refine y7 ?_; refine qg ?_; refine qg ?_; refine y6 ?_; refine zf ?_; refine ze ?_; refine zb (id := 6) ?_; refine Zs1 ?_; refine Zs2 ?_; refine zd ?_; refine zf ?_
    refine qn L (rs := [.tmp 2]) rfl (fun _ _ h => h) Since.refl fun u H hH hle => ?_
    rfl
set_option maxHeartbeats 8000000 in
set_option maxRecDepth 20000 in
theorem rflight_ret {t : Tb} {zs : List (Fl × Value)} (hz : zs.map Prod.fst = t.fl) {fu fi : Bool} {s : Value} {w : World} {B : Heap} (hs : FsB zs fu fi s B) (hZ : ∀ f ∈ t.fl, QuZ f.q) (hI : ∀ f ∈ t.fl, ∀ x ∈ f.is, 0 ≤ x.rv) {i : Nat} {f : Fl} (hfi : t.fl[i]? = some f) {e : Int} (he : flE t.nx (t.fl.take i) f = e) (hB : B.Le (hp w)) :
    Ret Try.prog 50 [tbv t.nx s, .int .i64 i] w B (fun v _ => v = .int .i64 e) := by
  have hsl := hs.sl
  have hlen := fls_len hz
  have hzl := hs.ln
  have hlt : i < zs.length := by have := get_lt hfi; omega
  obtain ⟨f', p, c, hzi, hli, hzv, hil, hc⟩ := hs.at hz hlt
  rw [hfi] at hli
  cases hli
  have hQ := hZ f (fls_mem hfi)
  have hqp := quE_pos f.q
  refine ya Try.func50 rfl Try.ntmps50 (Nat.le_of_ble_eq_true rfl) hB ?_
  refine ze ?_; refine zb (id := 0) ?_; refine Zs21 ?_; refine Zs2 ?_; refine zd ?_; refine zf ?_; refine ze ?_; refine zb (id := 1) ?_; refine Zs5 ?_; refine Zs17 ?_; refine Zs1 ?_; refine z7 (qb L _ rfl rfl rfl rfl rfl rfl rfl (by first | omega | decide) (by assumption)) rfl ?_; refine z7 (y5 L (vs := [_, _, _, _, _, _, _, _, _, _, _, _, _, _]) rfl rfl rfl rfl rfl ⟨_, rfl⟩) rfl ?_; refine Zs24 ?_; refine Zs14 ?_; refine zd ?_; refine zf ?_; refine ze ?_; refine ze ?_
  refine V_pub 5 rfl ?_
  cases hr : rngB t.nx f with
  | false =>
    rw [flE_rng hr] at he
    subst he
    unfold rngB at hr
    rw [decide_eq_false_iff_not] at hr
    by_cases c1 : 0 ≤ f.id
    · by_cases c2 : f.id < t.nx
      · by_cases c3 : f.rv ≠ 0
        · by_cases c4 : 0 ≤ f.si
          · by_cases c5 : f.si ≤ 4611686018427387904
            · by_cases c6 : 0 ≤ f.ve
              · by_cases c7 : f.ve ≤ 1048576
                · by_cases c8 : 0 ≤ f.sp
                  · have hz9 : ¬ f.sp ≤ 1048576 := by omega
                    refine zb (id := 2) ?_; refine Zs5 ?_; refine Zs4 ?_; refine Zs8 ?_; refine Zs1 ?_; refine Zs5 ?_; refine Zs4 ?_; refine Zs5 ?_; refine Zs4 ?_; refine Zs22 ?_; refine Zs6 ?_; refine Zs1 ?_; refine Zs5 ?_; refine Zs4 ?_; refine Zs9 ?_; refine Zs6 ?_; refine Zs1 ?_; refine Zs5 ?_; refine Zs4 ?_; refine Zs8 ?_; refine Zs6 ?_; refine Zs1 ?_; refine Zs5 ?_; refine Zs4 ?_; refine Zs16 ?_; refine Zs6 ?_; refine Zs1 ?_; refine Zs5 ?_; refine Zs4 ?_; refine Zs8 ?_; refine Zs6 ?_; refine Zs1 ?_; refine Zs5 ?_; refine Zs4 ?_; refine Zs16 ?_; refine Zs6 ?_; refine Zs1 ?_; refine Zs5 ?_; refine Zs4 ?_; refine Zs8 ?_; refine Zs6 ?_; refine Zs1 ?_; refine Zs5 ?_; refine Zs4 ?_; refine Zs23 ?_; refine Zs6 ?_; refine zd ?_; refine zf ?_; refine zw rfl ?_; refine ze ?_; refine zb (id := 3) ?_; refine Zs2 ?_; refine zd ?_; refine zf ?_
                    refine qn L (rs := [.tmp 4]) rfl (fun _ _ h => h) Since.refl fun u H hH hle => ?_
                    rfl
                  · refine zb (id := 2) ?_; refine Zs5 ?_; refine Zs4 ?_; refine Zs8 ?_; refine Zs1 ?_; refine Zs5 ?_; refine Zs4 ?_; refine Zs5 ?_; refine Zs4 ?_; refine Zs22 ?_; refine Zs6 ?_; refine Zs1 ?_; refine Zs5 ?_; refine Zs4 ?_; refine Zs9 ?_; refine Zs6 ?_; refine Zs1 ?_; refine Zs5 ?_; refine Zs4 ?_; refine Zs8 ?_; refine Zs6 ?_; refine Zs1 ?_; refine Zs5 ?_; refine Zs4 ?_; refine Zs16 ?_; refine Zs6 ?_; refine Zs1 ?_; refine Zs5 ?_; refine Zs4 ?_; refine Zs8 ?_; refine Zs6 ?_; refine Zs1 ?_; refine Zs5 ?_; refine Zs4 ?_; refine Zs16 ?_; refine Zs6 ?_; refine Zs1 ?_; refine Zs5 ?_; refine Zs4 ?_; refine Zs11 ?_; refine Zs6 ?_; refine Zs1 ?_; refine Zs3 ?_; refine Zs3 ?_; refine Zs3 ?_; refine Zs6 ?_; refine zd ?_; refine zf ?_; refine zw rfl ?_; refine ze ?_; refine zb (id := 3) ?_; refine Zs2 ?_; refine zd ?_; refine zf ?_
                    refine qn L (rs := [.tmp 4]) rfl (fun _ _ h => h) Since.refl fun u H hH hle => ?_
                    rfl
                · refine zb (id := 2) ?_; refine Zs5 ?_; refine Zs4 ?_; refine Zs8 ?_; refine Zs1 ?_; refine Zs5 ?_; refine Zs4 ?_; refine Zs5 ?_; refine Zs4 ?_; refine Zs22 ?_; refine Zs6 ?_; refine Zs1 ?_; refine Zs5 ?_; refine Zs4 ?_; refine Zs9 ?_; refine Zs6 ?_; refine Zs1 ?_; refine Zs5 ?_; refine Zs4 ?_; refine Zs8 ?_; refine Zs6 ?_; refine Zs1 ?_; refine Zs5 ?_; refine Zs4 ?_; refine Zs16 ?_; refine Zs6 ?_; refine Zs1 ?_; refine Zs5 ?_; refine Zs4 ?_; refine Zs8 ?_; refine Zs6 ?_; refine Zs1 ?_; refine Zs5 ?_; refine Zs4 ?_; refine Zs23 ?_; refine Zs6 ?_; refine Zs1 ?_; refine Zs3 ?_; refine Zs3 ?_; refine Zs3 ?_; refine Zs6 ?_; refine Zs1 ?_; refine Zs3 ?_; refine Zs3 ?_; refine Zs3 ?_; refine Zs6 ?_; refine zd ?_; refine zf ?_; refine zw rfl ?_; refine ze ?_; refine zb (id := 3) ?_; refine Zs2 ?_; refine zd ?_; refine zf ?_
                  refine qn L (rs := [.tmp 4]) rfl (fun _ _ h => h) Since.refl fun u H hH hle => ?_
                  rfl
              · refine zb (id := 2) ?_; refine Zs5 ?_; refine Zs4 ?_; refine Zs8 ?_; refine Zs1 ?_; refine Zs5 ?_; refine Zs4 ?_; refine Zs5 ?_; refine Zs4 ?_; refine Zs22 ?_; refine Zs6 ?_; refine Zs1 ?_; refine Zs5 ?_; refine Zs4 ?_; refine Zs9 ?_; refine Zs6 ?_; refine Zs1 ?_; refine Zs5 ?_; refine Zs4 ?_; refine Zs8 ?_; refine Zs6 ?_; refine Zs1 ?_; refine Zs5 ?_; refine Zs4 ?_; refine Zs16 ?_; refine Zs6 ?_; refine Zs1 ?_; refine Zs5 ?_; refine Zs4 ?_; refine Zs11 ?_; refine Zs6 ?_; refine Zs1 ?_; refine Zs3 ?_; refine Zs3 ?_; refine Zs3 ?_; refine Zs6 ?_; refine Zs1 ?_; refine Zs3 ?_; refine Zs3 ?_; refine Zs3 ?_; refine Zs6 ?_; refine Zs1 ?_; refine Zs3 ?_; refine Zs3 ?_; refine Zs3 ?_; refine Zs6 ?_; refine zd ?_; refine zf ?_; refine zw rfl ?_; refine ze ?_; refine zb (id := 3) ?_; refine Zs2 ?_; refine zd ?_; refine zf ?_
                refine qn L (rs := [.tmp 4]) rfl (fun _ _ h => h) Since.refl fun u H hH hle => ?_
                rfl
            · refine zb (id := 2) ?_; refine Zs5 ?_; refine Zs4 ?_; refine Zs8 ?_; refine Zs1 ?_; refine Zs5 ?_; refine Zs4 ?_; refine Zs5 ?_; refine Zs4 ?_; refine Zs22 ?_; refine Zs6 ?_; refine Zs1 ?_; refine Zs5 ?_; refine Zs4 ?_; refine Zs9 ?_; refine Zs6 ?_; refine Zs1 ?_; refine Zs5 ?_; refine Zs4 ?_; refine Zs8 ?_; refine Zs6 ?_; refine Zs1 ?_; refine Zs5 ?_; refine Zs4 ?_; refine Zs23 ?_; refine Zs6 ?_; refine Zs1 ?_; refine Zs3 ?_; refine Zs3 ?_; refine Zs3 ?_; refine Zs6 ?_; refine Zs1 ?_; refine Zs3 ?_; refine Zs3 ?_; refine Zs3 ?_; refine Zs6 ?_; refine Zs1 ?_; refine Zs3 ?_; refine Zs3 ?_; refine Zs3 ?_; refine Zs6 ?_; refine Zs1 ?_; refine Zs3 ?_; refine Zs3 ?_; refine Zs3 ?_; refine Zs6 ?_; refine zd ?_; refine zf ?_; refine zw rfl ?_; refine ze ?_; refine zb (id := 3) ?_; refine Zs2 ?_; refine zd ?_; refine zf ?_
              refine qn L (rs := [.tmp 4]) rfl (fun _ _ h => h) Since.refl fun u H hH hle => ?_
              rfl
          · refine zb (id := 2) ?_; refine Zs5 ?_; refine Zs4 ?_; refine Zs8 ?_; refine Zs1 ?_; refine Zs5 ?_; refine Zs4 ?_; refine Zs5 ?_; refine Zs4 ?_; refine Zs22 ?_; refine Zs6 ?_; refine Zs1 ?_; refine Zs5 ?_; refine Zs4 ?_; refine Zs9 ?_; refine Zs6 ?_; refine Zs1 ?_; refine Zs5 ?_; refine Zs4 ?_; refine Zs11 ?_; refine Zs6 ?_; refine Zs1 ?_; refine Zs3 ?_; refine Zs3 ?_; refine Zs3 ?_; refine Zs6 ?_; refine Zs1 ?_; refine Zs3 ?_; refine Zs3 ?_; refine Zs3 ?_; refine Zs6 ?_; refine Zs1 ?_; refine Zs3 ?_; refine Zs3 ?_; refine Zs3 ?_; refine Zs6 ?_; refine Zs1 ?_; refine Zs3 ?_; refine Zs3 ?_; refine Zs3 ?_; refine Zs6 ?_; refine Zs1 ?_; refine Zs3 ?_; refine Zs3 ?_; refine Zs3 ?_; refine Zs6 ?_; refine zd ?_; refine zf ?_; refine zw rfl ?_; refine ze ?_; refine zb (id := 3) ?_; refine Zs2 ?_; refine zd ?_; refine zf ?_
            refine qn L (rs := [.tmp 4]) rfl (fun _ _ h => h) Since.refl fun u H hH hle => ?_
            rfl
        · refine zb (id := 2) ?_; refine Zs5 ?_; refine Zs4 ?_; refine Zs8 ?_; refine Zs1 ?_; refine Zs5 ?_; refine Zs4 ?_; refine Zs5 ?_; refine Zs4 ?_; refine Zs22 ?_; refine Zs6 ?_; refine Zs1 ?_; refine Zs5 ?_; refine Zs4 ?_; refine Zs15 ?_; refine Zs6 ?_; refine Zs1 ?_; refine Zs3 ?_; refine Zs3 ?_; refine Zs3 ?_; refine Zs6 ?_; refine Zs1 ?_; refine Zs3 ?_; refine Zs3 ?_; refine Zs3 ?_; refine Zs6 ?_; refine Zs1 ?_; refine Zs3 ?_; refine Zs3 ?_; refine Zs3 ?_; refine Zs6 ?_; refine Zs1 ?_; refine Zs3 ?_; refine Zs3 ?_; refine Zs3 ?_; refine Zs6 ?_; refine Zs1 ?_; refine Zs3 ?_; refine Zs3 ?_; refine Zs3 ?_; refine Zs6 ?_; refine Zs1 ?_; refine Zs3 ?_; refine Zs3 ?_; refine Zs3 ?_; refine Zs6 ?_; refine zd ?_; refine zf ?_; refine zw rfl ?_; refine ze ?_; refine zb (id := 3) ?_; refine Zs2 ?_; refine zd ?_; refine zf ?_
          refine qn L (rs := [.tmp 4]) rfl (fun _ _ h => h) Since.refl fun u H hH hle => ?_
          rfl
      · refine zb (id := 2) ?_; refine Zs5 ?_; refine Zs4 ?_; refine Zs8 ?_; refine Zs1 ?_; refine Zs5 ?_; refine Zs4 ?_; refine Zs5 ?_; refine Zs4 ?_; refine Zs30 ?_; refine Zs6 ?_; refine Zs1 ?_; refine Zs3 ?_; refine Zs3 ?_; refine Zs3 ?_; refine Zs6 ?_; refine Zs1 ?_; refine Zs3 ?_; refine Zs3 ?_; refine Zs3 ?_; refine Zs6 ?_; refine Zs1 ?_; refine Zs3 ?_; refine Zs3 ?_; refine Zs3 ?_; refine Zs6 ?_; refine Zs1 ?_; refine Zs3 ?_; refine Zs3 ?_; refine Zs3 ?_; refine Zs6 ?_; refine Zs1 ?_; refine Zs3 ?_; refine Zs3 ?_; refine Zs3 ?_; refine Zs6 ?_; refine Zs1 ?_; refine Zs3 ?_; refine Zs3 ?_; refine Zs3 ?_; refine Zs6 ?_; refine Zs1 ?_; refine Zs3 ?_; refine Zs3 ?_; refine Zs3 ?_; refine Zs6 ?_; refine zd ?_; refine zf ?_; refine zw rfl ?_; refine ze ?_; refine zb (id := 3) ?_; refine Zs2 ?_; refine zd ?_; refine zf ?_
        refine qn L (rs := [.tmp 4]) rfl (fun _ _ h => h) Since.refl fun u H hH hle => ?_
        rfl
    · refine zb (id := 2) ?_; refine Zs5 ?_; refine Zs4 ?_; refine Zs11 ?_; refine Zs1 ?_; refine Zs3 ?_; refine Zs3 ?_; refine Zs3 ?_; refine Zs3 ?_; refine Zs3 ?_; refine Zs6 ?_; refine Zs1 ?_; refine Zs3 ?_; refine Zs3 ?_; refine Zs3 ?_; refine Zs6 ?_; refine Zs1 ?_; refine Zs3 ?_; refine Zs3 ?_; refine Zs3 ?_; refine Zs6 ?_; refine Zs1 ?_; refine Zs3 ?_; refine Zs3 ?_; refine Zs3 ?_; refine Zs6 ?_; refine Zs1 ?_; refine Zs3 ?_; refine Zs3 ?_; refine Zs3 ?_; refine Zs6 ?_; refine Zs1 ?_; refine Zs3 ?_; refine Zs3 ?_; refine Zs3 ?_; refine Zs6 ?_; refine Zs1 ?_; refine Zs3 ?_; refine Zs3 ?_; refine Zs3 ?_; refine Zs6 ?_; refine Zs1 ?_; refine Zs3 ?_; refine Zs3 ?_; refine Zs3 ?_; refine Zs6 ?_; refine zd ?_; refine zf ?_; refine zw rfl ?_; refine ze ?_; refine zb (id := 3) ?_; refine Zs2 ?_; refine zd ?_; refine zf ?_
      refine qn L (rs := [.tmp 4]) rfl (fun _ _ h => h) Since.refl fun u H hH hle => ?_
      rfl
  | true =>
    have hr' := hr
    unfold rngB at hr'
    rw [decide_eq_true_eq] at hr'
    obtain ⟨r1, r2, r3, r4, r5, r6, r7, r8, r9⟩ := hr'
    refine zb (id := 2) ?_; refine Zs5 ?_; refine Zs4 ?_; refine Zs8 ?_; refine Zs1 ?_; refine Zs5 ?_; refine Zs4 ?_; refine Zs5 ?_; refine Zs4 ?_; refine Zs22 ?_; refine Zs6 ?_; refine Zs1 ?_; refine Zs5 ?_; refine Zs4 ?_; refine Zs9 ?_; refine Zs6 ?_; refine Zs1 ?_; refine Zs5 ?_; refine Zs4 ?_; refine Zs8 ?_; refine Zs6 ?_; refine Zs1 ?_; refine Zs5 ?_; refine Zs4 ?_; refine Zs16 ?_; refine Zs6 ?_; refine Zs1 ?_; refine Zs5 ?_; refine Zs4 ?_; refine Zs8 ?_; refine Zs6 ?_; refine Zs1 ?_; refine Zs5 ?_; refine Zs4 ?_; refine Zs16 ?_; refine Zs6 ?_; refine Zs1 ?_; refine Zs5 ?_; refine Zs4 ?_; refine Zs8 ?_; refine Zs6 ?_; refine Zs1 ?_; refine Zs5 ?_; refine Zs4 ?_; refine Zs16 ?_; refine Zs6 ?_; refine zd ?_; refine zf ?_; refine zm rfl ?_; refine zt ?_; refine zf ?_; refine ze ?_; refine ze ?_
    refine V_meetC (fun _ : Unit => [(1, .is (.int .i64 i)), (2, .sat (At [.int .i64 t.nx, s] tyT 0)), (5, .sat (At [.int .i64 f.id, .int .u64 f.rv, .int .u8 f.q.kd, .string f.q.g.1.1, .string f.q.g.1.2, .string f.q.g.2, .string f.q.u.1, .string f.q.u.2, .int .i64 f.cl, .int .i64 f.cs, .int .i64 f.si, .int .i64 f.ve, .int .i64 f.sp, .slice p f.is.length c] tyF 0))]) (fun _ => ordB (t.fl.take i) f = true) (fun _ => []) ?rest ?first
    case first =>
      by_cases hi0 : 0 < i
      · obtain ⟨g, pg, cg, _, hgl, _, _, hcg⟩ := hs.at hz (show i - 1 < zs.length by omega)
        have hw : IntKind.i64.wrap ((i : Int) - 1) = ((i - 1 : Nat) : Int) := wrap_i64 (by omega) (by omega) |>.trans (by omega)
        have ho := ord_at (f := f) hi0 hgl
        by_cases o1 : g.id < f.id
        · by_cases o2 : g.si ≤ f.si
          · rw [decide_eq_true ⟨o1, o2⟩] at ho
            refine zz (id := 4) [] mixed (by kernel_rfl) ?_; refine Zs7 ?_; refine Zs53 ?_; refine Zs7 ?_; refine Zs32 ?_; refine Zs29 ?_; refine Zs7 ?_; refine Zs44 ?_; refine z8 (qb L _ rfl rfl rfl rfl rfl rfl rfl (by first | omega | decide) (by assumption)) rfl ?_; refine Zs55 ?_; refine Zs51 ?_; refine Zs32 ?_; refine Zs39 ?_; refine z8 (ok_geq rfl rfl rfl rfl (decide_eq_false (by omega))) rfl ?_; refine Zs7 ?_; refine Zs32 ?_; refine Zs29 ?_; refine Zs7 ?_; refine Zs44 ?_; refine z8 (qb L _ rfl rfl rfl rfl rfl rfl rfl (by first | omega | decide) (by assumption)) rfl ?_; refine Zs55 ?_; refine Zs51 ?_; refine Zs32 ?_; refine Zs39 ?_; refine Zs62 ?_; refine Zs28 ?_; refine Zs28 ?_; refine qk ?_; refine zf ?_; refine zm rfl ?_; refine zt ?_
            exact N_mids () Since.refl ho rfl ⟨rfl, rfl, rfl, trivial⟩
          · rw [decide_eq_false (fun h => o2 h.2)] at ho
            rw [flE_ord hr ho] at he
            subst he
            refine zz (id := 4) [] mixed (by kernel_rfl) ?_; refine Zs7 ?_; refine Zs53 ?_; refine Zs7 ?_; refine Zs32 ?_; refine Zs29 ?_; refine Zs7 ?_; refine Zs44 ?_; refine z8 (qb L _ rfl rfl rfl rfl rfl rfl rfl (by first | omega | decide) (by assumption)) rfl ?_; refine Zs55 ?_; refine Zs51 ?_; refine Zs32 ?_; refine Zs39 ?_; refine z8 (ok_geq rfl rfl rfl rfl (decide_eq_false (by omega))) rfl ?_; refine Zs7 ?_; refine Zs32 ?_; refine Zs29 ?_; refine Zs7 ?_; refine Zs44 ?_; refine z8 (qb L _ rfl rfl rfl rfl rfl rfl rfl (by first | omega | decide) (by assumption)) rfl ?_; refine Zs55 ?_; refine Zs51 ?_; refine Zs32 ?_; refine Zs39 ?_; refine Zs53 ?_; refine Zs28 ?_; refine Zs28 ?_; refine qk ?_; refine zf ?_; refine zw rfl ?_; refine ze ?_; refine zb (id := 5) ?_; refine Zs2 ?_; refine zd ?_; refine zf ?_
            refine qn L (rs := [.tmp 4]) rfl (fun _ _ h => h) Since.refl fun u H hH hle => ?_
            rfl
        · rw [decide_eq_false (fun h => o1 h.1)] at ho
          rw [flE_ord hr ho] at he
          subst he
          refine zz (id := 4) [] mixed (by kernel_rfl) ?_; refine Zs7 ?_; refine Zs53 ?_; refine Zs7 ?_; refine Zs32 ?_; refine Zs29 ?_; refine Zs7 ?_; refine Zs44 ?_; refine z8 (qb L _ rfl rfl rfl rfl rfl rfl rfl (by first | omega | decide) (by assumption)) rfl ?_; refine Zs55 ?_; refine Zs51 ?_; refine Zs32 ?_; refine Zs39 ?_; refine z8 (ok_geq rfl rfl rfl rfl (decide_eq_true (by omega))) rfl ?_; refine Zs7 ?_; refine Zs12 ?_; refine Zs12 ?_; refine Zs12 ?_; refine Zs12 ?_; refine Zs12 ?_; refine Zs12 ?_; refine Zs12 ?_; refine Zs12 ?_; refine Zs12 ?_; refine Zs12 ?_; refine Zs28 ?_; refine Zs28 ?_; refine qk ?_; refine zf ?_; refine zw rfl ?_; refine ze ?_; refine zb (id := 5) ?_; refine Zs2 ?_; refine zd ?_; refine zf ?_
          refine qn L (rs := [.tmp 4]) rfl (fun _ _ h => h) Since.refl fun u H hH hle => ?_
          rfl
      · obtain rfl : i = 0 := by omega
        refine zz (id := 4) [] mixed (by kernel_rfl) ?_; refine Zs7 ?_; refine Zs62 ?_; refine Zs7 ?_; refine Zs12 ?_; refine Zs12 ?_; refine Zs12 ?_; refine Zs12 ?_; refine Zs12 ?_; refine Zs12 ?_; refine Zs12 ?_; refine Zs12 ?_; refine Zs12 ?_; refine Zs12 ?_; refine Zs12 ?_; refine Zs12 ?_; refine Zs12 ?_; refine Zs12 ?_; refine Zs12 ?_; refine Zs12 ?_; refine Zs12 ?_; refine Zs12 ?_; refine Zs12 ?_; refine Zs12 ?_; refine Zs12 ?_; refine Zs12 ?_; refine Zs28 ?_; refine qk ?_; refine zf ?_; refine zm rfl ?_; refine zt ?_
        exact N_mids () Since.refl ord_zero rfl ⟨rfl, rfl, rfl, trivial⟩
    intro _ ho
    by_cases hq : quE f.q = 0
    · by_cases hem : f.is = []
      · have hl0 : f.is.length = 0 := by rw [hem]; rfl
        rw [flE_em hr ho hq hem] at he
        subst he
        refine ze ?_; refine ze ?_; refine zb (id := 6) ?_; refine Zs5 ?_; refine z7 (zn L (vs := [_, _, _, _, _, _]) (zl rfl) rfl rfl rfl rfl ⟨_, rfl⟩) rfl ?_; refine z7 (zo L rfl rfl (zg rfl) rfl rfl rfl (fun u H hH _ _ => rquery_ret hQ (by first | exact hq | rfl) hH)) rfl ?_; refine Zs16 ?_; refine zd ?_; refine zf ?_; refine zm rfl ?_; refine zt ?_; refine zf ?_; refine ze ?_; refine ze ?_; refine zb (id := 8) ?_; refine Zs5 ?_; refine Zs4 ?_; refine Zs35 ?_; refine Zs15 ?_; refine zd ?_; refine zf ?_; refine zw rfl ?_; refine ze ?_; refine zb (id := 9) ?_; refine Zs2 ?_; refine zd ?_; refine zf ?_
        refine qn L (rs := [.tmp 4]) rfl (fun _ _ h => h) Since.refl fun u H hH hle => ?_
        rfl
      · have hl0 : 0 < f.is.length := List.length_pos_iff.2 hem
        obtain ⟨x0, hx0⟩ := get_some hl0
        have hc0 := it_at hx0
        have hhd : f.is.head?.map It.cl = some x0.cl := by
          cases hfi : f.is with
          | nil => exact absurd hfi hem
          | cons y l => rw [hfi] at hx0; simp at hx0; subst hx0; rfl
        have hm := memB_eq (f := f)
        rw [hhd] at hm
        refine ze ?_; refine ze ?_; refine zb (id := 6) ?_; refine Zs5 ?_; refine z7 (zn L (vs := [_, _, _, _, _, _]) (zl rfl) rfl rfl rfl rfl ⟨_, rfl⟩) rfl ?_; refine z7 (zo L rfl rfl (zg rfl) rfl rfl rfl (fun u H hH _ _ => rquery_ret hQ (by first | exact hq | rfl) hH)) rfl ?_; refine Zs16 ?_; refine zd ?_; refine zf ?_; refine zm rfl ?_; refine zt ?_; refine zf ?_; refine ze ?_; refine ze ?_; refine zb (id := 8) ?_; refine Zs5 ?_; refine Zs4 ?_; refine Zs35 ?_; refine Zs9 ?_; refine zd ?_; refine zf ?_; refine zm rfl ?_; refine zt ?_; refine zf ?_; refine ze ?_; refine zb (id := 10) ?_; refine Zs2 ?_; refine zd ?_; refine zf ?_; refine ze ?_; refine ze ?_; refine zb (id := 11) ?_; refine Zs2 ?_; refine zd ?_; refine zf ?_; refine zy ?_
        refine V_loop (fun k : Nat => [(1, .is (.int .i64 i)), (2, .sat (At [.int .i64 t.nx, s] tyT 0)), (5, .sat (At [.int .i64 f.id, .int .u64 f.rv, .int .u8 f.q.kd, .string f.q.g.1.1, .string f.q.g.1.2, .string f.q.g.2, .string f.q.u.1, .string f.q.u.2, .int .i64 f.cl, .int .i64 f.cs, .int .i64 f.si, .int .i64 f.ve, .int .i64 f.sp, .slice p f.is.length c] tyF 0)), (6, .is (.int .i64 (cls (f.is.take k)))), (7, .is (.int .i64 k))]) (fun k => k ≤ f.is.length ∧ ∀ (j : Nat) x, j < k → f.is[j]? = some x → itV x = true) (fun k => f.is.length - k) 0 ⟨Nat.zero_le _, fun j x h => absurd h (Nat.not_lt_zero _)⟩ ⟨rfl, rfl, rfl, rfl, rfl, trivial⟩ ?_
        rintro k ⟨hk, hok⟩
        by_cases hkl : k < f.is.length
        · obtain ⟨x, hx⟩ := get_some hkl
          have hcx := it_at hx
          cases hv : itV x with
          | false =>
            have hall : f.is.all itV = false := by
              rw [Bool.eq_false_iff]
              intro h
              have := List.all_eq_true.1 h x (List.mem_of_getElem? hx)
              rw [hv] at this; cases this
            rw [hall] at hm
            rw [flE_mem hr ho hq hem hm] at he
            subst he
            refine ze ?_; refine ze ?_; refine zb (id := 12) ?_; refine Zs1 ?_; refine Zs5 ?_; refine Zs4 ?_; refine Zs35 ?_; refine Zs11 ?_; refine zd ?_; refine zf ?_; refine zw rfl ?_; refine zt ?_; refine zf ?_; refine ze ?_; refine zy ?_; refine ze ?_; refine ze ?_; refine zb (id := 14) ?_; refine Zs5 ?_; refine Zs17 ?_; refine Zs1 ?_; refine z7 (qb L _ rfl rfl rfl rfl rfl rfl rfl (by first | omega | decide) (by assumption)) rfl ?_; refine z7 (y5 L (vs := [_, _, _, _, _]) rfl rfl rfl rfl rfl ⟨_, rfl⟩) rfl ?_; refine z7 (zo L rfl rfl (zg rfl) rfl rfl rfl (fun u H hH _ _ => ritem_ret (hI f (fls_mem hfi) x (List.mem_of_getElem? hx)) hv hH)) rfl ?_; refine z7 (q9 rfl rfl rfl rfl rfl) rfl ?_; refine zd ?_; refine zf ?_; refine zw rfl ?_; refine ze ?_; refine zb (id := 15) ?_; refine Zs2 ?_; refine zd ?_; refine zf ?_
            refine qn L (rs := [.tmp 4]) rfl (fun _ _ h => h) Since.refl fun u H hH hle => ?_
            rfl
          | true =>
            have hct := cls_take hx
            refine ze ?_; refine ze ?_; refine zb (id := 12) ?_; refine Zs1 ?_; refine Zs5 ?_; refine Zs4 ?_; refine Zs35 ?_; refine Zs11 ?_; refine zd ?_; refine zf ?_; refine zw rfl ?_; refine zt ?_; refine zf ?_; refine ze ?_; refine zy ?_; refine ze ?_; refine ze ?_; refine zb (id := 14) ?_; refine Zs5 ?_; refine Zs17 ?_; refine Zs1 ?_; refine z7 (qb L _ rfl rfl rfl rfl rfl rfl rfl (by first | omega | decide) (by assumption)) rfl ?_; refine z7 (y5 L (vs := [_, _, _, _, _]) rfl rfl rfl rfl rfl ⟨_, rfl⟩) rfl ?_; refine z7 (zo L rfl rfl (zg rfl) rfl rfl rfl (fun u H hH _ _ => ritem_ret (hI f (fls_mem hfi) x (List.mem_of_getElem? hx)) hv hH)) rfl ?_; refine z7 (q9 rfl rfl rfl rfl rfl) rfl ?_; refine zd ?_; refine zf ?_; refine zm rfl ?_; refine zt ?_; refine zf ?_; refine zb (id := 16) ?_; refine Zs1 ?_; refine Zs5 ?_; refine Zs17 ?_; refine Zs1 ?_; refine z7 (qb L _ rfl rfl rfl rfl rfl rfl rfl (by first | omega | decide) (by assumption)) rfl ?_; refine Zs45 ?_; refine Zs43 ?_; refine z7 (ok_min rfl rfl rfl rfl rfl) rfl ?_; refine Zs2 ?_; refine zd ?_; refine qm ?_; refine zf ?_; refine zb (id := 13) ?_; refine Zs1 ?_; refine Zs13 ?_; refine Zs2 ?_; refine zd ?_
            exact y1 (x := k) (k + 1) ⟨hkl, fun j y hj hy => by
              rcases Nat.lt_or_ge j k with h | h
              · exact hok j y h hy
              · have : j = k := by omega
                subst this; rw [hx] at hy; cases hy; exact hv⟩ (by omega) ⟨rfl, rfl, rfl, by rw [hct]; rfl, rfl, trivial⟩
        · obtain rfl : k = f.is.length := by omega
          rw [List.take_length]
          have hall : f.is.all itV = true := List.all_eq_true.2 fun x hx => by
            obtain ⟨j, hj⟩ := List.getElem?_of_mem hx
            exact hok j x (get_lt hj) hj
          rw [hall] at hm
          by_cases m1 : f.cl = x0.cl
          · by_cases m2 : f.cs = cls f.is
            · rw [decide_eq_true (by rw [m1]), decide_eq_true m2] at hm
              refine ze ?_; refine ze ?_; refine zb (id := 12) ?_; refine Zs1 ?_; refine Zs5 ?_; refine Zs4 ?_; refine Zs35 ?_; refine Zs8 ?_; refine zd ?_; refine zf ?_; refine zm rfl ?_; refine y7 ?_; refine qg ?_; refine qg ?_; refine y6 ?_; refine zf ?_; refine ze ?_; refine ze ?_; refine zz (id := 17) [] mixed (by kernel_rfl) ?_; refine Zs32 ?_; refine Zs39 ?_; refine Zs32 ?_; refine Zs29 ?_; refine z8 (qb L _ rfl rfl rfl rfl rfl rfl rfl (by first | omega | decide) (by assumption)) rfl ?_; refine Zs55 ?_; refine Zs51 ?_; refine Zs40 ?_; refine Zs7 ?_; refine Zs32 ?_; refine Zs39 ?_; refine Zs7 ?_; refine Zs40 ?_; refine Zs28 ?_; refine qk ?_; refine zf ?_; refine zm rfl ?_; refine zt ?_; refine zf ?_; refine ze ?_; refine ze ?_; refine zb (id := 19) ?_; refine Zs2 ?_; refine zd ?_; refine zf ?_; refine zy ?_
              refine V_loop (fun k : Nat => [(1, .is (.int .i64 i)), (2, .sat (At [.int .i64 t.nx, s] tyT 0)), (5, .sat (At [.int .i64 f.id, .int .u64 f.rv, .int .u8 f.q.kd, .string f.q.g.1.1, .string f.q.g.1.2, .string f.q.g.2, .string f.q.u.1, .string f.q.u.2, .int .i64 f.cl, .int .i64 f.cs, .int .i64 f.si, .int .i64 f.ve, .int .i64 f.sp, .slice p f.is.length c] tyF 0)), (8, .is (.int .i64 k))]) (fun k => k ≤ i ∧ ∀ (j : Nat) g, j < k → t.fl[j]? = some g → ¬ (g.rv = f.rv ∧ g.q = f.q)) (fun k => i - k) 0 ⟨Nat.zero_le _, fun j x h => absurd h (Nat.not_lt_zero _)⟩ ⟨rfl, rfl, rfl, rfl, trivial⟩ ?_
              rintro k ⟨hk, hok2⟩
              by_cases hki : k < i
              · obtain ⟨g, pg, cg, _, hgl, _, _, hcg⟩ := hs.at hz (show k < zs.length by omega)
                have hno : ∀ {h : ¬ (g.rv = f.rv ∧ g.q = f.q)}, ∀ (j : Nat) g', j < k + 1 → t.fl[j]? = some g' → ¬ (g'.rv = f.rv ∧ g'.q = f.q) := fun {h} j g' hj hg' => by
                  rcases Nat.lt_or_ge j k with h1 | h1
                  · exact hok2 j g' h1 hg'
                  · have : j = k := by omega
                    subst this; rw [hgl] at hg'; cases hg'; exact h
                by_cases t1 : g.rv = f.rv
                · by_cases t2 : g.q = f.q
                  · have htw : twB (t.fl.take i) f = true := List.any_eq_true.2 ⟨g, List.mem_of_getElem? (i := k) (by rw [List.getElem?_take_of_lt hki]; exact hgl), decide_eq_true ⟨t1, t2⟩⟩
                    rw [flE_tw hr ho hq hem hm htw] at he
                    subst he
                    have hqe := eqQv (decide_eq_true t2)
                    refine ze ?_; refine ze ?_; refine zb (id := 20) ?_; refine Zs1 ?_; refine Zs1 ?_; refine Zs11 ?_; refine zd ?_; refine zf ?_; refine zw rfl ?_; refine zt ?_; refine zf ?_; refine ze ?_; refine zy ?_; refine ze ?_; refine zz (id := 22) [] mixed (by kernel_rfl) ?_; refine Zs32 ?_; refine Zs29 ?_; refine Zs7 ?_; refine z8 (qb L _ rfl rfl rfl rfl rfl rfl rfl (by first | omega | decide) (by assumption)) rfl ?_; refine Zs55 ?_; refine Zs51 ?_; refine Zs32 ?_; refine Zs39 ?_; refine Zs80 ?_; refine Zs7 ?_; refine Zs32 ?_; refine Zs29 ?_; refine Zs7 ?_; refine z8 (qb L _ rfl rfl rfl rfl rfl rfl rfl (by first | omega | decide) (by assumption)) rfl ?_; refine Zs55 ?_; refine z8 (y5 L (vs := [_, _, _, _, _, _]) rfl rfl rfl rfl rfl ⟨_, rfl⟩) rfl ?_; refine Zs32 ?_; refine z8 (zn L (vs := [_, _, _, _, _, _]) (zl rfl) rfl rfl rfl rfl ⟨_, rfl⟩) rfl ?_; refine Zs77 ?_; refine Zs28 ?_; refine qk ?_; refine zf ?_; refine zw rfl ?_; refine ze ?_; refine zb (id := 23) ?_; refine Zs2 ?_; refine zd ?_; refine zf ?_
                    refine qn L (rs := [.tmp 4]) rfl (fun _ _ h => h) Since.refl fun u H hH hle => ?_
                    rfl
                  · have hqe := eqQv (decide_eq_false t2)
                    refine ze ?_; refine ze ?_; refine zb (id := 20) ?_; refine Zs1 ?_; refine Zs1 ?_; refine Zs11 ?_; refine zd ?_; refine zf ?_; refine zw rfl ?_; refine zt ?_; refine zf ?_; refine ze ?_; refine zy ?_; refine ze ?_; refine zz (id := 22) [] mixed (by kernel_rfl) ?_; refine Zs32 ?_; refine Zs29 ?_; refine Zs7 ?_; refine z8 (qb L _ rfl rfl rfl rfl rfl rfl rfl (by first | omega | decide) (by assumption)) rfl ?_; refine Zs55 ?_; refine Zs51 ?_; refine Zs32 ?_; refine Zs39 ?_; refine Zs80 ?_; refine Zs7 ?_; refine Zs32 ?_; refine Zs29 ?_; refine Zs7 ?_; refine z8 (qb L _ rfl rfl rfl rfl rfl rfl rfl (by first | omega | decide) (by assumption)) rfl ?_; refine Zs55 ?_; refine z8 (y5 L (vs := [_, _, _, _, _, _]) rfl rfl rfl rfl rfl ⟨_, rfl⟩) rfl ?_; refine Zs32 ?_; refine z8 (zn L (vs := [_, _, _, _, _, _]) (zl rfl) rfl rfl rfl rfl ⟨_, rfl⟩) rfl ?_; refine Zs77 ?_; refine Zs28 ?_; refine qk ?_; refine zf ?_; refine zm rfl ?_; refine zt ?_; refine qm ?_; refine zf ?_; refine zb (id := 21) ?_; refine Zs1 ?_; refine Zs13 ?_; refine Zs2 ?_; refine zd ?_
                    exact y1 (x := k) (k + 1) ⟨hki, hno (h := fun h => t2 h.2)⟩ (by omega) ⟨rfl, rfl, rfl, rfl, trivial⟩
                · refine ze ?_; refine ze ?_; refine zb (id := 20) ?_; refine Zs1 ?_; refine Zs1 ?_; refine Zs11 ?_; refine zd ?_; refine zf ?_; refine zw rfl ?_; refine zt ?_; refine zf ?_; refine ze ?_; refine zy ?_; refine ze ?_; refine zz (id := 22) [] mixed (by kernel_rfl) ?_; refine Zs32 ?_; refine Zs29 ?_; refine Zs7 ?_; refine z8 (qb L _ rfl rfl rfl rfl rfl rfl rfl (by first | omega | decide) (by assumption)) rfl ?_; refine Zs55 ?_; refine Zs51 ?_; refine Zs32 ?_; refine Zs39 ?_; refine Zs71 ?_; refine Zs7 ?_; refine Zs12 ?_; refine Zs12 ?_; refine Zs12 ?_; refine Zs12 ?_; refine Zs12 ?_; refine Zs12 ?_; refine Zs12 ?_; refine Zs12 ?_; refine Zs12 ?_; refine Zs28 ?_; refine qk ?_; refine zf ?_; refine zm rfl ?_; refine zt ?_; refine qm ?_; refine zf ?_; refine zb (id := 21) ?_; refine Zs1 ?_; refine Zs13 ?_; refine Zs2 ?_; refine zd ?_
                  exact y1 (x := k) (k + 1) ⟨hki, hno (h := fun h => t1 h.1)⟩ (by omega) ⟨rfl, rfl, rfl, rfl, trivial⟩
              · obtain rfl : k = i := by omega
                have htw : twB (t.fl.take k) f = false := twB_iff.2 fun g hg => by
                  obtain ⟨j, hj⟩ := List.getElem?_of_mem hg
                  have hjk := get_lt hj
                  rw [List.length_take] at hjk
                  rw [List.getElem?_take_of_lt (by omega)] at hj
                  exact hok2 j g (by omega) hj
                rw [flE_ok hr ho hq hem hm htw] at he
                subst he
                refine ze ?_; refine ze ?_; refine zb (id := 20) ?_; refine Zs1 ?_; refine Zs1 ?_; refine Zs8 ?_; refine zd ?_; refine zf ?_; refine zm rfl ?_; refine y7 ?_; refine qg ?_; refine qg ?_; refine y6 ?_; refine zf ?_; refine ze ?_; refine zb (id := 24) ?_; refine Zs2 ?_; refine zd ?_; refine zf ?_
                refine qn L (rs := [.tmp 4]) rfl (fun _ _ h => h) Since.refl fun u H hH hle => ?_
                rfl
            · rw [decide_eq_false m2, Bool.and_false] at hm
              rw [flE_mem hr ho hq hem hm] at he
              subst he
              refine ze ?_; refine ze ?_; refine zb (id := 12) ?_; refine Zs1 ?_; refine Zs5 ?_; refine Zs4 ?_; refine Zs35 ?_; refine Zs8 ?_; refine zd ?_; refine zf ?_; refine zm rfl ?_; refine y7 ?_; refine qg ?_; refine qg ?_; refine y6 ?_; refine zf ?_; refine ze ?_; refine ze ?_; refine zz (id := 17) [] mixed (by kernel_rfl) ?_; refine Zs32 ?_; refine Zs39 ?_; refine Zs32 ?_; refine Zs29 ?_; refine z8 (qb L _ rfl rfl rfl rfl rfl rfl rfl (by first | omega | decide) (by assumption)) rfl ?_; refine Zs55 ?_; refine Zs51 ?_; refine Zs40 ?_; refine Zs7 ?_; refine Zs32 ?_; refine Zs39 ?_; refine Zs7 ?_; refine Zs79 ?_; refine Zs28 ?_; refine qk ?_; refine zf ?_; refine zw rfl ?_; refine ze ?_; refine zb (id := 18) ?_; refine Zs2 ?_; refine zd ?_; refine zf ?_
              refine qn L (rs := [.tmp 4]) rfl (fun _ _ h => h) Since.refl fun u H hH hle => ?_
              rfl
          · rw [decide_eq_false (fun h => m1 (Option.some.inj h).symm), Bool.and_false, Bool.false_and] at hm
            rw [flE_mem hr ho hq hem hm] at he
            subst he
            refine ze ?_; refine ze ?_; refine zb (id := 12) ?_; refine Zs1 ?_; refine Zs5 ?_; refine Zs4 ?_; refine Zs35 ?_; refine Zs8 ?_; refine zd ?_; refine zf ?_; refine zm rfl ?_; refine y7 ?_; refine qg ?_; refine qg ?_; refine y6 ?_; refine zf ?_; refine ze ?_; refine ze ?_; refine zz (id := 17) [] mixed (by kernel_rfl) ?_; refine Zs32 ?_; refine Zs39 ?_; refine Zs32 ?_; refine Zs29 ?_; refine z8 (qb L _ rfl rfl rfl rfl rfl rfl rfl (by first | omega | decide) (by assumption)) rfl ?_; refine Zs55 ?_; refine Zs51 ?_; refine Zs79 ?_; refine Zs7 ?_; refine Zs12 ?_; refine Zs12 ?_; refine Zs12 ?_; refine Zs12 ?_; refine Zs28 ?_; refine qk ?_; refine zf ?_; refine zw rfl ?_; refine ze ?_; refine zb (id := 18) ?_; refine Zs2 ?_; refine zd ?_; refine zf ?_
            refine qn L (rs := [.tmp 4]) rfl (fun _ _ h => h) Since.refl fun u H hH hle => ?_
            rfl
    · rw [flE_qu hr ho hq] at he
      subst he
      refine ze ?_; refine ze ?_; refine zb (id := 6) ?_; refine Zs5 ?_; refine z7 (zn L (vs := [_, _, _, _, _, _]) (zl rfl) rfl rfl rfl rfl ⟨_, rfl⟩) rfl ?_; refine z7 (zo L rfl rfl (zg rfl) rfl rfl rfl (fun u H hH _ _ => rquery_ret hQ (by first | exact hq | rfl) hH)) rfl ?_; refine Zs23 ?_; refine zd ?_; refine zf ?_; refine zw rfl ?_; refine ze ?_; refine zb (id := 7) ?_; refine Zs5 ?_; refine z7 (zn L (vs := [_, _, _, _, _, _]) (zl rfl) rfl rfl rfl rfl ⟨_, rfl⟩) rfl ?_; refine z7 (zo L rfl rfl (zg rfl) rfl rfl rfl (fun u H hH _ _ => rquery_ret hQ (by first | exact hq | rfl) hH)) rfl ?_; refine Zs2 ?_; refine zd ?_; refine zf ?_
      refine qn L (rs := [.tmp 4]) rfl (fun _ _ h => h) Since.refl fun u H hH hle => ?_
      rfl
theorem rcheck_ret {t : Tb} {zs : List (Fl × Value)} (hz : zs.map Prod.fst = t.fl) {fu fi : Bool} {s : Value} {w : World} {B : Heap} (hs : FsB zs fu fi s B) (hZ : ∀ f ∈ t.fl, QuZ f.q) (hI : ∀ f ∈ t.fl, ∀ x ∈ f.is, 0 ≤ x.rv) (hn : itsN t.fl ≤ 9223372036854775807) {e : Int} (he : chkE t = e) (hB : B.Le (hp w)) :
    Ret Try.prog 15 [tbv t.nx s] w B (fun v _ => v = .int .i64 e) := by
  have hsl := hs.sl
  have hlen := fls_len hz
  have hzl := hs.ln
  refine ya Try.func15 rfl Try.ntmps15 (Nat.le_of_ble_eq_true rfl) hB ?_
  by_cases hnx : 0 ≤ t.nx ∧ t.nx ≤ 2147483647
  · by_cases hit : 1024 < itsN t.fl
    · have : e = 3 := by rw [← he]; unfold chkE; rw [if_neg (by omega), if_pos hit]
      subst this
      refine ze ?_; refine zb (id := 0) ?_; refine Zs21 ?_; refine Zs2 ?_; refine zd ?_; refine zf ?_; refine ze ?_; refine ze ?_; refine zb (id := 1) ?_; refine Zs5 ?_; refine Zs4 ?_; refine Zs8 ?_; refine Zs1 ?_; refine Zs5 ?_; refine Zs4 ?_; refine Zs16 ?_; refine Zs6 ?_; refine zd ?_; refine zf ?_; refine zm rfl ?_; refine zt ?_; refine zf ?_; refine ze ?_; refine ze ?_; refine zb (id := 3) ?_; refine z7 (zn L (vs := [_, _]) (zl rfl) rfl rfl rfl rfl ⟨_, rfl⟩) rfl ?_; refine z7 (zo L rfl rfl (zg rfl) rfl rfl rfl (fun u H hH hle _ => ritems_ret hz (hs.le hle) hn hH)) rfl ?_; refine Zs23 ?_; refine zd ?_; refine zf ?_; refine zw rfl ?_; refine ze ?_; refine zb (id := 4) ?_; refine Zs2 ?_; refine zd ?_; refine zf ?_
      refine qn L (rs := [.tmp 2]) rfl (fun _ _ h => h) Since.refl fun u H hH hle => ?_
      rfl
    · refine ze ?_; refine zb (id := 0) ?_; refine Zs21 ?_; refine Zs2 ?_; refine zd ?_; refine zf ?_; refine ze ?_; refine ze ?_; refine zb (id := 1) ?_; refine Zs5 ?_; refine Zs4 ?_; refine Zs8 ?_; refine Zs1 ?_; refine Zs5 ?_; refine Zs4 ?_; refine Zs16 ?_; refine Zs6 ?_; refine zd ?_; refine zf ?_; refine zm rfl ?_; refine zt ?_; refine zf ?_; refine ze ?_; refine ze ?_; refine zb (id := 3) ?_; refine z7 (zn L (vs := [_, _]) (zl rfl) rfl rfl rfl rfl ⟨_, rfl⟩) rfl ?_; refine z7 (zo L rfl rfl (zg rfl) rfl rfl rfl (fun u H hH hle _ => ritems_ret hz (hs.le hle) hn hH)) rfl ?_; refine Zs16 ?_; refine zd ?_; refine zf ?_; refine zm rfl ?_; refine zt ?_; refine zf ?_; refine ze ?_; refine ze ?_; refine zb (id := 5) ?_; refine Zs2 ?_; refine zd ?_; refine zf ?_; refine zy ?_
      refine V_loop (fun i : Nat => [(1, .sat (At [.int .i64 t.nx, s] tyT 0)), (3, .is (.int .i64 i))]) (fun i => i ≤ zs.length ∧ flsE t.nx [] (t.fl.take i) = 0) (fun i => zs.length - i) 0 ⟨Nat.zero_le _, rfl⟩ ⟨rfl, rfl, trivial⟩ ?_
      rintro i ⟨hi, hok⟩
      by_cases hlt : i < zs.length
      · obtain ⟨f, hf⟩ := get_some (show i < t.fl.length by omega)
        obtain ⟨e1, he1⟩ : ∃ e1, flE t.nx (t.fl.take i) f = e1 := ⟨_, rfl⟩
        have hp := flE_pos t.nx (t.fl.take i) f
        rw [he1] at hp
        by_cases h0 : e1 = 0
        · subst h0
          refine ze ?_; refine ze ?_; refine zb (id := 6) ?_; refine Zs1 ?_; refine Zs5 ?_; refine Zs17 ?_; refine Zs31 ?_; refine Zs11 ?_; refine zd ?_; refine zf ?_; refine zw rfl ?_; refine zt ?_; refine zf ?_; refine ze ?_; refine zy ?_; refine ze ?_; refine zb (id := 8) ?_; refine z7 (zn L (vs := [_, _]) (zl rfl) rfl rfl rfl rfl ⟨_, rfl⟩) rfl ?_; refine Zs1 ?_; refine z7 (zo L rfl rfl (zg rfl) rfl rfl rfl (fun u H hH hle _ => rflight_ret hz (hs.le hle) hZ hI hf he1 hH)) rfl ?_; refine Zs16 ?_; refine zd ?_; refine zf ?_; refine zm rfl ?_; refine zt ?_; refine qm ?_; refine zf ?_; refine zb (id := 7) ?_; refine Zs1 ?_; refine Zs13 ?_; refine Zs2 ?_; refine zd ?_
          exact y1 (x := i) (i + 1) ⟨hlt, chk_good hf hok he1⟩ (by omega) ⟨rfl, rfl, trivial⟩
        · rw [← he, chk_bad hnx hit hf hok he1 h0]
          refine ze ?_; refine ze ?_; refine zb (id := 6) ?_; refine Zs1 ?_; refine Zs5 ?_; refine Zs17 ?_; refine Zs31 ?_; refine Zs11 ?_; refine zd ?_; refine zf ?_; refine zw rfl ?_; refine zt ?_; refine zf ?_; refine ze ?_; refine zy ?_; refine ze ?_; refine zb (id := 8) ?_; refine z7 (zn L (vs := [_, _]) (zl rfl) rfl rfl rfl rfl ⟨_, rfl⟩) rfl ?_; refine Zs1 ?_; refine z7 (zo L rfl rfl (zg rfl) rfl rfl rfl (fun u H hH hle _ => rflight_ret hz (hs.le hle) hZ hI hf he1 hH)) rfl ?_; refine Zs23 ?_; refine zd ?_; refine zf ?_; refine zw rfl ?_; refine ze ?_; refine zb (id := 9) ?_; refine z7 (zn L (vs := [_, _]) (zl rfl) rfl rfl rfl rfl ⟨_, rfl⟩) rfl ?_; refine Zs1 ?_; refine z7 (zo L rfl rfl (zg rfl) rfl rfl rfl (fun u H hH hle _ => rflight_ret hz (hs.le hle) hZ hI hf he1 hH)) rfl ?_; refine Zs2 ?_; refine zd ?_; refine zf ?_
          refine qn L (rs := [.tmp 2]) rfl (fun _ _ h => h) Since.refl fun u H hH hle => ?_
          rfl
      · obtain rfl : i = zs.length := by omega
        rw [hlen, List.take_length] at hok
        have : e = 0 := by rw [← he]; unfold chkE; rw [if_neg (by omega), if_neg hit, hok]
        subst this
        refine ze ?_; refine ze ?_; refine zb (id := 6) ?_; refine Zs1 ?_; refine Zs5 ?_; refine Zs17 ?_; refine Zs31 ?_; refine Zs8 ?_; refine zd ?_; refine zf ?_; refine zm rfl ?_; refine y7 ?_; refine qg ?_; refine qg ?_; refine y6 ?_; refine zf ?_; refine ze ?_; refine zb (id := 10) ?_; refine Zs2 ?_; refine zd ?_; refine zf ?_
        refine qn L (rs := [.tmp 2]) rfl (fun _ _ h => h) Since.refl fun u H hH hle => ?_
        rfl
  · have : e = 4 := by rw [← he]; unfold chkE; rw [if_pos hnx]
    subst this
    by_cases h1 : t.nx < 0
    · refine ze ?_; refine zb (id := 0) ?_; refine Zs21 ?_; refine Zs2 ?_; refine zd ?_; refine zf ?_; refine ze ?_; refine ze ?_; refine zb (id := 1) ?_; refine Zs5 ?_; refine Zs4 ?_; refine Zs11 ?_; refine Zs1 ?_; refine Zs3 ?_; refine Zs3 ?_; refine Zs3 ?_; refine Zs6 ?_; refine zd ?_; refine zf ?_; refine zw rfl ?_; refine ze ?_; refine zb (id := 2) ?_; refine Zs2 ?_; refine zd ?_; refine zf ?_
      refine qn L (rs := [.tmp 2]) rfl (fun _ _ h => h) Since.refl fun u H hH hle => ?_
      rfl
    · refine ze ?_; refine zb (id := 0) ?_; refine Zs21 ?_; refine Zs2 ?_; refine zd ?_; refine zf ?_; refine ze ?_; refine ze ?_; refine zb (id := 1) ?_; refine Zs5 ?_; refine Zs4 ?_; refine Zs8 ?_; refine Zs1 ?_; refine Zs5 ?_; refine Zs4 ?_; refine Zs23 ?_; refine Zs6 ?_; refine zd ?_; refine zf ?_; refine zw rfl ?_; refine ze ?_; refine zb (id := 2) ?_; refine Zs2 ?_; refine zd ?_; refine zf ?_
      refine qn L (rs := [.tmp 2]) rfl (fun _ _ h => h) Since.refl fun u H hH hle => ?_
      rfl
end Go.V.L39
namespace Go.V
open Go.Proofs Go.RowKit
def SlW (e : TypeId) (s n : Nat) (xs : List Value) : Value → Heap → Prop := fun v H => xs.length = n * s ∧ ((n = 0 ∧ v = .slice none 0 0) ∨ ∃ b cap rest, v = .slice (some ⟨b, 0, none⟩) n cap ∧ H b = some (.cells (xs ++ rest).toArray e) ∧ n ≤ cap ∧ cap ≤ maxLen ∧ (xs ++ rest).length = cap * s)
theorem SlW.mono {e : TypeId} {s n : Nat} {xs : List Value} : Kn.mono (.sat (SlW e s n xs)) := fun _ _ _ ⟨hl, h⟩ hle => ⟨hl, h.imp id fun ⟨b, cap, rest, h1, h2, h3⟩ => ⟨b, cap, rest, h1, hle _ _ h2, h3⟩⟩
def SlWN (B : Heap) (e : TypeId) (s n : Nat) (xs : List Value) : Value → Heap → Prop := fun v H => SlW e s n xs v H ∧ NewIn B v
theorem SlWN.mono {B : Heap} {e : TypeId} {s n : Nat} {xs : List Value} : Kn.mono (.sat (SlWN B e s n xs)) := fun _ _ _ h hle => ⟨SlW.mono _ _ _ h.1 hle, h.2⟩
theorem SlW.toV {e : TypeId} {s n : Nat} {xs : List Value} {v : Value} {H : Heap} (h : SlW e s n xs v H) : SlV e s xs n false v H := ⟨h.1, by
  rcases h.2 with ⟨h1, h2⟩ | ⟨b, cap, rest, h1, h2, h3, _, _⟩
  · exact .inl ⟨h1, _, h2⟩
  · exact .inr ⟨b, 0, cap, _, _, (0, 0), h1, h2, by show ((xs ++ rest).drop 0).take xs.length = _; rw [List.drop_zero, List.take_left], h3, fun h => by cases h⟩⟩
section
variable {P : Program} {F : Fr} {B : Heap} {O : Boxes} {n : Nat} {ops : Array Oper} {κ : Kap} {d : Nat} {ty : TypeId} {pos : String} {aft : Array Edge} {g : Option (Nat × Bool)} {os : List Oper} {Q : Exit → Act → World → Prop}
theorem Has.pubAt {q : Nat} {x : Value} {e : TypeId} {s m : Nat} {xs : List Value} {a : Act} {u : World} (hk : κ q = some (.own (AtV x (SlR e s m xs)))) (hh : Has F B O n κ a u) : ∃ H, Since F B H ∧ NewIn B x ∧ SlW e s m xs x H ∧ Has F H O n (upd κ q nilK) a u := by
  obtain ⟨H, fp, hh⟩ := hh
  obtain ⟨⟨hl, hv⟩, hM⟩ := hh.slot q _ hk
  rcases hv with ⟨h0, hv, hC⟩ | ⟨b, cap, rest, hv, hb, h3, h4, h5, hC⟩
  · have h2 := (hh.setSat (t := q) (φ := fun _ _ => True) (fun _ _ _ _ _ => trivial) trivial).rebase
    exact ⟨H, hh.isSince, (fun b o k m c e => by rw [hv] at e; cases e), ⟨hl, .inl ⟨h0, hv⟩⟩, H, fp, h2⟩
  · have hbm := hM b ((hC b).2 rfl)
    obtain ⟨H', h'⟩ := hh.pub (φ := fun _ H => H b = some (.cells (xs ++ rest).toArray e)) hk hb ((hC b).2 rfl) (fun _ _ _ h hle => hle _ _ h) fun H' _ hb' => hb'
    have hx : H' b = some (.cells (xs ++ rest).toArray e) := h'.slot q _ (upd_same _ _ _)
    have hB : B b = none := by
      cases hB : B b with
      | none => rfl
      | some z => have := hh.base _ _ hB; rw [hbm.2.1] at this; cases this
    refine ⟨H', h'.isSince, (fun b' o k m c e => by rw [hv] at e; cases e; exact hB), ⟨hl, .inr ⟨b, cap, rest, hv, hx, h3, h4, h5⟩⟩, H', fp, ?_⟩
    have h2 := (h'.rebase).setSat (t := q) (φ := fun _ _ => True) (fun _ _ _ _ _ => trivial) trivial
    rwa [upd_upd] at h2
theorem V_pubAt (q : Nat) {x : Value} {e : TypeId} {s m : Nat} {xs : List Value} {c : Code} (hk : κ q = some (.own (AtV x (SlR e s m xs)))) (h : ∀ H, Since F B H → NewIn B x → SlW e s m xs x H → V P F H n O (upd κ q nilK) c Q) : V P F B n O κ c Q := fun a u hh =>
  let ⟨H, h1, h2, h3, h4⟩ := hh.pubAt hk; h H h1 h2 h3 a u h4
theorem Has.pubW {t : Nat} {e : TypeId} {s m : Nat} {xs : List Value} {a : Act} {u : World} (hk : κ t = some (.own (SlR e s m xs))) (hh : Has F B O n κ a u) : ∃ x H, Since F B H ∧ NewIn B x ∧ SlW e s m xs x H ∧ Has F H O n (upd κ t (.is x)) a u := by
  obtain ⟨H, fp, hh⟩ := hh
  obtain ⟨⟨hl, hv⟩, hM⟩ := hh.slot t _ hk
  rcases hv with ⟨h0, hv, hC⟩ | ⟨b, cap, rest, hv, hb, h3, h4, h5, hC⟩
  · exact ⟨_, H, hh.isSince, (fun b o k m c e => by rw [hv] at e; cases e), ⟨hl, .inl ⟨h0, hv⟩⟩, H, fp, (hh.name t).rebase⟩
  · have hbm := hM b ((hC b).2 rfl)
    obtain ⟨H', h'⟩ := hh.pub (φ := fun v H => v = .slice (some ⟨b, 0, none⟩) m cap ∧ H b = some (.cells (xs ++ rest).toArray e)) hk hb ((hC b).2 rfl) (fun _ _ _ h hle => ⟨h.1, hle _ _ h.2⟩) fun H' _ hb' => ⟨hv, hb'⟩
    have hx := h'.slot t _ (upd_same _ _ _)
    have hB : B b = none := by
      cases hB : B b with
      | none => rfl
      | some z => have := hh.base _ _ hB; rw [hbm.2.1] at this; cases this
    have h2 := (h'.name t).rebase
    rw [upd_upd] at h2
    exact ⟨_, H', h'.isSince, (fun b' o k m c e => by rw [hv] at e; cases e; exact hB), ⟨hl, .inr ⟨b, cap, rest, hv, hx.2, h3, h4, h5⟩⟩, H', fp, h2⟩
theorem vo_pubW (t : Nat) {e : TypeId} {s m : Nat} {xs : List Value} (hk : κ t = some (.own (SlR e s m xs))) (h : ∀ x H, Since F B H → NewIn B x → SlW e s m xs x H → VO P F H n O ops (upd κ t (.is x)) os Q) : VO P F B n O ops κ os Q := fun a u hh =>
  let ⟨x, H, h1, h2, h3, h4⟩ := hh.pubW hk; h x H h1 h2 h3 a u h4
theorem Has.fact {t : Nat} {φ : Heap → Prop} {a : Act} {u : World} (hm : ∀ H H', φ H → H.Le H' → φ H') (hφ : φ B) (hh : Has F B O n κ a u) : Has F B O n (upd κ t (.sat fun _ H => φ H)) a u := by
  obtain ⟨H, fp, hh⟩ := hh
  exact ⟨H, fp, hh.setSat (fun _ _ _ h hle => hm _ _ h hle) (hm _ _ hφ hh.base)⟩
theorem V_fact (t : Nat) (φ : Heap → Prop) {c : Code} (hm : ∀ H H', φ H → H.Le H' → φ H') (hφ : φ B) (h : V P F B n O (upd κ t (.sat fun _ H => φ H)) c Q) : V P F B n O κ c Q := fun a u hh => h a u (hh.fact hm hφ)
theorem N_fact (t : Nat) (φ : Heap → Prop) (hm : ∀ H H', φ H → H.Le H' → φ H') (hφ : φ B) (h : N F B n O (upd κ t (.sat fun _ H => φ H)) Q) : N F B n O κ Q := fun a u hh => h a u (hh.fact hm hφ)
theorem ok_appendH (L : Tabs P) {q b cap : Nat} {x y : Operand} {t e : TypeId} {s by_ nn m : Nat} {xs rest news : List Value} (hn : Nat.blt d n = true) (hg : gK ops κ ⟨some d, .call ⟨.builtin .append, #[x, y], #[t, t]⟩, ty, pos, aft, g⟩ = some true)
    (hx : evK κ x = some (.slice (some ⟨b, 0, none⟩) nn cap)) (hq : κ q = some (.own (HeldR b (xs ++ rest) e))) (hxl : xs.length = nn * s) (hnc : nn ≤ cap) (hcm : cap ≤ maxLen) (hcl : (xs ++ rest).length = cap * s) (hy : Apd F B O κ y m news) (ht : L.sl t = some e) (he : elI P e = some (s, by_)) (hl : news.length = m * s) (h1 : news.all plainV = true) (hb : (nn + m) * by_ ≤ 140737488355328) (h63 : nn + m ≤ 9223372036854775807) :
    StepOK2 P F B n ops O κ ⟨some d, .call ⟨.builtin .append, #[x, y], #[t, t]⟩, ty, pos, aft, g⟩ q nilK d (.own (SlR e s (nn + m) (xs ++ news))) := by
  rintro κ' a u hlk hks ⟨H, fp, hh⟩
  unfold After
  rw [if_pos (wanted_gK hh hlk hg)]
  have en := hh.env hlk
  obtain ⟨i, z, hi, hz, hs1, hs2, hs3, hs4⟩ := elI_spec he
  have hxe := en.is_ x _ (by simp [Op.operands, Call.operands]) hx
  have hk' : κ' q = some (.own (HeldR b (xs ++ rest) e)) := hks.trans hq
  obtain ⟨⟨hb', hC⟩, hM⟩ := hh.slot q _ hk'
  have hown : (SlR e s nn xs).P (.slice (some ⟨b, 0, none⟩) nn cap) H u (fp q) := ⟨hxl, .inr ⟨b, cap, rest, rfl, hb', hnc, hcm, hcl, hC⟩⟩
  obtain ⟨x', u', C', hr, hown', hgr, hC'⟩ := appendR u (aty := ty) (Tabs.sl_spec ht) hi hz hs1 hs2 hs3 hs4 hh.sub hown (fun k hk => ⟨(hM k hk).1, (hM k hk).2.1⟩) (hy _ a u H fp (by simp [Op.operands, Call.operands]) en) hl (fun v hv => plain_one (List.all_eq_true.1 h1 v hv)) h63 hb
  have hrun : (execOp a.eval ⟨some d, .call ⟨.builtin .append, #[x, y], #[t, t]⟩, ty, pos, aft, g⟩).run P u = .ok (.value x') u' := by
    simp only [execOp, resolve, invoke, builtin, Sem.run_bind, Sem.run_pure, Result.andThen_ok, List.map_toArray, List.map_cons, List.map_nil, hxe, hr]
  rw [hrun]
  simp only [Upon]
  exact ⟨H, _, hh.usePut hk' hgr (by simp [Act.put]) rfl (fun t ht => eval_put_other ht) (by rw [eval_put_same (by rw [hh.size]; exact zg hn)]; exact hown') hC'⟩
theorem StepOK2.pubW {o : Oper} {q : Nat} {k1 : Kn} {e : TypeId} {s m : Nat} {xs : List Value} (h : StepOK2 P F B n ops O κ o q k1 d (.own (SlR e s m xs))) : StepOK2 P F B n ops O κ o q k1 d (.sat (SlWN B e s m xs)) := fun κ' a u hl hq hh =>
  After.mono (fun a' u' hh' => by
    obtain ⟨H, fp, hh'⟩ := hh'
    obtain ⟨⟨hl, hv⟩, hM⟩ := hh'.slot d _ (upd_same _ _ _)
    rcases hv with ⟨h0, hv, hC⟩ | ⟨b, cap, rest, hv, hb, h3, h4, h5, hC⟩
    · have h2 := hh'.setSat (t := d) (φ := SlWN B e s m xs) SlWN.mono ⟨⟨hl, .inl ⟨h0, hv⟩⟩, fun b o k m c e => (by rw [hv] at e; cases e)⟩
      rw [upd_upd] at h2
      exact ⟨H, fp, h2⟩
    · have hB : B b = none := by
        cases hB : B b with
        | none => rfl
        | some z => have h1 := hh'.base _ _ hB; have h2 := (hM b ((hC b).2 rfl)).2.1; rw [h2] at h1; cases h1
      obtain ⟨H', h'⟩ := hh'.pub (φ := SlWN B e s m xs) (upd_same _ _ _) hb ((hC b).2 rfl) SlWN.mono fun H' _ hb' => ⟨⟨hl, .inr ⟨b, cap, rest, hv, hb', h3, h4, h5⟩⟩, fun b' o k m c e => (by rw [hv] at e; cases e; exact hB)⟩
      rw [upd_upd] at h'
      exact ⟨H', fp, h'⟩) (h κ' a u hl hq hh)
theorem StepOK.pubW {o : Oper} {e : TypeId} {s m : Nat} {xs : List Value} (h : StepOK P F B n ops O κ o d (.own (SlR e s m xs))) : StepOK P F B n ops O κ o d (.sat (SlWN B e s m xs)) := fun κ' a u hl hh =>
  After.mono (fun a' u' hh' => by
    obtain ⟨H, fp, hh'⟩ := hh'
    obtain ⟨⟨hl, hv⟩, hM⟩ := hh'.slot d _ (upd_same _ _ _)
    rcases hv with ⟨h0, hv, hC⟩ | ⟨b, cap, rest, hv, hb, h3, h4, h5, hC⟩
    · have h2 := hh'.setSat (t := d) (φ := SlWN B e s m xs) SlWN.mono ⟨⟨hl, .inl ⟨h0, hv⟩⟩, fun b o k m c e => (by rw [hv] at e; cases e)⟩
      rw [upd_upd] at h2
      exact ⟨H, fp, h2⟩
    · have hB : B b = none := by
        cases hB : B b with
        | none => rfl
        | some z => have h1 := hh'.base _ _ hB; have h2 := (hM b ((hC b).2 rfl)).2.1; rw [h2] at h1; cases h1
      obtain ⟨H', h'⟩ := hh'.pub (φ := SlWN B e s m xs) (upd_same _ _ _) hb ((hC b).2 rfl) SlWN.mono fun H' _ hb' => ⟨⟨hl, .inr ⟨b, cap, rest, hv, hb', h3, h4, h5⟩⟩, fun b' o k m c e => (by rw [hv] at e; cases e; exact hB)⟩
      rw [upd_upd] at h'
      exact ⟨H', fp, h'⟩) (h κ' a u hl hh)
def HFree : Kn → Prop
  | .is _ => True
  | .sat _ => False
  | .own r => ∀ v H H' u C, r.P v H u C → r.P v H' u C
theorem hfree_cell {cs : List Value} {ty : TypeId} : HFree (.own (Cell cs ty)) := fun _ _ _ _ _ h => h
theorem hfree_held {b : Nat} {cs : List Value} {ty : TypeId} : HFree (.own (HeldR b cs ty)) := fun _ _ _ _ _ h => h
def Heap.off (B : Heap) (S : List (Nat × List Value × TypeId)) : Heap := fun k => if ∃ y ∈ S, y.1 = k then none else B k
theorem Heap.off_le {B : Heap} {S : List (Nat × List Value × TypeId)} : (B.off S).Le B := fun k v h => by
  unfold Heap.off at h
  split at h
  · cases h
  · exact h
theorem Heap.le_off {B0 B : Heap} {S : List (Nat × List Value × TypeId)} (h : B0.Le B) (hS : ∀ y ∈ S, B0 y.1 = none) : B0.Le (B.off S) := fun k v hv => by
  unfold Heap.off
  rw [if_neg]
  · exact h _ _ hv
  · rintro ⟨y, hy, rfl⟩
    rw [hS y hy] at hv; cases hv
theorem V_unpub {B0 : Heap} {κ1 : Kap} (q : Nat) (S : List (Nat × List Value × TypeId)) {c : Code} (hs0 : Since F B0 B) (hS : ∀ y ∈ S, B y.1 = some (.cells y.2.1.toArray y.2.2) ∧ B0 y.1 = none) (hk : ∀ t k, κ1 t = some k → κ t = some k ∧ HFree k)
    (h : V P F (B.off S) n O (upd κ1 q (.own (HeldL S))) c Q) : V P F B n O κ c Q := fun a u hh => by
  obtain ⟨H, fp, hh⟩ := hh
  have hle : (B.off S).Le H := Heap.off_le.trans hh.base
  have hnew : ∀ y ∈ S, F.w0.heap.size ≤ y.1 ∨ F.L y.1 := fun y hy => by
    obtain ⟨h1, h2⟩ := hS y hy
    rcases Nat.lt_or_ge y.1 F.w0.heap.size with h3 | h3
    · refine .inr (Classical.byContradiction fun hL => ?_)
      have := hs0.fresh y.1 h3 hL
      rw [h1, h2] at this
      cases this
    · exact .inl h3
  have hsin : Since F (B.off S) B := ⟨Heap.off_le, fun k hk hl => by
    unfold Heap.off
    rw [if_neg]
    rintro ⟨y, hy, rfl⟩
    rcases hnew y hy with h1 | h1
    · omega
    · exact hl h1⟩
  have hbx : ∀ y ∈ O, u.heap[y.1]? = some y.2 ∧ (B.off S) y.1 = none ∧ (F.w0.heap.size ≤ y.1 ∨ F.L y.1) := fun y hy => by
    obtain ⟨g1, g2, g3⟩ := hh.boxes y hy
    refine ⟨g1, ?_, g3⟩
    cases hx : (B.off S) y.1 with
    | none => rfl
    | some z => rw [hle _ _ hx] at g2; cases g2
  have hsl : ∀ t k, κ1 t = some k → k.holds F O u (B.off S) (fp t) (a.eval (.tmp t)) := fun t k hkt => by
    obtain ⟨g1, g2⟩ := hk t k hkt
    cases k with
    | is x => exact hh.slot t _ g1
    | sat _ => exact g2.elim
    | own r =>
      obtain ⟨p1, p2⟩ := hh.slot t _ g1
      refine ⟨g2 _ _ _ _ _ p1, fun k hk' => ?_⟩
      obtain ⟨m1, m2, m3, m4⟩ := p2 k hk'
      refine ⟨m1, ?_, m3, m4⟩
      cases hx : (B.off S) k with
      | none => rfl
      | some z => rw [hle _ _ hx] at m2; cases m2
  have h1 : HasH F (B.off S) O n κ1 a u (B.off S) fp := ⟨hh.size, hh.defers, hh.nodup, hh.marks, hh.lent, hh.keep, hle.trans hh.sub, Heap.Le.refl _, fun _ _ _ => rfl, hbx, hh.apart, hsl, fun s t r r' hst g1 g2 k f1 f2 => hh.owns s t r r' hst (hk s _ g1).1 (hk t _ g2).1 k f1 f2, fun t k hkt => hh.mono t k (hk t k hkt).1⟩
  refine h a u ⟨B.off S, _, h1.putR (C := fun k => ∃ y ∈ S, y.1 = k) (a' := a) rfl rfl (fun _ _ => rfl) ⟨fun y hy => (hh.base.trans hh.sub) _ _ (hS y hy).1, fun _ => Iff.rfl⟩ (fun k hk' => ?_) fun t r' _ ht k hf hc => ?_⟩
  · obtain ⟨y, hy, rfl⟩ := hk'
    have hH := hh.base _ _ (hS y hy).1
    refine ⟨hh.sub.size hH, ?_, hnew y hy, fun z hz e => ?_⟩
    · unfold Heap.off; rw [if_pos ⟨y, hy, rfl⟩]
    · rw [← e, (hh.boxes z hz).2.1] at hH; cases hH
  · obtain ⟨y, hy, rfl⟩ := hc
    obtain ⟨g1, _⟩ := hk t _ ht
    have hH := hh.base _ _ (hS y hy).1
    have := ((hh.slot t _ g1).2 y.1 hf).2.1
    rw [hH] at this; cases this
end
theorem SlV.off {B : Heap} {S : List (Nat × List Value × TypeId)} {e : TypeId} {s n : Nat} {xs : List Value} {fu : Bool} {v : Value} (h : SlV e s xs n fu v B) (hS : ∀ y ∈ S, ∀ b o k m c, v = .slice (some ⟨b, o, k⟩) m c → y.1 ≠ b) : SlV e s xs n fu v (B.off S) := ⟨h.1, by
  rcases h.2 with h | ⟨b, off, cap, cs, ty0, fr, hv, hb, h3⟩
  · exact .inl h
  · refine .inr ⟨b, off, cap, cs, ty0, fr, hv, ?_, h3⟩
    unfold Heap.off
    rw [if_neg]
    · exact hb
    · rintro ⟨y, hy, rfl⟩
      exact hS y hy _ _ _ _ _ hv rfl⟩
theorem Has.nilAt {F : Fr} {B : Heap} {O : Boxes} {n : Nat} {κ : Kap} (g : Nat) (e : TypeId) (s : Nat) {a : Act} {u : World} (hh : Has F B O n κ a u) : Has F B O n (upd κ g (.own (AtV (.slice none 0 0) (SlR e s 0 [])))) a u := by
  obtain ⟨H, fp, hh⟩ := hh
  exact ⟨H, _, hh.putR (C := noL) (a' := a) rfl rfl (fun _ _ => rfl) ⟨by simp, .inl ⟨rfl, rfl, fun _ h => h⟩⟩ (fun _ h => h.elim) fun _ _ _ _ _ _ h => h⟩
theorem V_nilAt {P : Program} {F : Fr} {B : Heap} {O : Boxes} {n : Nat} {κ : Kap} {Q : Exit → Act → World → Prop} (g : Nat) (e : TypeId) (s : Nat) {c : Code} (h : V P F B n O (upd κ g (.own (AtV (.slice none 0 0) (SlR e s 0 [])))) c Q) : V P F B n O κ c Q := fun a u hh => h a u (hh.nilAt g e s)
theorem hfree_of {κ : Kap} : ∀ {l : List (Nat × Kn)}, LiveOK l κ → (∀ p ∈ l, HFree p.2) → ∀ t k, ofL l t = some k → κ t = some k ∧ HFree k
  | [], _, _, _, _, h => by cases h
  | (s, k') :: l, hl, hf, t, k, h => by
    unfold ofL at h
    by_cases hst : t = s
    · subst hst; rw [upd_same] at h; cases h; exact ⟨hl.1, hf _ (List.mem_cons_self ..)⟩
    · rw [upd_other _ _ hst] at h; exact hfree_of hl.2 (fun p hp => hf p (List.mem_cons_of_mem _ hp)) t k h
theorem since_off {F : Fr} {B0 B : Heap} {S : List (Nat × List Value × TypeId)} (hs : Since F B0 B) (hS : ∀ y ∈ S, B0 y.1 = none) : Since F B0 (B.off S) := ⟨Heap.le_off hs.le hS, fun k hk hl => by
  unfold Heap.off
  split
  · rename_i h
    obtain ⟨y, hy, rfl⟩ := h
    exact (hS y hy).symm
  · exact hs.fresh k hk hl⟩
theorem slw_sh {e : TypeId} {s n : Nat} {xs : List Value} {v : Value} {H : Heap} (h : SlW e s n xs v H) : ∃ p c, v = .slice p n c := by
  rcases h.2 with ⟨rfl, hv⟩ | ⟨b, cap, rest, hv, _⟩
  · exact ⟨_, _, hv⟩
  · exact ⟨_, _, hv⟩
theorem SlW.lies {e : TypeId} {s n : Nat} {xs : List Value} {v : Value} {H : Heap} (h : SlW e s n xs v H) : Lies H v := fun b o k m c hv hn => by
  rcases h.2 with ⟨_, h1⟩ | ⟨b', cap, rest, h1, h2, _⟩
  · rw [hv] at h1; cases h1
  · rw [hv] at h1; cases h1; rw [h2] at hn; cases hn
theorem SlR.shapeN {e : TypeId} {s m : Nat} {xs : List Value} : ∀ v H u C, (SlR e s m xs).P v H u C → ∃ p c, v = .slice p m c := fun v _ _ _ ⟨_, h⟩ => by
  rcases h with ⟨rfl, rfl, _⟩ | ⟨b, cap, rest, rfl, _⟩
  · exact ⟨_, _, rfl⟩
  · exact ⟨_, _, rfl⟩
end Go.V
namespace Go.V.L39
open Go.Proofs Go.RowKit Go.V
structure CpyI (B : Heap) (l : List Fl) (zs : List (Fl × Value)) (H : Heap) : Prop where
  fl : zs.map Prod.fst = l
  it : ∀ (i : Nat) z, zs[i]? = some z → SlW tyI 5 z.1.is.length (z.1.is.flatMap itc) z.2 H ∧ NewIn B z.2
  ap : ∀ (i j : Nat) z y, i < j → zs[i]? = some z → zs[j]? = some y → Apart z.2 y.2
theorem CpyI.mono {B : Heap} {l : List Fl} {zs : List (Fl × Value)} : ∀ H H', CpyI B l zs H → H.Le H' → CpyI B l zs H' := fun _ _ h hle => ⟨h.fl, fun i z hz => ⟨SlW.mono _ _ _ (h.it i z hz).1 hle, (h.it i z hz).2⟩, h.ap⟩
theorem CpyI.nil {B H : Heap} {l : List Fl} : CpyI B (l.take 0) [] H := ⟨rfl, fun i z hz => (by cases hz), fun i j z y _ hz => (by cases hz)⟩
theorem CpyI.snoc {B H1 H : Heap} {l : List Fl} {zs : List (Fl × Value)} {f : Fl} {y : Value} (h : CpyI B l zs H1) (hle : B.Le H1) (hH : H1.Le H) (hy : SlW tyI 5 f.is.length (f.is.flatMap itc) y H) (hn : NewIn H1 y) : CpyI B (l ++ [f]) (zs ++ [(f, y)]) H := by
  refine ⟨by rw [List.map_append, h.fl]; rfl, fun i z hz => ?_, fun i j z y' hij hz hy' => ?_⟩
  · rw [List.getElem?_append] at hz
    split at hz
    · exact ⟨SlW.mono _ _ _ (h.it i z hz).1 hH, (h.it i z hz).2⟩
    · have := get_lt hz
      simp only [List.length_cons, List.length_nil] at this
      rw [show i - zs.length = 0 by omega] at hz
      cases hz
      exact ⟨hy, hn.le hle⟩
  · have hjl := get_lt hy'
    rw [List.length_append] at hjl
    simp only [List.length_cons, List.length_nil] at hjl
    rw [List.getElem?_append_left (by omega)] at hz
    rw [List.getElem?_append] at hy'
    split at hy'
    · exact h.ap i j z y' hij hz hy'
    · rw [show j - zs.length = 0 by omega] at hy'
      cases hy'
      exact apart_of (h.it i z hz).1.lies hn
structure CpyF (B : Heap) (l : List Fl) (zs : List (Fl × Value)) (s : Value) (H : Heap) : Prop extends CpyI B l zs H where
  fs : SlW tyF 14 zs.length (zs.flatMap flc) s H
  nf : NewIn B s
  af : ∀ (i : Nat) z, zs[i]? = some z → Apart z.2 s
theorem CpyF.mono {B : Heap} {l : List Fl} {zs : List (Fl × Value)} {s : Value} : ∀ H H', CpyF B l zs s H → H.Le H' → CpyF B l zs s H' := fun _ _ h hle => ⟨CpyI.mono _ _ h.toCpyI hle, SlW.mono _ _ _ h.fs hle, h.nf, h.af⟩
theorem CpyF.le {B B' : Heap} {l : List Fl} {zs : List (Fl × Value)} {s : Value} {H : Heap} (h : CpyF B' l zs s H) (hle : B.Le B') : CpyF B l zs s H := ⟨⟨h.fl, fun i z hz => ⟨(h.it i z hz).1, (h.it i z hz).2.le hle⟩, h.ap⟩, h.fs, h.nf.le hle, h.af⟩
def CopyP (B : Heap) (t : Tb) : Value → Heap → Prop := fun v H => ∃ zs s, v = tbv t.nx s ∧ CpyF B t.fl zs s H
theorem CopyP.mono {B : Heap} {t : Tb} : Kn.mono (.sat (CopyP B t)) := fun _ _ _ ⟨zs, s, h1, h2⟩ hle => ⟨zs, s, h1, CpyF.mono _ _ h2 hle⟩
theorem CpyF.toB {B : Heap} {l : List Fl} {zs : List (Fl × Value)} {s : Value} {H : Heap} (h : CpyF B l zs s H) (hl : zs.length ≤ 100000) (hli : ∀ f ∈ l, f.is.length ≤ 4611686018427387904) : FsB zs false false s H :=
  ⟨h.fs.toV, fun i z hz => (h.it i z hz).1.toV, hl, fun _ z hz => hli z.1 (fls_mem (fls_get h.fl hz))⟩
theorem fl_snoc {κ : Kap} {s : Nat} {r : List (Fl × Value)} {f : Fl} {y x : Value} (h : κ s = some (.own (AtV x (SlR tyF 14 (r.length + 1) (r.flatMap flc ++ flc (f, y)))))) : κ s = some (.own (AtV x (SlR tyF 14 (r ++ [(f, y)]).length ((r ++ [(f, y)]).flatMap flc)))) := by
  rw [h, List.flatMap_append, List.length_append]; simp
attribute [local irreducible] V N X VO Par StepOK Has Ret RetL RetO RetT RetG Src
set_option maxHeartbeats 4000000 in
set_option maxRecDepth 20000 in
theorem rcopy_ret {t : Tb} {zs : List (Fl × Value)} (hz : zs.map Prod.fst = t.fl) {fu fi : Bool} {s : Value} {w : World} {B : Heap} (hs : FsB zs fu fi s B) (hln : zs.length ≤ 40000) (hit : ∀ f ∈ t.fl, f.is.length ≤ 40000) (hB : B.Le (hp w)) :
    Ret Try.prog 11 [tbv t.nx s] w B (CopyP B t) := by
  have hsl := hs.sl
  have hlen := fls_len hz
  refine ya Try.func11 rfl Try.ntmps11 (Nat.le_of_ble_eq_true rfl) hB ?_
  refine ze ?_; refine zb (id := 0) ?_; refine Zs21 ?_; refine Zs24 ?_; refine zd ?_; refine zf ?_; refine ze ?_; refine zb (id := 1) ?_; refine Zs5 ?_; refine Zs4 ?_; refine z7 (qt (cs := [_, _]) rfl rfl pl24 rfl rfl) rfl ?_; refine Zs24 ?_; refine Zs14 ?_; refine zd ?_; refine zf ?_; refine ze ?_; refine ze ?_
  refine V_hold 3 900 rfl fun b3 => ?_
  refine zb (id := 2) ?_; refine Zs2 ?_; refine zd ?_; refine zf ?_; refine zy ?_
  refine V_nilAt 901 tyF 14 ?_
  refine V_fact 902 (CpyI B (t.fl.take 0) []) CpyI.mono CpyI.nil ?_
  refine V_loop (fun T : Nat × Value × List (Fl × Value) => [(1, .sat (At [.int .i64 t.nx, s] tyT 0)), (2, .own (Cell [.int .i64 0, .slice none 0 0] tyT)), (3, .is (.pointer (some ⟨b3, 0, none⟩))), (4, .is (.int .i64 T.1)), (900, .own (HeldR b3 [.int .i64 t.nx, T.2.1] tyT)), (901, .own (AtV T.2.1 (SlR tyF 14 T.2.2.length (T.2.2.flatMap flc)))), (902, .sat fun _ H => CpyI B (t.fl.take T.1) T.2.2 H)]) (fun T => T.1 ≤ zs.length ∧ T.2.2.length = T.1 ∧ ∃ p c, T.2.1 = .slice p T.2.2.length c) (fun T => zs.length - T.1) (0, .slice none 0 0, []) ⟨Nat.zero_le _, rfl, _, _, rfl⟩ ⟨rfl, rfl, rfl, rfl, rfl, rfl, rfl, trivial⟩ ?_
  rintro ⟨k, x, ys⟩ ⟨hk, hyl, px, cx, hxe⟩
  dsimp only at hk hyl hxe ⊢
  refine V_opn 902 rfl fun v902 H1 s1 hI => ?_
  have hsl1 := hsl.le s1.le
  by_cases hlt : k < zs.length
  · obtain ⟨f, p, c, hzi, hli, hzv, hil, hc⟩ := hs.at hz hlt
    have hzv1 := hzv.le s1.le
    have hfl := hit f (fls_mem hli)
    have hitl := flatMap_len itc_len f.is
    have hitp := itc_plain f.is
    refine ze ?_; refine ze ?_; refine zb (id := 3) ?_; refine Zs1 ?_; refine Zs5 ?_; refine Zs17 ?_; refine Zs31 ?_; refine Zs11 ?_; refine zd ?_; refine zf ?_; refine zw rfl ?_; refine zt ?_; refine zf ?_; refine ze ?_; refine zy ?_; refine ze ?_; refine zb (id := 5) ?_; refine Zs5 ?_; refine Zs17 ?_; refine Zs1 ?_; refine z7 (qb L _ rfl rfl rfl rfl rfl rfl rfl (by first | omega | decide) (by assumption)) rfl ?_; refine z7 (y5 L (vs := [_, _, _, _, _, _, _, _, _, _, _, _, _, _]) rfl rfl rfl rfl rfl ⟨_, rfl⟩) rfl ?_; refine Zs24 ?_; refine Zs14 ?_; refine zd ?_; refine zf ?_; refine ze ?_
    refine V_hold 5 903 rfl fun b5 => ?_
    subst hxe
    refine zb (id := 6) ?_; refine Zs2 ?_; refine zd ?_; refine zf ?_; refine ze ?_; refine zb (id := 7) ?_; refine Zs1 ?_; refine Zs19 ?_; refine vo_stepR (zx L (q := 903) rfl rfl rfl rfl rfl rfl) ?_; refine vo_seen 24 (IsV f.is fi) rfl SlV.mono hzv1 ?_; refine z7 (ok_append0 L (m := f.is.length) rfl rfl rfl (apd_V rfl) rfl el33 hitl hitp (by omega) (by omega)) rfl ?_; refine vo_pubW 25 rfl fun y H2 s2 hyn hyw => ?_; obtain ⟨p2, c2, hye⟩ := slw_sh hyw; subst hye; refine Zs19 ?_; refine vo_stepS (y2 L (q := 903) rfl rfl rfl rfl rfl rfl rfl rfl rfl) ?_; refine zd ?_; refine zf ?_
    have hfp : (ys.flatMap flc).length = ys.length * 14 := flatMap_len flc_len ys
    refine zb (id := 8) ?_; refine Zs19 ?_; refine vo_stepR (zx L (q := 900) rfl rfl rfl rfl rfl rfl) ?_; refine vo_attach 28 901 rfl rfl ?_; refine vo_stepR (ok_loadHA L (q := 903) (vs := [_, _, _, _, _, _, _, _, _, _, _, _, _, _]) rfl rfl rfl rfl rfl rfl ⟨_, rfl⟩) ?_; refine Zs25 ?_; refine qh (ok_append L rfl rfl rfl (apd_B rfl) rfl el49 rfl rfl (by omega) (by omega)) ?_; refine vo_detach 31 901 (fun v => ∃ p c, v = .slice p (ys.length + 1) c) rfl SlR.shapeN fun x2 hx2 => ?_; obtain ⟨p3, c3, hx2e⟩ := hx2; subst hx2e; refine Zs19 ?_; refine vo_stepS (y2 L (q := 900) rfl rfl rfl rfl rfl rfl rfl rfl rfl) ?_; refine zd ?_; refine qm ?_; refine zf ?_
    refine zb (id := 4) ?_; refine Zs1 ?_; refine Zs13 ?_; refine Zs2 ?_; refine zd ?_
    refine N_fact 902 (CpyI B (t.fl.take (k + 1)) (ys ++ [(f, .slice p2 f.is.length c2)])) CpyI.mono (by rw [take_snoc hli]; exact hI.snoc s1.le s2.le hyw hyn) ?_
    exact N_roundS (x := (k, .slice px ys.length cx, ys)) (k + 1, .slice p3 (ys.length + 1) c3, ys ++ [(f, .slice p2 f.is.length c2)]) (s1.trans s2) ⟨hlt, by simp [hyl], p3, c3, by simp⟩ (by dsimp only; omega) ⟨rfl, rfl, rfl, rfl, rfl, fl_snoc rfl, rfl, trivial⟩
  · obtain rfl : k = zs.length := by omega
    rw [hlen, List.take_length] at hI
    subst hxe
    refine V_pubAt 901 rfl fun H2 s2 hxn hxw => ?_
    have hsl2 := hsl1.le s2.le
    refine ze ?_; refine ze ?_; refine zb (id := 3) ?_; refine Zs1 ?_; refine Zs5 ?_; refine Zs17 ?_; refine Zs31 ?_; refine Zs8 ?_; refine zd ?_; refine zf ?_; refine zm rfl ?_; refine y7 ?_; refine qg ?_; refine qg ?_; refine y6 ?_; refine zf ?_; refine ze ?_; refine zb (id := 9) ?_; refine vo_stepR (ok_loadHA L (q := 900) (vs := [_, _]) rfl rfl rfl rfl rfl rfl ⟨_, rfl⟩) ?_; refine Zs14 ?_; refine zd ?_; refine zf ?_
    refine qn L (rs := [.cell 2 24]) rfl (fun _ _ h => h) (s1.trans s2) fun u H hH hle => ?_
    refine resK_cellA (qe rfl) rfl rfl ?_
    exact ⟨ys, _, rfl, CpyF.mono _ _ ⟨CpyI.mono _ _ hI s2.le, hxw, hxn.le s1.le, fun _ z hz => apart_of (hI.it _ z hz).1.lies hxn⟩ hle⟩
theorem rat_ret {t : Tb} {zs : List (Fl × Value)} (hz : zs.map Prod.fst = t.fl) {fu fi : Bool} {s : Value} {id : Int} {w : World} {B : Heap} (hs : FsB zs fu fi s B) (hB : B.Le (hp w)) :
    Ret Try.prog 20 [tbv t.nx s, .int .i64 id] w B (fun v _ => v = .int .i64 (idxZ (posF t.fl id))) := by
  have hsl := hs.sl
  have hlen := fls_len hz
  have hzl := hs.ln
  refine ya Try.func20 rfl Try.ntmps20 (Nat.le_of_ble_eq_true rfl) hB ?_
  refine ze ?_; refine zb (id := 0) ?_; refine Zs21 ?_; refine Zs2 ?_; refine zd ?_; refine zf ?_; refine ze ?_; refine ze ?_; refine zb (id := 1) ?_; refine Zs2 ?_; refine zd ?_; refine zf ?_; refine zy ?_
  refine V_loop (fun i : Nat => [(1, .is (.int .i64 id)), (2, .sat (At [.int .i64 t.nx, s] tyT 0)), (5, .is (.int .i64 i))]) (fun i => i ≤ zs.length ∧ ∀ (j : Nat) g, j < i → t.fl[j]? = some g → decide (g.id = id) = false) (fun i => zs.length - i) 0 ⟨Nat.zero_le _, fun j _ h => absurd h (Nat.not_lt_zero _)⟩ ⟨rfl, rfl, rfl, trivial⟩ ?_
  rintro i ⟨hi, hno⟩
  by_cases hlt : i < zs.length
  · obtain ⟨f, p, c, hzi, hli, hzv, hil, hc⟩ := hs.at hz hlt
    by_cases hid : f.id = id
    · have hp : posF t.fl id = some i := idxh hli (decide_eq_true hid) hno
      rw [hp]
      refine ze ?_; refine ze ?_; refine zb (id := 2) ?_; refine Zs1 ?_; refine Zs5 ?_; refine Zs17 ?_; refine Zs31 ?_; refine Zs11 ?_; refine zd ?_; refine zf ?_; refine zw rfl ?_; refine zt ?_; refine zf ?_; refine ze ?_; refine zy ?_; refine ze ?_; refine zb (id := 4) ?_; refine Zs5 ?_; refine Zs17 ?_; refine Zs1 ?_; refine z7 (qb L _ rfl rfl rfl rfl rfl rfl rfl (by first | omega | decide) (by assumption)) rfl ?_; refine Zs45 ?_; refine Zs43 ?_; refine Zs1 ?_; refine Zs15 ?_; refine zd ?_; refine zf ?_; refine zw rfl ?_; refine ze ?_; refine zb (id := 5) ?_; refine Zs1 ?_; refine Zs2 ?_; refine zd ?_; refine zf ?_
      refine qn L (rs := [.tmp 4]) rfl (fun _ _ h => h) Since.refl fun u H hH hle => ?_
      rfl
    · refine ze ?_; refine ze ?_; refine zb (id := 2) ?_; refine Zs1 ?_; refine Zs5 ?_; refine Zs17 ?_; refine Zs31 ?_; refine Zs11 ?_; refine zd ?_; refine zf ?_; refine zw rfl ?_; refine zt ?_; refine zf ?_; refine ze ?_; refine zy ?_; refine ze ?_; refine zb (id := 4) ?_; refine Zs5 ?_; refine Zs17 ?_; refine Zs1 ?_; refine z7 (qb L _ rfl rfl rfl rfl rfl rfl rfl (by first | omega | decide) (by assumption)) rfl ?_; refine Zs45 ?_; refine Zs43 ?_; refine Zs1 ?_; refine Zs9 ?_; refine zd ?_; refine zf ?_; refine zm rfl ?_; refine zt ?_; refine qm ?_; refine zf ?_; refine zb (id := 3) ?_; refine Zs1 ?_; refine Zs13 ?_; refine Zs2 ?_; refine zd ?_
      exact y1 (x := i) (i + 1) ⟨hlt, fun j g hj hg => by
        rcases Nat.lt_or_ge j i with h | h
        · exact hno j g h hg
        · have : j = i := by omega
          subst this; rw [hli] at hg; cases hg; exact decide_eq_false hid⟩ (by omega) ⟨rfl, rfl, rfl, trivial⟩
  · have hp : posF t.fl id = none := idxn fun j g hg => hno j g (by have := get_lt hg; omega) hg
    rw [hp]
    refine ze ?_; refine ze ?_; refine zb (id := 2) ?_; refine Zs1 ?_; refine Zs5 ?_; refine Zs17 ?_; refine Zs31 ?_; refine Zs8 ?_; refine zd ?_; refine zf ?_; refine zm rfl ?_; refine y7 ?_; refine qg ?_; refine qg ?_; refine y6 ?_; refine zf ?_; refine ze ?_; refine zb (id := 6) ?_; refine Zs2 ?_; refine zd ?_; refine zf ?_
    refine qn L (rs := [.tmp 4]) rfl (fun _ _ h => h) Since.refl fun u H hH hle => ?_
    rfl
end Go.V.L39
namespace Go.V.L39
open Go.Proofs Go.RowKit Go.V
section
variable {P : Program} {F : Fr} {B : Heap} {n : Nat} {O : Boxes} {ops : Array Oper} {ex : Exs} {κ : Kap} {Q : Exit → Act → World → Prop} {o : Oper} {os : List Oper} {d : Nat} {k : Kn}
theorem _root_.Go.V.Zs34 (h : Par P F B n O ops ex (upd κ d k) os Q) (s : StepOK P F B n ops O κ o d k := by exact qd rfl rfl rfl rfl (by assumption)) (v : vd o = some d := by rfl) : Par P F B n O ops ex κ (o :: os) Q := z8 s v h
end
theorem fl_dropKR {zs : List (Fl × Value)} {i k : Nat} {z : Fl × Value} {v : Value} (h : zs[i]? = some z) (hv : (flc z)[k]? = some v) (rest : List Value) {off : Nat} (ho : off = 0 + i * 14 + k) : ∃ r, (zs.flatMap flc ++ rest).drop off = v :: r := by
  obtain ⟨r, hr⟩ := fl_dropK h hv ho
  have hk : k < 14 := by have := get_lt hv; rwa [flc_len] at this
  have hi := get_lt h
  have hl := flatMap_len flc_len zs
  exact ⟨r ++ rest, by rw [List.drop_append_of_le_length (by omega), hr]; rfl⟩
theorem fl_setKR {zs : List (Fl × Value)} {i k : Nat} {z z' : Fl × Value} {v : Value} (h : zs[i]? = some z) (hk : k < 14) (hz : flc z' = (flc z).set k v) (rest : List Value) {off : Nat} (ho : off = 0 + i * 14 + k) : (zs.flatMap flc ++ rest).take off ++ ([v] ++ (zs.flatMap flc ++ rest).drop (off + 1)) = (zs.set i z').flatMap flc ++ rest := by
  have hi := get_lt h
  have hl := flatMap_len flc_len zs
  rw [List.take_append_of_le_length (by omega), List.drop_append_of_le_length (by omega), ← fl_setK h hk hz ho]
  simp only [List.append_assoc]
theorem fl_bleR {zs : List (Fl × Value)} {i k : Nat} (hi : i < zs.length) (hk : k < 14) (rest : List Value) {off : Nat} (ho : off = 0 + i * 14 + k) : Nat.ble (off + 1) (zs.flatMap flc ++ rest).length = true := Nat.ble_eq_true_of_le (by
  have hl := flatMap_len flc_len zs
  rw [List.length_append]; omega)
theorem flsE_pos (nx : Int) : ∀ (l pre : List Fl), 0 ≤ flsE nx pre l
  | [], _ => Int.le_refl _
  | f :: l, pre => by
    rw [flsE]
    split
    · exact flsE_pos nx l _
    · exact flE_pos _ _ _
theorem chkE_pos (t : Tb) : 0 ≤ chkE t := by
  unfold chkE
  split
  · decide
  · split
    · decide
    · exact flsE_pos _ _ _
theorem cpy_block {B H : Heap} {l : List Fl} {zs : List (Fl × Value)} {s : Value} (h : CpyF B l zs s H) (h0 : 0 < zs.length) : ∃ b cap rest, s = .slice (some ⟨b, 0, none⟩) zs.length cap ∧ H b = some (.cells (zs.flatMap flc ++ rest).toArray tyF) ∧ zs.length ≤ cap ∧ cap ≤ maxLen ∧ (zs.flatMap flc ++ rest).length = cap * 14 ∧ B b = none := by
  rcases h.fs.2 with ⟨h1, _⟩ | ⟨b, cap, rest, h1, h2, h3, h4, h5⟩
  · omega
  · exact ⟨b, cap, rest, h1, h2, h3, h4, h5, h.nf _ _ _ _ _ h1⟩
theorem cpy_items {B H : Heap} {l : List Fl} {zs : List (Fl × Value)} {b n cap : Nat} {cs : List Value} (h : CpyF B l zs (.slice (some ⟨b, 0, none⟩) n cap) H) {i : Nat} {z : Fl × Value} (hz : zs[i]? = some z) : IsV z.1.is false z.2 (H.off [(b, cs, tyF)]) :=
  SlV.off (h.it i z hz).1.toV fun y hy b' o k m c e => by
    rw [List.mem_singleton.1 hy]
    exact fun e2 => h.af i z hz b' o k m c b 0 none n cap e rfl e2.symm
theorem fsb_cutG {zs : List (Fl × Value)} {rest : List Value} {b m n : Nat} {fi : Bool} {H : Heap} (hm : m = zs.length) (hmn : m ≤ n) (hl : zs.length ≤ 100000) (hb : H b = some (.cells (zs.flatMap flc ++ rest).toArray tyF)) (hi : ∀ (i : Nat) z, zs[i]? = some z → IsV z.1.is fi z.2 H) (hli : ∀ (i : Nat) z, zs[i]? = some z → z.1.is.length ≤ 4611686018427387904) : FsB zs false fi (.slice (some ⟨b, 0, none⟩) m n) H := by
  subst hm
  exact ⟨⟨flatMap_len flc_len zs, .inr ⟨b, 0, n, _, _, (0, 0), rfl, hb, by show ((zs.flatMap flc ++ rest).drop 0).take (zs.flatMap flc).length = _; rw [List.drop_zero, List.take_left], hmn, fun h => by cases h⟩⟩, hi, hl, hli⟩
def TbR (t : Tb) (tv : Value) (H : Heap) : Prop := ∃ zs s, tv = tbv t.nx s ∧ zs.map Prod.fst = t.fl ∧ FsB zs false false s H
theorem TbR.mono {t : Tb} {tv : Value} {H H' : Heap} (h : TbR t tv H) (hle : H.Le H') : TbR t tv H' := let ⟨zs, s, h1, h2, h3⟩ := h; ⟨zs, s, h1, h2, h3.le hle⟩
theorem tbr_zero {H : Heap} : TbR T0 (tbv 0 (.slice none 0 0)) H := ⟨[], _, rfl, rfl, fsb_nil rfl⟩
def RTabP (t : Tb) (e : Int) : Value → Heap → Prop := fun v H => ∃ tv, v = .tuple #[tv, .int .i64 e] ∧ TbR t tv H
theorem RTabP.mono {t : Tb} {e : Int} : Kn.mono (.sat (RTabP t e)) := fun _ _ _ ⟨tv, h1, h2⟩ hle => ⟨tv, h1, h2.mono hle⟩
attribute [local irreducible] V N X VO Par StepOK Has Ret RetL RetO RetT RetG Src
set_option maxHeartbeats 4000000 in
set_option maxRecDepth 20000 in
theorem rcommit_ret {t : Tb} {zs : List (Fl × Value)} (hz : zs.map Prod.fst = t.fl) {fu fi : Bool} {s : Value} {id st : Int} {w : World} {B : Heap} (hs : FsB zs fu fi s B) (hZ : ∀ f ∈ t.fl, QuZ f.q) (hI : ∀ f ∈ t.fl, ∀ x ∈ f.is, 0 ≤ x.rv) (hn : itsN t.fl ≤ 9223372036854775807) (hln : zs.length ≤ 40000) (hst : I64 st) (hB : B.Le (hp w)) :
    Ret Try.prog 21 [tbv t.nx s, .int .i64 id, .int .i64 st] w B (RTabP (cmT t id st) (cmE t id st)) := by
  have hsl := hs.sl
  have hlen := fls_len hz
  have hzl := hs.ln
  obtain ⟨i1, i2⟩ := hst
  obtain ⟨e, hc⟩ : ∃ e, chkE t = e := ⟨_, rfl⟩
  have hep : 0 ≤ e := by rw [← hc]; exact chkE_pos t
  refine ya Try.func21 rfl Try.ntmps21 (Nat.le_of_ble_eq_true rfl) hB ?_
  by_cases h0 : e = 0
  · subst h0
    have hT := chkE_iff.1 hc
    have h1024 := chk_its hc
    have hit : ∀ f ∈ t.fl, f.is.length ≤ 40000 := fun f hf => by have := is_le hf; omega
    cases hp : posF t.fl id with
    | none =>
      obtain ⟨g1, g2⟩ := cmE1 (st := st) (show plE t id ≠ 0 by rw [(pl_none hc hp).1]; decide)
      rw [g1, g2, (pl_none hc hp).1]
      have hz1 : idxZ (posF t.fl id) = -1 := by rw [hp]; rfl
      refine ze ?_; refine zb (id := 0) ?_; refine Zs21 ?_; refine Zs24 ?_; refine Zs2 ?_; refine zd ?_; refine zf ?_; refine ze ?_; refine ze ?_; refine zb (id := 1) ?_; refine z7 (zn L (vs := [_, _]) (zl rfl) rfl rfl rfl rfl ⟨_, rfl⟩) rfl ?_; refine z7 (zo L rfl rfl (zg rfl) rfl rfl rfl (fun u H hH hle _ => rcheck_ret hz (hs.le hle) hZ hI hn hc hH)) rfl ?_; refine Zs16 ?_; refine zd ?_; refine zf ?_; refine zm rfl ?_; refine zt ?_; refine zf ?_; refine ze ?_; refine zb (id := 3) ?_; refine z7 (zn L (vs := [_, _]) (zl rfl) rfl rfl rfl rfl ⟨_, rfl⟩) rfl ?_; refine Zs1 ?_; refine z7 (zo L rfl rfl (zg rfl) rfl rfl rfl (fun u H hH hle _ => rat_ret hz (hs.le hle) hH)) rfl ?_; refine Zs2 ?_; refine zd ?_; refine zf ?_; refine ze ?_; refine ze ?_; refine zb (id := 4) ?_; refine Zs1 ?_; refine Zs11 ?_; refine zd ?_; refine zf ?_; refine zw rfl ?_; refine ze ?_; refine zb (id := 5) ?_; refine z7 (qt (cs := [_, _]) rfl rfl pl24 rfl rfl) rfl ?_; refine Zs14 ?_; refine Zs2 ?_; refine zd ?_; refine zf ?_
      refine qn L (rs := [.cell 6 24, .tmp 7]) rfl (fun _ _ h => h) Since.refl fun u H hH hle => ?_
      refine resK_cellA (qe rfl) rfl rfl ?_
      exact ⟨_, rfl, tbr_zero⟩
    | some k =>
      obtain ⟨h0, hkk⟩ := pl_some hc hp
      obtain ⟨f, hf, hid, _⟩ := idx_lt hp
      simp only [decide_eq_true_eq] at hid
      have hk : k < zs.length := by have := get_lt hf; omega
      obtain ⟨f', p, c, hzi, hli, hzv, hil, hc14⟩ := hs.at hz hk
      rw [hf] at hli
      cases hli
      have hff := findF_eq h0 hp hf
      obtain ⟨_, _, _, _, _, b1, b2, b3, b4⟩ := rngB_iff.1 (hT.fl k f hf).rng
      have hz1 : idxZ (posF t.fl id) = (k : Int) := by rw [hp]; rfl
      refine ze ?_; refine zb (id := 0) ?_; refine Zs21 ?_; refine Zs24 ?_; refine Zs2 ?_; refine zd ?_; refine zf ?_; refine ze ?_; refine ze ?_; refine zb (id := 1) ?_; refine z7 (zn L (vs := [_, _]) (zl rfl) rfl rfl rfl rfl ⟨_, rfl⟩) rfl ?_; refine z7 (zo L rfl rfl (zg rfl) rfl rfl rfl (fun u H hH hle _ => rcheck_ret hz (hs.le hle) hZ hI hn hc hH)) rfl ?_; refine Zs16 ?_; refine zd ?_; refine zf ?_; refine zm rfl ?_; refine zt ?_; refine zf ?_; refine ze ?_; refine zb (id := 3) ?_; refine z7 (zn L (vs := [_, _]) (zl rfl) rfl rfl rfl rfl ⟨_, rfl⟩) rfl ?_; refine Zs1 ?_; refine z7 (zo L rfl rfl (zg rfl) rfl rfl rfl (fun u H hH hle _ => rat_ret hz (hs.le hle) hH)) rfl ?_; refine Zs2 ?_; refine zd ?_; refine zf ?_; refine ze ?_; refine ze ?_
      rw [hz1]
      have hws : st ≤ 1048576 → 0 ≤ st → IntKind.i64.wrap (f.sp + st) = f.sp + st := fun _ _ => wrap_i64 (by omega) (by omega)
      have hwv : IntKind.i64.wrap (f.ve + 1) = f.ve + 1 := wrap_i64 (by omega) (by omega)
      by_cases hb1 : st < 0
      · obtain ⟨g1, g2⟩ := cmE2 (st := st) h0 (Or.inl hb1)
        rw [g1, g2]
        refine zb (id := 4) ?_; refine Zs1 ?_; refine Zs8 ?_; refine zd ?_; refine zf ?_; refine zm rfl ?_; refine zt ?_; refine zf ?_; refine ze ?_; refine ze ?_; refine zb (id := 6) ?_; refine Zs1 ?_; refine Zs11 ?_; refine Zs1 ?_; refine Zs3 ?_; refine Zs3 ?_; refine Zs6 ?_; refine Zs1 ?_; refine Zs3 ?_; refine Zs3 ?_; refine Zs3 ?_; refine Zs3 ?_; refine Zs3 ?_; refine Zs3 ?_; refine Zs3 ?_; refine Zs3 ?_; refine Zs3 ?_; refine Zs6 ?_; refine Zs1 ?_; refine Zs3 ?_; refine Zs3 ?_; refine Zs3 ?_; refine Zs3 ?_; refine Zs3 ?_; refine Zs3 ?_; refine Zs3 ?_; refine Zs3 ?_; refine Zs6 ?_; refine zd ?_; refine zf ?_; refine zw rfl ?_; refine ze ?_; refine zb (id := 7) ?_; refine z7 (qt (cs := [_, _]) rfl rfl pl24 rfl rfl) rfl ?_; refine Zs14 ?_; refine Zs2 ?_; refine zd ?_; refine zf ?_
        refine qn L (rs := [.cell 6 24, .tmp 7]) rfl (fun _ _ h => h) Since.refl fun u H hH hle => ?_
        refine resK_cellA (qe rfl) rfl rfl ?_
        exact ⟨_, rfl, tbr_zero⟩
      · by_cases hb2 : 1048576 < st
        · obtain ⟨g1, g2⟩ := cmE2 (st := st) h0 (Or.inr (Or.inr (by rw [hff]; omega)))
          rw [g1, g2]
          refine zb (id := 4) ?_; refine Zs1 ?_; refine Zs8 ?_; refine zd ?_; refine zf ?_; refine zm rfl ?_; refine zt ?_; refine zf ?_; refine ze ?_; refine ze ?_; refine zb (id := 6) ?_; refine Zs1 ?_; refine Zs8 ?_; refine Zs1 ?_; refine Zs1 ?_; refine Zs23 ?_; refine Zs6 ?_; refine Zs1 ?_; refine Zs3 ?_; refine Zs3 ?_; refine Zs3 ?_; refine Zs3 ?_; refine Zs3 ?_; refine Zs3 ?_; refine Zs3 ?_; refine Zs3 ?_; refine Zs3 ?_; refine Zs6 ?_; refine Zs1 ?_; refine Zs3 ?_; refine Zs3 ?_; refine Zs3 ?_; refine Zs3 ?_; refine Zs3 ?_; refine Zs3 ?_; refine Zs3 ?_; refine Zs3 ?_; refine Zs6 ?_; refine zd ?_; refine zf ?_; refine zw rfl ?_; refine ze ?_; refine zb (id := 7) ?_; refine z7 (qt (cs := [_, _]) rfl rfl pl24 rfl rfl) rfl ?_; refine Zs14 ?_; refine Zs2 ?_; refine zd ?_; refine zf ?_
          refine qn L (rs := [.cell 6 24, .tmp 7]) rfl (fun _ _ h => h) Since.refl fun u H hH hle => ?_
          refine resK_cellA (qe rfl) rfl rfl ?_
          exact ⟨_, rfl, tbr_zero⟩
        · replace hws := hws (by omega) (by omega)
          by_cases hb3 : 1048576 < f.sp + st
          · obtain ⟨g1, g2⟩ := cmE2 (st := st) h0 (Or.inr (Or.inr (by rw [hff]; omega)))
            rw [g1, g2]
            refine zb (id := 4) ?_; refine Zs1 ?_; refine Zs8 ?_; refine zd ?_; refine zf ?_; refine zm rfl ?_; refine zt ?_; refine zf ?_; refine ze ?_; refine ze ?_; refine zb (id := 6) ?_; refine Zs1 ?_; refine Zs8 ?_; refine Zs1 ?_; refine Zs1 ?_; refine Zs16 ?_; refine Zs6 ?_; refine Zs1 ?_; refine Zs5 ?_; refine Zs17 ?_; refine Zs1 ?_; refine z7 (qb L _ rfl rfl rfl rfl rfl rfl rfl (by first | omega | decide) (by assumption)) rfl ?_; refine Zs45 ?_; refine Zs43 ?_; refine Zs1 ?_; refine Zs18 ?_; refine Zs23 ?_; refine Zs6 ?_; refine Zs1 ?_; refine Zs3 ?_; refine Zs3 ?_; refine Zs3 ?_; refine Zs3 ?_; refine Zs3 ?_; refine Zs3 ?_; refine Zs3 ?_; refine Zs3 ?_; refine Zs6 ?_; refine zd ?_; refine zf ?_; refine zw rfl ?_; refine ze ?_; refine zb (id := 7) ?_; refine z7 (qt (cs := [_, _]) rfl rfl pl24 rfl rfl) rfl ?_; refine Zs14 ?_; refine Zs2 ?_; refine zd ?_; refine zf ?_
            refine qn L (rs := [.cell 6 24, .tmp 7]) rfl (fun _ _ h => h) Since.refl fun u H hH hle => ?_
            refine resK_cellA (qe rfl) rfl rfl ?_
            exact ⟨_, rfl, tbr_zero⟩
          · by_cases hb4 : 1048576 < f.ve + 1
            · obtain ⟨g1, g2⟩ := cmE2 (st := st) h0 (Or.inr (Or.inl (by rw [hff]; omega)))
              rw [g1, g2]
              refine zb (id := 4) ?_; refine Zs1 ?_; refine Zs8 ?_; refine zd ?_; refine zf ?_; refine zm rfl ?_; refine zt ?_; refine zf ?_; refine ze ?_; refine ze ?_; refine zb (id := 6) ?_; refine Zs1 ?_; refine Zs8 ?_; refine Zs1 ?_; refine Zs1 ?_; refine Zs16 ?_; refine Zs6 ?_; refine Zs1 ?_; refine Zs5 ?_; refine Zs17 ?_; refine Zs1 ?_; refine z7 (qb L _ rfl rfl rfl rfl rfl rfl rfl (by first | omega | decide) (by assumption)) rfl ?_; refine Zs45 ?_; refine Zs43 ?_; refine Zs1 ?_; refine Zs18 ?_; refine Zs16 ?_; refine Zs6 ?_; refine Zs1 ?_; refine Zs5 ?_; refine Zs17 ?_; refine Zs1 ?_; refine z7 (qb L _ rfl rfl rfl rfl rfl rfl rfl (by first | omega | decide) (by assumption)) rfl ?_; refine Zs45 ?_; refine Zs43 ?_; refine Zs18 ?_; refine Zs23 ?_; refine Zs6 ?_; refine zd ?_; refine zf ?_; refine zw rfl ?_; refine ze ?_; refine zb (id := 7) ?_; refine z7 (qt (cs := [_, _]) rfl rfl pl24 rfl rfl) rfl ?_; refine Zs14 ?_; refine Zs2 ?_; refine zd ?_; refine zf ?_
              refine qn L (rs := [.cell 6 24, .tmp 7]) rfl (fun _ _ h => h) Since.refl fun u H hH hle => ?_
              refine resK_cellA (qe rfl) rfl rfl ?_
              exact ⟨_, rfl, tbr_zero⟩
            · obtain ⟨g1, g2⟩ := cmE3 (st := st) h0 (by rw [hff]; omega)
              rw [g1, g2, map_one hT hf hid]
              refine zb (id := 4) ?_; refine Zs1 ?_; refine Zs8 ?_; refine zd ?_; refine zf ?_; refine zm rfl ?_; refine zt ?_; refine zf ?_; refine ze ?_; refine ze ?_; refine zb (id := 6) ?_; refine Zs1 ?_; refine Zs8 ?_; refine Zs1 ?_; refine Zs1 ?_; refine Zs16 ?_; refine Zs6 ?_; refine Zs1 ?_; refine Zs5 ?_; refine Zs17 ?_; refine Zs1 ?_; refine z7 (qb L _ rfl rfl rfl rfl rfl rfl rfl (by first | omega | decide) (by assumption)) rfl ?_; refine Zs45 ?_; refine Zs43 ?_; refine Zs1 ?_; refine Zs18 ?_; refine Zs16 ?_; refine Zs6 ?_; refine Zs1 ?_; refine Zs5 ?_; refine Zs17 ?_; refine Zs1 ?_; refine z7 (qb L _ rfl rfl rfl rfl rfl rfl rfl (by first | omega | decide) (by assumption)) rfl ?_; refine Zs45 ?_; refine Zs43 ?_; refine Zs18 ?_; refine Zs16 ?_; refine Zs6 ?_; refine zd ?_; refine zf ?_; refine zm rfl ?_; refine zt ?_; refine zf ?_; refine ze ?_; refine zb (id := 8) ?_; refine z7 (zn L (vs := [_, _]) (zl rfl) rfl rfl rfl rfl ⟨_, rfl⟩) rfl ?_; refine z7 (ok_call (φ := CopyP B t) L rfl rfl (zg rfl) rfl rfl rfl CopyP.mono (fun u H hH hle _ => Ret.mono (rcopy_ret hz (hs.le hle) hln hit hH) fun v H' _ ⟨a, b, h1, h2⟩ => ⟨a, b, h1, h2.le hle⟩)) rfl ?_; refine vo_opn 51 rfl fun cv H1 s1 hcv => ?_; obtain ⟨zs1, s', hve, hcf⟩ := hcv; subst hve; obtain ⟨b, cap, rest, hse, hbf, h3, h4, h5, hbn⟩ := cpy_block hcf (by rw [fls_len hcf.fl]; omega); subst hse; refine Zs24 ?_; refine Zs14 ?_; refine zd ?_; refine zf ?_; refine ze ?_
              have hl1 := fls_len hcf.fl
              obtain ⟨sv, hz1⟩ := fls_at hcf.fl hf
              refine V_hold 9 902 rfl fun b9 => ?_
              refine V_unpub (B0 := B) (κ1 := ofL [(2, .is (.int .i64 st)), (6, .own (Cell [.int .i64 0, .slice none 0 0] tyT)), (8, .is (.int .i64 k)), (9, .is (.pointer (some ⟨b9, 0, none⟩))), (902, .own (HeldR b9 [.int .i64 t.nx, .slice (some ⟨b, 0, none⟩) zs1.length cap] tyT))]) 901 [(b, zs1.flatMap flc ++ rest, tyF)] s1 (fun y hy => by rw [List.mem_singleton.1 hy]; exact ⟨hbf, hbn⟩) (hfree_of ⟨rfl, rfl, rfl, rfl, rfl, trivial⟩ fun p hp => by
                simp only [List.mem_cons, List.mem_nil_iff, or_false] at hp
                rcases hp with rfl | rfl | rfl | rfl | rfl
                · exact trivial
                · exact hfree_cell
                · exact trivial
                · exact trivial
                · exact hfree_held) ?_
              refine V_splitL 901 903 (by decide) (fun y hy => by cases hy) rfl ?_
              obtain ⟨_, hq11⟩ := fl_dropKR (k := 11) hz1 rfl rest (off := 0 + k * 14 + 11) rfl
              have hs11 := fl_setKR (k := 11) (z' := ({ f with ve := f.ve + 1 }, sv)) (v := .int .i64 (f.ve + 1)) hz1 (by decide) rfl rest (off := 0 + k * 14 + 11) rfl
              have hb11 := fl_bleR (k := 11) (show k < zs1.length by omega) (by decide) rest (off := 0 + k * 14 + 11) rfl
              refine zz (id := 9) [(200053, [902]), (200056, [902]), (200060, [903]), (100063, [903])] mixed (by kernel_rfl) ?_; refine Zs38 ?_; refine q8 (zx L (q := 902) rfl rfl rfl rfl rfl rfl) rfl rfl ?_; refine Zs7 ?_; refine Zs38 ?_; refine q8 (zx L (q := 902) rfl rfl rfl rfl rfl rfl) rfl rfl ?_; refine Zs7 ?_; refine z8 (zp L _ rfl rfl rfl rfl rfl rfl rfl (by omega)) rfl ?_; refine Zs38 ?_; refine q8 (zx L (q := 903) rfl rfl rfl rfl rfl hq11) rfl rfl ?_; refine Zs34 ?_; refine z8 (zp L _ rfl rfl rfl rfl rfl rfl rfl (by omega)) rfl ?_; refine Zs38 ?_; refine y9 (y2 L (q := 903) rfl rfl rfl rfl rfl rfl hb11 rfl hs11) rfl ?_; refine qk ?_; refine zf ?_; refine ze ?_
              have hz2 : (zs1.set k ({ f with ve := f.ve + 1 }, sv))[k]? = some ({ f with ve := f.ve + 1 }, sv) := List.getElem?_set_self (by omega)
              obtain ⟨_, hq12⟩ := fl_dropKR (k := 12) hz2 rfl rest (off := 0 + k * 14 + 12) rfl
              have hs12 := fl_setKR (k := 12) (z' := (mvF st f, sv)) (v := .int .i64 (f.sp + st)) hz2 (by decide) rfl rest (off := 0 + k * 14 + 12) rfl
              have hb12 := fl_bleR (k := 12) (show k < (zs1.set k ({ f with ve := f.ve + 1 }, sv)).length by rw [List.length_set]; omega) (by decide) rest (off := 0 + k * 14 + 12) rfl
              rw [List.set_set] at hs12
              refine zz (id := 10) [(200065, [902]), (200068, [902]), (200072, [903]), (100076, [903])] mixed (by kernel_rfl) ?_; refine Zs38 ?_; refine q8 (zx L (q := 902) rfl rfl rfl rfl rfl rfl) rfl rfl ?_; refine Zs7 ?_; refine Zs38 ?_; refine q8 (zx L (q := 902) rfl rfl rfl rfl rfl rfl) rfl rfl ?_; refine Zs7 ?_; refine z8 (zp L _ rfl rfl rfl rfl rfl rfl rfl (by omega)) rfl ?_; refine Zs38 ?_; refine q8 (zx L (q := 903) rfl rfl rfl rfl rfl hq12) rfl rfl ?_; refine Zs7 ?_; refine Zs34 ?_; refine z8 (zp L _ rfl rfl rfl rfl rfl rfl rfl (by omega)) rfl ?_; refine Zs38 ?_; refine y9 (y2 L (q := 903) rfl rfl rfl rfl rfl rfl hb12 rfl hs12) rfl ?_; refine qk ?_; refine zf ?_; refine ze ?_
              refine V_release 9 902 rfl rfl ?_
              refine zb (id := 11) ?_; refine z7 (zn L (vs := [_, _]) (qe rfl) rfl rfl rfl rfl ⟨_, rfl⟩) rfl ?_; refine Zs14 ?_; refine Zs2 ?_; refine zd ?_; refine zf ?_
              refine V_pubH 903 rfl fun H6 s6 hnb hb6 => ?_
              refine qn L (rs := [.cell 6 24, .tmp 7]) rfl (fun _ _ h => h) ((since_off s1 (S := [(b, zs1.flatMap flc ++ rest, tyF)]) (fun y hy => by rw [List.mem_singleton.1 hy]; exact hbn)).trans s6) fun u H hH hle => ?_
              refine resK_cellA (qe rfl) rfl rfl ?_
              refine ⟨_, rfl, TbR.mono ⟨zs1.set k (mvF st f, sv), _, rfl, by rw [List.map_set, hcf.fl], fsb_cutG (by rw [List.length_set]) (by omega) (by rw [List.length_set]; omega) hb6 (fun i z hzi => ?_) (fun i z hzi => ?_)⟩ hle⟩
              · rw [List.getElem?_set] at hzi
                by_cases hik : k = i
                · subst hik
                  rw [if_pos rfl, if_pos (by omega)] at hzi
                  cases hzi
                  exact (cpy_items hcf hz1).le s6.le
                · rw [if_neg hik] at hzi
                  exact (cpy_items hcf hzi).le s6.le
              · rw [List.getElem?_set] at hzi
                by_cases hik : k = i
                · subst hik
                  rw [if_pos rfl, if_pos (by omega)] at hzi
                  cases hzi
                  exact hil
                · rw [if_neg hik] at hzi
                  have := hit z.1 (fls_mem (fls_get hcf.fl hzi)); omega
  · obtain ⟨g1, g2⟩ := cmE1 (st := st) (show plE t id ≠ 0 by rw [(pl_chk (id := id) (by rw [hc]; exact h0)).1, hc]; exact h0)
    rw [g1, g2, (pl_chk (id := id) (by rw [hc]; exact h0)).1, hc]
    refine ze ?_; refine zb (id := 0) ?_; refine Zs21 ?_; refine Zs24 ?_; refine Zs2 ?_; refine zd ?_; refine zf ?_; refine ze ?_; refine ze ?_; refine zb (id := 1) ?_; refine z7 (zn L (vs := [_, _]) (zl rfl) rfl rfl rfl rfl ⟨_, rfl⟩) rfl ?_; refine z7 (zo L rfl rfl (zg rfl) rfl rfl rfl (fun u H hH hle _ => rcheck_ret hz (hs.le hle) hZ hI hn hc hH)) rfl ?_; refine Zs23 ?_; refine zd ?_; refine zf ?_; refine zw rfl ?_; refine ze ?_; refine zb (id := 2) ?_; refine z7 (qt (cs := [_, _]) rfl rfl pl24 rfl rfl) rfl ?_; refine z7 (zn L (vs := [_, _]) (zl rfl) rfl rfl rfl rfl ⟨_, rfl⟩) rfl ?_; refine z7 (zo L rfl rfl (zg rfl) rfl rfl rfl (fun u H hH hle _ => rcheck_ret hz (hs.le hle) hZ hI hn hc hH)) rfl ?_; refine Zs14 ?_; refine Zs2 ?_; refine zd ?_; refine zf ?_
    refine qn L (rs := [.cell 6 24, .tmp 7]) rfl (fun _ _ h => h) Since.refl fun u H hH hle => ?_
    refine resK_cellA (qe rfl) rfl rfl ?_
    exact ⟨_, rfl, tbr_zero⟩
end Go.V.L39
namespace Go.V
open Go.Proofs Go.RowKit
def RetX (P : Program) (f : FuncId) (args : List Value) (w : World) (B : Heap) (C : Nat → Prop) (r : GR) (v : Value) : Prop :=
  RetL P f args w B C fun x H u => x = v ∧ ∃ C', r.P H u C' ∧ ∀ k, C' k → (C k ∨ w.heap.size ≤ k) ∧ k < u.heap.size ∧ H k = none
section
variable {P : Program} {F : Fr} {B : Heap} {O : Boxes} {n : Nat} {ops : Array Oper} {κ : Kap} {d : Nat} {ty : TypeId} {pos : String} {aft : Array Edge} {g : Option (Nat × Bool)} {Q : Exit → Act → World → Prop}
theorem ok_callXG (L : Tabs P) (q : Nat) (r' : GR) (v : Value) {r : GR} {f : Nat} {args : Array Operand} {at_ : Array TypeId} {cap : List Value} {fo : Operand}
    (hn : Nat.blt d n = true) (hg : gK ops κ ⟨some d, .call { callee := .value fo, args := args, argTypes := at_ }, ty, pos, aft, g⟩ = some true)
    (hf : evK κ fo = some (.func (.func f) #[] cap.toArray)) (hfn : L.fn f = some ()) (hq : κ q = some (.own r.res))
    (h : ∀ u H C, H.Le (hp u) → B.Le H → r.P H u C → (∀ k, C k → k < u.heap.size ∧ H k = none) → Args κ H args.toList [] (fun vs => RetX P f (vs ++ cap) u H C r' v)) :
    StepOK2 P F B n ops O κ ⟨some d, .call { callee := .value fo, args := args, argTypes := at_ }, ty, pos, aft, g⟩ q (.own r'.res) d (.is v) := by
  rintro κ' a u hlk hks ⟨H, fp, hh⟩
  unfold After
  rw [if_pos (wanted_gK hh hlk hg)]
  have hk' : κ' q = some (.own r.res) := hks.trans hq
  obtain ⟨hown, hM⟩ := hh.slot q _ hk'
  have e2 := hh.env hlk
  have hfe : a.eval fo = .func (.func f) #[] cap.toArray := e2.is_ fo _ (by simp [Op.operands, Call.operands]) hf
  have hc := Args.use e2 args.toList [] (fun x hx => by simp [Op.operands, Call.operands] at hx ⊢; exact .inr hx) (h u H (fp q) hh.sub hh.base hown fun k hk => ⟨(hM k hk).1, (hM k hk).2.1⟩)
  simp only [List.reverse_nil, List.nil_append] at hc
  rw [run_call L rfl hfe hfn]
  simp only [Upon]
  refine Calls.mono hc fun e' u' hp => ?_
  obtain ⟨x, rfl, H', g', hx, C', hv, hC'⟩ := hp
  have h2 := hh.usePut (d := q) (a' := a) (r' := r'.res) hk' g' rfl rfl (fun _ _ => rfl) hv hC'
  rw [upd_upd] at h2
  exact ⟨x, rfl, H', _, h2.put (k := .is v) (zg hn) trivial hx⟩
theorem V_retX (L : Tabs P) {fn : Func} {B0 : Heap} (gs : Nat) {r r' : GR} {rs : List ResultVar} {v : Value} (hrs : fn.results = rs.toArray)
    (hQ : ∀ a u, bodyPostM Fence.wide 0 P fn (PostL F.w0 B0 F.L fun x H u => x = v ∧ ∃ C', r'.P H u C' ∧ ∀ k, C' k → (F.L k ∨ F.w0.heap.size ≤ k) ∧ k < u.heap.size ∧ H k = none) .ret a u → Q .ret a u) (hs : Since F B0 B) (hk : κ gs = some (.own r.res)) (e : r = r')
    (h : ∀ H, ResK L F B O κ H rs [] (fun vs => tup vs = v)) (hd : F.ds = [] := by rfl) : V P F B n O κ .ret Q := fun a u hh => by
  obtain ⟨H, fp, hH⟩ := hh
  refine wpIn_ret (hQ a u ?_)
  have h0 := hH.defers
  rw [hd] at h0
  show LeavesInM _ _ _ _ _ _ a.defers _ _
  rw [h0]
  subst e
  obtain ⟨vs, h1, h2⟩ := results_run L hH hrs (h H)
  obtain ⟨C', h3, h4⟩ := HasH.ghost hk hH
  exact ⟨_, h1, _, rfl, H, ⟨hH.keep, hH.sub, hs.le.trans hH.base, fun k hk hl => (hH.fresh k hk hl).trans (hs.fresh k hk hl)⟩, h2, C', h3, h4⟩
theorem ok_shl {t t' : TypeId} {x y : Operand} {k k2 : IntKind} {p q r : Int} (hn : Nat.blt d n = true) (hg : gK ops κ ⟨some d, .binOp .shl t x y t', ty, pos, aft, g⟩ = some true) (hx : evK κ x = some (.int k p)) (hy : evK κ y = some (.int k2 q)) (h0 : 0 ≤ q) (hb : k.wrap (p * 2 ^ min q.toNat k.bits) = r) :
    StepOK P F B n ops O κ ⟨some d, .binOp .shl t x y t', ty, pos, aft, g⟩ d (.is (.int k r)) := ok_bin hn hg hx hy fun u => by subst hb; simp [eqGuard_shl, binOp_shl, Op.shift, Int.not_lt.2 h0]
theorem ok_xor {t t' : TypeId} {x y : Operand} {k : IntKind} {p q r : Int} (hn : Nat.blt d n = true) (hg : gK ops κ ⟨some d, .binOp .xor t x y t', ty, pos, aft, g⟩ = some true) (hx : evK κ x = some (.int k p)) (hy : evK κ y = some (.int k q)) (hb : bits .xor k p q = r) :
    StepOK P F B n ops O κ ⟨some d, .binOp .xor t x y t', ty, pos, aft, g⟩ d (.is (.int k r)) := ok_bin hn hg hx hy fun u => by subst hb; simp [eqGuard_xor, binOp_xor, intBits_xor]
theorem V_midB {id : Nat} {x y : Code} {R : Exit → Act → World → Prop} (hm : MidOK P F B n R y Q) (h : V P F B n O κ x (Exit.inBlock id R)) : V P F B n O κ x (Exit.inBlock id (Exit.then (fun a u => y.wpIn (FW F.r) 0 P Q a u) Q)) := fun a u hh => by
  have key : ∀ e a u, R e a u → Exit.then (fun a u => y.wpIn (FW F.r) 0 P Q a u) Q e a u := fun e a u he => by
    cases e <;> first | exact hm.1 a u he | exact hm.2 _ a u (by intro h; cases h) he
  refine Go.wpIn_mono (h a u hh) fun e a u he => ?_
  cases e with
  | exit j =>
    simp only [Exit.inBlock] at he ⊢
    split at he
    · rename_i h; rw [if_pos h]; exact key _ _ _ he
    · rename_i h; rw [if_neg h]; exact key _ _ _ he
  | _ => exact key _ _ _ he
end
def uC (d : Array Int) : List Value := d.toList.map (Value.int .u64)
theorem uC_len (d : Array Int) : (uC d).length = d.size := by simp [uC]
theorem uC_get {d : Array Int} {j : Nat} (h : j < d.size) : (uC d)[j]? = some (.int .u64 d[j]!) := by
  unfold uC
  rw [List.getElem?_map, Array.getElem?_toList, Array.getElem?_eq_getElem h, getElem!_pos d j h]
  rfl
theorem u_at {d : Array Int} {rest : List Value} {j : Nat} (h : j < d.size) (off : Nat) (ho : off = 0 + j * 1) : ∃ r, (uC d ++ rest).drop off = .int .u64 d[j]! :: r := by
  subst ho
  rw [Nat.zero_add, Nat.mul_one]
  have hl : j < (uC d ++ rest).length := by rw [List.length_append, uC_len]; omega
  refine ⟨(uC d ++ rest).drop (j + 1), ?_⟩
  rw [List.drop_eq_getElem_cons hl]
  congr 1
  have := uC_get h
  rw [← List.getElem?_append_left (l₂ := rest) (by rw [uC_len]; exact h), List.getElem?_eq_getElem hl] at this
  exact Option.some.inj this
theorem u_set {d : Array Int} {rest : List Value} {j : Nat} (z : Int) (h : j < d.size) (off : Nat) (ho : off = 0 + j * 1) : (uC d ++ rest).take off ++ ([.int .u64 z] ++ (uC d ++ rest).drop (off + 1)) = uC (d.setIfInBounds j z) ++ rest := by
  subst ho
  rw [Nat.zero_add, Nat.mul_one]
  have h1 : uC (d.setIfInBounds j z) = (uC d).set j (.int .u64 z) := by
    unfold uC
    rw [Array.toList_setIfInBounds, List.map_set]
  rw [h1, List.take_append_of_le_length (by rw [uC_len]; omega), List.drop_append_of_le_length (by rw [uC_len]; omega), List.set_eq_take_append_cons_drop, if_pos (by rw [uC_len]; exact h)]
  simp
theorem u_ble {d : Array Int} {rest : List Value} {j : Nat} (h : j < d.size) (off : Nat) (ho : off = 0 + j * 1) : Nat.ble (off + 1) (uC d ++ rest).length = true := Nat.ble_eq_true_of_le (by rw [List.length_append, uC_len]; omega)
theorem swp_eq (d : Array Int) (i j : Nat) : (d.setIfInBounds i d[j]!).setIfInBounds j d[i]! = Go.Sort.swp d i j := rfl
theorem swp_size (d : Array Int) (i j : Nat) : (Go.Sort.swp d i j).size = d.size := by unfold Go.Sort.swp; rw [Array.size_setIfInBounds, Array.size_setIfInBounds]
end Go.V
namespace Go.V.L39
open Go.Proofs Go.RowKit Go.V
abbrev zF : Value := .agg #[.int .i64 0, .int .u64 0, .int .u8 0, .string ⟨#[]⟩, .string ⟨#[]⟩, .string ⟨#[]⟩, .string ⟨#[]⟩, .string ⟨#[]⟩, .int .i64 0, .int .i64 0, .int .i64 0, .int .i64 0, .int .i64 0, .slice none 0 0]
def zfL (m : Nat) : List Value := (Builtin.zeroCells (Value.cells zF) m).toList
def kept (id : Int) (z : Fl × Value) : Bool := decide (z.1.id ≠ id)
theorem flat_take {α : Type} {f : α → List Value} {s : Nat} (hf : ∀ a, (f a).length = s) (l : List α) (i : Nat) (hi : i ≤ l.length) : (l.flatMap f).take (i * s) = (l.take i).flatMap f := by
  conv => lhs; rw [← List.take_append_drop i l, List.flatMap_append]
  rw [List.take_append_of_le_length (by rw [flatMap_len hf, List.length_take, Nat.min_eq_left hi]; exact Nat.le_refl _), List.take_of_length_le (by rw [flatMap_len hf, List.length_take, Nat.min_eq_left hi]; exact Nat.le_refl _)]
theorem fsb_held {zs : List (Fl × Value)} {b n : Nat} {H : Heap} (hn : n = zs.length) (hl : zs.length ≤ 100000) (hb : H b = some (.cells (zs.flatMap flc).toArray tyF)) (hi : ∀ (i : Nat) z, zs[i]? = some z → IsV z.1.is true z.2 H) (hli : ∀ (i : Nat) z, zs[i]? = some z → z.1.is.length ≤ 4611686018427387904) : FsB zs true true (.slice (some ⟨b, 0, none⟩) n n) H := by
  subst hn
  exact ⟨⟨flatMap_len flc_len zs, .inr ⟨b, 0, zs.length, _, _, (0, 0), rfl, hb, by show ((zs.flatMap flc).drop 0).take (zs.flatMap flc).length = _; rw [List.drop_zero, List.take_length], Nat.le_refl _, fun _ => rfl⟩⟩, hi, hl, hli⟩
theorem lend_zs {b : Nat} {cs : List Value} {ty : TypeId} : ∀ v H u C, (HeldR b cs ty).P v H u C → joinH H u C b = some (.cells cs.toArray ty) := fun _ _ _ _ ⟨hb, hC⟩ => (joinH_in ((hC b).2 rfl)).trans hb
theorem take_kept {zs : List (Fl × Value)} {id : Int} {j : Nat} {z : Fl × Value} (hz : zs[j]? = some z) : (zs.take (j + 1)).filter (kept id) = (zs.take j).filter (kept id) ++ if kept id z = true then [z] else [] := by
  rw [take_snoc hz, List.filter_append, List.filter_cons, List.filter_nil]
attribute [local irreducible] V N X VO Par StepOK Has Ret RetL RetO RetT RetG RetX Src
theorem l1_ret {f : Fl} {sv : Value} {id : Int} {b3 : Nat} (hsv : (cellsL sv).length = 1 ∧ (cellsL sv).all plainV = true) {r : Bool} (hr : decide (f.id = id) = r) {w : World} {B : Heap} (h3 : B b3 = some (.cells #[.int .i64 id] 3)) (hB : B.Le (hp w)) :
    Ret Try.prog 54 ([flv f sv] ++ [.pointer (some ⟨b3, 0, none⟩)]) w B (fun v _ => v = .bool r) := by
  refine ya Try.func54 rfl Try.ntmps54 (Nat.le_of_ble_eq_true rfl) hB ?_
  by_cases h : f.id = id
  · rw [decide_eq_true h] at hr
    subst hr
    refine ze ?_; refine zb (id := 0) ?_; refine Zs21 ?_; refine Zs2 ?_; refine zd ?_; refine zf ?_; refine ze ?_; refine zb (id := 1) ?_; refine Zs5 ?_; refine Zs4 ?_; refine Zs41 ?_; refine Zs15 ?_; refine Zs2 ?_; refine zd ?_; refine zf ?_
    refine qn L (rs := [.tmp 3]) rfl (fun _ _ h => h) Since.refl fun u H hH hle => ?_
    rfl
  · rw [decide_eq_false h] at hr
    subst hr
    refine ze ?_; refine zb (id := 0) ?_; refine Zs21 ?_; refine Zs2 ?_; refine zd ?_; refine zf ?_; refine ze ?_; refine zb (id := 1) ?_; refine Zs5 ?_; refine Zs4 ?_; refine Zs41 ?_; refine Zs9 ?_; refine Zs2 ?_; refine zd ?_; refine zf ?_
    refine qn L (rs := [.tmp 3]) rfl (fun _ _ h => h) Since.refl fun u H hH hle => ?_
    rfl
abbrev fvL (b3 : Nat) : Value := .func (.func 54) #[] #[.pointer (some ⟨b3, 0, none⟩)]
set_option maxHeartbeats 4000000 in
set_option maxRecDepth 20000 in
theorem del_ret {zs : List (Fl × Value)} {l : List Fl} (hz : zs.map Prod.fst = l) {id : Int} {n b b3 k : Nat} (hn : n = zs.length) (hn5 : n ≤ 50000) (hk : posF l id = some k) {w : World} {B : Heap} {C : Nat → Prop} (h3 : B b3 = some (.cells #[.int .i64 id] 3))
    (hi : ∀ (i : Nat) z, zs[i]? = some z → IsV z.1.is true z.2 B) (hli : ∀ (i : Nat) z, zs[i]? = some z → z.1.is.length ≤ 4611686018427387904) (hB : B.Le (hp w)) (hr : (GHeld b (zs.flatMap flc) tyF).P B w C) (hC : ∀ k, C k → k < w.heap.size ∧ B k = none) :
    RetX Try.prog 53 [.slice (some ⟨b, 0, none⟩) n n, fvL b3] w B C (GHeld b ((zs.filter (kept id)).flatMap flc ++ zfL (n - (zs.filter (kept id)).length)) tyF) (.slice (some ⟨b, 0, none⟩) (zs.filter (kept id)).length n) := by
  unfold RetX
  refine V_enterG 900 (GHeld b (zs.flatMap flc) tyF) Try.func53 rfl Try.ntmps53 (Nat.le_of_ble_eq_true rfl) hB hr hC ?_
  rw [gheld_res]
  obtain ⟨f0, hf0, hid0, hbef⟩ := idx_lt hk
  have hkn : k < n := by have := get_lt hf0; rw [← hz, List.length_map] at this; omega
  obtain ⟨sv0, hz0⟩ := fls_at hz hf0
  have hlz := flatMap_len flc_len zs
  have hw0 : IntKind.i64.wrap ((k : Int) + 1) = ((k + 1 : Nat) : Int) := wrap_i64 (by omega) (by omega)
  have hk0 : (zs.take (k + 1)).filter (kept id) = zs.take k := by
    have hkk : kept id (f0, sv0) = false := by unfold kept; simpa using hid0
    rw [take_kept hz0, hkk, List.filter_eq_self.2 fun z hzm => ?_]
    · simp
    · obtain ⟨j, hj, hjz⟩ := List.getElem_of_mem hzm
      rw [List.length_take] at hj
      have h1 : (zs.take k)[j]? = some z := by rw [List.getElem?_eq_getElem (by rw [List.length_take]; exact hj), hjz]
      rw [List.getElem?_take_of_lt (by omega)] at h1
      have := hbef j z.1 (by omega) (fls_get hz h1)
      unfold kept; simpa using this
  refine ze ?_; refine zb (id := 0) ?_; refine Zs2 ?_; refine zd ?_; refine zf ?_; refine ze ?_; refine zb (id := 1) ?_; refine Zs1 ?_; refine Zs1 ?_; refine vo_stepR (ok_callLendG L 900 (Φ := fun H => H b = some (.cells (zs.flatMap flc).toArray tyF)) (c := .int .i64 k) rfl rfl (zg rfl) rfl rfl rfl rfl rfl lend_zs (fun u H hH hle hb => (show idxZ (l.findIdx? fun f => decide (f.id = id)) = (k : Int) from congrArg idxZ hk) ▸ idxF_ret (caps := [.pointer (some ⟨b3, 0, none⟩)]) (pr := fun f => decide (f.id = id)) hz (fsb_held hn (by omega) hb (fun i z hzi => (hi i z hzi).le hle) hli) rfl hH (fun f p c u' H' hH' hle' => l1_ret ⟨rfl, rfl⟩ rfl (hle' _ _ (hle _ _ h3)) hH'))) ?_; refine Zs2 ?_; refine zd ?_; refine zf ?_; refine ze ?_; refine ze ?_; refine zb (id := 2) ?_; refine Zs1 ?_; refine Zs9 ?_; refine zd ?_; refine zf ?_; refine zm rfl ?_; refine zt ?_; refine zf ?_; refine ze ?_; refine ze ?_; refine zb (id := 4) ?_; refine Zs1 ?_; refine Zs18 ?_; refine Zs2 ?_; refine zd ?_; refine zf ?_; refine zy ?_
  refine V_loop (fun T : (Nat × Nat) × List (Fl × Value) => [(0, .is (.slice (some ⟨b, 0, none⟩) n n)), (1, .is (fvL b3)), (5, .is (.int .i64 T.1.1)), (6, .is (.int .i64 T.1.2)), (900, .own (HeldR b (T.2.flatMap flc) tyF))])
    (fun T => T.1.2 ≤ n ∧ T.2.length = n ∧ T.1.1 ≤ T.1.2 ∧ T.2.take T.1.1 = (zs.take T.1.2).filter (kept id) ∧ T.1.1 = ((zs.take T.1.2).filter (kept id)).length ∧ T.2.drop T.1.2 = zs.drop T.1.2) (fun T => n - T.1.2) ((k, k + 1), zs) ⟨by dsimp only; omega, hn.symm, by dsimp only; omega, hk0.symm, by dsimp only; rw [hk0, List.length_take]; omega, rfl⟩ ⟨rfl, rfl, rfl, rfl, rfl, trivial⟩ ?_
  rintro ⟨⟨i, j⟩, ys⟩ ⟨q1, q2, q3, q4, q5, q6⟩
  dsimp only at q1 q2 q3 q4 q5 q6 ⊢
  have hly := flatMap_len flc_len ys
  by_cases hlt : j < n
  · obtain ⟨⟨f, sv⟩, hzj⟩ := get_some (show j < zs.length by omega)
    have hyj : ys[j]? = some (f, sv) := by
      have := congrArg (·[0]?) q6
      simp only [List.getElem?_drop, Nat.add_zero] at this
      rw [this, hzj]
    have hsv := hi j _ hzj
    dsimp only at hsv
    obtain ⟨p, c, hsve⟩ := slv_sh hsv
    subst hsve
    have hwj : IntKind.i64.wrap ((j : Int) + 1) = ((j + 1 : Nat) : Int) := wrap_i64 (by omega) (by omega)
    have hwi : IntKind.i64.wrap ((i : Int) + 1) = ((i + 1 : Nat) : Int) := wrap_i64 (by omega) (by omega)
    have htk := take_kept (id := id) hzj
    have hdr : ys.drop (j + 1) = zs.drop (j + 1) := by rw [← List.drop_drop, ← List.drop_drop, q6]
    obtain ⟨r, hq⟩ : ∃ r, (ys.flatMap flc).drop (0 + j * 14) = [.int .i64 f.id, .int .u64 f.rv, .int .u8 f.q.kd, .string f.q.g.1.1, .string f.q.g.1.2, .string f.q.g.2, .string f.q.u.1, .string f.q.u.2, .int .i64 f.cl, .int .i64 f.cs, .int .i64 f.si, .int .i64 f.ve, .int .i64 f.sp, .slice p f.is.length c] ++ r := ⟨_, (by rw [Nat.zero_add, ← fl_at hyj, List.take_append_drop])⟩
    cases hd : decide (f.id = id) with
    | true =>
      have hkf : kept id (f, .slice p f.is.length c) = false := by unfold kept; simpa using hd
      rw [hkf] at htk
      simp only [Bool.false_eq_true, if_false, List.append_nil] at htk
      refine ze ?_; refine ze ?_; refine zb (id := 5) ?_; refine Zs1 ?_; refine Zs1 ?_; refine Zs35 ?_; refine Zs11 ?_; refine zd ?_; refine zf ?_; refine zw rfl ?_; refine zt ?_; refine zf ?_; refine ze ?_; refine zy ?_; refine ze ?_; refine zb (id := 7) ?_; refine Zs1 ?_; refine Zs1 ?_; refine z7 (zp L _ rfl rfl rfl rfl rfl rfl rfl (by omega)) rfl ?_; refine vo_stepR (ok_loadHA L (q := 900) (vs := [_, _, _, _, _, _, _, _, _, _, _, _, _, _]) rfl rfl rfl rfl rfl rfl ⟨r, hq⟩) ?_; refine Zs24 ?_; refine Zs14 ?_; refine zd ?_; refine zf ?_; refine ze ?_; refine zb (id := 8) ?_; refine Zs1 ?_; refine z7 (zn L (vs := [_, _, _, _, _, _, _, _, _, _, _, _, _, _]) (qe rfl) rfl rfl rfl rfl ⟨_, rfl⟩) rfl ?_; refine z7 (zo L rfl rfl (zg rfl) rfl rfl rfl (fun u H hH hle _ => l1_ret ⟨rfl, rfl⟩ hd (hle _ _ h3) hH)) rfl ?_; refine Zs49 ?_; refine zd ?_; refine zf ?_; refine zm rfl ?_; refine zt ?_; refine qm ?_; refine zf ?_; refine zb (id := 6) ?_; refine Zs1 ?_; refine Zs18 ?_; refine Zs2 ?_; refine zd ?_
      exact y1 (x := ((i, j), ys)) ((i, j + 1), ys) ⟨hlt, q2, by dsimp only; omega, by dsimp only; rw [htk]; exact q4, by dsimp only; rw [htk]; exact q5, hdr⟩ (by dsimp only; omega) ⟨rfl, rfl, rfl, rfl, rfl, trivial⟩
    | false =>
      have hkf : kept id (f, .slice p f.is.length c) = true := by unfold kept; simpa using hd
      rw [hkf] at htk
      simp only [if_true] at htk
      have hin : i < ys.length := by omega
      have hset := (flat_set flc_len ys i (f, .slice p f.is.length c) hin).symm
      have hset2 : (ys.flatMap flc).take (0 + i * 14) ++ ([.int .i64 f.id, .int .u64 f.rv, .int .u8 f.q.kd, .string f.q.g.1.1, .string f.q.g.1.2, .string f.q.g.2, .string f.q.u.1, .string f.q.u.2, .int .i64 f.cl, .int .i64 f.cs, .int .i64 f.si, .int .i64 f.ve, .int .i64 f.sp, .slice p f.is.length c] ++ (ys.flatMap flc).drop (0 + i * 14 + 14)) = (ys.set i (f, .slice p f.is.length c)).flatMap flc := by rw [Nat.zero_add]; exact hset
      have hble : Nat.ble (0 + i * 14 + 14) (ys.flatMap flc).length = true := Nat.ble_eq_true_of_le (by omega)
      refine ze ?_; refine ze ?_; refine zb (id := 5) ?_; refine Zs1 ?_; refine Zs1 ?_; refine Zs35 ?_; refine Zs11 ?_; refine zd ?_; refine zf ?_; refine zw rfl ?_; refine zt ?_; refine zf ?_; refine ze ?_; refine zy ?_; refine ze ?_; refine zb (id := 7) ?_; refine Zs1 ?_; refine Zs1 ?_; refine z7 (zp L _ rfl rfl rfl rfl rfl rfl rfl (by omega)) rfl ?_; refine vo_stepR (ok_loadHA L (q := 900) (vs := [_, _, _, _, _, _, _, _, _, _, _, _, _, _]) rfl rfl rfl rfl rfl rfl ⟨r, hq⟩) ?_; refine Zs24 ?_; refine Zs14 ?_; refine zd ?_; refine zf ?_; refine ze ?_; refine zb (id := 8) ?_; refine Zs1 ?_; refine z7 (zn L (vs := [_, _, _, _, _, _, _, _, _, _, _, _, _, _]) (qe rfl) rfl rfl rfl rfl ⟨_, rfl⟩) rfl ?_; refine z7 (zo L rfl rfl (zg rfl) rfl rfl rfl (fun u H hH hle _ => l1_ret ⟨rfl, rfl⟩ hd (hle _ _ h3) hH)) rfl ?_; refine Zs49 ?_; refine zd ?_; refine zf ?_; refine zw rfl ?_; refine ze ?_; refine zb (id := 9) ?_; refine Zs1 ?_; refine Zs1 ?_; refine z7 (zn L (vs := [_, _, _, _, _, _, _, _, _, _, _, _, _, _]) (qe rfl) rfl rfl rfl rfl ⟨_, rfl⟩) rfl ?_; refine z7 (zp L _ rfl rfl rfl rfl rfl rfl rfl (by omega)) rfl ?_; refine vo_stepS (y2 L (q := 900) rfl rfl rfl rfl rfl rfl hble rfl hset2) ?_; refine zd ?_; refine zf ?_; refine zb (id := 10) ?_; refine Zs1 ?_; refine Zs18 ?_; refine Zs2 ?_; refine zd ?_; refine qm ?_; refine zf ?_; refine zb (id := 6) ?_; refine Zs1 ?_; refine Zs18 ?_; refine Zs2 ?_; refine zd ?_
      exact y1 (x := ((i, j), ys)) ((i + 1, j + 1), ys.set i (f, .slice p f.is.length c)) ⟨hlt, by rw [List.length_set]; exact q2, by dsimp only; omega, by
        dsimp only
        rw [htk, ← q4, List.take_add_one, List.getElem?_set_self hin, List.take_set_of_le (Nat.le_refl _)]; rfl, by dsimp only; rw [htk, List.length_append, ← q5]; rfl, by
        dsimp only
        rw [List.drop_set_of_lt (by omega)]; exact hdr⟩ (by dsimp only; omega) ⟨rfl, rfl, rfl, rfl, rfl, trivial⟩
  · obtain rfl : j = n := by omega
    have hfull : zs.take j = zs := List.take_of_length_le (by omega)
    rw [hfull] at q4 q5
    rw [← q5]
    have hne : ¬ j = i := fun e => by
      have h1 : (zs.filter (kept id)).length = zs.length := by omega
      have h2 := List.length_filter_eq_length_iff.1 h1 _ (List.mem_of_getElem? hz0)
      unfold kept at h2
      simp only [decide_eq_true_eq] at h2 hid0
      exact h2 hid0
    have hne0 : ¬ j = 0 := by omega
    have hcl : (ys.flatMap flc).take (0 + i * 14) ++ (zfL (j - i) ++ (ys.flatMap flc).drop (0 + i * 14 + (j - i) * 14)) = (zs.filter (kept id)).flatMap flc ++ zfL (j - i) := by
      rw [Nat.zero_add, flat_take flc_len ys i (by omega), q4, List.drop_eq_nil_of_le (by omega), List.append_nil]
    have hbd : 0 + i * 14 + (j - i) * 14 ≤ (ys.flatMap flc).length := by omega
    refine ze ?_; refine ze ?_; refine zb (id := 5) ?_; refine Zs1 ?_; refine Zs1 ?_; refine Zs35 ?_; refine Zs8 ?_; refine zd ?_; refine zf ?_; refine zm rfl ?_; refine y7 ?_; refine qg ?_; refine qg ?_; refine y6 ?_; refine zf ?_; refine ze ?_; refine zb (id := 11) ?_; refine Zs1 ?_; refine Zs1 ?_; refine z7 (ok_sliceI L (kh := .i64) (ph := 0) _ _ rfl rfl rfl rfl rfl ⟨rfl, rfl⟩ rfl (by omega) (by omega)) rfl ?_; rw [if_neg hne]; refine vo_stepS (ok_clearH L (q := 900) rfl rfl rfl rfl el49 rfl rfl (.inr hbd) (fun _ => hcl) (fun h => by omega)) ?_; refine zd ?_; refine zf ?_; refine ze ?_; refine zb (id := 12) ?_; refine Zs1 ?_; refine Zs1 ?_; refine z7 (ok_sliceI L (kl := .i64) (pl := 0) 0 _ rfl rfl rfl rfl rfl rfl ⟨rfl, rfl⟩ (by omega) (by omega)) rfl ?_; refine Zs2 ?_; refine zd ?_; refine zf ?_
    rw [if_neg hne0]
    exact V_retX L 900 (r := GHeld b _ tyF) (rs := [.tmp 4]) rfl (fun _ _ h => h) Since.refl rfl rfl (fun _ => rfl)
end Go.V.L39
namespace Go.V.L39
open Go.Proofs Go.RowKit Go.V
section
variable {P : Program} {F : Fr} {B : Heap} {n : Nat} {O : Boxes} {ops : Array Oper} {ex : Exs} {κ : Kap} {Q : Exit → Act → World → Prop} {o : Oper} {os : List Oper} {d : Nat} {k : Kn}
theorem _root_.Go.V.Zs70 (h : Par P F B n O ops ex (upd κ d k) os Q) (s : StepOK P F B n ops O κ o d k := by exact ql L rfl rfl rfl rfl rfl rfl rfl rfl) (v : vd o = some d := by rfl) : Par P F B n O ops ex κ (o :: os) Q := z8 s v h
end
def LandP (B : Heap) (t : Tb) (f : Fl) (e : Int) : Value → Heap → Prop := fun v H => ∃ tv sv, v = .tuple #[tv, flv f sv, .int .i64 e] ∧ TbN B t tv H ∧ SlN B tyI 5 (f.is.flatMap itc) f.is.length true sv H
theorem LandP.mono {B : Heap} {t : Tb} {f : Fl} {e : Int} : Kn.mono (.sat (LandP B t f e)) := fun _ _ _ ⟨tv, sv, h1, h2, h3⟩ hle => ⟨tv, sv, h1, tbn_mono h2 hle, SlN.mono _ _ _ h3 hle⟩
theorem map_kept {zs : List (Fl × Value)} {l : List Fl} (h : zs.map Prod.fst = l) (id : Int) : (zs.filter (kept id)).map Prod.fst = l.filter fun f => decide (f.id ≠ id) := by
  subst h
  rw [List.filter_map]
  rfl
theorem filter_get {zs : List (Fl × Value)} {p : Fl × Value → Bool} {i : Nat} {z : Fl × Value} (h : (zs.filter p)[i]? = some z) : ∃ j : Nat, zs[j]? = some z :=
  List.getElem?_of_mem (List.mem_filter.1 (List.mem_of_getElem? h)).1
theorem ownF1_ret {zs : List (Fl × Value)} {fu fi : Bool} {s v : Value} {w : World} {B : Heap} (hs : FsB zs fu fi s B) (hl : zs.length ≤ 50000) (hB : B.Le (hp w)) (hv : SlB [s] 22 1 v B) :
    RetO Try.prog 52 [v] w B (SlE tyF 14 zs.length (zs.flatMap flc)) := by
  have e1 : nXs [(zs.flatMap flc, zs.length)] = zs.length := by simp [nXs]
  have e2 : cXs [(zs.flatMap flc, zs.length)] = zs.flatMap flc := by simp [cXs]
  have h := ownF_ret (lsts1 hs.sl hs.plain) (by simp) (by rw [e1]; exact hl) hB hv
  rw [e1, e2] at h
  exact h
theorem ownF0_ret {zs : List (Fl × Value)} (h0 : zs.length = 0) {fu fi : Bool} {s v : Value} {w : World} {B : Heap} (hs : FsB zs fu fi s B) (hB : B.Le (hp w)) (hv : SlB [s] 22 1 v B) :
    Ret Try.prog 52 [v] w B (fun x _ => x = .slice none 0 0) :=
  own0F_ret (lsts1 hs.sl hs.plain) (by simp) (by show zs.length + 0 = 0; omega) hB hv
theorem fsb_cut {zs : List (Fl × Value)} {rest : List Value} {b m n : Nat} {H : Heap} (hm : m = zs.length) (hmn : m ≤ n) (hl : zs.length ≤ 100000) (hb : H b = some (.cells (zs.flatMap flc ++ rest).toArray tyF)) (hi : ∀ (i : Nat) z, zs[i]? = some z → IsV z.1.is true z.2 H) (hli : ∀ (i : Nat) z, zs[i]? = some z → z.1.is.length ≤ 4611686018427387904) : FsB zs false true (.slice (some ⟨b, 0, none⟩) m n) H := by
  subst hm
  exact ⟨⟨flatMap_len flc_len zs, .inr ⟨b, 0, n, _, _, (0, 0), rfl, hb, by show ((zs.flatMap flc ++ rest).drop 0).take (zs.flatMap flc).length = _; rw [List.drop_zero, List.take_left], hmn, fun h => by cases h⟩⟩, hi, hl, hli⟩
theorem ldT0 {t : Tb} {id : Int} (h : plE t id ≠ 0) : ldT t id = T0 := if_pos h
theorem ldT1 {t : Tb} {id : Int} (h : plE t id = 0) : ldT t id = ⟨t.nx, t.fl.filter fun f => decide (f.id ≠ id)⟩ := if_neg (by simp [h])
attribute [local irreducible] V N X VO Par StepOK Has Ret RetL RetO RetT RetG RetX Src
set_option maxHeartbeats 4000000 in
set_option maxRecDepth 20000 in
theorem land_ret {t : Tb} {zs : List (Fl × Value)} (hz : zs.map Prod.fst = t.fl) {fu fi : Bool} {s : Value} {id : Int} {w : World} {B0 : Heap} (hs0 : FsB zs fu fi s B0) (hZ : ∀ f ∈ t.fl, QuZ f.q) (hn : itsN t.fl ≤ 4611686018427387904) (hln : zs.length ≤ 40000) (hB : B0.Le (hp w)) :
    Ret Try.prog 19 [tbv t.nx s, .int .i64 id] w B0 (LandP B0 (ldT t id) (findF t id) (plE t id)) := by
  have hlen := fls_len hz
  refine ya Try.func19 rfl Try.ntmps19 (Nat.le_of_ble_eq_true rfl) hB ?_
  refine ze ?_; refine zb (id := 0) ?_; refine Zs21 ?_; refine Zs21 ?_; refine Zs24 ?_; refine Zs24 ?_; refine Zs2 ?_; refine zd ?_; refine zf ?_; refine ze ?_
  refine V_opn 3 rfl fun v3 B s1 ⟨b3, e3, hb3⟩ => ?_
  subst e3
  have hs := hs0.le s1.le
  by_cases h0 : plE t id = 0
  · obtain ⟨hc, k, f, hp, hf, hid⟩ := plE_zero h0
    have h1024 := chk_its hc
    have hk : k < zs.length := by have := get_lt hf; omega
    have hit5 : ∀ g ∈ t.fl, g.is.length ≤ 50000 := fun g hg => by have := is_le hg; omega
    rw [ldT1 h0]
    refine zb (id := 1) ?_; refine z7 (zn L (vs := [_, _]) (zl rfl) rfl rfl rfl rfl ⟨_, rfl⟩) rfl ?_; refine Zs41 ?_; refine z7 (ok_call (φ := FindP B (findF t id) (plE t id)) L rfl rfl (zg rfl) rfl rfl rfl FindP.mono (fun u H hH hle _ => Ret.mono (find_ret hz (hs.le hle) hZ hn hH) fun v H' _ ⟨sv, h1, h2⟩ => ⟨sv, h1, SlN.le h2 hle⟩)) rfl ?_; refine vo_opn 13 rfl fun fv H2 s2 hfv => ?_; obtain ⟨sv, hfe, hsv⟩ := hfv; obtain ⟨p1, c1, he⟩ := slv_sh hsv.1; subst he; subst hfe; rw [h0]; refine Zs1 ?_; refine Zs50 ?_; refine Zs50 ?_; refine Zs24 ?_; refine Zs14 ?_; refine Zs2 ?_; refine zd ?_; refine zf ?_; refine ze ?_; refine ze ?_; refine zb (id := 2) ?_; refine Zs1 ?_; refine Zs10 ?_; refine zd ?_; refine zf ?_; refine zm rfl ?_; refine zt ?_; refine zf ?_; refine ze ?_; refine zb (id := 4) ?_; refine z7 (zn L (vs := [_, _]) (zl rfl) rfl rfl rfl rfl ⟨_, rfl⟩) rfl ?_; refine z7 (ok_callO (r := CpR B t.nx t.fl) L rfl rfl (zg rfl) rfl rfl rfl (fun u H hH hle _ => (copied_ret (zs := zs) (ys := []) (l := t.fl) (by rw [List.append_nil]; exact hz) (by simp only [List.length_nil]; omega) hit5 (hs.le (s2.le.trans hle)) (fsb_nil (fu := true) (fi := true) rfl) hH).mono (CpR.le (s2.le.trans hle)))) rfl ?_; refine vo_opnX 22 rfl fun zs1 H4 s4 ⟨q1, q2⟩ => ?_; refine vo_openAgg 22 901 rfl (fun h _ => absurd h (by rw [fls_len q1]; omega)) fun b hbl hbm => ?_; refine Zs24 ?_; refine Zs14 ?_; refine zd ?_; refine zf ?_; refine ze ?_
    have hl1z := fls_len q1
    have hb3' := s4.le _ _ (s2.le _ _ hb3)
    have hli1 : ∀ (i : Nat) z, zs1[i]? = some z → z.1.is.length ≤ 4611686018427387904 := fun i z hzi => by have := hit5 z.1 (fls_mem (fls_get q1 hzi)); omega
    have hfl : (zs1.filter (kept id)).length ≤ zs1.length := List.length_filter_le _ _
    refine V_hold 9 902 rfl fun b9 => ?_
    by_cases hm0 : (zs1.filter (kept id)).length = 0
    · have hf0 : zs1.filter (kept id) = [] := List.eq_nil_of_length_eq_zero hm0
      have hmk := map_kept q1 id
      rw [hf0] at hmk
      refine zb (id := 5) ?_; refine Zs19 ?_; refine vo_stepR (zx L (q := 902) rfl rfl rfl rfl rfl rfl) ?_; refine z7 (ok_makeFunc rfl rfl rfl rfl) rfl ?_; refine qh (ok_callXG L 901 (GHeld b ((zs1.filter (kept id)).flatMap flc ++ zfL (zs1.length - (zs1.filter (kept id)).length)) tyF) (.slice (some ⟨b, 0, none⟩) (zs1.filter (kept id)).length zs1.length) (r := GHeld b (zs1.flatMap flc) tyF) rfl rfl rfl rfl rfl (fun u H C hH hle hr hC => del_ret q1 rfl (by omega) hp (hle _ _ hb3') (fun i z hzi => (q2 i z hzi).1.le hle) hli1 hH hr hC)) ?_; refine vo_pubH 901 rfl fun H6 s6 hnb hb6 => ?_; refine Zs25 ?_; refine z7 (zo (r := .slice none 0 0) L rfl rfl (zg rfl) rfl rfl rfl (fun u H hH hle _ v hv => ownF0_ret hm0 (fsb_cut rfl hfl (by omega) (hle _ _ hb6) (fun i z hzi => by obtain ⟨j, hj⟩ := filter_get hzi; exact ((q2 j z hj).1.le s6.le).le hle) (fun i z hzi => by obtain ⟨j, hj⟩ := filter_get hzi; exact hli1 j z hj)) hH hv)) rfl ?_; refine Zs19 ?_; refine vo_stepS (y2 L (q := 902) rfl rfl rfl rfl rfl rfl rfl rfl rfl) ?_; refine zd ?_; refine zf ?_; refine ze ?_
      refine V_release 9 902 rfl rfl ?_
      refine zz (id := 6) [] mixed (by kernel_rfl) ?_; refine z8 (zn L (vs := [_, _]) (qe rfl) rfl rfl rfl rfl ⟨_, rfl⟩) rfl ?_; refine z8 (zn L (vs := [_, _, _, _, _, _, _, _, _, _, _, _, _, _]) (qe rfl) rfl rfl rfl rfl ⟨_, rfl⟩) rfl ?_; refine Zs70 ?_; refine Zs70 ?_; refine Zs54 ?_; refine qk ?_; refine zf ?_
      refine qn L (rs := [.cell 4 24, .cell 5 49, .tmp 6]) rfl (fun _ _ h => h) (((s1.trans s2).trans s4).trans s6) fun u H hH hle => ?_
      refine resK_cellA (qe rfl) rfl rfl ?_
      refine resK_cellA (qe rfl) rfl rfl ?_
      rw [← hmk]
      exact ⟨_, _, rfl, ⟨[], _, rfl, rfl, fsb_nil rfl, newin_nil, fun i z hz => by cases hz⟩, SlN.le (SlN.mono _ _ _ hsv ((s4.le.trans s6.le).trans hle)) s1.le⟩
    · refine zb (id := 5) ?_; refine Zs19 ?_; refine vo_stepR (zx L (q := 902) rfl rfl rfl rfl rfl rfl) ?_; refine z7 (ok_makeFunc rfl rfl rfl rfl) rfl ?_; refine qh (ok_callXG L 901 (GHeld b ((zs1.filter (kept id)).flatMap flc ++ zfL (zs1.length - (zs1.filter (kept id)).length)) tyF) (.slice (some ⟨b, 0, none⟩) (zs1.filter (kept id)).length zs1.length) (r := GHeld b (zs1.flatMap flc) tyF) rfl rfl rfl rfl rfl (fun u H C hH hle hr hC => del_ret q1 rfl (by omega) hp (hle _ _ hb3') (fun i z hzi => (q2 i z hzi).1.le hle) hli1 hH hr hC)) ?_; refine vo_pubH 901 rfl fun H6 s6 hnb hb6 => ?_; refine Zs25 ?_; refine z7 (ok_callO (r := SlE tyF 14 (zs1.filter (kept id)).length ((zs1.filter (kept id)).flatMap flc)) L rfl rfl (zg rfl) rfl rfl rfl (fun u H hH hle _ v hv => ownF1_ret (fsb_cut rfl hfl (by omega) (hle _ _ hb6) (fun i z hzi => by obtain ⟨j, hj⟩ := filter_get hzi; exact ((q2 j z hj).1.le s6.le).le hle) (fun i z hzi => by obtain ⟨j, hj⟩ := filter_get hzi; exact hli1 j z hj)) (by omega) hH hv)) rfl ?_; refine vo_holdE 28 903 (Nat.pos_of_ne_zero hm0) rfl fun b2 hbl2 => ?_; refine Zs19 ?_; refine vo_stepS (y2 L (q := 902) rfl rfl rfl rfl rfl rfl rfl rfl rfl) ?_; refine zd ?_; refine zf ?_; refine ze ?_
      refine V_release 9 902 rfl rfl ?_
      refine zz (id := 6) [] mixed (by kernel_rfl) ?_; refine z8 (zn L (vs := [_, _]) (qe rfl) rfl rfl rfl rfl ⟨_, rfl⟩) rfl ?_; refine z8 (zn L (vs := [_, _, _, _, _, _, _, _, _, _, _, _, _, _]) (qe rfl) rfl rfl rfl rfl ⟨_, rfl⟩) rfl ?_; refine Zs70 ?_; refine Zs70 ?_; refine Zs54 ?_; refine qk ?_; refine zf ?_
      refine V_pubH 903 rfl fun H7 s7 hnb7 hb7 => ?_
      refine qn L (rs := [.cell 4 24, .cell 5 49, .tmp 6]) rfl (fun _ _ h => h) ((((s1.trans s2).trans s4).trans s6).trans s7) fun u H hH hle => ?_
      refine resK_cellA (qe rfl) rfl rfl ?_
      refine resK_cellA (qe rfl) rfl rfl ?_
      have hBH : B.Le H6 := (s2.le.trans s4.le).trans s6.le
      refine ⟨_, _, rfl, tbn_mono (tbn_of rfl (map_kept q1 id) (fun i z hzi => ?_) hb7 (none_le (s1.le.trans hBH) hnb7) (by omega) fun g hg => ?_) hle, SlN.le (SlN.mono _ _ _ hsv (((s4.le.trans s6.le).trans s7.le).trans hle)) s1.le⟩
      · obtain ⟨j, hj⟩ := filter_get hzi
        exact SlN.le (SlN.mono _ _ _ (q2 j z hj) (s6.le.trans s7.le)) s1.le
      · have := hit5 g (List.mem_filter.1 hg).1
        omega
  · have hk : findF t id = F0 := if_pos h0
    rw [ldT0 h0]
    refine zb (id := 1) ?_; refine z7 (zn L (vs := [_, _]) (zl rfl) rfl rfl rfl rfl ⟨_, rfl⟩) rfl ?_; refine Zs41 ?_; refine z7 (ok_call (φ := FindP B (findF t id) (plE t id)) L rfl rfl (zg rfl) rfl rfl rfl FindP.mono (fun u H hH hle _ => Ret.mono (find_ret hz (hs.le hle) hZ hn hH) fun v H' _ ⟨sv, h1, h2⟩ => ⟨sv, h1, SlN.le h2 hle⟩)) rfl ?_; refine vo_opn 13 rfl fun fv H2 s2 hfv => ?_; obtain ⟨sv, hfe, hsv⟩ := hfv; obtain ⟨p1, c1, he⟩ := slv_sh hsv.1; subst he; subst hfe; refine Zs1 ?_; refine Zs50 ?_; refine Zs50 ?_; refine Zs24 ?_; refine Zs14 ?_; refine Zs2 ?_; refine zd ?_; refine zf ?_; refine ze ?_; refine ze ?_; refine zb (id := 2) ?_; refine Zs1 ?_; refine Zs27 ?_; refine zd ?_; refine zf ?_; refine zw rfl ?_; refine ze ?_; refine zb (id := 3) ?_; refine z7 (qt (cs := [_, _]) rfl rfl pl24 rfl rfl) rfl ?_; refine z7 (qt (cs := [_, _, _, _, _, _, _, _, _, _, _, _, _, _]) rfl rfl pl49 rfl rfl) rfl ?_; refine Zs1 ?_; refine Zs14 ?_; refine Zs14 ?_; refine Zs2 ?_; refine zd ?_; refine zf ?_
    refine qn L (rs := [.cell 4 24, .cell 5 49, .tmp 6]) rfl (fun _ _ h => h) (s1.trans s2) fun u H hH hle => ?_
    refine resK_cellA (qe rfl) rfl rfl ?_
    refine resK_cellA (qe rfl) rfl rfl ?_
    rw [hk]
    exact ⟨_, _, rfl, tbn_zero, sln_nil⟩
end Go.V.L39
namespace Go.V.L39
open Go.Proofs Go.RowKit Go.V
section
variable {P : Program} {F : Fr} {B : Heap} {n : Nat} {O : Boxes} {ops : Array Oper} {ex : Exs} {κ : Kap} {Q : Exit → Act → World → Prop} {o : Oper} {os : List Oper} {d : Nat} {k : Kn}
theorem _root_.Go.V.Zs72 (h : Par P F B n O ops ex (upd κ d k) os Q) (s : StepOK P F B n ops O κ o d k := by exact zj L (qz rfl (by assumption)) rfl rfl rfl rfl) (v : vd o = some d := by rfl) : Par P F B n O ops ex κ (o :: os) Q := z8 s v h
end
def FactL (B : Heap) (ys : List (Fl × Value)) (x : Value) : Heap → Prop := fun H => SlWN B tyF 14 ys.length (ys.flatMap flc) x H
theorem FactL.mono {B : Heap} {ys : List (Fl × Value)} {x : Value} : ∀ H H', FactL B ys x H → H.Le H' → FactL B ys x H' := fun _ _ h hle => SlWN.mono _ _ _ h hle
theorem slw_cell {e : TypeId} {s n : Nat} {xs : List Value} {v : Value} {H : Heap} (h : SlW e s n xs v H) : (cellsL v).length = 1 ∧ (cellsL v).all plainV = true := by
  obtain ⟨p, c, rfl⟩ := slw_sh h
  exact ⟨rfl, rfl⟩
theorem slw_block {e : TypeId} {s n : Nat} {xs : List Value} {v : Value} {H : Heap} (h : SlW e s n xs v H) (h0 : 0 < n) : ∃ b cap rest, v = .slice (some ⟨b, 0, none⟩) n cap ∧ H b = some (.cells (xs ++ rest).toArray e) ∧ n ≤ cap ∧ cap ≤ maxLen ∧ (xs ++ rest).length = cap * s := by
  rcases h.2 with ⟨h1, _⟩ | h
  · omega
  · exact h
theorem fl_drop14 {zs : List (Fl × Value)} {i : Nat} {f : Fl} {sv : Value} (h : zs[i]? = some (f, sv)) (rest : List Value) : ∃ r, (zs.flatMap flc ++ rest).drop (0 + i * 14) = [.int .i64 f.id, .int .u64 f.rv, .int .u8 f.q.kd, .string f.q.g.1.1, .string f.q.g.1.2, .string f.q.g.2, .string f.q.u.1, .string f.q.u.2, .int .i64 f.cl, .int .i64 f.cs, .int .i64 f.si, .int .i64 f.ve, .int .i64 f.sp, sv] ++ r := by
  have hl := flatMap_len flc_len zs
  have hi := get_lt h
  refine ⟨((zs.flatMap flc).drop (i * 14)).drop 14 ++ rest, ?_⟩
  rw [Nat.zero_add, List.drop_append_of_le_length (by omega), ← List.append_assoc, ← fl_at h, List.take_append_drop]
attribute [local irreducible] V N X VO Par StepOK Has Ret RetL RetO RetT RetG Src
set_option maxHeartbeats 4000000 in
set_option maxRecDepth 20000 in
theorem rland_ret {t : Tb} {zs : List (Fl × Value)} (hz : zs.map Prod.fst = t.fl) {fu fi : Bool} {s : Value} {id : Int} {w : World} {B : Heap} (hs : FsB zs fu fi s B) (hZ : ∀ f ∈ t.fl, QuZ f.q) (hI : ∀ f ∈ t.fl, ∀ x ∈ f.is, 0 ≤ x.rv) (hn : itsN t.fl ≤ 9223372036854775807) (hln : zs.length ≤ 40000) (hB : B.Le (hp w)) :
    Ret Try.prog 22 [tbv t.nx s, .int .i64 id] w B (RTabP (ldT t id) (plE t id)) := by
  have hsl := hs.sl
  have hlen := fls_len hz
  have hzl := hs.ln
  obtain ⟨e, hc⟩ : ∃ e, chkE t = e := ⟨_, rfl⟩
  have hep : 0 ≤ e := by rw [← hc]; exact chkE_pos t
  refine ya Try.func22 rfl Try.ntmps22 (Nat.le_of_ble_eq_true rfl) hB ?_
  by_cases h0 : e = 0
  · subst h0
    have h1024 := chk_its hc
    have hit : ∀ f ∈ t.fl, f.is.length ≤ 40000 := fun f hf => by have := is_le hf; omega
    cases hp : posF t.fl id with
    | none =>
      have hpl := (pl_none hc hp).1
      rw [ldT0 (by rw [hpl]; decide), hpl]
      have hz1 : idxZ (posF t.fl id) = -1 := by rw [hp]; rfl
      refine ze ?_; refine zb (id := 0) ?_; refine Zs21 ?_; refine Zs24 ?_; refine Zs2 ?_; refine zd ?_; refine zf ?_; refine ze ?_; refine ze ?_; refine zb (id := 1) ?_; refine z7 (zn L (vs := [_, _]) (zl rfl) rfl rfl rfl rfl ⟨_, rfl⟩) rfl ?_; refine z7 (zo L rfl rfl (zg rfl) rfl rfl rfl (fun u H hH hle _ => rcheck_ret hz (hs.le hle) hZ hI hn hc hH)) rfl ?_; refine Zs16 ?_; refine zd ?_; refine zf ?_; refine zm rfl ?_; refine zt ?_; refine zf ?_; refine ze ?_; refine ze ?_; refine zb (id := 3) ?_; refine z7 (zn L (vs := [_, _]) (zl rfl) rfl rfl rfl rfl ⟨_, rfl⟩) rfl ?_; refine Zs1 ?_; refine z7 (zo L rfl rfl (zg rfl) rfl rfl rfl (fun u H hH hle _ => rat_ret hz (hs.le hle) hH)) rfl ?_; refine Zs11 ?_; refine zd ?_; refine zf ?_; refine zw rfl ?_; refine ze ?_; refine zb (id := 4) ?_; refine z7 (qt (cs := [_, _]) rfl rfl pl24 rfl rfl) rfl ?_; refine Zs14 ?_; refine Zs2 ?_; refine zd ?_; refine zf ?_
      refine qn L (rs := [.cell 4 24, .tmp 5]) rfl (fun _ _ h => h) Since.refl fun u H hH hle => ?_
      refine resK_cellA (qe rfl) rfl rfl ?_
      exact ⟨_, rfl, tbr_zero⟩
    | some k0 =>
      obtain ⟨h0, hkk⟩ := pl_some hc hp
      obtain ⟨f0, hf0, hid0, _⟩ := idx_lt hp
      have hz1 : idxZ (posF t.fl id) = (k0 : Int) := by rw [hp]; rfl
      have hn0 : 0 < t.fl.length := by have := get_lt hf0; omega
      rw [ldT1 h0, h0]
      refine ze ?_; refine zb (id := 0) ?_; refine Zs21 ?_; refine Zs24 ?_; refine Zs2 ?_; refine zd ?_; refine zf ?_; refine ze ?_; refine ze ?_; refine zb (id := 1) ?_; refine z7 (zn L (vs := [_, _]) (zl rfl) rfl rfl rfl rfl ⟨_, rfl⟩) rfl ?_; refine z7 (zo L rfl rfl (zg rfl) rfl rfl rfl (fun u H hH hle _ => rcheck_ret hz (hs.le hle) hZ hI hn hc hH)) rfl ?_; refine Zs16 ?_; refine zd ?_; refine zf ?_; refine zm rfl ?_; refine zt ?_; refine zf ?_; refine ze ?_; refine ze ?_; refine zb (id := 3) ?_; refine z7 (zn L (vs := [_, _]) (zl rfl) rfl rfl rfl rfl ⟨_, rfl⟩) rfl ?_; refine Zs1 ?_; refine z7 (zo L rfl rfl (zg rfl) rfl rfl rfl (fun u H hH hle _ => rat_ret hz (hs.le hle) hH)) rfl ?_; refine Zs8 ?_; refine zd ?_; refine zf ?_; refine zm rfl ?_; refine zt ?_; refine zf ?_; refine ze ?_; refine zb (id := 5) ?_; refine Zs5 ?_; refine Zs4 ?_; refine z7 (qt (cs := [_, _]) rfl rfl pl24 rfl rfl) rfl ?_; refine Zs24 ?_; refine Zs14 ?_; refine zd ?_; refine zf ?_; refine ze ?_; refine zb (id := 6) ?_; refine z7 (zn L (vs := [_, _]) (zl rfl) rfl rfl rfl rfl ⟨_, rfl⟩) rfl ?_; refine z7 (ok_call (φ := CopyP B t) L rfl rfl (zg rfl) rfl rfl rfl CopyP.mono (fun u H hH hle _ => Ret.mono (rcopy_ret hz (hs.le hle) hln hit hH) fun v H' _ ⟨a, b, h1, h2⟩ => ⟨a, b, h1, h2.le hle⟩)) rfl ?_; refine vo_opn 24 rfl fun cv H1 s1 hcv => ?_; obtain ⟨zs1, s', hve, hcf⟩ := hcv; subst hve; obtain ⟨b, cap, rest, hse, hbf, h3, h4, h5, hbn⟩ := cpy_block hcf (by rw [fls_len hcf.fl]; omega); subst hse; refine Zs24 ?_; refine Zs14 ?_; refine zd ?_; refine zf ?_; refine ze ?_; refine ze ?_
      have hl1 := fls_len hcf.fl
      refine V_hold 6 902 rfl fun b6 => ?_
      refine V_pub 7 rfl ?_
      refine V_opn 7 rfl fun v7 H2 s2 ⟨b7, e7, hb7⟩ => ?_
      subst e7
      refine zb (id := 7) ?_; refine Zs2 ?_; refine zd ?_; refine zf ?_; refine zy ?_
      refine V_fact 903 (FactL H2 [] (.slice none 0 0)) FactL.mono ⟨⟨by simp, .inl ⟨rfl, rfl⟩⟩, newin_nil⟩ ?_
      refine V_loop (fun T : Nat × Value × List (Fl × Value) => [(1, .is (.int .i64 id)), (4, .own (Cell [.int .i64 0, .slice none 0 0] tyT)), (6, .is (.pointer (some ⟨b6, 0, none⟩))), (7, .is (.pointer (some ⟨b7, 0, none⟩))), (8, .is (.int .i64 (T.1 : Nat))), (902, .own (HeldR b6 [.int .i64 t.nx, T.2.1] tyT)), (903, .sat fun _ H => FactL H2 T.2.2 T.2.1 H)]) (fun T => T.1 ≤ zs1.length ∧ T.2.2 = (zs1.take T.1).filter (kept id) ∧ ∃ p c, T.2.1 = .slice p T.2.2.length c) (fun T => zs1.length - T.1) (0, .slice none 0 0, []) ⟨Nat.zero_le _, rfl, _, _, rfl⟩ ⟨rfl, rfl, rfl, rfl, rfl, rfl, rfl, trivial⟩ ?_
      rintro ⟨i, x, ys⟩ ⟨hi, hys, px, cx, hxe⟩
      dsimp only at hi hys hxe ⊢
      subst hxe
      have hyl : ys.length ≤ i := by rw [hys]; exact Nat.le_trans (List.length_filter_le _ _) (by rw [List.length_take]; omega)
      refine V_opn 903 rfl fun v903 H3 s3 hF => ?_
      by_cases hlt : i < zs1.length
      · obtain ⟨⟨f, sv⟩, hzi⟩ := get_some hlt
        have hsvw := (hcf.it i _ hzi).1
        obtain ⟨psv, csv, hsve⟩ := slw_sh hsvw
        dsimp only at hsve
        subst hsve
        have htk := take_kept (id := id) hzi
        obtain ⟨r0, hq0⟩ := fl_dropKR (k := 0) (v := .int .i64 f.id) hzi rfl rest (off := 0 + i * 14 + 0) rfl
        obtain ⟨r14, hq14⟩ := fl_drop14 hzi rest
        by_cases hid : f.id = id
        · have hkf : kept id (f, Value.slice psv f.is.length csv) = false := by unfold kept; simpa using hid
          rw [hkf] at htk
          simp only [Bool.false_eq_true, if_false, List.append_nil] at htk
          have hb73 := s3.le _ _ hb7
          have hbf3 := s3.le _ _ (s2.le _ _ hbf)
          refine ze ?_; refine ze ?_; refine zb (id := 8) ?_; refine Zs1 ?_; refine Zs19 ?_; refine Zs41 ?_; refine Zs35 ?_; refine Zs11 ?_; refine zd ?_; refine zf ?_; refine zw rfl ?_; refine zt ?_; refine zf ?_; refine ze ?_; refine zy ?_; refine ze ?_; refine zb (id := 10) ?_; refine Zs19 ?_; refine Zs41 ?_; refine Zs1 ?_; refine z7 (zp L _ rfl rfl rfl rfl rfl rfl rfl (by omega)) rfl ?_; refine Zs19 ?_; refine z7 (zj L (qz rfl hbf3) rfl rfl rfl hq0) rfl ?_; refine Zs1 ?_; refine Zs10 ?_; refine zd ?_; refine zf ?_; refine zm rfl ?_; refine zt ?_; refine qm ?_; refine zf ?_; refine zb (id := 9) ?_; refine Zs1 ?_; refine Zs13 ?_; refine Zs2 ?_; refine zd ?_
          refine N_fact 903 (FactL H2 ys (.slice px ys.length cx)) FactL.mono hF ?_
          exact N_roundS (x := (i, .slice px ys.length cx, ys)) (i + 1, .slice px ys.length cx, ys) s3 ⟨hlt, by dsimp only; rw [htk]; exact hys, px, cx, rfl⟩ (by dsimp only; omega) ⟨rfl, rfl, rfl, rfl, rfl, rfl, rfl, trivial⟩
        · have hkf : kept id (f, Value.slice psv f.is.length csv) = true := by unfold kept; simpa using hid
          rw [hkf] at htk
          simp only [if_true] at htk
          have e1 : (ys ++ [(f, Value.slice psv f.is.length csv)]).length = ys.length + 1 := by simp
          have e2 : (ys ++ [(f, Value.slice psv f.is.length csv)]).flatMap flc = ys.flatMap flc ++ flc (f, Value.slice psv f.is.length csv) := by simp
          rcases hF.1.2 with ⟨hy0, hx0⟩ | ⟨bx, capx, restx, hx0, hbx, d3, d4, d5⟩
          · have hys0 : ys = [] := List.eq_nil_of_length_eq_zero hy0
            have hb73 := s3.le _ _ hb7
            have hbf3 := s3.le _ _ (s2.le _ _ hbf)
            rw [hx0]
            refine ze ?_; refine ze ?_; refine zb (id := 8) ?_; refine Zs1 ?_; refine Zs19 ?_; refine Zs41 ?_; refine Zs35 ?_; refine Zs11 ?_; refine zd ?_; refine zf ?_; refine zw rfl ?_; refine zt ?_; refine zf ?_; refine ze ?_; refine zy ?_; refine ze ?_; refine zb (id := 10) ?_; refine Zs19 ?_; refine Zs41 ?_; refine Zs1 ?_; refine z7 (zp L _ rfl rfl rfl rfl rfl rfl rfl (by omega)) rfl ?_; refine Zs19 ?_; refine z7 (zj L (qz rfl hbf3) rfl rfl rfl hq0) rfl ?_; refine Zs1 ?_; refine Zs27 ?_; refine zd ?_; refine zf ?_; refine zw rfl ?_; refine zz (id := 11) [(200041, [902]), (100049, [902])] mixed (by kernel_rfl) ?_; refine Zs38 ?_; refine q8 (zx L (q := 902) rfl rfl rfl rfl rfl rfl) rfl rfl ?_; refine Zs38 ?_; refine Zs72 ?_; refine Zs7 ?_; refine z8 (zp L _ rfl rfl rfl rfl rfl rfl rfl (by omega)) rfl ?_; refine z8 (zn L (vs := [_, _, _, _, _, _, _, _, _, _, _, _, _, _]) (qz rfl hbf3) rfl rfl rfl rfl ⟨r14, hq14⟩) rfl ?_; refine Zs76 ?_; refine z8 (StepOK.pubW (ok_append0 L (m := 1) rfl rfl rfl (apd_B rfl) rfl el49 rfl rfl (by omega) (by omega))) rfl ?_; refine Zs38 ?_; refine y9 (ok_storeHS L (q := 902) SlWN.mono rfl rfl rfl rfl rfl (fun _ _ h => slw_cell h.1) (by show 0 + 1 + 1 ≤ 2; omega)) rfl ?_; refine qk ?_; refine qm ?_; refine zf ?_; refine zb (id := 9) ?_; refine Zs1 ?_; refine Zs13 ?_; refine Zs2 ?_; refine zd ?_
            refine N_opnX 902 rfl fun cs H5 s5 ⟨cs0, y, hcs, hyw, hce⟩ => ?_
            subst hcs hce
            obtain ⟨p9, c9, hye⟩ := slw_sh hyw.1
            subst hye
            subst hys0
            refine N_fact 903 (FactL H2 [(f, Value.slice psv f.is.length csv)] (.slice p9 1 c9)) FactL.mono ⟨hyw.1, hyw.2.le s3.le⟩ ?_
            exact N_roundS (x := (i, .slice px 0 cx, [])) (i + 1, .slice p9 1 c9, [(f, Value.slice psv f.is.length csv)]) (s3.trans s5) ⟨hlt, by dsimp only; rw [htk, ← hys]; rfl, p9, c9, rfl⟩ (by dsimp only; omega) ⟨rfl, rfl, rfl, rfl, rfl, rfl, rfl, trivial⟩
          · have hbx2 : H2 bx = none := hF.2 _ _ _ _ _ hx0
            rw [hx0]
            refine V_unpub (B0 := H2) (κ1 := ofL [(1, .is (.int .i64 id)), (4, .own (Cell [.int .i64 0, .slice none 0 0] tyT)), (6, .is (.pointer (some ⟨b6, 0, none⟩))), (7, .is (.pointer (some ⟨b7, 0, none⟩))), (8, .is (.int .i64 i)), (902, .own (HeldR b6 [.int .i64 t.nx, .slice (some ⟨bx, 0, none⟩) ys.length capx] tyT))]) 901 [(bx, ys.flatMap flc ++ restx, tyF)] s3 (fun y hy => by rw [List.mem_singleton.1 hy]; exact ⟨hbx, hbx2⟩) (hfree_of ⟨rfl, rfl, rfl, rfl, rfl, rfl, trivial⟩ fun p hp => by
              simp only [List.mem_cons, List.mem_nil_iff, or_false] at hp
              rcases hp with rfl | rfl | rfl | rfl | rfl | rfl
              · exact trivial
              · exact hfree_cell
              · exact trivial
              · exact trivial
              · exact trivial
              · exact hfree_held) ?_
            refine V_splitL 901 904 (by decide) (fun y hy => by cases hy) rfl ?_
            have s4 : Since (Fr.pure w) H2 (H3.off [(bx, ys.flatMap flc ++ restx, tyF)]) := since_off s3 fun y hy => by rw [List.mem_singleton.1 hy]; exact hbx2
            have hb73 := s4.le _ _ hb7
            have hbf3 := s4.le _ _ (s2.le _ _ hbf)
            refine ze ?_; refine ze ?_; refine zb (id := 8) ?_; refine Zs1 ?_; refine Zs19 ?_; refine Zs41 ?_; refine Zs35 ?_; refine Zs11 ?_; refine zd ?_; refine zf ?_; refine zw rfl ?_; refine zt ?_; refine zf ?_; refine ze ?_; refine zy ?_; refine ze ?_; refine zb (id := 10) ?_; refine Zs19 ?_; refine Zs41 ?_; refine Zs1 ?_; refine z7 (zp L _ rfl rfl rfl rfl rfl rfl rfl (by omega)) rfl ?_; refine Zs19 ?_; refine z7 (zj L (qz rfl hbf3) rfl rfl rfl hq0) rfl ?_; refine Zs1 ?_; refine Zs27 ?_; refine zd ?_; refine zf ?_; refine zw rfl ?_; refine zz (id := 11) [(200041, [902]), (100049, [902]), (48, [904])] mixed (by kernel_rfl) ?_; refine Zs38 ?_; refine q8 (zx L (q := 902) rfl rfl rfl rfl rfl rfl) rfl rfl ?_; refine Zs38 ?_; refine Zs72 ?_; refine Zs7 ?_; refine z8 (zp L _ rfl rfl rfl rfl rfl rfl rfl (by omega)) rfl ?_; refine z8 (zn L (vs := [_, _, _, _, _, _, _, _, _, _, _, _, _, _]) (qz rfl hbf3) rfl rfl rfl rfl ⟨r14, hq14⟩) rfl ?_; refine Zs76 ?_; refine par_step2 (StepOK2.pubW (ok_appendH L (q := 904) (m := 1) rfl rfl rfl rfl (flatMap_len flc_len ys) d3 d4 d5 (apd_B rfl) rfl el49 rfl rfl (by omega) (by omega))) rfl rfl ?_; refine Zs38 ?_; refine y9 (ok_storeHS L (q := 902) SlWN.mono rfl rfl rfl rfl rfl (fun _ _ h => slw_cell h.1) (by show 0 + 1 + 1 ≤ 2; omega)) rfl ?_; refine qk ?_; refine qm ?_; refine zf ?_; refine zb (id := 9) ?_; refine Zs1 ?_; refine Zs13 ?_; refine Zs2 ?_; refine zd ?_
            refine N_opnX 902 rfl fun cs H5 s5 ⟨cs0, y, hcs, hyw, hce⟩ => ?_
            subst hcs hce
            obtain ⟨p9, c9, hye⟩ := slw_sh hyw.1
            subst hye
            refine N_fact 903 (FactL H2 (ys ++ [(f, Value.slice psv f.is.length csv)]) (.slice p9 (ys.length + 1) c9)) FactL.mono ⟨by rw [e1, e2]; exact hyw.1, hyw.2.le s4.le⟩ ?_
            exact N_roundS (x := (i, .slice px ys.length cx, ys)) (i + 1, .slice p9 (ys.length + 1) c9, ys ++ [(f, Value.slice psv f.is.length csv)]) (s4.trans s5) ⟨hlt, by dsimp only; rw [htk, ← hys], p9, c9, by rw [e1]⟩ (by dsimp only; omega) ⟨rfl, rfl, rfl, rfl, rfl, rfl, rfl, trivial⟩
      · obtain rfl : i = zs1.length := by omega
        rw [List.take_length] at hys
        have hb73 := s3.le _ _ hb7
        refine ze ?_; refine ze ?_; refine zb (id := 8) ?_; refine Zs1 ?_; refine Zs19 ?_; refine Zs41 ?_; refine Zs35 ?_; refine Zs8 ?_; refine zd ?_; refine zf ?_; refine zm rfl ?_; refine y7 ?_; refine qg ?_; refine qg ?_; refine y6 ?_; refine zf ?_; refine ze ?_; refine zb (id := 12) ?_; refine vo_stepR (ok_loadHA L (q := 902) (vs := [_, _]) rfl rfl rfl rfl rfl rfl ⟨_, rfl⟩) ?_; refine Zs14 ?_; refine Zs2 ?_; refine zd ?_; refine zf ?_
        refine qn L (rs := [.cell 4 24, .tmp 5]) rfl (fun _ _ h => h) ((s1.trans s2).trans s3) fun u H hH hle => ?_
        refine resK_cellA (qe rfl) rfl rfl ?_
        refine ⟨_, rfl, TbR.mono ⟨ys, _, rfl, by rw [hys]; exact map_kept hcf.fl id, ⟨hF.1.toV, fun j z hz => ?_, by omega, fun j z hz => ?_⟩⟩ hle⟩
        · rw [hys] at hz
          obtain ⟨j', hj⟩ := filter_get hz
          exact ((hcf.it j' z hj).1.toV.le s2.le).le s3.le
        · rw [hys] at hz
          obtain ⟨j', hj⟩ := filter_get hz
          have := hit z.1 (fls_mem (fls_get hcf.fl hj)); omega
  · have hpl := (pl_chk (id := id) (by rw [hc]; exact h0)).1
    rw [ldT0 (by rw [hpl, hc]; exact h0), hpl, hc]
    refine ze ?_; refine zb (id := 0) ?_; refine Zs21 ?_; refine Zs24 ?_; refine Zs2 ?_; refine zd ?_; refine zf ?_; refine ze ?_; refine ze ?_; refine zb (id := 1) ?_; refine z7 (zn L (vs := [_, _]) (zl rfl) rfl rfl rfl rfl ⟨_, rfl⟩) rfl ?_; refine z7 (zo L rfl rfl (zg rfl) rfl rfl rfl (fun u H hH hle _ => rcheck_ret hz (hs.le hle) hZ hI hn hc hH)) rfl ?_; refine Zs23 ?_; refine zd ?_; refine zf ?_; refine zw rfl ?_; refine ze ?_; refine zb (id := 2) ?_; refine z7 (qt (cs := [_, _]) rfl rfl pl24 rfl rfl) rfl ?_; refine z7 (zn L (vs := [_, _]) (zl rfl) rfl rfl rfl rfl ⟨_, rfl⟩) rfl ?_; refine z7 (zo L rfl rfl (zg rfl) rfl rfl rfl (fun u H hH hle _ => rcheck_ret hz (hs.le hle) hZ hI hn hc hH)) rfl ?_; refine Zs14 ?_; refine Zs2 ?_; refine zd ?_; refine zf ?_
    refine qn L (rs := [.cell 4 24, .tmp 5]) rfl (fun _ _ h => h) Since.refl fun u H hH hle => ?_
    refine resK_cellA (qe rfl) rfl rfl ?_
    exact ⟨_, rfl, tbr_zero⟩
end Go.V.L39
namespace Go.V.L39
open Go.Proofs Go.RowKit Go.V
section
variable {P : Program} {F : Fr} {B : Heap} {n : Nat} {O : Boxes} {ops : Array Oper} {ex : Exs} {κ : Kap} {Q : Exit → Act → World → Prop} {o : Oper} {os : List Oper} {d : Nat} {k : Kn}
theorem _root_.Go.V.Zs47 (h : Par P F B n O ops ex (upd κ d k) os Q) (s : StepOK P F B n ops O κ o d k := by exact ok_not rfl rfl rfl rfl) (v : vd o = some d := by rfl) : Par P F B n O ops ex κ (o :: os) Q := z8 s v h
end
def RJoinP (r : Tb × Int × Bool) (e : Int) : Value → Heap → Prop := fun v H => ∃ tv, v = .tuple #[tv, .int .i64 r.2.1, .int .i64 (if r.2.2 = true then 1 else 0), .int .i64 e] ∧ TbR r.1 tv H
theorem RJoinP.mono {r : Tb × Int × Bool} {e : Int} : Kn.mono (.sat (RJoinP r e)) := fun _ _ _ ⟨tv, h1, h2⟩ hle => ⟨tv, h1, h2.mono hle⟩
theorem fl_drop6 {zs : List (Fl × Value)} {i : Nat} {f : Fl} {sv : Value} (h : zs[i]? = some (f, sv)) (rest : List Value) : ∃ r, (zs.flatMap flc ++ rest).drop (0 + i * 14 + 2) = [.int .u8 f.q.kd, .string f.q.g.1.1, .string f.q.g.1.2, .string f.q.g.2, .string f.q.u.1, .string f.q.u.2] ++ r := by
  obtain ⟨r, hr⟩ := fl_drop14 h rest
  exact ⟨[.int .i64 f.cl, .int .i64 f.cs, .int .i64 f.si, .int .i64 f.ve, .int .i64 f.sp, sv] ++ r, by rw [← List.drop_drop, hr]; rfl⟩
theorem slw_cells {e : TypeId} {s n : Nat} {xs : List Value} {v : Value} {H : Heap} (h : SlW e s n xs v H) : cellsL v = [v] := by
  obtain ⟨p, c, rfl⟩ := slw_sh h
  rfl
theorem cpy_items2 {B H : Heap} {l : List Fl} {zs : List (Fl × Value)} {b n cap i bi ni ci : Nat} {f : Fl} {cs csi : List Value} (h : CpyF B l zs (.slice (some ⟨b, 0, none⟩) n cap) H) (hi : zs[i]? = some (f, .slice (some ⟨bi, 0, none⟩) ni ci)) {j : Nat} {z : Fl × Value} (hz : zs[j]? = some z) (hji : j ≠ i) : IsV z.1.is false z.2 (H.off [(b, cs, tyF), (bi, csi, tyI)]) :=
  SlV.off (h.it j z hz).1.toV fun y hy b' o k m c e => by
    simp only [List.mem_cons, List.mem_nil_iff, or_false] at hy
    rcases hy with rfl | rfl
    · exact fun e2 => h.af j z hz b' o k m c b 0 none n cap e rfl e2.symm
    · rcases Nat.lt_or_ge j i with hlt | hge
      · exact fun e2 => h.ap j i z _ hlt hz hi b' o k m c bi 0 none ni ci e rfl e2.symm
      · exact fun e2 => h.ap i j _ z (by omega) hi hz bi 0 none ni ci b' o k m c rfl e e2
attribute [local irreducible] V N X VO Par StepOK Has Ret RetL RetO RetT RetG Src
set_option maxHeartbeats 8000000 in
set_option maxRecDepth 20000 in
theorem rjoin_ret {t : Tb} {q : Qu} {rv : Int} {x : It} {rd : Int} {lo : Bool} {zs : List (Fl × Value)} (hz : zs.map Prod.fst = t.fl) {fu fi : Bool} {s : Value} {w : World} {B0 : Heap} (hs0 : FsB zs fu fi s B0) (hZ : ∀ f ∈ t.fl, QuZ f.q) (hI : ∀ f ∈ t.fl, ∀ x ∈ f.is, 0 ≤ x.rv) (hQ : QuZ q) (hxr : 0 ≤ x.rv) (hn : itsN t.fl ≤ 9223372036854775807) (hln : zs.length ≤ 40000) (hB : B0.Le (hp w)) :
    Ret Try.prog 12 [tbv t.nx s, quv q, .int .u64 rv, itv x, .int .i64 rd, .bool lo] w B0 (RJoinP (joinT t q rv x rd lo) (joinE t q rv x rd lo)) := by
  have hlen := fls_len hz
  refine ya Try.func12 rfl Try.ntmps12 (Nat.le_of_ble_eq_true rfl) hB ?_
  refine ze ?_; refine zb (id := 0) ?_; refine Zs21 ?_; refine Zs21 ?_; refine Zs21 ?_; refine Zs24 ?_; refine Zs2 ?_; refine Zs2 ?_; refine Zs2 ?_; refine zd ?_; refine zf ?_; refine ze ?_; refine ze ?_
  refine V_opn 6 rfl fun v6 H1 s1 ⟨b6, e6, hb6⟩ => ?_
  subst e6
  refine V_opn 7 rfl fun v7 H2 s2 ⟨b7, e7, hb7⟩ => ?_
  subst e7
  refine V_opn 9 rfl fun v9 B s3 ⟨b9, e9, hb9⟩ => ?_
  subst e9
  have hs0B := (s1.trans s2).trans s3
  have hs := hs0.le hs0B.le
  have hsl := hs.sl
  replace hb6 := s3.le _ _ (s2.le _ _ hb6)
  replace hb7 := s3.le _ _ hb7
  clear hs0
  obtain ⟨e1, hc⟩ : ∃ e, chkE t = e := ⟨_, rfl⟩
  obtain ⟨e2, hq⟩ : ∃ e, quE q = e := ⟨_, rfl⟩
  obtain ⟨vx, hv⟩ : ∃ e, itV x = e := ⟨_, rfl⟩
  have hp1 : 0 ≤ e1 := by rw [← hc]; exact chkE_pos t
  have hp2 : 0 ≤ e2 := by rw [← hq]; exact quE_pos q
  by_cases h1 : e1 = 0
  · subst h1
    have hT := chkE_iff.1 hc
    have h1024 := chk_its hc
    have hit : ∀ f ∈ t.fl, f.is.length ≤ 40000 := fun f hf => by have := is_le hf; omega
    have hl0 := hT.last0
    by_cases h2 : e2 = 0
    · subst h2
      refine zb (id := 1) ?_; refine z7 (zn L (vs := [_, _]) (qz rfl (by assumption)) rfl rfl rfl rfl ⟨_, rfl⟩) rfl ?_; refine z7 (zo L rfl rfl (zg rfl) rfl rfl rfl (fun u H hH hle _ => rcheck_ret hz (hs.le hle) hZ hI hn hc hH)) rfl ?_; refine Zs16 ?_; refine zd ?_; refine zf ?_; refine zm rfl ?_; refine zt ?_; refine zf ?_; refine ze ?_; refine ze ?_; refine zb (id := 3) ?_; refine z7 (zn L (vs := [_, _, _, _, _, _]) (qz rfl (by assumption)) rfl rfl rfl rfl ⟨_, rfl⟩) rfl ?_; refine z7 (zo L rfl rfl (zg rfl) rfl rfl rfl (fun u H hH _ _ => rquery_ret hQ hq hH)) rfl ?_; refine Zs16 ?_; refine zd ?_; refine zf ?_; refine zm rfl ?_; refine zt ?_; refine zf ?_; refine ze ?_; refine ze ?_
      cases vx with
      | false =>
        have hE := jE3 (rd := rd) (lo := lo) (rv := rv) hc hq (Or.inl hv)
        rw [hE, jT0 (by rw [hE]; decide)]
        refine zb (id := 5) ?_; refine z7 (zn L (vs := [_, _, _, _, _]) (qz rfl (by assumption)) rfl rfl rfl rfl ⟨_, rfl⟩) rfl ?_; refine z7 (zo L rfl rfl (zg rfl) rfl rfl rfl (fun u H hH _ _ => ritem_ret hxr hv hH)) rfl ?_; refine z7 (q9 rfl rfl rfl rfl rfl) rfl ?_; refine Zs1 ?_; refine Zs3 ?_; refine Zs3 ?_; refine Zs6 ?_; refine Zs1 ?_; refine Zs3 ?_; refine Zs3 ?_; refine Zs6 ?_; refine Zs1 ?_; refine Zs3 ?_; refine Zs3 ?_; refine Zs6 ?_; refine zd ?_; refine zf ?_; refine zw rfl ?_; refine ze ?_; refine zb (id := 6) ?_; refine z7 (qt (cs := [_, _]) rfl rfl pl24 rfl rfl) rfl ?_; refine Zs14 ?_; refine Zs2 ?_; refine Zs2 ?_; refine Zs2 ?_; refine zd ?_; refine zf ?_
        refine qn L (rs := [.cell 12 24, .tmp 13, .tmp 14, .tmp 15]) rfl (fun _ _ h => h) hs0B fun u H hH hle => ?_
        refine resK_cellA (qe rfl) rfl rfl ?_
        exact ⟨_, rfl, tbr_zero⟩
      | true =>
        by_cases hr0 : rv = 0
        · have hE := jE3 (x := x) (rd := rd) (lo := lo) (rv := rv) hc hq (Or.inr (Or.inl hr0))
          rw [hE, jT0 (by rw [hE]; decide)]
          refine zb (id := 5) ?_; refine z7 (zn L (vs := [_, _, _, _, _]) (qz rfl (by assumption)) rfl rfl rfl rfl ⟨_, rfl⟩) rfl ?_; refine z7 (zo L rfl rfl (zg rfl) rfl rfl rfl (fun u H hH _ _ => ritem_ret hxr hv hH)) rfl ?_; refine z7 (q9 rfl rfl rfl rfl rfl) rfl ?_; refine Zs1 ?_; refine Zs1 ?_; refine Zs15 ?_; refine Zs6 ?_; refine Zs1 ?_; refine Zs3 ?_; refine Zs3 ?_; refine Zs6 ?_; refine Zs1 ?_; refine Zs3 ?_; refine Zs3 ?_; refine Zs6 ?_; refine zd ?_; refine zf ?_; refine zw rfl ?_; refine ze ?_; refine zb (id := 6) ?_; refine z7 (qt (cs := [_, _]) rfl rfl pl24 rfl rfl) rfl ?_; refine Zs14 ?_; refine Zs2 ?_; refine Zs2 ?_; refine Zs2 ?_; refine zd ?_; refine zf ?_
          refine qn L (rs := [.cell 12 24, .tmp 13, .tmp 14, .tmp 15]) rfl (fun _ _ h => h) hs0B fun u H hH hle => ?_
          refine resK_cellA (qe rfl) rfl rfl ?_
          exact ⟨_, rfl, tbr_zero⟩
        · by_cases hr1 : rd < 0
          · have hE := jE3 (x := x) (rd := rd) (lo := lo) (rv := rv) hc hq (Or.inr (Or.inr (Or.inl (by omega))))
            rw [hE, jT0 (by rw [hE]; decide)]
            refine zb (id := 5) ?_; refine z7 (zn L (vs := [_, _, _, _, _]) (qz rfl (by assumption)) rfl rfl rfl rfl ⟨_, rfl⟩) rfl ?_; refine z7 (zo L rfl rfl (zg rfl) rfl rfl rfl (fun u H hH _ _ => ritem_ret hxr hv hH)) rfl ?_; refine z7 (q9 rfl rfl rfl rfl rfl) rfl ?_; refine Zs1 ?_; refine Zs1 ?_; refine Zs9 ?_; refine Zs6 ?_; refine Zs1 ?_; refine Zs1 ?_; refine Zs11 ?_; refine Zs6 ?_; refine Zs1 ?_; refine Zs3 ?_; refine Zs3 ?_; refine Zs6 ?_; refine zd ?_; refine zf ?_; refine zw rfl ?_; refine ze ?_; refine zb (id := 6) ?_; refine z7 (qt (cs := [_, _]) rfl rfl pl24 rfl rfl) rfl ?_; refine Zs14 ?_; refine Zs2 ?_; refine Zs2 ?_; refine Zs2 ?_; refine zd ?_; refine zf ?_
            refine qn L (rs := [.cell 12 24, .tmp 13, .tmp 14, .tmp 15]) rfl (fun _ _ h => h) hs0B fun u H hH hle => ?_
            refine resK_cellA (qe rfl) rfl rfl ?_
            exact ⟨_, rfl, tbr_zero⟩
          · by_cases hr2 : 4611686018427387904 < rd
            · have hE := jE3 (x := x) (rd := rd) (lo := lo) (rv := rv) hc hq (Or.inr (Or.inr (Or.inr hr2)))
              rw [hE, jT0 (by rw [hE]; decide)]
              refine zb (id := 5) ?_; refine z7 (zn L (vs := [_, _, _, _, _]) (qz rfl (by assumption)) rfl rfl rfl rfl ⟨_, rfl⟩) rfl ?_; refine z7 (zo L rfl rfl (zg rfl) rfl rfl rfl (fun u H hH _ _ => ritem_ret hxr hv hH)) rfl ?_; refine z7 (q9 rfl rfl rfl rfl rfl) rfl ?_; refine Zs1 ?_; refine Zs1 ?_; refine Zs9 ?_; refine Zs6 ?_; refine Zs1 ?_; refine Zs1 ?_; refine Zs8 ?_; refine Zs6 ?_; refine Zs1 ?_; refine Zs1 ?_; refine Zs23 ?_; refine Zs6 ?_; refine zd ?_; refine zf ?_; refine zw rfl ?_; refine ze ?_; refine zb (id := 6) ?_; refine z7 (qt (cs := [_, _]) rfl rfl pl24 rfl rfl) rfl ?_; refine Zs14 ?_; refine Zs2 ?_; refine Zs2 ?_; refine Zs2 ?_; refine zd ?_; refine zf ?_
              refine qn L (rs := [.cell 12 24, .tmp 13, .tmp 14, .tmp 15]) rfl (fun _ _ h => h) hs0B fun u H hH hle => ?_
              refine resK_cellA (qe rfl) rfl rfl ?_
              exact ⟨_, rfl, tbr_zero⟩
            · refine zb (id := 5) ?_; refine z7 (zn L (vs := [_, _, _, _, _]) (qz rfl (by assumption)) rfl rfl rfl rfl ⟨_, rfl⟩) rfl ?_; refine z7 (zo L rfl rfl (zg rfl) rfl rfl rfl (fun u H hH _ _ => ritem_ret hxr hv hH)) rfl ?_; refine z7 (q9 rfl rfl rfl rfl rfl) rfl ?_; refine Zs1 ?_; refine Zs1 ?_; refine Zs9 ?_; refine Zs6 ?_; refine Zs1 ?_; refine Zs1 ?_; refine Zs8 ?_; refine Zs6 ?_; refine Zs1 ?_; refine Zs1 ?_; refine Zs16 ?_; refine Zs6 ?_; refine zd ?_; refine zf ?_; refine zm rfl ?_; refine zt ?_; refine zf ?_; refine ze ?_; refine ze ?_; refine zb (id := 7) ?_; refine Zs2 ?_; refine zd ?_; refine zf ?_; refine zy ?_
              refine V_loop (fun i : Nat => [(2, .is (.int .u64 rv)), (4, .is (.int .i64 rd)), (5, .is (.bool lo)), (6, .is (.pointer (some ⟨b6, 0, none⟩))), (7, .is (.pointer (some ⟨b7, 0, none⟩))), (9, .is (.pointer (some ⟨b9, 0, none⟩))), (12, .own (Cell [.int .i64 0, .slice none 0 0] tyT)), (16, .is (.int .i64 i))]) (fun i => i ≤ zs.length ∧ ∀ (j : Nat) g, j < i → t.fl[j]? = some g → g.si ≤ rd) (fun i => zs.length - i) 0 ⟨Nat.zero_le _, fun j _ h => absurd h (Nat.not_lt_zero _)⟩ ⟨rfl, rfl, rfl, rfl, rfl, rfl, rfl, rfl, trivial⟩ ?_
              rintro i ⟨hi, hno⟩
              by_cases hlt : i < zs.length
              · obtain ⟨f, p, c, hzi, hli, hzv, hil, hc14⟩ := hs.at hz hlt
                by_cases hsi : rd < f.si
                · have hlast := (last_ex hT (by omega)).1 ⟨f, fls_mem hli, hsi⟩
                  have hE := jE3 (x := x) (rd := rd) (lo := lo) (rv := rv) hc hq (Or.inr (Or.inr (Or.inl hlast)))
                  rw [hE, jT0 (by rw [hE]; decide)]
                  refine ze ?_; refine ze ?_; refine zb (id := 8) ?_; refine Zs1 ?_; refine Zs19 ?_; refine z7 (StepOK.seeV (zj L (qz rfl (by assumption)) rfl rfl rfl rfl) (by assumption)) rfl ?_; refine Zs31 ?_; refine Zs11 ?_; refine zd ?_; refine zf ?_; refine zw rfl ?_; refine zt ?_; refine zf ?_; refine ze ?_; refine zy ?_; refine ze ?_; refine zb (id := 10) ?_; refine Zs1 ?_; refine Zs19 ?_; refine z7 (StepOK.seeV (zj L (qz rfl (by assumption)) rfl rfl rfl rfl) (by assumption)) rfl ?_; refine Zs1 ?_; refine z7 (qb L _ rfl rfl rfl rfl rfl rfl rfl (by first | omega | decide) (by assumption)) rfl ?_; refine Zs45 ?_; refine Zs43 ?_; refine Zs11 ?_; refine zd ?_; refine zf ?_; refine zw rfl ?_; refine ze ?_; refine zb (id := 11) ?_; refine z7 (qt (cs := [_, _]) rfl rfl pl24 rfl rfl) rfl ?_; refine Zs14 ?_; refine Zs2 ?_; refine Zs2 ?_; refine Zs2 ?_; refine zd ?_; refine zf ?_
                  refine qn L (rs := [.cell 12 24, .tmp 13, .tmp 14, .tmp 15]) rfl (fun _ _ h => h) hs0B fun u H hH hle => ?_
                  refine resK_cellA (qe rfl) rfl rfl ?_
                  exact ⟨_, rfl, tbr_zero⟩
                · refine ze ?_; refine ze ?_; refine zb (id := 8) ?_; refine Zs1 ?_; refine Zs19 ?_; refine z7 (StepOK.seeV (zj L (qz rfl (by assumption)) rfl rfl rfl rfl) (by assumption)) rfl ?_; refine Zs31 ?_; refine Zs11 ?_; refine zd ?_; refine zf ?_; refine zw rfl ?_; refine zt ?_; refine zf ?_; refine ze ?_; refine zy ?_; refine ze ?_; refine zb (id := 10) ?_; refine Zs1 ?_; refine Zs19 ?_; refine z7 (StepOK.seeV (zj L (qz rfl (by assumption)) rfl rfl rfl rfl) (by assumption)) rfl ?_; refine Zs1 ?_; refine z7 (qb L _ rfl rfl rfl rfl rfl rfl rfl (by first | omega | decide) (by assumption)) rfl ?_; refine Zs45 ?_; refine Zs43 ?_; refine Zs8 ?_; refine zd ?_; refine zf ?_; refine zm rfl ?_; refine zt ?_; refine qm ?_; refine zf ?_; refine zb (id := 9) ?_; refine Zs1 ?_; refine Zs13 ?_; refine Zs2 ?_; refine zd ?_
                  exact y1 (x := i) (i + 1) ⟨hlt, fun j g hj hg => by
                    rcases Nat.lt_or_ge j i with h | h
                    · exact hno j g h hg
                    · have : j = i := by omega
                      subst this; rw [hli] at hg; cases hg; omega⟩ (by omega) ⟨rfl, rfl, rfl, rfl, rfl, rfl, rfl, rfl, trivial⟩
              · obtain rfl : i = zs.length := by omega
                have hlast : ¬ rd < lastS t.fl := fun h => by
                  obtain ⟨f, hf, hsi⟩ := (last_ex hT (by omega)).2 h
                  obtain ⟨j, hj⟩ := List.getElem?_of_mem hf
                  have := hno j f (by have := get_lt hj; omega) hj
                  omega
                have h3 : ¬ (itV x = false ∨ rv = 0 ∨ rd < lastS t.fl ∨ 4611686018427387904 < rd) := by rw [hv]; simp; omega
                by_cases h4a : itsN t.fl = 1024
                · have hE := jE4 (q := q) (rv := rv) (lo := lo) hc hq h3 (Or.inl h4a)
                  rw [hE, jT0 (by rw [hE]; decide)]
                  refine ze ?_; refine ze ?_; refine zb (id := 8) ?_; refine Zs1 ?_; refine Zs19 ?_; refine z7 (StepOK.seeV (zj L (qz rfl (by assumption)) rfl rfl rfl rfl) (by assumption)) rfl ?_; refine Zs31 ?_; refine Zs8 ?_; refine zd ?_; refine zf ?_; refine zm rfl ?_; refine y7 ?_; refine qg ?_; refine qg ?_; refine y6 ?_; refine zf ?_; refine ze ?_; refine ze ?_; refine zb (id := 12) ?_; refine z7 (zn L (vs := [_, _]) (qz rfl (by assumption)) rfl rfl rfl rfl ⟨_, rfl⟩) rfl ?_; refine z7 (zo L rfl rfl (zg rfl) rfl rfl rfl (fun u H hH hle _ => ritems_ret hz (hs.le hle) hn hH)) rfl ?_; refine Zs15 ?_; refine zd ?_; refine zf ?_; refine zw rfl ?_; refine ze ?_; refine zb (id := 13) ?_; refine z7 (qt (cs := [_, _]) rfl rfl pl24 rfl rfl) rfl ?_; refine Zs14 ?_; refine Zs2 ?_; refine Zs2 ?_; refine Zs2 ?_; refine zd ?_; refine zf ?_
                  refine qn L (rs := [.cell 12 24, .tmp 13, .tmp 14, .tmp 15]) rfl (fun _ _ h => h) hs0B fun u H hH hle => ?_
                  refine resK_cellA (qe rfl) rfl rfl ?_
                  exact ⟨_, rfl, tbr_zero⟩
                · refine ze ?_; refine ze ?_; refine zb (id := 8) ?_; refine Zs1 ?_; refine Zs19 ?_; refine z7 (StepOK.seeV (zj L (qz rfl (by assumption)) rfl rfl rfl rfl) (by assumption)) rfl ?_; refine Zs31 ?_; refine Zs8 ?_; refine zd ?_; refine zf ?_; refine zm rfl ?_; refine y7 ?_; refine qg ?_; refine qg ?_; refine y6 ?_; refine zf ?_; refine ze ?_; refine ze ?_; refine zb (id := 12) ?_; refine z7 (zn L (vs := [_, _]) (qz rfl (by assumption)) rfl rfl rfl rfl ⟨_, rfl⟩) rfl ?_; refine z7 (zo L rfl rfl (zg rfl) rfl rfl rfl (fun u H hH hle _ => ritems_ret hz (hs.le hle) hn hH)) rfl ?_; refine Zs9 ?_; refine zd ?_; refine zf ?_; refine zm rfl ?_; refine zt ?_; refine zf ?_; refine ze ?_; refine zb (id := 14) ?_; refine z7 (zn L (vs := [_, _]) (qz rfl (by assumption)) rfl rfl rfl rfl ⟨_, rfl⟩) rfl ?_; refine z7 (ok_call (φ := CopyP B t) L rfl rfl (zg rfl) rfl rfl rfl CopyP.mono (fun u H hH hle _ => Ret.mono (rcopy_ret hz (hs.le hle) hln hit hH) fun v H' _ ⟨a, b, h1, h2⟩ => ⟨a, b, h1, h2.le hle⟩)) rfl ?_; refine vo_opn 68 rfl fun cv Hc sc hcv => ?_; obtain ⟨zs1, s', hve, hcf⟩ := hcv; subst hve; obtain ⟨ps, cs', hse⟩ := slw_sh hcf.fs; subst hse; refine Zs24 ?_; refine Zs14 ?_; refine zd ?_; refine zf ?_; refine ze ?_; refine ze ?_
                  have hl1 := fls_len hcf.fl
                  refine V_hold 17 902 rfl fun b17 => ?_
                  refine zb (id := 15) ?_; refine Zs2 ?_; refine zd ?_; refine zf ?_; refine zy ?_
                  refine V_loop (fun i : Nat => [(2, .is (.int .u64 rv)), (4, .is (.int .i64 rd)), (5, .is (.bool lo)), (6, .is (.pointer (some ⟨b6, 0, none⟩))), (7, .is (.pointer (some ⟨b7, 0, none⟩))), (9, .is (.pointer (some ⟨b9, 0, none⟩))), (12, .own (Cell [.int .i64 0, .slice none 0 0] tyT)), (17, .is (.pointer (some ⟨b17, 0, none⟩))), (18, .is (.int .i64 i)), (902, .own (HeldR b17 [.int .i64 t.nx, .slice ps zs1.length cs'] tyT))]) (fun i => i ≤ zs1.length ∧ ∀ (j : Nat) g, j < i → t.fl[j]? = some g → hitB q rv lo g = false) (fun i => zs1.length - i) 0 ⟨Nat.zero_le _, fun j _ h => absurd h (Nat.not_lt_zero _)⟩ ⟨rfl, rfl, rfl, rfl, rfl, rfl, rfl, rfl, rfl, rfl, trivial⟩ ?_
                  rintro i ⟨hi, hno⟩
                  have hb6c := sc.le _ _ hb6
                  have hb7c := sc.le _ _ hb7
                  have hb9c := sc.le _ _ hb9
                  by_cases hlt : i < zs1.length
                  · obtain ⟨bf, cap, rest, hse, hbf, d3, d4, d5, hbn⟩ := cpy_block hcf (by omega)
                    cases hse
                    obtain ⟨⟨f, sv⟩, hzi⟩ := get_some hlt
                    have hli := fls_get hcf.fl hzi
                    obtain ⟨r6, hq6⟩ := fl_drop6 hzi rest
                    obtain ⟨r1, hq1⟩ := fl_dropKR (k := 1) (v := .int .u64 f.rv) hzi rfl rest (off := 0 + i * 14 + 1) rfl
                    cases hh : hitB q rv lo f with
                    | false =>
                      have hnx : ∀ (j : Nat) g, j < i + 1 → t.fl[j]? = some g → hitB q rv lo g = false := fun j g hj hg => by
                        rcases Nat.lt_or_ge j i with h | h
                        · exact hno j g h hg
                        · have : j = i := by omega
                          subst this; rw [hli] at hg; cases hg; exact hh
                      by_cases hfq : f.q = q
                      · have hqe := eqQv (decide_eq_true hfq)
                        have hlo : lo = false := by
                          cases lo with
                          | false => rfl
                          | true => rw [hit_eq] at hh; simp [hfq] at hh
                        subst hlo
                        have hrv : f.rv ≠ rv := fun e => by rw [hit_eq] at hh; simp [hfq, e] at hh
                        refine ze ?_; refine ze ?_; refine zb (id := 16) ?_; refine Zs1 ?_; refine Zs19 ?_; refine vo_stepR (zx L (q := 902) rfl rfl rfl rfl rfl rfl) ?_; refine Zs35 ?_; refine Zs11 ?_; refine zd ?_; refine zf ?_; refine zw rfl ?_; refine zt ?_; refine zf ?_; refine ze ?_; refine zy ?_; refine ze ?_; refine ze ?_; refine zz (id := 18) [(200077, [902]), (200089, [902])] mixed (by kernel_rfl) ?_; refine Zs38 ?_; refine q8 (zx L (q := 902) rfl rfl rfl rfl rfl rfl) rfl rfl ?_; refine Zs7 ?_; refine z8 (zp L _ rfl rfl rfl rfl rfl rfl rfl (by omega)) rfl ?_; refine Zs38 ?_; refine z8 (zn L (vs := [_, _, _, _, _, _]) (qz rfl hbf) rfl rfl rfl rfl ⟨r6, hq6⟩) rfl ?_; refine z8 (zn L (vs := [_, _, _, _, _, _]) (qz rfl (by assumption)) rfl rfl rfl rfl ⟨_, rfl⟩) rfl ?_; refine z8 (ok_aneq rfl rfl rfl rfl eq30 (by assumption) rfl) rfl ?_; refine Zs7 ?_; refine Zs7 ?_; refine Zs47 ?_; refine Zs7 ?_; refine Zs38 ?_; refine q8 (zx L (q := 902) rfl rfl rfl rfl rfl rfl) rfl rfl ?_; refine Zs7 ?_; refine z8 (zp L _ rfl rfl rfl rfl rfl rfl rfl (by omega)) rfl ?_; refine Zs38 ?_; refine z8 (zj L (qz rfl hbf) rfl rfl rfl hq1) rfl ?_; refine Zs7 ?_; refine Zs79 ?_; refine Zs28 ?_; refine Zs28 ?_; refine qk ?_; refine zf ?_; refine zw rfl ?_; refine y7 ?_; refine qg ?_; refine y6 ?_; refine zf ?_; refine zb (id := 17) ?_; refine Zs1 ?_; refine Zs13 ?_; refine Zs2 ?_; refine zd ?_
                        exact y1 (x := i) (i + 1) ⟨hlt, hnx⟩ (by omega) ⟨rfl, rfl, rfl, rfl, rfl, rfl, rfl, rfl, rfl, rfl, trivial⟩
                      · have hqe := eqQv (decide_eq_false hfq)
                        refine ze ?_; refine ze ?_; refine zb (id := 16) ?_; refine Zs1 ?_; refine Zs19 ?_; refine vo_stepR (zx L (q := 902) rfl rfl rfl rfl rfl rfl) ?_; refine Zs35 ?_; refine Zs11 ?_; refine zd ?_; refine zf ?_; refine zw rfl ?_; refine zt ?_; refine zf ?_; refine ze ?_; refine zy ?_; refine ze ?_; refine ze ?_; refine zz (id := 18) [(200077, [902]), (200089, [902])] mixed (by kernel_rfl) ?_; refine Zs38 ?_; refine q8 (zx L (q := 902) rfl rfl rfl rfl rfl rfl) rfl rfl ?_; refine Zs7 ?_; refine z8 (zp L _ rfl rfl rfl rfl rfl rfl rfl (by omega)) rfl ?_; refine Zs38 ?_; refine z8 (zn L (vs := [_, _, _, _, _, _]) (qz rfl hbf) rfl rfl rfl rfl ⟨r6, hq6⟩) rfl ?_; refine z8 (zn L (vs := [_, _, _, _, _, _]) (qz rfl (by assumption)) rfl rfl rfl rfl ⟨_, rfl⟩) rfl ?_; refine z8 (ok_aneq rfl rfl rfl rfl eq30 (by assumption) rfl) rfl ?_; refine Zs7 ?_; refine Zs12 ?_; refine Zs12 ?_; refine Zs12 ?_; refine Zs12 ?_; refine Zs12 ?_; refine Zs12 ?_; refine Zs12 ?_; refine Zs12 ?_; refine Zs12 ?_; refine Zs12 ?_; refine Zs12 ?_; refine Zs12 ?_; refine Zs28 ?_; refine qk ?_; refine zf ?_; refine zw rfl ?_; refine y7 ?_; refine qg ?_; refine y6 ?_; refine zf ?_; refine zb (id := 17) ?_; refine Zs1 ?_; refine Zs13 ?_; refine Zs2 ?_; refine zd ?_
                        exact y1 (x := i) (i + 1) ⟨hlt, hnx⟩ (by omega) ⟨rfl, rfl, rfl, rfl, rfl, rfl, rfl, rfl, rfl, rfl, trivial⟩
                    | true =>
                      have hoi : t.fl.findIdx? (hitB q rv lo) = some i := idxh hli hh hno
                      have hE := jE5 (q := q) (rv := rv) (lo := lo) hc hq h3 (by rw [hoi]; simp; exact h4a)
                      rw [jTh hE hoi hli, hE]
                      have hfq : f.q = q := by rw [hit_eq] at hh; simp at hh; exact hh.1
                      have hqe := eqQv (decide_eq_true hfq)
                      have hne : f.is ≠ [] := (hT.fl i f hli).ne
                      have hl0 : 0 < f.is.length := List.length_pos_iff.2 hne
                      obtain ⟨bi, capi, resti, hsvi, hbi, g3, g4, g5⟩ := slw_block (hcf.it i _ hzi).1 hl0
                      dsimp only at hsvi hbi g3 g4 g5
                      subst hsvi
                      have hbin : B bi = none := (hcf.it i _ hzi).2 _ _ _ _ _ rfl
                      have hbne : bi ≠ bf := hcf.af i _ hzi _ _ _ _ _ _ _ _ _ _ rfl rfl
                      obtain ⟨_, hq13⟩ := fl_dropKR (k := 13) hzi rfl rest (off := 0 + i * 14 + 13) rfl
                      obtain ⟨_, hq0⟩ := fl_dropKR (k := 0) hzi rfl rest (off := 0 + i * 14 + 0) rfl
                      have hfl := hit f (fls_mem hli)
                      cases lo with
                      | true =>
                        refine ze ?_; refine ze ?_; refine zb (id := 16) ?_; refine Zs1 ?_; refine Zs19 ?_; refine vo_stepR (zx L (q := 902) rfl rfl rfl rfl rfl rfl) ?_; refine Zs35 ?_; refine Zs11 ?_; refine zd ?_; refine zf ?_; refine zw rfl ?_; refine zt ?_; refine zf ?_; refine ze ?_; refine zy ?_; refine ze ?_; refine ze ?_; refine zz (id := 18) [(200077, [902]), (200089, [902])] mixed (by kernel_rfl) ?_; refine Zs38 ?_; refine q8 (zx L (q := 902) rfl rfl rfl rfl rfl rfl) rfl rfl ?_; refine Zs7 ?_; refine z8 (zp L _ rfl rfl rfl rfl rfl rfl rfl (by omega)) rfl ?_; refine Zs38 ?_; refine z8 (zn L (vs := [_, _, _, _, _, _]) (qz rfl hbf) rfl rfl rfl rfl ⟨r6, hq6⟩) rfl ?_; refine z8 (zn L (vs := [_, _, _, _, _, _]) (qz rfl (by assumption)) rfl rfl rfl rfl ⟨_, rfl⟩) rfl ?_; refine z8 (ok_aneq rfl rfl rfl rfl eq30 (by assumption) rfl) rfl ?_; refine Zs7 ?_; refine Zs7 ?_; refine Zs47 ?_; refine Zs7 ?_; refine Zs12 ?_; refine Zs12 ?_; refine Zs12 ?_; refine Zs12 ?_; refine Zs12 ?_; refine Zs12 ?_; refine Zs12 ?_; refine Zs12 ?_; refine Zs28 ?_; refine Zs28 ?_; refine qk ?_; refine zf ?_; refine zm rfl ?_; refine zt ?_; refine zf ?_; refine ze ?_
                        have hS : ∀ y ∈ [(bf, zs1.flatMap flc ++ rest, tyF), (bi, f.is.flatMap itc ++ resti, tyI)], Hc y.1 = some (.cells y.2.1.toArray y.2.2) ∧ B y.1 = none := fun y hy => by
                          simp only [List.mem_cons, List.mem_nil_iff, or_false] at hy
                          rcases hy with rfl | rfl
                          · exact ⟨hbf, hbn⟩
                          · exact ⟨hbi, hbin⟩
                        refine V_unpub (B0 := B) (κ1 := ofL [(9, .is (.pointer (some ⟨b9, 0, none⟩))), (12, .own (Cell [.int .i64 0, .slice none 0 0] tyT)), (17, .is (.pointer (some ⟨b17, 0, none⟩))), (18, .is (.int .i64 i)), (902, .own (HeldR b17 [.int .i64 t.nx, .slice (some ⟨bf, 0, none⟩) zs1.length cs'] tyT))]) 901 [(bf, zs1.flatMap flc ++ rest, tyF), (bi, f.is.flatMap itc ++ resti, tyI)] sc hS (hfree_of ⟨rfl, rfl, rfl, rfl, rfl, trivial⟩ fun p hp => by
                          simp only [List.mem_cons, List.mem_nil_iff, or_false] at hp
                          rcases hp with rfl | rfl | rfl | rfl | rfl
                          · exact trivial
                          · exact hfree_cell
                          · exact trivial
                          · exact trivial
                          · exact hfree_held) ?_
                        refine V_splitL 901 903 (by decide) (fun y hy => by rw [List.mem_singleton.1 hy]; exact hbne) rfl ?_
                        refine V_splitL 901 904 (by decide) (fun y hy => by cases hy) rfl ?_
                        have s4 : Since (Fr.pure w) B (Hc.off [(bf, zs1.flatMap flc ++ rest, tyF), (bi, f.is.flatMap itc ++ resti, tyI)]) := since_off sc fun y hy => (hS y hy).2
                        replace hb9c := s4.le _ _ hb9
                        clear hbf hbi
                        have hic : (f.is ++ [x]).flatMap itc = f.is.flatMap itc ++ [.int .i64 x.tk, .int .i64 x.im, .int .i64 x.cl, .int .i64 x.cs, .int .u64 x.rv] := by rw [List.flatMap_append, itc_one]
                        have hbl := fl_bleR (k := 13) hlt (by decide) rest (off := 0 + i * 14 + 13) rfl
                        refine zz (id := 19) [(200099, [902]), (200102, [902]), (200106, [903]), (109, [904]), (100111, [903])] mixed (by kernel_rfl) ?_; refine Zs38 ?_; refine q8 (zx L (q := 902) rfl rfl rfl rfl rfl rfl) rfl rfl ?_; refine Zs7 ?_; refine Zs38 ?_; refine q8 (zx L (q := 902) rfl rfl rfl rfl rfl rfl) rfl rfl ?_; refine Zs7 ?_; refine z8 (zp L _ rfl rfl rfl rfl rfl rfl rfl (by omega)) rfl ?_; refine Zs38 ?_; refine q8 (zx L (q := 903) rfl rfl rfl rfl rfl hq13) rfl rfl ?_; refine z8 (zn L (vs := [_, _, _, _, _]) (qz rfl (by assumption)) rfl rfl rfl rfl ⟨_, rfl⟩) rfl ?_; refine Zs76 ?_; refine par_step2 (StepOK2.pubW (ok_appendH L (q := 904) (m := 1) rfl rfl rfl rfl (flatMap_len itc_len f.is) g3 g4 g5 (apd_B rfl) rfl el33 rfl rfl (by omega) (by omega))) rfl rfl ?_; refine z8 (zp L _ rfl rfl rfl rfl rfl rfl rfl (by omega)) rfl ?_; refine Zs38 ?_; refine y9 (ok_storeHS L (q := 903) SlWN.mono rfl rfl rfl rfl rfl (fun _ _ h => slw_cell h.1) (Nat.le_of_ble_eq_true hbl)) rfl ?_; refine qk ?_; refine zf ?_; refine ze ?_
                        refine V_opnX 903 rfl fun cs2 H5 s5 ⟨cs3, v, hc3, hyw, hc2⟩ => ?_
                        subst hc3 hc2
                        replace hyw : SlWN (Hc.off [(bf, zs1.flatMap flc ++ rest, tyF), (bi, f.is.flatMap itc ++ resti, tyI)]) tyI 5 (f.is.length + 1) ((f.is ++ [x]).flatMap itc) v H5 := by rw [hic]; exact hyw
                        rw [slw_cells hyw.1, fl_setKR (z' := ({ f with is := f.is ++ [x] }, v)) hzi (by decide) rfl rest rfl]
                        have hz2i : (zs1.set i ({ f with is := f.is ++ [x] }, v))[i]? = some ({ f with is := f.is ++ [x] }, v) := List.getElem?_set_self (by omega)
                        have hl2 : i < (zs1.set i ({ f with is := f.is ++ [x] }, v)).length := by rw [List.length_set]; exact hlt
                        obtain ⟨_, hq4⟩ := fl_dropKR (k := 9) hz2i rfl rest (off := 0 + i * 14 + 9) rfl
                        have hs4 := fl_setKR (k := 9) (z' := (addI x f, v)) (v := .int .i64 (min f.cs x.cs)) hz2i (by decide) rfl rest (off := 0 + i * 14 + 9) rfl
                        have hb4 := fl_bleR (k := 9) hl2 (by decide) rest (off := 0 + i * 14 + 9) rfl
                        rw [List.set_set] at hs4
                        have hmin : (if x.cs < f.cs then x.cs else f.cs) = min f.cs x.cs := by rw [Int.min_def]; split <;> split <;> omega
                        have hb9d := s5.le _ _ hb9c
                        clear hb9c
                        refine zz (id := 20) [(200113, [902]), (200116, [902]), (200120, [903]), (100125, [903])] mixed (by kernel_rfl) ?_; refine Zs38 ?_; refine q8 (zx L (q := 902) rfl rfl rfl rfl rfl rfl) rfl rfl ?_; refine Zs7 ?_; refine Zs38 ?_; refine q8 (zx L (q := 902) rfl rfl rfl rfl rfl rfl) rfl rfl ?_; refine Zs7 ?_; refine z8 (zp L _ rfl rfl rfl rfl rfl rfl rfl (by omega)) rfl ?_; refine Zs38 ?_; refine q8 (zx L (q := 903) rfl rfl rfl rfl rfl hq4) rfl rfl ?_; refine Zs38 ?_; refine Zs72 ?_; refine z8 (ok_min rfl rfl rfl rfl (by assumption)) rfl ?_; refine z8 (zp L _ rfl rfl rfl rfl rfl rfl rfl (by omega)) rfl ?_; refine Zs38 ?_; refine y9 (y2 L (q := 903) rfl rfl rfl rfl rfl rfl hb4 rfl hs4) rfl ?_; refine qk ?_; refine zf ?_; refine ze ?_
                        have hz3i : (zs1.set i (addI x f, v))[i]? = some (addI x f, v) := List.getElem?_set_self (by omega)
                        obtain ⟨_, hq0⟩ := fl_dropKR (k := 0) hz3i rfl rest (off := 0 + i * 14 + 0) rfl
                        refine zz (id := 21) [(200126, [902]), (200128, [902]), (200132, [903])] mixed (by kernel_rfl) ?_; refine q8 (ok_loadHA L (q := 902) (vs := [_, _]) rfl rfl rfl rfl rfl rfl ⟨_, rfl⟩) rfl rfl ?_; refine Zs38 ?_; refine q8 (zx L (q := 902) rfl rfl rfl rfl rfl rfl) rfl rfl ?_; refine Zs7 ?_; refine z8 (zp L _ rfl rfl rfl rfl rfl rfl rfl (by omega)) rfl ?_; refine Zs38 ?_; refine q8 (zx L (q := 903) rfl rfl rfl rfl rfl hq0) rfl rfl ?_; refine Zs70 ?_; refine Zs54 ?_; refine Zs54 ?_; refine Zs54 ?_; refine qk ?_; refine zf ?_
                        refine V_release 17 902 rfl rfl ?_
                        refine V_pubH 903 rfl fun H6 s6 hnb hb6 => ?_
                        refine qn L (rs := [.cell 12 24, .tmp 13, .tmp 14, .tmp 15]) rfl (fun _ _ h => h) (((hs0B.trans s4).trans s5).trans s6) fun u H hH hle => ?_
                        refine resK_cellA (qe rfl) rfl rfl ?_
                        refine ⟨_, rfl, TbR.mono ⟨zs1.set i (addI x f, v), _, rfl, ?_, fsb_cutG (by rw [List.length_set]) (by omega) (by rw [List.length_set]; omega) hb6 (fun j z hzj => ?_) (fun j z hzj => ?_)⟩ hle⟩
                        · rw [List.map_set, hcf.fl]
                          refine List.ext_getElem? fun j => ?_
                          rw [List.getElem?_set, List.getElem?_modify]
                          by_cases hj : i = j
                          · subst hj; rw [if_pos rfl, if_pos (by omega), hli]; simp
                          · rw [if_neg hj]; simp [hj]
                        · rw [List.getElem?_set] at hzj
                          by_cases hik : i = j
                          · subst hik
                            rw [if_pos rfl, if_pos (by omega)] at hzj
                            cases hzj
                            have e9 : (f.is ++ [x]).length = f.is.length + 1 := by simp
                            show SlV tyI 5 ((f.is ++ [x]).flatMap itc) (f.is ++ [x]).length false v H6
                            rw [e9]
                            exact hyw.1.toV.le s6.le
                          · rw [if_neg hik] at hzj
                            exact ((cpy_items2 hcf hzi hzj (fun e => hik e.symm)).le s5.le).le s6.le
                        · rw [List.getElem?_set] at hzj
                          by_cases hik : i = j
                          · subst hik
                            rw [if_pos rfl, if_pos (by omega)] at hzj
                            cases hzj
                            simp only [addI, List.length_append, List.length_cons, List.length_nil]; omega
                          · rw [if_neg hik] at hzj
                            have := hit z.1 (fls_mem (fls_get hcf.fl hzj)); omega
                      | false =>
                        have hrv : f.rv = rv := by rw [hit_eq] at hh; simp at hh; exact hh.2
                        refine ze ?_; refine ze ?_; refine zb (id := 16) ?_; refine Zs1 ?_; refine Zs19 ?_; refine vo_stepR (zx L (q := 902) rfl rfl rfl rfl rfl rfl) ?_; refine Zs35 ?_; refine Zs11 ?_; refine zd ?_; refine zf ?_; refine zw rfl ?_; refine zt ?_; refine zf ?_; refine ze ?_; refine zy ?_; refine ze ?_; refine ze ?_; refine zz (id := 18) [(200077, [902]), (200089, [902])] mixed (by kernel_rfl) ?_; refine Zs38 ?_; refine q8 (zx L (q := 902) rfl rfl rfl rfl rfl rfl) rfl rfl ?_; refine Zs7 ?_; refine z8 (zp L _ rfl rfl rfl rfl rfl rfl rfl (by omega)) rfl ?_; refine Zs38 ?_; refine z8 (zn L (vs := [_, _, _, _, _, _]) (qz rfl hbf) rfl rfl rfl rfl ⟨r6, hq6⟩) rfl ?_; refine z8 (zn L (vs := [_, _, _, _, _, _]) (qz rfl (by assumption)) rfl rfl rfl rfl ⟨_, rfl⟩) rfl ?_; refine z8 (ok_aneq rfl rfl rfl rfl eq30 (by assumption) rfl) rfl ?_; refine Zs7 ?_; refine Zs7 ?_; refine Zs47 ?_; refine Zs7 ?_; refine Zs38 ?_; refine q8 (zx L (q := 902) rfl rfl rfl rfl rfl rfl) rfl rfl ?_; refine Zs7 ?_; refine z8 (zp L _ rfl rfl rfl rfl rfl rfl rfl (by omega)) rfl ?_; refine Zs38 ?_; refine z8 (zj L (qz rfl hbf) rfl rfl rfl hq1) rfl ?_; refine Zs7 ?_; refine Zs40 ?_; refine Zs28 ?_; refine Zs28 ?_; refine qk ?_; refine zf ?_; refine zm rfl ?_; refine zt ?_; refine zf ?_; refine ze ?_
                        have hS : ∀ y ∈ [(bf, zs1.flatMap flc ++ rest, tyF), (bi, f.is.flatMap itc ++ resti, tyI)], Hc y.1 = some (.cells y.2.1.toArray y.2.2) ∧ B y.1 = none := fun y hy => by
                          simp only [List.mem_cons, List.mem_nil_iff, or_false] at hy
                          rcases hy with rfl | rfl
                          · exact ⟨hbf, hbn⟩
                          · exact ⟨hbi, hbin⟩
                        refine V_unpub (B0 := B) (κ1 := ofL [(9, .is (.pointer (some ⟨b9, 0, none⟩))), (12, .own (Cell [.int .i64 0, .slice none 0 0] tyT)), (17, .is (.pointer (some ⟨b17, 0, none⟩))), (18, .is (.int .i64 i)), (902, .own (HeldR b17 [.int .i64 t.nx, .slice (some ⟨bf, 0, none⟩) zs1.length cs'] tyT))]) 901 [(bf, zs1.flatMap flc ++ rest, tyF), (bi, f.is.flatMap itc ++ resti, tyI)] sc hS (hfree_of ⟨rfl, rfl, rfl, rfl, rfl, trivial⟩ fun p hp => by
                          simp only [List.mem_cons, List.mem_nil_iff, or_false] at hp
                          rcases hp with rfl | rfl | rfl | rfl | rfl
                          · exact trivial
                          · exact hfree_cell
                          · exact trivial
                          · exact trivial
                          · exact hfree_held) ?_
                        refine V_splitL 901 903 (by decide) (fun y hy => by rw [List.mem_singleton.1 hy]; exact hbne) rfl ?_
                        refine V_splitL 901 904 (by decide) (fun y hy => by cases hy) rfl ?_
                        have s4 : Since (Fr.pure w) B (Hc.off [(bf, zs1.flatMap flc ++ rest, tyF), (bi, f.is.flatMap itc ++ resti, tyI)]) := since_off sc fun y hy => (hS y hy).2
                        replace hb9c := s4.le _ _ hb9
                        clear hbf hbi
                        have hic : (f.is ++ [x]).flatMap itc = f.is.flatMap itc ++ [.int .i64 x.tk, .int .i64 x.im, .int .i64 x.cl, .int .i64 x.cs, .int .u64 x.rv] := by rw [List.flatMap_append, itc_one]
                        have hbl := fl_bleR (k := 13) hlt (by decide) rest (off := 0 + i * 14 + 13) rfl
                        refine zz (id := 19) [(200099, [902]), (200102, [902]), (200106, [903]), (109, [904]), (100111, [903])] mixed (by kernel_rfl) ?_; refine Zs38 ?_; refine q8 (zx L (q := 902) rfl rfl rfl rfl rfl rfl) rfl rfl ?_; refine Zs7 ?_; refine Zs38 ?_; refine q8 (zx L (q := 902) rfl rfl rfl rfl rfl rfl) rfl rfl ?_; refine Zs7 ?_; refine z8 (zp L _ rfl rfl rfl rfl rfl rfl rfl (by omega)) rfl ?_; refine Zs38 ?_; refine q8 (zx L (q := 903) rfl rfl rfl rfl rfl hq13) rfl rfl ?_; refine z8 (zn L (vs := [_, _, _, _, _]) (qz rfl (by assumption)) rfl rfl rfl rfl ⟨_, rfl⟩) rfl ?_; refine Zs76 ?_; refine par_step2 (StepOK2.pubW (ok_appendH L (q := 904) (m := 1) rfl rfl rfl rfl (flatMap_len itc_len f.is) g3 g4 g5 (apd_B rfl) rfl el33 rfl rfl (by omega) (by omega))) rfl rfl ?_; refine z8 (zp L _ rfl rfl rfl rfl rfl rfl rfl (by omega)) rfl ?_; refine Zs38 ?_; refine y9 (ok_storeHS L (q := 903) SlWN.mono rfl rfl rfl rfl rfl (fun _ _ h => slw_cell h.1) (Nat.le_of_ble_eq_true hbl)) rfl ?_; refine qk ?_; refine zf ?_; refine ze ?_
                        refine V_opnX 903 rfl fun cs2 H5 s5 ⟨cs3, v, hc3, hyw, hc2⟩ => ?_
                        subst hc3 hc2
                        replace hyw : SlWN (Hc.off [(bf, zs1.flatMap flc ++ rest, tyF), (bi, f.is.flatMap itc ++ resti, tyI)]) tyI 5 (f.is.length + 1) ((f.is ++ [x]).flatMap itc) v H5 := by rw [hic]; exact hyw
                        rw [slw_cells hyw.1, fl_setKR (z' := ({ f with is := f.is ++ [x] }, v)) hzi (by decide) rfl rest rfl]
                        have hz2i : (zs1.set i ({ f with is := f.is ++ [x] }, v))[i]? = some ({ f with is := f.is ++ [x] }, v) := List.getElem?_set_self (by omega)
                        have hl2 : i < (zs1.set i ({ f with is := f.is ++ [x] }, v)).length := by rw [List.length_set]; exact hlt
                        obtain ⟨_, hq4⟩ := fl_dropKR (k := 9) hz2i rfl rest (off := 0 + i * 14 + 9) rfl
                        have hs4 := fl_setKR (k := 9) (z' := (addI x f, v)) (v := .int .i64 (min f.cs x.cs)) hz2i (by decide) rfl rest (off := 0 + i * 14 + 9) rfl
                        have hb4 := fl_bleR (k := 9) hl2 (by decide) rest (off := 0 + i * 14 + 9) rfl
                        rw [List.set_set] at hs4
                        have hmin : (if x.cs < f.cs then x.cs else f.cs) = min f.cs x.cs := by rw [Int.min_def]; split <;> split <;> omega
                        have hb9d := s5.le _ _ hb9c
                        clear hb9c
                        refine zz (id := 20) [(200113, [902]), (200116, [902]), (200120, [903]), (100125, [903])] mixed (by kernel_rfl) ?_; refine Zs38 ?_; refine q8 (zx L (q := 902) rfl rfl rfl rfl rfl rfl) rfl rfl ?_; refine Zs7 ?_; refine Zs38 ?_; refine q8 (zx L (q := 902) rfl rfl rfl rfl rfl rfl) rfl rfl ?_; refine Zs7 ?_; refine z8 (zp L _ rfl rfl rfl rfl rfl rfl rfl (by omega)) rfl ?_; refine Zs38 ?_; refine q8 (zx L (q := 903) rfl rfl rfl rfl rfl hq4) rfl rfl ?_; refine Zs38 ?_; refine Zs72 ?_; refine z8 (ok_min rfl rfl rfl rfl (by assumption)) rfl ?_; refine z8 (zp L _ rfl rfl rfl rfl rfl rfl rfl (by omega)) rfl ?_; refine Zs38 ?_; refine y9 (y2 L (q := 903) rfl rfl rfl rfl rfl rfl hb4 rfl hs4) rfl ?_; refine qk ?_; refine zf ?_; refine ze ?_
                        have hz3i : (zs1.set i (addI x f, v))[i]? = some (addI x f, v) := List.getElem?_set_self (by omega)
                        obtain ⟨_, hq0⟩ := fl_dropKR (k := 0) hz3i rfl rest (off := 0 + i * 14 + 0) rfl
                        refine zz (id := 21) [(200126, [902]), (200128, [902]), (200132, [903])] mixed (by kernel_rfl) ?_; refine q8 (ok_loadHA L (q := 902) (vs := [_, _]) rfl rfl rfl rfl rfl rfl ⟨_, rfl⟩) rfl rfl ?_; refine Zs38 ?_; refine q8 (zx L (q := 902) rfl rfl rfl rfl rfl rfl) rfl rfl ?_; refine Zs7 ?_; refine z8 (zp L _ rfl rfl rfl rfl rfl rfl rfl (by omega)) rfl ?_; refine Zs38 ?_; refine q8 (zx L (q := 903) rfl rfl rfl rfl rfl hq0) rfl rfl ?_; refine Zs70 ?_; refine Zs54 ?_; refine Zs54 ?_; refine Zs54 ?_; refine qk ?_; refine zf ?_
                        refine V_release 17 902 rfl rfl ?_
                        refine V_pubH 903 rfl fun H6 s6 hnb hb6 => ?_
                        refine qn L (rs := [.cell 12 24, .tmp 13, .tmp 14, .tmp 15]) rfl (fun _ _ h => h) (((hs0B.trans s4).trans s5).trans s6) fun u H hH hle => ?_
                        refine resK_cellA (qe rfl) rfl rfl ?_
                        refine ⟨_, rfl, TbR.mono ⟨zs1.set i (addI x f, v), _, rfl, ?_, fsb_cutG (by rw [List.length_set]) (by omega) (by rw [List.length_set]; omega) hb6 (fun j z hzj => ?_) (fun j z hzj => ?_)⟩ hle⟩
                        · rw [List.map_set, hcf.fl]
                          refine List.ext_getElem? fun j => ?_
                          rw [List.getElem?_set, List.getElem?_modify]
                          by_cases hj : i = j
                          · subst hj; rw [if_pos rfl, if_pos (by omega), hli]; simp
                          · rw [if_neg hj]; simp [hj]
                        · rw [List.getElem?_set] at hzj
                          by_cases hik : i = j
                          · subst hik
                            rw [if_pos rfl, if_pos (by omega)] at hzj
                            cases hzj
                            have e9 : (f.is ++ [x]).length = f.is.length + 1 := by simp
                            show SlV tyI 5 ((f.is ++ [x]).flatMap itc) (f.is ++ [x]).length false v H6
                            rw [e9]
                            exact hyw.1.toV.le s6.le
                          · rw [if_neg hik] at hzj
                            exact ((cpy_items2 hcf hzi hzj (fun e => hik e.symm)).le s5.le).le s6.le
                        · rw [List.getElem?_set] at hzj
                          by_cases hik : i = j
                          · subst hik
                            rw [if_pos rfl, if_pos (by omega)] at hzj
                            cases hzj
                            simp only [addI, List.length_append, List.length_cons, List.length_nil]; omega
                          · rw [if_neg hik] at hzj
                            have := hit z.1 (fls_mem (fls_get hcf.fl hzj)); omega
                  · obtain rfl : i = zs1.length := by omega
                    have hoi : t.fl.findIdx? (hitB q rv lo) = none := idxn fun j g hg => hno j g (by have := get_lt hg; omega) hg
                    by_cases hnx : t.nx = 2147483647
                    · have hE := jE4 (q := q) (rv := rv) (lo := lo) hc hq h3 (Or.inr ⟨hoi, hnx⟩)
                      rw [hE, jT0 (by rw [hE]; decide)]
                      refine ze ?_; refine ze ?_; refine zb (id := 16) ?_; refine Zs1 ?_; refine Zs19 ?_; refine vo_stepR (zx L (q := 902) rfl rfl rfl rfl rfl rfl) ?_; refine Zs35 ?_; refine Zs8 ?_; refine zd ?_; refine zf ?_; refine zm rfl ?_; refine y7 ?_; refine qg ?_; refine qg ?_; refine y6 ?_; refine zf ?_; refine ze ?_; refine ze ?_; refine zb (id := 22) ?_; refine Zs19 ?_; refine Zs41 ?_; refine Zs15 ?_; refine zd ?_; refine zf ?_; refine zw rfl ?_; refine ze ?_; refine zb (id := 23) ?_; refine z7 (qt (cs := [_, _]) rfl rfl pl24 rfl rfl) rfl ?_; refine Zs14 ?_; refine Zs2 ?_; refine Zs2 ?_; refine Zs2 ?_; refine zd ?_; refine zf ?_
                      refine qn L (rs := [.cell 12 24, .tmp 13, .tmp 14, .tmp 15]) rfl (fun _ _ h => h) (hs0B.trans sc) fun u H hH hle => ?_
                      refine resK_cellA (qe rfl) rfl rfl ?_
                      exact ⟨_, rfl, tbr_zero⟩
                    · have hE := jE5 (q := q) (rv := rv) (lo := lo) hc hq h3 (by intro h; rcases h with h | h; exact h4a h; exact hnx h.2)
                      rw [jTn hE hoi, hE]
                      have hnx2 := chk_nx hc
                      have hw : IntKind.i64.wrap (t.nx + 1) = t.nx + 1 := wrap_i64 (by omega) (by omega)
                      refine ze ?_; refine ze ?_; refine zb (id := 16) ?_; refine Zs1 ?_; refine Zs19 ?_; refine vo_stepR (zx L (q := 902) rfl rfl rfl rfl rfl rfl) ?_; refine Zs35 ?_; refine Zs8 ?_; refine zd ?_; refine zf ?_; refine zm rfl ?_; refine y7 ?_; refine qg ?_; refine qg ?_; refine y6 ?_; refine zf ?_; refine ze ?_; refine ze ?_; refine zb (id := 22) ?_; refine Zs19 ?_; refine Zs41 ?_; refine Zs9 ?_; refine zd ?_; refine zf ?_; refine zm rfl ?_; refine zt ?_; refine zf ?_; refine ze ?_
                      rcases hcf.fs.2 with ⟨h00, hse⟩ | ⟨bf, cap, rest, hse, hbf, d3, d4, d5⟩
                      rotate_left
                      · have hbn : B bf = none := hcf.nf _ _ _ _ _ hse
                        cases hse
                        have hS : ∀ y ∈ [(bf, zs1.flatMap flc ++ rest, tyF)], Hc y.1 = some (.cells y.2.1.toArray y.2.2) ∧ B y.1 = none := fun y hy => by
                          rw [List.mem_singleton.1 hy]
                          exact ⟨hbf, hbn⟩
                        refine V_unpub (B0 := B) (κ1 := ofL [(2, .is (.int .u64 rv)), (4, .is (.int .i64 rd)), (6, .is (.pointer (some ⟨b6, 0, none⟩))), (7, .is (.pointer (some ⟨b7, 0, none⟩))), (9, .is (.pointer (some ⟨b9, 0, none⟩))), (12, .own (Cell [.int .i64 0, .slice none 0 0] tyT)), (17, .is (.pointer (some ⟨b17, 0, none⟩))), (902, .own (HeldR b17 [.int .i64 t.nx, .slice (some ⟨bf, 0, none⟩) zs1.length cs'] tyT))]) 901 [(bf, zs1.flatMap flc ++ rest, tyF)] sc hS (hfree_of ⟨rfl, rfl, rfl, rfl, rfl, rfl, rfl, rfl, trivial⟩ fun p hp => by
                          simp only [List.mem_cons, List.mem_nil_iff, or_false] at hp
                          rcases hp with rfl | rfl | rfl | rfl | rfl | rfl | rfl | rfl
                          · exact trivial
                          · exact trivial
                          · exact trivial
                          · exact trivial
                          · exact trivial
                          · exact hfree_cell
                          · exact trivial
                          · exact hfree_held) ?_
                        refine V_splitL 901 904 (by decide) (fun y hy => by cases hy) rfl ?_
                        have s4 : Since (Fr.pure w) B (Hc.off [(bf, zs1.flatMap flc ++ rest, tyF)]) := since_off sc fun y hy => (hS y hy).2
                        replace hb6c := s4.le _ _ hb6
                        replace hb7c := s4.le _ _ hb7
                        replace hb9c := s4.le _ _ hb9
                        have hitm : ∀ (j : Nat) z, zs1[j]? = some z → IsV z.1.is false z.2 (Hc.off [(bf, zs1.flatMap flc ++ rest, tyF)]) := fun j z hz => cpy_items hcf hz
                        clear hbf
                        refine zb (id := 24) ?_; refine Zs19 ?_; refine vo_stepR (zx L (q := 902) rfl rfl rfl rfl rfl rfl) ?_; refine Zs19 ?_; refine Zs41 ?_; refine Zs1 ?_; refine z7 (zn L (vs := [_, _, _, _, _, _]) (qz rfl (by assumption)) rfl rfl rfl rfl ⟨_, rfl⟩) rfl ?_; refine Zs19 ?_; refine Zs41 ?_; refine Zs19 ?_; refine Zs41 ?_; refine Zs1 ?_; refine z7 (zn L (vs := [_, _, _, _, _]) (qz rfl (by assumption)) rfl rfl rfl rfl ⟨_, rfl⟩) rfl ?_; refine Zs25 ?_; refine vo_opn 149 rfl fun v149 H5 s5 ⟨b149, e149, hb149⟩ => ?_; subst e149; refine z7 (qt (cs := [_, _, _, _, _, _, _, _, _, _, _, _, _, _]) rfl rfl pl49 rfl rfl) rfl ?_; refine Zs25 ?_; refine qh (ok_appendH L (q := 904) (m := 1) rfl rfl rfl rfl (flatMap_len flc_len zs1) d3 d4 d5 (apd_B rfl) rfl el49 rfl rfl (by omega) (by omega)) ?_; refine vo_pubW 152 rfl fun x152 H6 s6 hnb hyw => ?_; obtain ⟨p9, c9, e9⟩ := slw_sh hyw; subst e9; refine Zs19 ?_; refine vo_stepS (y2 L (q := 902) rfl rfl rfl rfl rfl rfl rfl rfl rfl) ?_; refine zd ?_; refine zf ?_; refine ze ?_
                        have hb6d := s6.le _ _ (s5.le _ _ hb6c)
                        clear hb6c hb7c hb9c hb6 hb7 hb9
                        refine zb (id := 25) ?_; refine Zs19 ?_; refine Zs41 ?_; refine Zs18 ?_; refine Zs19 ?_; refine vo_stepS (y2 L (q := 902) rfl rfl rfl rfl rfl rfl rfl rfl rfl) ?_; refine zd ?_; refine zf ?_; refine ze ?_
                        refine zz (id := 26) [(200158, [902])] mixed (by kernel_rfl) ?_; refine q8 (ok_loadHA L (q := 902) (vs := [_, _]) rfl rfl rfl rfl rfl rfl ⟨_, rfl⟩) rfl rfl ?_; refine Zs38 ?_; refine Zs72 ?_; refine Zs70 ?_; refine Zs54 ?_; refine Zs54 ?_; refine Zs54 ?_; refine qk ?_; refine zf ?_
                        refine qn L (rs := [.cell 12 24, .tmp 13, .tmp 14, .tmp 15]) rfl (fun _ _ h => h) (((hs0B.trans s4).trans s5).trans s6) fun u H hH hle => ?_
                        refine resK_cellA (qe rfl) rfl rfl ?_
                        refine ⟨_, rfl, TbR.mono ⟨zs1 ++ [(newF t.nx rv q x rd, .slice (some ⟨b149, 0, none⟩) 1 1)], _, rfl, by rw [List.map_append, hcf.fl]; rfl, ⟨?_, fun j z hz => ?_, by rw [List.length_append, List.length_singleton]; omega, fun j z hz => ?_⟩⟩ hle⟩
                        · have h9 := hyw.toV
                          rw [List.flatMap_append, List.length_append]
                          exact h9
                        · rcases Nat.lt_or_ge j zs1.length with h | h
                          · rw [List.getElem?_append_left h] at hz
                            exact ((hitm j z hz).le s5.le).le s6.le
                          · rw [List.getElem?_append_right h] at hz
                            match hj : j - zs1.length, hz with
                            | 0, hz => cases hz; exact (slb_is ⟨b149, rfl, hb149⟩).nofu.le s6.le
                            | _ + 1, hz => cases hz
                        · rcases Nat.lt_or_ge j zs1.length with h | h
                          · rw [List.getElem?_append_left h] at hz
                            have := hit z.1 (fls_mem (fls_get hcf.fl hz)); omega
                          · rw [List.getElem?_append_right h] at hz
                            match hj : j - zs1.length, hz with
                            | 0, hz => cases hz; simp [newF]
                            | _ + 1, hz => cases hz
                      · have e0 : zs1 = [] := List.eq_nil_of_length_eq_zero h00
                        subst e0
                        cases hse
                        have s4 := sc
                        have hitm : ∀ (j : Nat) z, ([] : List (Fl × Value))[j]? = some z → IsV z.1.is false z.2 Hc := fun j z hz => by cases hz
                        refine zb (id := 24) ?_; refine Zs19 ?_; refine vo_stepR (zx L (q := 902) rfl rfl rfl rfl rfl rfl) ?_; refine Zs19 ?_; refine Zs41 ?_; refine Zs1 ?_; refine z7 (zn L (vs := [_, _, _, _, _, _]) (qz rfl (by assumption)) rfl rfl rfl rfl ⟨_, rfl⟩) rfl ?_; refine Zs19 ?_; refine Zs41 ?_; refine Zs19 ?_; refine Zs41 ?_; refine Zs1 ?_; refine z7 (zn L (vs := [_, _, _, _, _]) (qz rfl (by assumption)) rfl rfl rfl rfl ⟨_, rfl⟩) rfl ?_; refine Zs25 ?_; refine vo_opn 149 rfl fun v149 H5 s5 ⟨b149, e149, hb149⟩ => ?_; subst e149; refine z7 (qt (cs := [_, _, _, _, _, _, _, _, _, _, _, _, _, _]) rfl rfl pl49 rfl rfl) rfl ?_; refine Zs25 ?_; refine z7 (ok_append0 (m := 1) L rfl rfl rfl (apd_B rfl) rfl el49 rfl rfl (by omega) (by omega)) rfl ?_; refine vo_pubW 152 rfl fun x152 H6 s6 hnb hyw => ?_; obtain ⟨p9, c9, e9⟩ := slw_sh hyw; subst e9; refine Zs19 ?_; refine vo_stepS (y2 L (q := 902) rfl rfl rfl rfl rfl rfl rfl rfl rfl) ?_; refine zd ?_; refine zf ?_; refine ze ?_
                        have hb6d := s6.le _ _ (s5.le _ _ hb6c)
                        clear hb6c hb7c hb9c hb6 hb7 hb9
                        refine zb (id := 25) ?_; refine Zs19 ?_; refine Zs41 ?_; refine Zs18 ?_; refine Zs19 ?_; refine vo_stepS (y2 L (q := 902) rfl rfl rfl rfl rfl rfl rfl rfl rfl) ?_; refine zd ?_; refine zf ?_; refine ze ?_
                        refine zz (id := 26) [(200158, [902])] mixed (by kernel_rfl) ?_; refine q8 (ok_loadHA L (q := 902) (vs := [_, _]) rfl rfl rfl rfl rfl rfl ⟨_, rfl⟩) rfl rfl ?_; refine Zs38 ?_; refine Zs72 ?_; refine Zs70 ?_; refine Zs54 ?_; refine Zs54 ?_; refine Zs54 ?_; refine qk ?_; refine zf ?_
                        refine qn L (rs := [.cell 12 24, .tmp 13, .tmp 14, .tmp 15]) rfl (fun _ _ h => h) (((hs0B.trans s4).trans s5).trans s6) fun u H hH hle => ?_
                        refine resK_cellA (qe rfl) rfl rfl ?_
                        refine ⟨_, rfl, TbR.mono ⟨([] : List (Fl × Value)) ++ [(newF t.nx rv q x rd, .slice (some ⟨b149, 0, none⟩) 1 1)], _, rfl, by rw [List.map_append, hcf.fl]; rfl, ⟨?_, fun j z hz => ?_, by rw [List.length_append, List.length_singleton]; omega, fun j z hz => ?_⟩⟩ hle⟩
                        · have h9 := hyw.toV
                          rw [List.flatMap_append, List.length_append]
                          exact h9
                        · rcases Nat.lt_or_ge j ([] : List (Fl × Value)).length with h | h
                          · rw [List.getElem?_append_left h] at hz
                            exact ((hitm j z hz).le s5.le).le s6.le
                          · rw [List.getElem?_append_right h] at hz
                            match hj : j - ([] : List (Fl × Value)).length, hz with
                            | 0, hz => cases hz; exact (slb_is ⟨b149, rfl, hb149⟩).nofu.le s6.le
                            | _ + 1, hz => cases hz
                        · rcases Nat.lt_or_ge j ([] : List (Fl × Value)).length with h | h
                          · rw [List.getElem?_append_left h] at hz
                            have := hit z.1 (fls_mem (fls_get hcf.fl hz)); omega
                          · rw [List.getElem?_append_right h] at hz
                            match hj : j - ([] : List (Fl × Value)).length, hz with
                            | 0, hz => cases hz; simp [newF]
                            | _ + 1, hz => cases hz
    · have hE := jE2 (rv := rv) (x := x) (rd := rd) (lo := lo) hc (by rw [hq]; exact h2)
      rw [hE, jT0 (by rw [hE, hq]; exact h2), hq]
      refine zb (id := 1) ?_; refine z7 (zn L (vs := [_, _]) (qz rfl (by assumption)) rfl rfl rfl rfl ⟨_, rfl⟩) rfl ?_; refine z7 (zo L rfl rfl (zg rfl) rfl rfl rfl (fun u H hH hle _ => rcheck_ret hz (hs.le hle) hZ hI hn hc hH)) rfl ?_; refine Zs16 ?_; refine zd ?_; refine zf ?_; refine zm rfl ?_; refine zt ?_; refine zf ?_; refine ze ?_; refine ze ?_; refine zb (id := 3) ?_; refine z7 (zn L (vs := [_, _, _, _, _, _]) (qz rfl (by assumption)) rfl rfl rfl rfl ⟨_, rfl⟩) rfl ?_; refine z7 (zo L rfl rfl (zg rfl) rfl rfl rfl (fun u H hH _ _ => rquery_ret hQ hq hH)) rfl ?_; refine Zs23 ?_; refine zd ?_; refine zf ?_; refine zw rfl ?_; refine ze ?_; refine zb (id := 4) ?_; refine z7 (qt (cs := [_, _]) rfl rfl pl24 rfl rfl) rfl ?_; refine z7 (zn L (vs := [_, _, _, _, _, _]) (qz rfl (by assumption)) rfl rfl rfl rfl ⟨_, rfl⟩) rfl ?_; refine z7 (zo L rfl rfl (zg rfl) rfl rfl rfl (fun u H hH _ _ => rquery_ret hQ hq hH)) rfl ?_; refine Zs14 ?_; refine Zs2 ?_; refine Zs2 ?_; refine Zs2 ?_; refine zd ?_; refine zf ?_
      refine qn L (rs := [.cell 12 24, .tmp 13, .tmp 14, .tmp 15]) rfl (fun _ _ h => h) hs0B fun u H hH hle => ?_
      refine resK_cellA (qe rfl) rfl rfl ?_
      exact ⟨_, rfl, tbr_zero⟩
  · have hE := jE1 (q := q) (rv := rv) (x := x) (rd := rd) (lo := lo) (by rw [hc]; exact h1)
    rw [hE, jT0 (by rw [hE, hc]; exact h1), hc]
    refine zb (id := 1) ?_; refine z7 (zn L (vs := [_, _]) (qz rfl (by assumption)) rfl rfl rfl rfl ⟨_, rfl⟩) rfl ?_; refine z7 (zo L rfl rfl (zg rfl) rfl rfl rfl (fun u H hH hle _ => rcheck_ret hz (hs.le hle) hZ hI hn hc hH)) rfl ?_; refine Zs23 ?_; refine zd ?_; refine zf ?_; refine zw rfl ?_; refine ze ?_; refine zb (id := 2) ?_; refine z7 (qt (cs := [_, _]) rfl rfl pl24 rfl rfl) rfl ?_; refine z7 (zn L (vs := [_, _]) (qz rfl (by assumption)) rfl rfl rfl rfl ⟨_, rfl⟩) rfl ?_; refine z7 (zo L rfl rfl (zg rfl) rfl rfl rfl (fun u H hH hle _ => rcheck_ret hz (hs.le hle) hZ hI hn hc hH)) rfl ?_; refine Zs14 ?_; refine Zs2 ?_; refine Zs2 ?_; refine Zs2 ?_; refine zd ?_; refine zf ?_
    refine qn L (rs := [.cell 12 24, .tmp 13, .tmp 14, .tmp 15]) rfl (fun _ _ h => h) hs0B fun u H hH hle => ?_
    refine resK_cellA (qe rfl) rfl rfl ?_
    exact ⟨_, rfl, tbr_zero⟩
end Go.V.L39
