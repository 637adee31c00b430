/- Texts on the way to FlightsCounts, part 4: one behind another. -/
import Derived.Test.YtfihdmobfmkclaaFlightsCountsM3
import Derived.Sort.AssemblyPlain
set_option linter.unusedVariables false
set_option linter.unusedSimpArgs false
namespace Go.V.L39
open Go.Proofs Go.RowKit Go.V
theorem allE_pos : ∀ l : List ByteArray, 0 ≤ allE l
  | [] => Int.le_refl _
  | s :: l => by
    rw [allE]
    split
    · exact allE_pos l
    · rcases chk_cases s with h | h <;> rw [h] <;> decide
theorem quE_pos (q : Qu) : 0 ≤ quE q := by
  unfold quE
  split
  · decide
  · split
    · decide
    · split <;> decide
theorem flE_pos (nx : Int) (pre : List Fl) (f : Fl) : 0 ≤ flE nx pre f := by
  have := quE_pos f.q
  unfold flE
  split
  · decide
  · split
    · decide
    · split
      · exact this
      · split
        · decide
        · split
          · decide
          · split <;> decide
attribute [local irreducible] V N X VO Par StepOK Has Ret RetL RetO RetT RetG Src
theorem rquery_ret {q : Qu} (hz : QuZ q) {e : Int} (he : quE q = e) {w : World} {B : Heap} (hB : B.Le (hp w)) : Ret Try.prog 36 [quv q] w B (fun v _ => v = .int .i64 e) := by
  subst he
  obtain ⟨⟨hk0, hk1⟩, z1, z2, z3, z4, z5⟩ := hz
  obtain ⟨e, he⟩ : ∃ e, e = quE q := ⟨_, rfl⟩
  rw [← he]
  unfold quE gE uE at he
  have hgp := allE_pos [q.g.1.1, q.g.1.2, q.g.2]
  have hup := allE_pos [q.u.1, q.u.2]
  refine y6 Try.func36 rfl Try.ntmps36 (Nat.le_of_ble_eq_true rfl) hB ?_
  by_cases hk : q.kd = 1 ∨ q.kd = 2
  · rw [if_neg (by omega)] at he
    by_cases hg : allE [q.g.1.1, q.g.1.2, q.g.2] = 0
    · by_cases h1 : q.kd = 1
      · by_cases hu : allE [q.u.1, q.u.2] = 0
        · rw [if_neg (by omega), if_neg (by omega)] at he
          subst he
          refine zf ?_; refine zd (id := 0) ?_; refine za (qz rfl rfl rfl rfl) rfl ?_; refine za (ze rfl rfl rfl) rfl ?_; refine zg ?_; refine zh ?_; refine zf ?_; refine zf ?_; refine zd (id := 1) ?_; refine za (zk L rfl rfl rfl rfl) rfl ?_; refine za (zl L (zn rfl) rfl rfl rfl rfl) rfl ?_; refine za (ql rfl rfl rfl rfl (decide_eq_false (by omega))) rfl ?_; refine za (zb rfl rfl rfl) rfl ?_; refine za (zj rfl (zi rfl) rfl) rfl ?_; refine za (zj rfl (zi rfl) rfl) rfl ?_; refine za (zj rfl (zi rfl) rfl) rfl ?_; refine za (zm rfl rfl rfl rfl) rfl ?_; refine zg ?_; refine zh ?_; refine zo rfl ?_; refine zt ?_; refine zh ?_; refine zf ?_; refine zf ?_; refine zd (id := 3) ?_; refine za (zk L rfl rfl rfl rfl) rfl ?_; refine za (zu L (vs := [_, _, _]) (zn rfl) rfl rfl rfl rfl ⟨_, rfl⟩) rfl ?_; refine za (zq L rfl rfl (zi rfl) rfl rfl rfl (fun u H hH _ _ => rgoal_ret (by first | assumption | omega | decide) (by first | assumption | omega | decide) (by first | assumption | omega | decide) hH)) rfl ?_; refine za (qm rfl rfl rfl rfl (decide_eq_false (by omega))) rfl ?_; refine za (zb rfl rfl rfl) rfl ?_; refine za (zk L rfl rfl rfl rfl) rfl ?_; refine za (zl L (zn rfl) rfl rfl rfl rfl) rfl ?_; refine za (qf rfl rfl rfl rfl (decide_eq_true (by omega))) rfl ?_; refine za (zb rfl rfl rfl) rfl ?_; refine za (zk L rfl rfl rfl rfl) rfl ?_; refine za (zu L (vs := [_, _]) (zn rfl) rfl rfl rfl rfl ⟨_, rfl⟩) rfl ?_; refine za (zq L rfl rfl (zi rfl) rfl rfl rfl (fun u H hH _ _ => robject_ret (by first | assumption | omega | decide) (by first | assumption | omega | decide) hH)) rfl ?_; refine za (qm rfl rfl rfl rfl (decide_eq_false (by omega))) rfl ?_; refine za (zm rfl rfl rfl rfl) rfl ?_; refine za (zm rfl rfl rfl rfl) rfl ?_; refine zg ?_; refine zh ?_; refine zo rfl ?_; refine zt ?_; refine zh ?_; refine zf ?_; refine zf ?_; refine zd (id := 5) ?_; refine za (zk L rfl rfl rfl rfl) rfl ?_; refine za (zl L (zn rfl) rfl rfl rfl rfl) rfl ?_; refine za (qf rfl rfl rfl rfl (decide_eq_false (by omega))) rfl ?_; refine za (zb rfl rfl rfl) rfl ?_; refine za (zj rfl (zi rfl) rfl) rfl ?_; refine za (zj rfl (zi rfl) rfl) rfl ?_; refine za (zj rfl (zi rfl) rfl) rfl ?_; refine za (zj rfl (zi rfl) rfl) rfl ?_; refine za (zj rfl (zi rfl) rfl) rfl ?_; refine za (zj rfl (zi rfl) rfl) rfl ?_; refine za (zj rfl (zi rfl) rfl) rfl ?_; refine za (zj rfl (zi rfl) rfl) rfl ?_; refine za (zj rfl (zi rfl) rfl) rfl ?_; refine za (zj rfl (zi rfl) rfl) rfl ?_; refine za (zm rfl rfl rfl rfl) rfl ?_; refine zg ?_; refine zh ?_; refine zo rfl ?_; refine zt ?_; refine zh ?_; refine zf ?_; refine zd (id := 7) ?_; refine za (ze rfl rfl rfl) rfl ?_; refine zg ?_; refine zh ?_
          refine qh L (rs := [.tmp 2]) rfl (fun _ _ h => h) Since.refl fun u H hH hle => ?_
          rfl
        · rw [if_pos (by omega)] at he
          subst he
          refine zf ?_; refine zd (id := 0) ?_; refine za (qz rfl rfl rfl rfl) rfl ?_; refine za (ze rfl rfl rfl) rfl ?_; refine zg ?_; refine zh ?_; refine zf ?_; refine zf ?_; refine zd (id := 1) ?_; refine za (zk L rfl rfl rfl rfl) rfl ?_; refine za (zl L (zn rfl) rfl rfl rfl rfl) rfl ?_; refine za (ql rfl rfl rfl rfl (decide_eq_false (by omega))) rfl ?_; refine za (zb rfl rfl rfl) rfl ?_; refine za (zj rfl (zi rfl) rfl) rfl ?_; refine za (zj rfl (zi rfl) rfl) rfl ?_; refine za (zj rfl (zi rfl) rfl) rfl ?_; refine za (zm rfl rfl rfl rfl) rfl ?_; refine zg ?_; refine zh ?_; refine zo rfl ?_; refine zt ?_; refine zh ?_; refine zf ?_; refine zf ?_; refine zd (id := 3) ?_; refine za (zk L rfl rfl rfl rfl) rfl ?_; refine za (zu L (vs := [_, _, _]) (zn rfl) rfl rfl rfl rfl ⟨_, rfl⟩) rfl ?_; refine za (zq L rfl rfl (zi rfl) rfl rfl rfl (fun u H hH _ _ => rgoal_ret (by first | assumption | omega | decide) (by first | assumption | omega | decide) (by first | assumption | omega | decide) hH)) rfl ?_; refine za (qm rfl rfl rfl rfl (decide_eq_false (by omega))) rfl ?_; refine za (zb rfl rfl rfl) rfl ?_; refine za (zk L rfl rfl rfl rfl) rfl ?_; refine za (zl L (zn rfl) rfl rfl rfl rfl) rfl ?_; refine za (qf rfl rfl rfl rfl (decide_eq_true (by omega))) rfl ?_; refine za (zb rfl rfl rfl) rfl ?_; refine za (zk L rfl rfl rfl rfl) rfl ?_; refine za (zu L (vs := [_, _]) (zn rfl) rfl rfl rfl rfl ⟨_, rfl⟩) rfl ?_; refine za (zq L rfl rfl (zi rfl) rfl rfl rfl (fun u H hH _ _ => robject_ret (by first | assumption | omega | decide) (by first | assumption | omega | decide) hH)) rfl ?_; refine za (qm rfl rfl rfl rfl (decide_eq_true (by omega))) rfl ?_; refine za (zm rfl rfl rfl rfl) rfl ?_; refine za (zm rfl rfl rfl rfl) rfl ?_; refine zg ?_; refine zh ?_; refine zx rfl ?_; refine zf ?_; refine zd (id := 4) ?_; refine za (ze rfl rfl rfl) rfl ?_; refine zg ?_; refine zh ?_
          refine qh L (rs := [.tmp 2]) rfl (fun _ _ h => h) Since.refl fun u H hH hle => ?_
          rfl
      · have h2 : q.kd = 2 := by omega
        rw [if_neg (by omega)] at he
        by_cases hu1 : q.u.1 = ⟨#[]⟩
        · have hn1 : ¬ (q.u.1 ≠ ⟨#[]⟩) := fun h => h hu1
          by_cases hu2 : q.u.2 = ⟨#[]⟩
          · have hn2 : ¬ (q.u.2 ≠ ⟨#[]⟩) := fun h => h hu2
            rw [if_neg (fun h => h.2 (Prod.ext hu1 hu2))] at he
            subst he
            refine zf ?_; refine zd (id := 0) ?_; refine za (qz rfl rfl rfl rfl) rfl ?_; refine za (ze rfl rfl rfl) rfl ?_; refine zg ?_; refine zh ?_; refine zf ?_; refine zf ?_; refine zd (id := 1) ?_; refine za (zk L rfl rfl rfl rfl) rfl ?_; refine za (zl L (zn rfl) rfl rfl rfl rfl) rfl ?_; refine za (ql rfl rfl rfl rfl (decide_eq_true (by omega))) rfl ?_; refine za (zb rfl rfl rfl) rfl ?_; refine za (zk L rfl rfl rfl rfl) rfl ?_; refine za (zl L (zn rfl) rfl rfl rfl rfl) rfl ?_; refine za (ql rfl rfl rfl rfl (decide_eq_false (by omega))) rfl ?_; refine za (zm rfl rfl rfl rfl) rfl ?_; refine zg ?_; refine zh ?_; refine zo rfl ?_; refine zt ?_; refine zh ?_; refine zf ?_; refine zf ?_; refine zd (id := 3) ?_; refine za (zk L rfl rfl rfl rfl) rfl ?_; refine za (zu L (vs := [_, _, _]) (zn rfl) rfl rfl rfl rfl ⟨_, rfl⟩) rfl ?_; refine za (zq L rfl rfl (zi rfl) rfl rfl rfl (fun u H hH _ _ => rgoal_ret (by first | assumption | omega | decide) (by first | assumption | omega | decide) (by first | assumption | omega | decide) hH)) rfl ?_; refine za (qm rfl rfl rfl rfl (decide_eq_false (by omega))) rfl ?_; refine za (zb rfl rfl rfl) rfl ?_; refine za (zk L rfl rfl rfl rfl) rfl ?_; refine za (zl L (zn rfl) rfl rfl rfl rfl) rfl ?_; refine za (qf rfl rfl rfl rfl (decide_eq_false (by omega))) rfl ?_; refine za (zb rfl rfl rfl) rfl ?_; refine za (zj rfl (zi rfl) rfl) rfl ?_; refine za (zj rfl (zi rfl) rfl) rfl ?_; refine za (zj rfl (zi rfl) rfl) rfl ?_; refine za (zj rfl (zi rfl) rfl) rfl ?_; refine za (zm rfl rfl rfl rfl) rfl ?_; refine za (zm rfl rfl rfl rfl) rfl ?_; refine zg ?_; refine zh ?_; refine zo rfl ?_; refine zt ?_; refine zh ?_; refine zf ?_; refine zf ?_; refine zd (id := 5) ?_; refine za (zk L rfl rfl rfl rfl) rfl ?_; refine za (zl L (zn rfl) rfl rfl rfl rfl) rfl ?_; refine za (qf rfl rfl rfl rfl (decide_eq_true (by omega))) rfl ?_; refine za (zb rfl rfl rfl) rfl ?_; refine za (zk L rfl rfl rfl rfl) rfl ?_; refine za (zk L rfl rfl rfl rfl) rfl ?_; refine za (zl L (zn rfl) rfl rfl rfl rfl) rfl ?_; refine za (ok_sneq rfl rfl rfl rfl (decide_eq_false (by assumption))) rfl ?_; refine za (zb rfl rfl rfl) rfl ?_; refine za (zk L rfl rfl rfl rfl) rfl ?_; refine za (zk L rfl rfl rfl rfl) rfl ?_; refine za (zl L (zn rfl) rfl rfl rfl rfl) rfl ?_; refine za (ok_sneq rfl rfl rfl rfl (decide_eq_false (by assumption))) rfl ?_; refine za (zm rfl rfl rfl rfl) rfl ?_; refine za (zm rfl rfl rfl rfl) rfl ?_; refine zg ?_; refine zh ?_; refine zo rfl ?_; refine zt ?_; refine zh ?_; refine zf ?_; refine zd (id := 7) ?_; refine za (ze rfl rfl rfl) rfl ?_; refine zg ?_; refine zh ?_
            refine qh L (rs := [.tmp 2]) rfl (fun _ _ h => h) Since.refl fun u H hH hle => ?_
            rfl
          · rw [if_pos ⟨h2, fun h => hu2 (by rw [h])⟩] at he
            subst he
            refine zf ?_; refine zd (id := 0) ?_; refine za (qz rfl rfl rfl rfl) rfl ?_; refine za (ze rfl rfl rfl) rfl ?_; refine zg ?_; refine zh ?_; refine zf ?_; refine zf ?_; refine zd (id := 1) ?_; refine za (zk L rfl rfl rfl rfl) rfl ?_; refine za (zl L (zn rfl) rfl rfl rfl rfl) rfl ?_; refine za (ql rfl rfl rfl rfl (decide_eq_true (by omega))) rfl ?_; refine za (zb rfl rfl rfl) rfl ?_; refine za (zk L rfl rfl rfl rfl) rfl ?_; refine za (zl L (zn rfl) rfl rfl rfl rfl) rfl ?_; refine za (ql rfl rfl rfl rfl (decide_eq_false (by omega))) rfl ?_; refine za (zm rfl rfl rfl rfl) rfl ?_; refine zg ?_; refine zh ?_; refine zo rfl ?_; refine zt ?_; refine zh ?_; refine zf ?_; refine zf ?_; refine zd (id := 3) ?_; refine za (zk L rfl rfl rfl rfl) rfl ?_; refine za (zu L (vs := [_, _, _]) (zn rfl) rfl rfl rfl rfl ⟨_, rfl⟩) rfl ?_; refine za (zq L rfl rfl (zi rfl) rfl rfl rfl (fun u H hH _ _ => rgoal_ret (by first | assumption | omega | decide) (by first | assumption | omega | decide) (by first | assumption | omega | decide) hH)) rfl ?_; refine za (qm rfl rfl rfl rfl (decide_eq_false (by omega))) rfl ?_; refine za (zb rfl rfl rfl) rfl ?_; refine za (zk L rfl rfl rfl rfl) rfl ?_; refine za (zl L (zn rfl) rfl rfl rfl rfl) rfl ?_; refine za (qf rfl rfl rfl rfl (decide_eq_false (by omega))) rfl ?_; refine za (zb rfl rfl rfl) rfl ?_; refine za (zj rfl (zi rfl) rfl) rfl ?_; refine za (zj rfl (zi rfl) rfl) rfl ?_; refine za (zj rfl (zi rfl) rfl) rfl ?_; refine za (zj rfl (zi rfl) rfl) rfl ?_; refine za (zm rfl rfl rfl rfl) rfl ?_; refine za (zm rfl rfl rfl rfl) rfl ?_; refine zg ?_; refine zh ?_; refine zo rfl ?_; refine zt ?_; refine zh ?_; refine zf ?_; refine zf ?_; refine zd (id := 5) ?_; refine za (zk L rfl rfl rfl rfl) rfl ?_; refine za (zl L (zn rfl) rfl rfl rfl rfl) rfl ?_; refine za (qf rfl rfl rfl rfl (decide_eq_true (by omega))) rfl ?_; refine za (zb rfl rfl rfl) rfl ?_; refine za (zk L rfl rfl rfl rfl) rfl ?_; refine za (zk L rfl rfl rfl rfl) rfl ?_; refine za (zl L (zn rfl) rfl rfl rfl rfl) rfl ?_; refine za (ok_sneq rfl rfl rfl rfl (decide_eq_false (by assumption))) rfl ?_; refine za (zb rfl rfl rfl) rfl ?_; refine za (zk L rfl rfl rfl rfl) rfl ?_; refine za (zk L rfl rfl rfl rfl) rfl ?_; refine za (zl L (zn rfl) rfl rfl rfl rfl) rfl ?_; refine za (ok_sneq rfl rfl rfl rfl (decide_eq_true (by assumption))) rfl ?_; refine za (zm rfl rfl rfl rfl) rfl ?_; refine za (zm rfl rfl rfl rfl) rfl ?_; refine zg ?_; refine zh ?_; refine zx rfl ?_; refine zf ?_; refine zd (id := 6) ?_; refine za (ze rfl rfl rfl) rfl ?_; refine zg ?_; refine zh ?_
            refine qh L (rs := [.tmp 2]) rfl (fun _ _ h => h) Since.refl fun u H hH hle => ?_
            rfl
        · rw [if_pos ⟨h2, fun h => hu1 (by rw [h])⟩] at he
          subst he
          refine zf ?_; refine zd (id := 0) ?_; refine za (qz rfl rfl rfl rfl) rfl ?_; refine za (ze rfl rfl rfl) rfl ?_; refine zg ?_; refine zh ?_; refine zf ?_; refine zf ?_; refine zd (id := 1) ?_; refine za (zk L rfl rfl rfl rfl) rfl ?_; refine za (zl L (zn rfl) rfl rfl rfl rfl) rfl ?_; refine za (ql rfl rfl rfl rfl (decide_eq_true (by omega))) rfl ?_; refine za (zb rfl rfl rfl) rfl ?_; refine za (zk L rfl rfl rfl rfl) rfl ?_; refine za (zl L (zn rfl) rfl rfl rfl rfl) rfl ?_; refine za (ql rfl rfl rfl rfl (decide_eq_false (by omega))) rfl ?_; refine za (zm rfl rfl rfl rfl) rfl ?_; refine zg ?_; refine zh ?_; refine zo rfl ?_; refine zt ?_; refine zh ?_; refine zf ?_; refine zf ?_; refine zd (id := 3) ?_; refine za (zk L rfl rfl rfl rfl) rfl ?_; refine za (zu L (vs := [_, _, _]) (zn rfl) rfl rfl rfl rfl ⟨_, rfl⟩) rfl ?_; refine za (zq L rfl rfl (zi rfl) rfl rfl rfl (fun u H hH _ _ => rgoal_ret (by first | assumption | omega | decide) (by first | assumption | omega | decide) (by first | assumption | omega | decide) hH)) rfl ?_; refine za (qm rfl rfl rfl rfl (decide_eq_false (by omega))) rfl ?_; refine za (zb rfl rfl rfl) rfl ?_; refine za (zk L rfl rfl rfl rfl) rfl ?_; refine za (zl L (zn rfl) rfl rfl rfl rfl) rfl ?_; refine za (qf rfl rfl rfl rfl (decide_eq_false (by omega))) rfl ?_; refine za (zb rfl rfl rfl) rfl ?_; refine za (zj rfl (zi rfl) rfl) rfl ?_; refine za (zj rfl (zi rfl) rfl) rfl ?_; refine za (zj rfl (zi rfl) rfl) rfl ?_; refine za (zj rfl (zi rfl) rfl) rfl ?_; refine za (zm rfl rfl rfl rfl) rfl ?_; refine za (zm rfl rfl rfl rfl) rfl ?_; refine zg ?_; refine zh ?_; refine zo rfl ?_; refine zt ?_; refine zh ?_; refine zf ?_; refine zf ?_; refine zd (id := 5) ?_; refine za (zk L rfl rfl rfl rfl) rfl ?_; refine za (zl L (zn rfl) rfl rfl rfl rfl) rfl ?_; refine za (qf rfl rfl rfl rfl (decide_eq_true (by omega))) rfl ?_; refine za (zb rfl rfl rfl) rfl ?_; refine za (zk L rfl rfl rfl rfl) rfl ?_; refine za (zk L rfl rfl rfl rfl) rfl ?_; refine za (zl L (zn rfl) rfl rfl rfl rfl) rfl ?_; refine za (ok_sneq rfl rfl rfl rfl (decide_eq_true (by assumption))) rfl ?_; refine za (zb rfl rfl rfl) rfl ?_; refine za (zj rfl (zi rfl) rfl) rfl ?_; refine za (zj rfl (zi rfl) rfl) rfl ?_; refine za (zj rfl (zi rfl) rfl) rfl ?_; refine za (zj rfl (zi rfl) rfl) rfl ?_; refine za (zm rfl rfl rfl rfl) rfl ?_; refine za (zm rfl rfl rfl rfl) rfl ?_; refine zg ?_; refine zh ?_; refine zx rfl ?_; refine zf ?_; refine zd (id := 6) ?_; refine za (ze rfl rfl rfl) rfl ?_; refine zg ?_; refine zh ?_
          refine qh L (rs := [.tmp 2]) rfl (fun _ _ h => h) Since.refl fun u H hH hle => ?_
          rfl
    · rw [if_pos (by omega)] at he
      subst he
      rcases hk with h1 | h1
      · refine zf ?_; refine zd (id := 0) ?_; refine za (qz rfl rfl rfl rfl) rfl ?_; refine za (ze rfl rfl rfl) rfl ?_; refine zg ?_; refine zh ?_; refine zf ?_; refine zf ?_; refine zd (id := 1) ?_; refine za (zk L rfl rfl rfl rfl) rfl ?_; refine za (zl L (zn rfl) rfl rfl rfl rfl) rfl ?_; refine za (ql rfl rfl rfl rfl (decide_eq_false (by omega))) rfl ?_; refine za (zb rfl rfl rfl) rfl ?_; refine za (zj rfl (zi rfl) rfl) rfl ?_; refine za (zj rfl (zi rfl) rfl) rfl ?_; refine za (zj rfl (zi rfl) rfl) rfl ?_; refine za (zm rfl rfl rfl rfl) rfl ?_; refine zg ?_; refine zh ?_; refine zo rfl ?_; refine zt ?_; refine zh ?_; refine zf ?_; refine zf ?_; refine zd (id := 3) ?_; refine za (zk L rfl rfl rfl rfl) rfl ?_; refine za (zu L (vs := [_, _, _]) (zn rfl) rfl rfl rfl rfl ⟨_, rfl⟩) rfl ?_; refine za (zq L rfl rfl (zi rfl) rfl rfl rfl (fun u H hH _ _ => rgoal_ret (by first | assumption | omega | decide) (by first | assumption | omega | decide) (by first | assumption | omega | decide) hH)) rfl ?_; refine za (qm rfl rfl rfl rfl (decide_eq_true (by omega))) rfl ?_; refine za (zb rfl rfl rfl) rfl ?_; refine za (zj rfl (zi rfl) rfl) rfl ?_; refine za (zj rfl (zi rfl) rfl) rfl ?_; refine za (zj rfl (zi rfl) rfl) rfl ?_; refine za (zj rfl (zi rfl) rfl) rfl ?_; refine za (zj rfl (zi rfl) rfl) rfl ?_; refine za (zj rfl (zi rfl) rfl) rfl ?_; refine za (zj rfl (zi rfl) rfl) rfl ?_; refine za (zj rfl (zi rfl) rfl) rfl ?_; refine za (zj rfl (zi rfl) rfl) rfl ?_; refine za (zm rfl rfl rfl rfl) rfl ?_; refine zg ?_; refine zh ?_; refine zx rfl ?_; refine zf ?_; refine zd (id := 4) ?_; refine za (ze rfl rfl rfl) rfl ?_; refine zg ?_; refine zh ?_
        refine qh L (rs := [.tmp 2]) rfl (fun _ _ h => h) Since.refl fun u H hH hle => ?_
        rfl
      · refine zf ?_; refine zd (id := 0) ?_; refine za (qz rfl rfl rfl rfl) rfl ?_; refine za (ze rfl rfl rfl) rfl ?_; refine zg ?_; refine zh ?_; refine zf ?_; refine zf ?_; refine zd (id := 1) ?_; refine za (zk L rfl rfl rfl rfl) rfl ?_; refine za (zl L (zn rfl) rfl rfl rfl rfl) rfl ?_; refine za (ql rfl rfl rfl rfl (decide_eq_true (by omega))) rfl ?_; refine za (zb rfl rfl rfl) rfl ?_; refine za (zk L rfl rfl rfl rfl) rfl ?_; refine za (zl L (zn rfl) rfl rfl rfl rfl) rfl ?_; refine za (ql rfl rfl rfl rfl (decide_eq_false (by omega))) rfl ?_; refine za (zm rfl rfl rfl rfl) rfl ?_; refine zg ?_; refine zh ?_; refine zo rfl ?_; refine zt ?_; refine zh ?_; refine zf ?_; refine zf ?_; refine zd (id := 3) ?_; refine za (zk L rfl rfl rfl rfl) rfl ?_; refine za (zu L (vs := [_, _, _]) (zn rfl) rfl rfl rfl rfl ⟨_, rfl⟩) rfl ?_; refine za (zq L rfl rfl (zi rfl) rfl rfl rfl (fun u H hH _ _ => rgoal_ret (by first | assumption | omega | decide) (by first | assumption | omega | decide) (by first | assumption | omega | decide) hH)) rfl ?_; refine za (qm rfl rfl rfl rfl (decide_eq_true (by omega))) rfl ?_; refine za (zb rfl rfl rfl) rfl ?_; refine za (zj rfl (zi rfl) rfl) rfl ?_; refine za (zj rfl (zi rfl) rfl) rfl ?_; refine za (zj rfl (zi rfl) rfl) rfl ?_; refine za (zj rfl (zi rfl) rfl) rfl ?_; refine za (zj rfl (zi rfl) rfl) rfl ?_; refine za (zj rfl (zi rfl) rfl) rfl ?_; refine za (zj rfl (zi rfl) rfl) rfl ?_; refine za (zj rfl (zi rfl) rfl) rfl ?_; refine za (zj rfl (zi rfl) rfl) rfl ?_; refine za (zm rfl rfl rfl rfl) rfl ?_; refine zg ?_; refine zh ?_; refine zx rfl ?_; refine zf ?_; refine zd (id := 4) ?_; refine za (ze rfl rfl rfl) rfl ?_; refine zg ?_; refine zh ?_
        refine qh L (rs := [.tmp 2]) rfl (fun _ _ h => h) Since.refl fun u H hH hle => ?_
        rfl
  · rw [if_pos (by omega)] at he
    subst he
    refine zf ?_; refine zd (id := 0) ?_; refine za (qz rfl rfl rfl rfl) rfl ?_; refine za (ze rfl rfl rfl) rfl ?_; refine zg ?_; refine zh ?_; refine zf ?_; refine zf ?_; refine zd (id := 1) ?_; refine za (zk L rfl rfl rfl rfl) rfl ?_; refine za (zl L (zn rfl) rfl rfl rfl rfl) rfl ?_; refine za (ql rfl rfl rfl rfl (decide_eq_true (by omega))) rfl ?_; refine za (zb rfl rfl rfl) rfl ?_; refine za (zk L rfl rfl rfl rfl) rfl ?_; refine za (zl L (zn rfl) rfl rfl rfl rfl) rfl ?_; refine za (ql rfl rfl rfl rfl (decide_eq_true (by omega))) rfl ?_; refine za (zm rfl rfl rfl rfl) rfl ?_; refine zg ?_; refine zh ?_; refine zx rfl ?_; refine zf ?_; refine zd (id := 2) ?_; refine za (ze rfl rfl rfl) rfl ?_; refine zg ?_; refine zh ?_
    refine qh L (rs := [.tmp 2]) rfl (fun _ _ h => h) Since.refl fun u H hH hle => ?_
    rfl
theorem ritem_ret {x : It} (hr0 : 0 ≤ x.rv) {b : Bool} (hb : itV x = b) {w : World} {B : Heap} (hB : B.Le (hp w)) : Ret Try.prog 37 [itv x] w B (fun v _ => v = .int .i64 (if b = true then 1 else 0)) := by
  cases b with
  | true =>
    obtain ⟨h1, h2, h3, h4, h5, h6, h7, h8, h9⟩ := itV_iff.1 hb
    refine y6 Try.func37 rfl Try.ntmps37 (Nat.le_of_ble_eq_true rfl) hB ?_
    refine zf ?_; refine zd (id := 0) ?_; refine za (qz rfl rfl rfl rfl) rfl ?_; refine za (ze rfl rfl rfl) rfl ?_; refine zg ?_; refine zh ?_; refine zf ?_; refine zf ?_; refine zd (id := 1) ?_; refine za (zk L rfl rfl rfl rfl) rfl ?_; refine za (zl L (zn rfl) rfl rfl rfl rfl) rfl ?_; refine za (zw rfl rfl rfl rfl (decide_eq_false (by omega))) rfl ?_; refine za (zb rfl rfl rfl) rfl ?_; refine za (zk L rfl rfl rfl rfl) rfl ?_; refine za (zl L (zn rfl) rfl rfl rfl rfl) rfl ?_; refine za (qm rfl rfl rfl rfl (decide_eq_false (by omega))) rfl ?_; refine za (zm rfl rfl rfl rfl) rfl ?_; refine za (zb rfl rfl rfl) rfl ?_; refine za (zk L rfl rfl rfl rfl) rfl ?_; refine za (zl L (zn rfl) rfl rfl rfl rfl) rfl ?_; refine za (zw rfl rfl rfl rfl (decide_eq_false (by omega))) rfl ?_; refine za (zm rfl rfl rfl rfl) rfl ?_; refine za (zb rfl rfl rfl) rfl ?_; refine za (zk L rfl rfl rfl rfl) rfl ?_; refine za (zl L (zn rfl) rfl rfl rfl rfl) rfl ?_; refine za (qm rfl rfl rfl rfl (decide_eq_false (by omega))) rfl ?_; refine za (zm rfl rfl rfl rfl) rfl ?_; refine za (zb rfl rfl rfl) rfl ?_; refine za (zk L rfl rfl rfl rfl) rfl ?_; refine za (zl L (zn rfl) rfl rfl rfl rfl) rfl ?_; refine za (zw rfl rfl rfl rfl (decide_eq_false (by omega))) rfl ?_; refine za (zm rfl rfl rfl rfl) rfl ?_; refine za (zb rfl rfl rfl) rfl ?_; refine za (zk L rfl rfl rfl rfl) rfl ?_; refine za (zl L (zn rfl) rfl rfl rfl rfl) rfl ?_; refine za (qm rfl rfl rfl rfl (decide_eq_false (by omega))) rfl ?_; refine za (zm rfl rfl rfl rfl) rfl ?_; refine za (zb rfl rfl rfl) rfl ?_; refine za (zk L rfl rfl rfl rfl) rfl ?_; refine za (zl L (zn rfl) rfl rfl rfl rfl) rfl ?_; refine za (zw rfl rfl rfl rfl (decide_eq_false (by omega))) rfl ?_; refine za (zm rfl rfl rfl rfl) rfl ?_; refine za (zb rfl rfl rfl) rfl ?_; refine za (zk L rfl rfl rfl rfl) rfl ?_; refine za (zl L (zn rfl) rfl rfl rfl rfl) rfl ?_; refine za (qm rfl rfl rfl rfl (decide_eq_false (by omega))) rfl ?_; refine za (zm rfl rfl rfl rfl) rfl ?_; refine za (zb rfl rfl rfl) rfl ?_; refine za (zk L rfl rfl rfl rfl) rfl ?_; refine za (zl L (zn rfl) rfl rfl rfl rfl) rfl ?_; refine za (qf rfl rfl rfl rfl (decide_eq_false (by omega))) rfl ?_; refine za (zm rfl rfl rfl rfl) rfl ?_; refine zg ?_; refine zh ?_; refine zo rfl ?_; refine zt ?_; refine zh ?_; refine zf ?_; refine zd (id := 3) ?_; refine za (ze rfl rfl rfl) rfl ?_; refine zg ?_; refine zh ?_
    refine qh L (rs := [.tmp 2]) rfl (fun _ _ h => h) Since.refl fun u H hH hle => ?_
    rfl
  | false =>
    have hn : ¬ (0 ≤ x.tk ∧ x.tk ≤ 2147483647 ∧ 0 ≤ x.im ∧ x.im ≤ 7 ∧ 0 ≤ x.cl ∧ x.cl ≤ 15 ∧ 0 ≤ x.cs ∧ x.cs ≤ 7 ∧ 0 < x.rv) := fun h => by rw [itV_iff.2 h] at hb; cases hb
    refine y6 Try.func37 rfl Try.ntmps37 (Nat.le_of_ble_eq_true rfl) hB ?_
    by_cases h1 : 0 ≤ x.tk
    · by_cases h2 : x.tk ≤ 2147483647
      · by_cases h3 : 0 ≤ x.im
        · by_cases h4 : x.im ≤ 7
          · by_cases h5 : 0 ≤ x.cl
            · by_cases h6 : x.cl ≤ 15
              · by_cases h7 : 0 ≤ x.cs
                · by_cases h8 : x.cs ≤ 7
                  · have hz9 : ¬ 0 < x.rv := by omega
                    refine zf ?_; refine zd (id := 0) ?_; refine za (qz rfl rfl rfl rfl) rfl ?_; refine za (ze rfl rfl rfl) rfl ?_; refine zg ?_; refine zh ?_; refine zf ?_; refine zf ?_; refine zd (id := 1) ?_; refine za (zk L rfl rfl rfl rfl) rfl ?_; refine za (zl L (zn rfl) rfl rfl rfl rfl) rfl ?_; refine za (zw rfl rfl rfl rfl (decide_eq_false (by omega))) rfl ?_; refine za (zb rfl rfl rfl) rfl ?_; refine za (zk L rfl rfl rfl rfl) rfl ?_; refine za (zl L (zn rfl) rfl rfl rfl rfl) rfl ?_; refine za (qm rfl rfl rfl rfl (decide_eq_false (by omega))) rfl ?_; refine za (zm rfl rfl rfl rfl) rfl ?_; refine za (zb rfl rfl rfl) rfl ?_; refine za (zk L rfl rfl rfl rfl) rfl ?_; refine za (zl L (zn rfl) rfl rfl rfl rfl) rfl ?_; refine za (zw rfl rfl rfl rfl (decide_eq_false (by omega))) rfl ?_; refine za (zm rfl rfl rfl rfl) rfl ?_; refine za (zb rfl rfl rfl) rfl ?_; refine za (zk L rfl rfl rfl rfl) rfl ?_; refine za (zl L (zn rfl) rfl rfl rfl rfl) rfl ?_; refine za (qm rfl rfl rfl rfl (decide_eq_false (by omega))) rfl ?_; refine za (zm rfl rfl rfl rfl) rfl ?_; refine za (zb rfl rfl rfl) rfl ?_; refine za (zk L rfl rfl rfl rfl) rfl ?_; refine za (zl L (zn rfl) rfl rfl rfl rfl) rfl ?_; refine za (zw rfl rfl rfl rfl (decide_eq_false (by omega))) rfl ?_; refine za (zm rfl rfl rfl rfl) rfl ?_; refine za (zb rfl rfl rfl) rfl ?_; refine za (zk L rfl rfl rfl rfl) rfl ?_; refine za (zl L (zn rfl) rfl rfl rfl rfl) rfl ?_; refine za (qm rfl rfl rfl rfl (decide_eq_false (by omega))) rfl ?_; refine za (zm rfl rfl rfl rfl) rfl ?_; refine za (zb rfl rfl rfl) rfl ?_; refine za (zk L rfl rfl rfl rfl) rfl ?_; refine za (zl L (zn rfl) rfl rfl rfl rfl) rfl ?_; refine za (zw rfl rfl rfl rfl (decide_eq_false (by omega))) rfl ?_; refine za (zm rfl rfl rfl rfl) rfl ?_; refine za (zb rfl rfl rfl) rfl ?_; refine za (zk L rfl rfl rfl rfl) rfl ?_; refine za (zl L (zn rfl) rfl rfl rfl rfl) rfl ?_; refine za (qm rfl rfl rfl rfl (decide_eq_false (by omega))) rfl ?_; refine za (zm rfl rfl rfl rfl) rfl ?_; refine za (zb rfl rfl rfl) rfl ?_; refine za (zk L rfl rfl rfl rfl) rfl ?_; refine za (zl L (zn rfl) rfl rfl rfl rfl) rfl ?_; refine za (qf rfl rfl rfl rfl (decide_eq_true (by omega))) rfl ?_; refine za (zm rfl rfl rfl rfl) rfl ?_; refine zg ?_; refine zh ?_; refine zx rfl ?_; refine zf ?_; refine zd (id := 2) ?_; refine za (ze rfl rfl rfl) rfl ?_; refine zg ?_; refine zh ?_
                    refine qh L (rs := [.tmp 2]) rfl (fun _ _ h => h) Since.refl fun u H hH hle => ?_
                    rfl
                  · refine zf ?_; refine zd (id := 0) ?_; refine za (qz rfl rfl rfl rfl) rfl ?_; refine za (ze rfl rfl rfl) rfl ?_; refine zg ?_; refine zh ?_; refine zf ?_; refine zf ?_; refine zd (id := 1) ?_; refine za (zk L rfl rfl rfl rfl) rfl ?_; refine za (zl L (zn rfl) rfl rfl rfl rfl) rfl ?_; refine za (zw rfl rfl rfl rfl (decide_eq_false (by omega))) rfl ?_; refine za (zb rfl rfl rfl) rfl ?_; refine za (zk L rfl rfl rfl rfl) rfl ?_; refine za (zl L (zn rfl) rfl rfl rfl rfl) rfl ?_; refine za (qm rfl rfl rfl rfl (decide_eq_false (by omega))) rfl ?_; refine za (zm rfl rfl rfl rfl) rfl ?_; refine za (zb rfl rfl rfl) rfl ?_; refine za (zk L rfl rfl rfl rfl) rfl ?_; refine za (zl L (zn rfl) rfl rfl rfl rfl) rfl ?_; refine za (zw rfl rfl rfl rfl (decide_eq_false (by omega))) rfl ?_; refine za (zm rfl rfl rfl rfl) rfl ?_; refine za (zb rfl rfl rfl) rfl ?_; refine za (zk L rfl rfl rfl rfl) rfl ?_; refine za (zl L (zn rfl) rfl rfl rfl rfl) rfl ?_; refine za (qm rfl rfl rfl rfl (decide_eq_false (by omega))) rfl ?_; refine za (zm rfl rfl rfl rfl) rfl ?_; refine za (zb rfl rfl rfl) rfl ?_; refine za (zk L rfl rfl rfl rfl) rfl ?_; refine za (zl L (zn rfl) rfl rfl rfl rfl) rfl ?_; refine za (zw rfl rfl rfl rfl (decide_eq_false (by omega))) rfl ?_; refine za (zm rfl rfl rfl rfl) rfl ?_; refine za (zb rfl rfl rfl) rfl ?_; refine za (zk L rfl rfl rfl rfl) rfl ?_; refine za (zl L (zn rfl) rfl rfl rfl rfl) rfl ?_; refine za (qm rfl rfl rfl rfl (decide_eq_false (by omega))) rfl ?_; refine za (zm rfl rfl rfl rfl) rfl ?_; refine za (zb rfl rfl rfl) rfl ?_; refine za (zk L rfl rfl rfl rfl) rfl ?_; refine za (zl L (zn rfl) rfl rfl rfl rfl) rfl ?_; refine za (zw rfl rfl rfl rfl (decide_eq_false (by omega))) rfl ?_; refine za (zm rfl rfl rfl rfl) rfl ?_; refine za (zb rfl rfl rfl) rfl ?_; refine za (zk L rfl rfl rfl rfl) rfl ?_; refine za (zl L (zn rfl) rfl rfl rfl rfl) rfl ?_; refine za (qm rfl rfl rfl rfl (decide_eq_true (by omega))) rfl ?_; refine za (zm rfl rfl rfl rfl) rfl ?_; refine za (zb rfl rfl rfl) rfl ?_; refine za (zj rfl (zi rfl) rfl) rfl ?_; refine za (zj rfl (zi rfl) rfl) rfl ?_; refine za (zj rfl (zi rfl) rfl) rfl ?_; refine za (zm rfl rfl rfl rfl) rfl ?_; refine zg ?_; refine zh ?_; refine zx rfl ?_; refine zf ?_; refine zd (id := 2) ?_; refine za (ze rfl rfl rfl) rfl ?_; refine zg ?_; refine zh ?_
                    refine qh L (rs := [.tmp 2]) rfl (fun _ _ h => h) Since.refl fun u H hH hle => ?_
                    rfl
                · refine zf ?_; refine zd (id := 0) ?_; refine za (qz rfl rfl rfl rfl) rfl ?_; refine za (ze rfl rfl rfl) rfl ?_; refine zg ?_; refine zh ?_; refine zf ?_; refine zf ?_; refine zd (id := 1) ?_; refine za (zk L rfl rfl rfl rfl) rfl ?_; refine za (zl L (zn rfl) rfl rfl rfl rfl) rfl ?_; refine za (zw rfl rfl rfl rfl (decide_eq_false (by omega))) rfl ?_; refine za (zb rfl rfl rfl) rfl ?_; refine za (zk L rfl rfl rfl rfl) rfl ?_; refine za (zl L (zn rfl) rfl rfl rfl rfl) rfl ?_; refine za (qm rfl rfl rfl rfl (decide_eq_false (by omega))) rfl ?_; refine za (zm rfl rfl rfl rfl) rfl ?_; refine za (zb rfl rfl rfl) rfl ?_; refine za (zk L rfl rfl rfl rfl) rfl ?_; refine za (zl L (zn rfl) rfl rfl rfl rfl) rfl ?_; refine za (zw rfl rfl rfl rfl (decide_eq_false (by omega))) rfl ?_; refine za (zm rfl rfl rfl rfl) rfl ?_; refine za (zb rfl rfl rfl) rfl ?_; refine za (zk L rfl rfl rfl rfl) rfl ?_; refine za (zl L (zn rfl) rfl rfl rfl rfl) rfl ?_; refine za (qm rfl rfl rfl rfl (decide_eq_false (by omega))) rfl ?_; refine za (zm rfl rfl rfl rfl) rfl ?_; refine za (zb rfl rfl rfl) rfl ?_; refine za (zk L rfl rfl rfl rfl) rfl ?_; refine za (zl L (zn rfl) rfl rfl rfl rfl) rfl ?_; refine za (zw rfl rfl rfl rfl (decide_eq_false (by omega))) rfl ?_; refine za (zm rfl rfl rfl rfl) rfl ?_; refine za (zb rfl rfl rfl) rfl ?_; refine za (zk L rfl rfl rfl rfl) rfl ?_; refine za (zl L (zn rfl) rfl rfl rfl rfl) rfl ?_; refine za (qm rfl rfl rfl rfl (decide_eq_false (by omega))) rfl ?_; refine za (zm rfl rfl rfl rfl) rfl ?_; refine za (zb rfl rfl rfl) rfl ?_; refine za (zk L rfl rfl rfl rfl) rfl ?_; refine za (zl L (zn rfl) rfl rfl rfl rfl) rfl ?_; refine za (zw rfl rfl rfl rfl (decide_eq_true (by omega))) rfl ?_; refine za (zm rfl rfl rfl rfl) rfl ?_; refine za (zb rfl rfl rfl) rfl ?_; refine za (zj rfl (zi rfl) rfl) rfl ?_; refine za (zj rfl (zi rfl) rfl) rfl ?_; refine za (zj rfl (zi rfl) rfl) rfl ?_; refine za (zm rfl rfl rfl rfl) rfl ?_; refine za (zb rfl rfl rfl) rfl ?_; refine za (zj rfl (zi rfl) rfl) rfl ?_; refine za (zj rfl (zi rfl) rfl) rfl ?_; refine za (zj rfl (zi rfl) rfl) rfl ?_; refine za (zm rfl rfl rfl rfl) rfl ?_; refine zg ?_; refine zh ?_; refine zx rfl ?_; refine zf ?_; refine zd (id := 2) ?_; refine za (ze rfl rfl rfl) rfl ?_; refine zg ?_; refine zh ?_
                  refine qh L (rs := [.tmp 2]) rfl (fun _ _ h => h) Since.refl fun u H hH hle => ?_
                  rfl
              · refine zf ?_; refine zd (id := 0) ?_; refine za (qz rfl rfl rfl rfl) rfl ?_; refine za (ze rfl rfl rfl) rfl ?_; refine zg ?_; refine zh ?_; refine zf ?_; refine zf ?_; refine zd (id := 1) ?_; refine za (zk L rfl rfl rfl rfl) rfl ?_; refine za (zl L (zn rfl) rfl rfl rfl rfl) rfl ?_; refine za (zw rfl rfl rfl rfl (decide_eq_false (by omega))) rfl ?_; refine za (zb rfl rfl rfl) rfl ?_; refine za (zk L rfl rfl rfl rfl) rfl ?_; refine za (zl L (zn rfl) rfl rfl rfl rfl) rfl ?_; refine za (qm rfl rfl rfl rfl (decide_eq_false (by omega))) rfl ?_; refine za (zm rfl rfl rfl rfl) rfl ?_; refine za (zb rfl rfl rfl) rfl ?_; refine za (zk L rfl rfl rfl rfl) rfl ?_; refine za (zl L (zn rfl) rfl rfl rfl rfl) rfl ?_; refine za (zw rfl rfl rfl rfl (decide_eq_false (by omega))) rfl ?_; refine za (zm rfl rfl rfl rfl) rfl ?_; refine za (zb rfl rfl rfl) rfl ?_; refine za (zk L rfl rfl rfl rfl) rfl ?_; refine za (zl L (zn rfl) rfl rfl rfl rfl) rfl ?_; refine za (qm rfl rfl rfl rfl (decide_eq_false (by omega))) rfl ?_; refine za (zm rfl rfl rfl rfl) rfl ?_; refine za (zb rfl rfl rfl) rfl ?_; refine za (zk L rfl rfl rfl rfl) rfl ?_; refine za (zl L (zn rfl) rfl rfl rfl rfl) rfl ?_; refine za (zw rfl rfl rfl rfl (decide_eq_false (by omega))) rfl ?_; refine za (zm rfl rfl rfl rfl) rfl ?_; refine za (zb rfl rfl rfl) rfl ?_; refine za (zk L rfl rfl rfl rfl) rfl ?_; refine za (zl L (zn rfl) rfl rfl rfl rfl) rfl ?_; refine za (qm rfl rfl rfl rfl (decide_eq_true (by omega))) rfl ?_; refine za (zm rfl rfl rfl rfl) rfl ?_; refine za (zb rfl rfl rfl) rfl ?_; refine za (zj rfl (zi rfl) rfl) rfl ?_; refine za (zj rfl (zi rfl) rfl) rfl ?_; refine za (zj rfl (zi rfl) rfl) rfl ?_; refine za (zm rfl rfl rfl rfl) rfl ?_; refine za (zb rfl rfl rfl) rfl ?_; refine za (zj rfl (zi rfl) rfl) rfl ?_; refine za (zj rfl (zi rfl) rfl) rfl ?_; refine za (zj rfl (zi rfl) rfl) rfl ?_; refine za (zm rfl rfl rfl rfl) rfl ?_; refine za (zb rfl rfl rfl) rfl ?_; refine za (zj rfl (zi rfl) rfl) rfl ?_; refine za (zj rfl (zi rfl) rfl) rfl ?_; refine za (zj rfl (zi rfl) rfl) rfl ?_; refine za (zm rfl rfl rfl rfl) rfl ?_; refine zg ?_; refine zh ?_; refine zx rfl ?_; refine zf ?_; refine zd (id := 2) ?_; refine za (ze rfl rfl rfl) rfl ?_; refine zg ?_; refine zh ?_
                refine qh L (rs := [.tmp 2]) rfl (fun _ _ h => h) Since.refl fun u H hH hle => ?_
                rfl
            · refine zf ?_; refine zd (id := 0) ?_; refine za (qz rfl rfl rfl rfl) rfl ?_; refine za (ze rfl rfl rfl) rfl ?_; refine zg ?_; refine zh ?_; refine zf ?_; refine zf ?_; refine zd (id := 1) ?_; refine za (zk L rfl rfl rfl rfl) rfl ?_; refine za (zl L (zn rfl) rfl rfl rfl rfl) rfl ?_; refine za (zw rfl rfl rfl rfl (decide_eq_false (by omega))) rfl ?_; refine za (zb rfl rfl rfl) rfl ?_; refine za (zk L rfl rfl rfl rfl) rfl ?_; refine za (zl L (zn rfl) rfl rfl rfl rfl) rfl ?_; refine za (qm rfl rfl rfl rfl (decide_eq_false (by omega))) rfl ?_; refine za (zm rfl rfl rfl rfl) rfl ?_; refine za (zb rfl rfl rfl) rfl ?_; refine za (zk L rfl rfl rfl rfl) rfl ?_; refine za (zl L (zn rfl) rfl rfl rfl rfl) rfl ?_; refine za (zw rfl rfl rfl rfl (decide_eq_false (by omega))) rfl ?_; refine za (zm rfl rfl rfl rfl) rfl ?_; refine za (zb rfl rfl rfl) rfl ?_; refine za (zk L rfl rfl rfl rfl) rfl ?_; refine za (zl L (zn rfl) rfl rfl rfl rfl) rfl ?_; refine za (qm rfl rfl rfl rfl (decide_eq_false (by omega))) rfl ?_; refine za (zm rfl rfl rfl rfl) rfl ?_; refine za (zb rfl rfl rfl) rfl ?_; refine za (zk L rfl rfl rfl rfl) rfl ?_; refine za (zl L (zn rfl) rfl rfl rfl rfl) rfl ?_; refine za (zw rfl rfl rfl rfl (decide_eq_true (by omega))) rfl ?_; refine za (zm rfl rfl rfl rfl) rfl ?_; refine za (zb rfl rfl rfl) rfl ?_; refine za (zj rfl (zi rfl) rfl) rfl ?_; refine za (zj rfl (zi rfl) rfl) rfl ?_; refine za (zj rfl (zi rfl) rfl) rfl ?_; refine za (zm rfl rfl rfl rfl) rfl ?_; refine za (zb rfl rfl rfl) rfl ?_; refine za (zj rfl (zi rfl) rfl) rfl ?_; refine za (zj rfl (zi rfl) rfl) rfl ?_; refine za (zj rfl (zi rfl) rfl) rfl ?_; refine za (zm rfl rfl rfl rfl) rfl ?_; refine za (zb rfl rfl rfl) rfl ?_; refine za (zj rfl (zi rfl) rfl) rfl ?_; refine za (zj rfl (zi rfl) rfl) rfl ?_; refine za (zj rfl (zi rfl) rfl) rfl ?_; refine za (zm rfl rfl rfl rfl) rfl ?_; refine za (zb rfl rfl rfl) rfl ?_; refine za (zj rfl (zi rfl) rfl) rfl ?_; refine za (zj rfl (zi rfl) rfl) rfl ?_; refine za (zj rfl (zi rfl) rfl) rfl ?_; refine za (zm rfl rfl rfl rfl) rfl ?_; refine zg ?_; refine zh ?_; refine zx rfl ?_; refine zf ?_; refine zd (id := 2) ?_; refine za (ze rfl rfl rfl) rfl ?_; refine zg ?_; refine zh ?_
              refine qh L (rs := [.tmp 2]) rfl (fun _ _ h => h) Since.refl fun u H hH hle => ?_
              rfl
          · refine zf ?_; refine zd (id := 0) ?_; refine za (qz rfl rfl rfl rfl) rfl ?_; refine za (ze rfl rfl rfl) rfl ?_; refine zg ?_; refine zh ?_; refine zf ?_; refine zf ?_; refine zd (id := 1) ?_; refine za (zk L rfl rfl rfl rfl) rfl ?_; refine za (zl L (zn rfl) rfl rfl rfl rfl) rfl ?_; refine za (zw rfl rfl rfl rfl (decide_eq_false (by omega))) rfl ?_; refine za (zb rfl rfl rfl) rfl ?_; refine za (zk L rfl rfl rfl rfl) rfl ?_; refine za (zl L (zn rfl) rfl rfl rfl rfl) rfl ?_; refine za (qm rfl rfl rfl rfl (decide_eq_false (by omega))) rfl ?_; refine za (zm rfl rfl rfl rfl) rfl ?_; refine za (zb rfl rfl rfl) rfl ?_; refine za (zk L rfl rfl rfl rfl) rfl ?_; refine za (zl L (zn rfl) rfl rfl rfl rfl) rfl ?_; refine za (zw rfl rfl rfl rfl (decide_eq_false (by omega))) rfl ?_; refine za (zm rfl rfl rfl rfl) rfl ?_; refine za (zb rfl rfl rfl) rfl ?_; refine za (zk L rfl rfl rfl rfl) rfl ?_; refine za (zl L (zn rfl) rfl rfl rfl rfl) rfl ?_; refine za (qm rfl rfl rfl rfl (decide_eq_true (by omega))) rfl ?_; refine za (zm rfl rfl rfl rfl) rfl ?_; refine za (zb rfl rfl rfl) rfl ?_; refine za (zj rfl (zi rfl) rfl) rfl ?_; refine za (zj rfl (zi rfl) rfl) rfl ?_; refine za (zj rfl (zi rfl) rfl) rfl ?_; refine za (zm rfl rfl rfl rfl) rfl ?_; refine za (zb rfl rfl rfl) rfl ?_; refine za (zj rfl (zi rfl) rfl) rfl ?_; refine za (zj rfl (zi rfl) rfl) rfl ?_; refine za (zj rfl (zi rfl) rfl) rfl ?_; refine za (zm rfl rfl rfl rfl) rfl ?_; refine za (zb rfl rfl rfl) rfl ?_; refine za (zj rfl (zi rfl) rfl) rfl ?_; refine za (zj rfl (zi rfl) rfl) rfl ?_; refine za (zj rfl (zi rfl) rfl) rfl ?_; refine za (zm rfl rfl rfl rfl) rfl ?_; refine za (zb rfl rfl rfl) rfl ?_; refine za (zj rfl (zi rfl) rfl) rfl ?_; refine za (zj rfl (zi rfl) rfl) rfl ?_; refine za (zj rfl (zi rfl) rfl) rfl ?_; refine za (zm rfl rfl rfl rfl) rfl ?_; refine za (zb rfl rfl rfl) rfl ?_; refine za (zj rfl (zi rfl) rfl) rfl ?_; refine za (zj rfl (zi rfl) rfl) rfl ?_; refine za (zj rfl (zi rfl) rfl) rfl ?_; refine za (zm rfl rfl rfl rfl) rfl ?_; refine zg ?_; refine zh ?_; refine zx rfl ?_; refine zf ?_; refine zd (id := 2) ?_; refine za (ze rfl rfl rfl) rfl ?_; refine zg ?_; refine zh ?_
            refine qh L (rs := [.tmp 2]) rfl (fun _ _ h => h) Since.refl fun u H hH hle => ?_
            rfl
        · refine zf ?_; refine zd (id := 0) ?_; refine za (qz rfl rfl rfl rfl) rfl ?_; refine za (ze rfl rfl rfl) rfl ?_; refine zg ?_; refine zh ?_; refine zf ?_; refine zf ?_; refine zd (id := 1) ?_; refine za (zk L rfl rfl rfl rfl) rfl ?_; refine za (zl L (zn rfl) rfl rfl rfl rfl) rfl ?_; refine za (zw rfl rfl rfl rfl (decide_eq_false (by omega))) rfl ?_; refine za (zb rfl rfl rfl) rfl ?_; refine za (zk L rfl rfl rfl rfl) rfl ?_; refine za (zl L (zn rfl) rfl rfl rfl rfl) rfl ?_; refine za (qm rfl rfl rfl rfl (decide_eq_false (by omega))) rfl ?_; refine za (zm rfl rfl rfl rfl) rfl ?_; refine za (zb rfl rfl rfl) rfl ?_; refine za (zk L rfl rfl rfl rfl) rfl ?_; refine za (zl L (zn rfl) rfl rfl rfl rfl) rfl ?_; refine za (zw rfl rfl rfl rfl (decide_eq_true (by omega))) rfl ?_; refine za (zm rfl rfl rfl rfl) rfl ?_; refine za (zb rfl rfl rfl) rfl ?_; refine za (zj rfl (zi rfl) rfl) rfl ?_; refine za (zj rfl (zi rfl) rfl) rfl ?_; refine za (zj rfl (zi rfl) rfl) rfl ?_; refine za (zm rfl rfl rfl rfl) rfl ?_; refine za (zb rfl rfl rfl) rfl ?_; refine za (zj rfl (zi rfl) rfl) rfl ?_; refine za (zj rfl (zi rfl) rfl) rfl ?_; refine za (zj rfl (zi rfl) rfl) rfl ?_; refine za (zm rfl rfl rfl rfl) rfl ?_; refine za (zb rfl rfl rfl) rfl ?_; refine za (zj rfl (zi rfl) rfl) rfl ?_; refine za (zj rfl (zi rfl) rfl) rfl ?_; refine za (zj rfl (zi rfl) rfl) rfl ?_; refine za (zm rfl rfl rfl rfl) rfl ?_; refine za (zb rfl rfl rfl) rfl ?_; refine za (zj rfl (zi rfl) rfl) rfl ?_; refine za (zj rfl (zi rfl) rfl) rfl ?_; refine za (zj rfl (zi rfl) rfl) rfl ?_; refine za (zm rfl rfl rfl rfl) rfl ?_; refine za (zb rfl rfl rfl) rfl ?_; refine za (zj rfl (zi rfl) rfl) rfl ?_; refine za (zj rfl (zi rfl) rfl) rfl ?_; refine za (zj rfl (zi rfl) rfl) rfl ?_; refine za (zm rfl rfl rfl rfl) rfl ?_; refine za (zb rfl rfl rfl) rfl ?_; refine za (zj rfl (zi rfl) rfl) rfl ?_; refine za (zj rfl (zi rfl) rfl) rfl ?_; refine za (zj rfl (zi rfl) rfl) rfl ?_; refine za (zm rfl rfl rfl rfl) rfl ?_; refine zg ?_; refine zh ?_; refine zx rfl ?_; refine zf ?_; refine zd (id := 2) ?_; refine za (ze rfl rfl rfl) rfl ?_; refine zg ?_; refine zh ?_
          refine qh L (rs := [.tmp 2]) rfl (fun _ _ h => h) Since.refl fun u H hH hle => ?_
          rfl
      · refine zf ?_; refine zd (id := 0) ?_; refine za (qz rfl rfl rfl rfl) rfl ?_; refine za (ze rfl rfl rfl) rfl ?_; refine zg ?_; refine zh ?_; refine zf ?_; refine zf ?_; refine zd (id := 1) ?_; refine za (zk L rfl rfl rfl rfl) rfl ?_; refine za (zl L (zn rfl) rfl rfl rfl rfl) rfl ?_; refine za (zw rfl rfl rfl rfl (decide_eq_false (by omega))) rfl ?_; refine za (zb rfl rfl rfl) rfl ?_; refine za (zk L rfl rfl rfl rfl) rfl ?_; refine za (zl L (zn rfl) rfl rfl rfl rfl) rfl ?_; refine za (qm rfl rfl rfl rfl (decide_eq_true (by omega))) rfl ?_; refine za (zm rfl rfl rfl rfl) rfl ?_; refine za (zb rfl rfl rfl) rfl ?_; refine za (zj rfl (zi rfl) rfl) rfl ?_; refine za (zj rfl (zi rfl) rfl) rfl ?_; refine za (zj rfl (zi rfl) rfl) rfl ?_; refine za (zm rfl rfl rfl rfl) rfl ?_; refine za (zb rfl rfl rfl) rfl ?_; refine za (zj rfl (zi rfl) rfl) rfl ?_; refine za (zj rfl (zi rfl) rfl) rfl ?_; refine za (zj rfl (zi rfl) rfl) rfl ?_; refine za (zm rfl rfl rfl rfl) rfl ?_; refine za (zb rfl rfl rfl) rfl ?_; refine za (zj rfl (zi rfl) rfl) rfl ?_; refine za (zj rfl (zi rfl) rfl) rfl ?_; refine za (zj rfl (zi rfl) rfl) rfl ?_; refine za (zm rfl rfl rfl rfl) rfl ?_; refine za (zb rfl rfl rfl) rfl ?_; refine za (zj rfl (zi rfl) rfl) rfl ?_; refine za (zj rfl (zi rfl) rfl) rfl ?_; refine za (zj rfl (zi rfl) rfl) rfl ?_; refine za (zm rfl rfl rfl rfl) rfl ?_; refine za (zb rfl rfl rfl) rfl ?_; refine za (zj rfl (zi rfl) rfl) rfl ?_; refine za (zj rfl (zi rfl) rfl) rfl ?_; refine za (zj rfl (zi rfl) rfl) rfl ?_; refine za (zm rfl rfl rfl rfl) rfl ?_; refine za (zb rfl rfl rfl) rfl ?_; refine za (zj rfl (zi rfl) rfl) rfl ?_; refine za (zj rfl (zi rfl) rfl) rfl ?_; refine za (zj rfl (zi rfl) rfl) rfl ?_; refine za (zm rfl rfl rfl rfl) rfl ?_; refine za (zb rfl rfl rfl) rfl ?_; refine za (zj rfl (zi rfl) rfl) rfl ?_; refine za (zj rfl (zi rfl) rfl) rfl ?_; refine za (zj rfl (zi rfl) rfl) rfl ?_; refine za (zm rfl rfl rfl rfl) rfl ?_; refine zg ?_; refine zh ?_; refine zx rfl ?_; refine zf ?_; refine zd (id := 2) ?_; refine za (ze rfl rfl rfl) rfl ?_; refine zg ?_; refine zh ?_
        refine qh L (rs := [.tmp 2]) rfl (fun _ _ h => h) Since.refl fun u H hH hle => ?_
        rfl
    · refine zf ?_; refine zd (id := 0) ?_; refine za (qz rfl rfl rfl rfl) rfl ?_; refine za (ze rfl rfl rfl) rfl ?_; refine zg ?_; refine zh ?_; refine zf ?_; refine zf ?_; refine zd (id := 1) ?_; refine za (zk L rfl rfl rfl rfl) rfl ?_; refine za (zl L (zn rfl) rfl rfl rfl rfl) rfl ?_; refine za (zw rfl rfl rfl rfl (decide_eq_true (by omega))) rfl ?_; refine za (zb rfl rfl rfl) rfl ?_; refine za (zj rfl (zi rfl) rfl) rfl ?_; refine za (zj rfl (zi rfl) rfl) rfl ?_; refine za (zj rfl (zi rfl) rfl) rfl ?_; refine za (zm rfl rfl rfl rfl) rfl ?_; refine za (zb rfl rfl rfl) rfl ?_; refine za (zj rfl (zi rfl) rfl) rfl ?_; refine za (zj rfl (zi rfl) rfl) rfl ?_; refine za (zj rfl (zi rfl) rfl) rfl ?_; refine za (zm rfl rfl rfl rfl) rfl ?_; refine za (zb rfl rfl rfl) rfl ?_; refine za (zj rfl (zi rfl) rfl) rfl ?_; refine za (zj rfl (zi rfl) rfl) rfl ?_; refine za (zj rfl (zi rfl) rfl) rfl ?_; refine za (zm rfl rfl rfl rfl) rfl ?_; refine za (zb rfl rfl rfl) rfl ?_; refine za (zj rfl (zi rfl) rfl) rfl ?_; refine za (zj rfl (zi rfl) rfl) rfl ?_; refine za (zj rfl (zi rfl) rfl) rfl ?_; refine za (zm rfl rfl rfl rfl) rfl ?_; refine za (zb rfl rfl rfl) rfl ?_; refine za (zj rfl (zi rfl) rfl) rfl ?_; refine za (zj rfl (zi rfl) rfl) rfl ?_; refine za (zj rfl (zi rfl) rfl) rfl ?_; refine za (zm rfl rfl rfl rfl) rfl ?_; refine za (zb rfl rfl rfl) rfl ?_; refine za (zj rfl (zi rfl) rfl) rfl ?_; refine za (zj rfl (zi rfl) rfl) rfl ?_; refine za (zj rfl (zi rfl) rfl) rfl ?_; refine za (zm rfl rfl rfl rfl) rfl ?_; refine za (zb rfl rfl rfl) rfl ?_; refine za (zj rfl (zi rfl) rfl) rfl ?_; refine za (zj rfl (zi rfl) rfl) rfl ?_; refine za (zj rfl (zi rfl) rfl) rfl ?_; refine za (zm rfl rfl rfl rfl) rfl ?_; refine za (zb rfl rfl rfl) rfl ?_; refine za (zj rfl (zi rfl) rfl) rfl ?_; refine za (zj rfl (zi rfl) rfl) rfl ?_; refine za (zj rfl (zi rfl) rfl) rfl ?_; refine za (zm rfl rfl rfl rfl) rfl ?_; refine zg ?_; refine zh ?_; refine zx rfl ?_; refine zf ?_; refine zd (id := 2) ?_; refine za (ze rfl rfl rfl) rfl ?_; refine zg ?_; refine zh ?_
      refine qh L (rs := [.tmp 2]) rfl (fun _ _ h => h) Since.refl fun u H hH hle => ?_
      rfl
theorem ritems_ret {nx : Int} {l : List Fl} {zs : List (Fl × Value)} (hz : zs.map Prod.fst = l) {fu fi : Bool} {s : Value} {w : World} {B : Heap} (hs : FsB zs fu fi s B) (hn : itsN l ≤ 9223372036854775807) (hB : B.Le (hp w)) :
    Ret Try.prog 27 [tbv nx s] w B (fun v _ => v = .int .i64 (itsN l)) := by
  have hsl := hs.sl
  have hlen := fls_len hz
  have hzl := hs.ln
  refine y6 Try.func27 rfl Try.ntmps27 (Nat.le_of_ble_eq_true rfl) hB ?_
  refine zf ?_; refine zd (id := 0) ?_; refine za (qz rfl rfl rfl rfl) rfl ?_; refine za (ze rfl rfl rfl) rfl ?_; refine zg ?_; refine zh ?_; refine zf ?_; refine zd (id := 1) ?_; refine za (ze rfl rfl rfl) rfl ?_; refine zg ?_; refine zh ?_; refine zf ?_; refine zf ?_; refine zd (id := 2) ?_; refine za (ze rfl rfl rfl) rfl ?_; refine zg ?_; refine zh ?_; refine zz ?_
  refine yd (fun i : Nat => [(1, .sat (At [.int .i64 nx, s] tyT 0)), (3, .is (.int .i64 (itsN (l.take i)))), (4, .is (.int .i64 i))]) (fun i => i ≤ zs.length) (fun i => zs.length - i) 0 (Nat.zero_le _) ⟨rfl, rfl, rfl, trivial⟩ ?_
  rintro i hi
  by_cases hlt : i < zs.length
  · obtain ⟨f, p, c, hzi, hli, hzv, hil, hc⟩ := hs.at hz hlt
    have h1 := itsN_take hli
    have h2 := itsN_le l (i + 1)
    have had : IntKind.i64.wrap ((itsN (l.take i) : Int) + (f.is.length : Int)) = (itsN (l.take (i + 1)) : Int) := wrap_i64 (by omega) (by omega) |>.trans (by omega)
    refine zf ?_; refine zf ?_; refine zd (id := 3) ?_; refine za (zb rfl rfl rfl) rfl ?_; refine za (zk L rfl rfl rfl rfl) rfl ?_; refine za (StepOK.seeV (zl L (zn rfl) rfl rfl rfl rfl) (by assumption)) rfl ?_; refine za (y0 L rfl rfl rfl rfl) rfl ?_; refine za (zw rfl rfl rfl rfl (decide_eq_true (by omega))) rfl ?_; refine zg ?_; refine zh ?_; refine zx rfl ?_; refine zt ?_; refine zh ?_; refine zf ?_; refine zz ?_; refine zd (id := 5) ?_; refine za (zb rfl rfl rfl) rfl ?_; refine za (zk L rfl rfl rfl rfl) rfl ?_; refine za (StepOK.seeV (zl L (zn rfl) rfl rfl rfl rfl) (by assumption)) rfl ?_; refine za (zb rfl rfl rfl) rfl ?_; refine za (qb L _ rfl rfl rfl rfl rfl rfl rfl (by first | omega | decide) (by assumption)) rfl ?_; refine za (qk L rfl rfl rfl rfl) rfl ?_; refine za (qn L rfl rfl rfl rfl rfl) rfl ?_; refine za (ok_lenL L rfl rfl rfl rfl) rfl ?_; refine za (q9 rfl rfl rfl rfl (by assumption)) rfl ?_; refine za (ze rfl rfl rfl) rfl ?_; refine zg ?_; refine qo ?_; refine zh ?_; refine zd (id := 4) ?_; refine za (zb rfl rfl rfl) rfl ?_; refine za (q9 rfl rfl rfl rfl (wrap_i64 (by omega) (by omega))) rfl ?_; refine za (ze rfl rfl rfl) rfl ?_; refine zg ?_
    exact qp (x := i) (i + 1) hlt (by omega) ⟨rfl, rfl, rfl, trivial⟩
  · obtain rfl : i = zs.length := by omega
    rw [hlen, List.take_length]
    refine zf ?_; refine zf ?_; refine zd (id := 3) ?_; refine za (zb rfl rfl rfl) rfl ?_; refine za (zk L rfl rfl rfl rfl) rfl ?_; refine za (StepOK.seeV (zl L (zn rfl) rfl rfl rfl rfl) (by assumption)) rfl ?_; refine za (y0 L rfl rfl rfl rfl) rfl ?_; refine za (zw rfl rfl rfl rfl (decide_eq_false (by omega))) rfl ?_; refine zg ?_; refine zh ?_; refine zo rfl ?_; refine y3 ?_; refine qe ?_; refine qe ?_; refine y2 ?_; refine zh ?_; refine zf ?_; refine zd (id := 6) ?_; refine za (zb rfl rfl rfl) rfl ?_; refine za (ze rfl rfl rfl) rfl ?_; refine zg ?_; refine zh ?_
    refine qh L (rs := [.tmp 2]) rfl (fun _ _ h => h) Since.refl fun u H hH hle => ?_
    rfl
set_option maxHeartbeats 8000000 in
set_option maxRecDepth 20000 in
theorem rflight_ret {t : Tb} {zs : List (Fl × Value)} (hz : zs.map Prod.fst = t.fl) {fu fi : Bool} {s : Value} {w : World} {B : Heap} (hs : FsB zs fu fi s B) (hZ : ∀ f ∈ t.fl, QuZ f.q) (hI : ∀ f ∈ t.fl, ∀ x ∈ f.is, 0 ≤ x.rv) {i : Nat} {f : Fl} (hfi : t.fl[i]? = some f) {e : Int} (he : flE t.nx (t.fl.take i) f = e) (hB : B.Le (hp w)) :
    Ret Try.prog 50 [tbv t.nx s, .int .i64 i] w B (fun v _ => v = .int .i64 e) := by
  have hsl := hs.sl
  have hlen := fls_len hz
  have hzl := hs.ln
  have hlt : i < zs.length := by have := get_lt hfi; omega
  obtain ⟨f', p, c, hzi, hli, hzv, hil, hc⟩ := hs.at hz hlt
  rw [hfi] at hli
  cases hli
  have hQ := hZ f (fls_mem hfi)
  have hqp := quE_pos f.q
  refine y6 Try.func50 rfl Try.ntmps50 (Nat.le_of_ble_eq_true rfl) hB ?_
  refine zf ?_; refine zd (id := 0) ?_; refine za (qz rfl rfl rfl rfl) rfl ?_; refine za (ze rfl rfl rfl) rfl ?_; refine zg ?_; refine zh ?_; refine zf ?_; refine zd (id := 1) ?_; refine za (zk L rfl rfl rfl rfl) rfl ?_; refine za (StepOK.seeV (zl L (zn rfl) rfl rfl rfl rfl) (by assumption)) rfl ?_; refine za (zb rfl rfl rfl) rfl ?_; refine za (qb L _ rfl rfl rfl rfl rfl rfl rfl (by first | omega | decide) (by assumption)) rfl ?_; refine za (ok_loadPA L (vs := [_, _, _, _, _, _, _, _, _, _, _, _, _, _]) rfl rfl rfl rfl rfl ⟨_, rfl⟩) rfl ?_; refine za (qt L rfl rfl rfl rfl) rfl ?_; refine za (qq L rfl rfl rfl rfl rfl rfl rfl rfl) rfl ?_; refine zg ?_; refine zh ?_; refine zf ?_; refine zf ?_
  refine V_pub 5 rfl ?_
  cases hr : rngB t.nx f with
  | false =>
    rw [flE_rng hr] at he
    subst he
    unfold rngB at hr
    rw [decide_eq_false_iff_not] at hr
    by_cases c1 : 0 ≤ f.id
    · by_cases c2 : f.id < t.nx
      · by_cases c3 : f.rv ≠ 0
        · by_cases c4 : 0 ≤ f.si
          · by_cases c5 : f.si ≤ 4611686018427387904
            · by_cases c6 : 0 ≤ f.ve
              · by_cases c7 : f.ve ≤ 1048576
                · by_cases c8 : 0 ≤ f.sp
                  · have hz9 : ¬ f.sp ≤ 1048576 := by omega
                    refine zd (id := 2) ?_; refine za (zk L rfl rfl rfl rfl) rfl ?_; refine za (zl L (zn rfl) rfl rfl rfl rfl) rfl ?_; refine za (zw rfl rfl rfl rfl (decide_eq_false (by omega))) rfl ?_; refine za (zb rfl rfl rfl) rfl ?_; refine za (zk L rfl rfl rfl rfl) rfl ?_; refine za (zl L (zn rfl) rfl rfl rfl rfl) rfl ?_; refine za (zk L rfl rfl rfl rfl) rfl ?_; refine za (zl L (zn rfl) rfl rfl rfl rfl) rfl ?_; refine za (y1 rfl rfl rfl rfl (decide_eq_false (by omega))) rfl ?_; refine za (zm rfl rfl rfl rfl) rfl ?_; refine za (zb rfl rfl rfl) rfl ?_; refine za (zk L rfl rfl rfl rfl) rfl ?_; refine za (zl L (zn rfl) rfl rfl rfl rfl) rfl ?_; refine za (qf rfl rfl rfl rfl (decide_eq_false (by omega))) rfl ?_; refine za (zm rfl rfl rfl rfl) rfl ?_; refine za (zb rfl rfl rfl) rfl ?_; refine za (zk L rfl rfl rfl rfl) rfl ?_; refine za (zl L (zn rfl) rfl rfl rfl rfl) rfl ?_; refine za (zw rfl rfl rfl rfl (decide_eq_false (by omega))) rfl ?_; refine za (zm rfl rfl rfl rfl) rfl ?_; refine za (zb rfl rfl rfl) rfl ?_; refine za (zk L rfl rfl rfl rfl) rfl ?_; refine za (zl L (zn rfl) rfl rfl rfl rfl) rfl ?_; refine za (qm rfl rfl rfl rfl (decide_eq_false (by omega))) rfl ?_; refine za (zm rfl rfl rfl rfl) rfl ?_; refine za (zb rfl rfl rfl) rfl ?_; refine za (zk L rfl rfl rfl rfl) rfl ?_; refine za (zl L (zn rfl) rfl rfl rfl rfl) rfl ?_; refine za (zw rfl rfl rfl rfl (decide_eq_false (by omega))) rfl ?_; refine za (zm rfl rfl rfl rfl) rfl ?_; refine za (zb rfl rfl rfl) rfl ?_; refine za (zk L rfl rfl rfl rfl) rfl ?_; refine za (zl L (zn rfl) rfl rfl rfl rfl) rfl ?_; refine za (qm rfl rfl rfl rfl (decide_eq_false (by omega))) rfl ?_; refine za (zm rfl rfl rfl rfl) rfl ?_; refine za (zb rfl rfl rfl) rfl ?_; refine za (zk L rfl rfl rfl rfl) rfl ?_; refine za (zl L (zn rfl) rfl rfl rfl rfl) rfl ?_; refine za (zw rfl rfl rfl rfl (decide_eq_false (by omega))) rfl ?_; refine za (zm rfl rfl rfl rfl) rfl ?_; refine za (zb rfl rfl rfl) rfl ?_; refine za (zk L rfl rfl rfl rfl) rfl ?_; refine za (zl L (zn rfl) rfl rfl rfl rfl) rfl ?_; refine za (qm rfl rfl rfl rfl (decide_eq_true (by omega))) rfl ?_; refine za (zm rfl rfl rfl rfl) rfl ?_; refine zg ?_; refine zh ?_; refine zx rfl ?_; refine zf ?_; refine zd (id := 3) ?_; refine za (ze rfl rfl rfl) rfl ?_; refine zg ?_; refine zh ?_
                    refine qh L (rs := [.tmp 4]) rfl (fun _ _ h => h) Since.refl fun u H hH hle => ?_
                    rfl
                  · refine zd (id := 2) ?_; refine za (zk L rfl rfl rfl rfl) rfl ?_; refine za (zl L (zn rfl) rfl rfl rfl rfl) rfl ?_; refine za (zw rfl rfl rfl rfl (decide_eq_false (by omega))) rfl ?_; refine za (zb rfl rfl rfl) rfl ?_; refine za (zk L rfl rfl rfl rfl) rfl ?_; refine za (zl L (zn rfl) rfl rfl rfl rfl) rfl ?_; refine za (zk L rfl rfl rfl rfl) rfl ?_; refine za (zl L (zn rfl) rfl rfl rfl rfl) rfl ?_; refine za (y1 rfl rfl rfl rfl (decide_eq_false (by omega))) rfl ?_; refine za (zm rfl rfl rfl rfl) rfl ?_; refine za (zb rfl rfl rfl) rfl ?_; refine za (zk L rfl rfl rfl rfl) rfl ?_; refine za (zl L (zn rfl) rfl rfl rfl rfl) rfl ?_; refine za (qf rfl rfl rfl rfl (decide_eq_false (by omega))) rfl ?_; refine za (zm rfl rfl rfl rfl) rfl ?_; refine za (zb rfl rfl rfl) rfl ?_; refine za (zk L rfl rfl rfl rfl) rfl ?_; refine za (zl L (zn rfl) rfl rfl rfl rfl) rfl ?_; refine za (zw rfl rfl rfl rfl (decide_eq_false (by omega))) rfl ?_; refine za (zm rfl rfl rfl rfl) rfl ?_; refine za (zb rfl rfl rfl) rfl ?_; refine za (zk L rfl rfl rfl rfl) rfl ?_; refine za (zl L (zn rfl) rfl rfl rfl rfl) rfl ?_; refine za (qm rfl rfl rfl rfl (decide_eq_false (by omega))) rfl ?_; refine za (zm rfl rfl rfl rfl) rfl ?_; refine za (zb rfl rfl rfl) rfl ?_; refine za (zk L rfl rfl rfl rfl) rfl ?_; refine za (zl L (zn rfl) rfl rfl rfl rfl) rfl ?_; refine za (zw rfl rfl rfl rfl (decide_eq_false (by omega))) rfl ?_; refine za (zm rfl rfl rfl rfl) rfl ?_; refine za (zb rfl rfl rfl) rfl ?_; refine za (zk L rfl rfl rfl rfl) rfl ?_; refine za (zl L (zn rfl) rfl rfl rfl rfl) rfl ?_; refine za (qm rfl rfl rfl rfl (decide_eq_false (by omega))) rfl ?_; refine za (zm rfl rfl rfl rfl) rfl ?_; refine za (zb rfl rfl rfl) rfl ?_; refine za (zk L rfl rfl rfl rfl) rfl ?_; refine za (zl L (zn rfl) rfl rfl rfl rfl) rfl ?_; refine za (zw rfl rfl rfl rfl (decide_eq_true (by omega))) rfl ?_; refine za (zm rfl rfl rfl rfl) rfl ?_; refine za (zb rfl rfl rfl) rfl ?_; refine za (zj rfl (zi rfl) rfl) rfl ?_; refine za (zj rfl (zi rfl) rfl) rfl ?_; refine za (zj rfl (zi rfl) rfl) rfl ?_; refine za (zm rfl rfl rfl rfl) rfl ?_; refine zg ?_; refine zh ?_; refine zx rfl ?_; refine zf ?_; refine zd (id := 3) ?_; refine za (ze rfl rfl rfl) rfl ?_; refine zg ?_; refine zh ?_
                    refine qh L (rs := [.tmp 4]) rfl (fun _ _ h => h) Since.refl fun u H hH hle => ?_
                    rfl
                · refine zd (id := 2) ?_; refine za (zk L rfl rfl rfl rfl) rfl ?_; refine za (zl L (zn rfl) rfl rfl rfl rfl) rfl ?_; refine za (zw rfl rfl rfl rfl (decide_eq_false (by omega))) rfl ?_; refine za (zb rfl rfl rfl) rfl ?_; refine za (zk L rfl rfl rfl rfl) rfl ?_; refine za (zl L (zn rfl) rfl rfl rfl rfl) rfl ?_; refine za (zk L rfl rfl rfl rfl) rfl ?_; refine za (zl L (zn rfl) rfl rfl rfl rfl) rfl ?_; refine za (y1 rfl rfl rfl rfl (decide_eq_false (by omega))) rfl ?_; refine za (zm rfl rfl rfl rfl) rfl ?_; refine za (zb rfl rfl rfl) rfl ?_; refine za (zk L rfl rfl rfl rfl) rfl ?_; refine za (zl L (zn rfl) rfl rfl rfl rfl) rfl ?_; refine za (qf rfl rfl rfl rfl (decide_eq_false (by omega))) rfl ?_; refine za (zm rfl rfl rfl rfl) rfl ?_; refine za (zb rfl rfl rfl) rfl ?_; refine za (zk L rfl rfl rfl rfl) rfl ?_; refine za (zl L (zn rfl) rfl rfl rfl rfl) rfl ?_; refine za (zw rfl rfl rfl rfl (decide_eq_false (by omega))) rfl ?_; refine za (zm rfl rfl rfl rfl) rfl ?_; refine za (zb rfl rfl rfl) rfl ?_; refine za (zk L rfl rfl rfl rfl) rfl ?_; refine za (zl L (zn rfl) rfl rfl rfl rfl) rfl ?_; refine za (qm rfl rfl rfl rfl (decide_eq_false (by omega))) rfl ?_; refine za (zm rfl rfl rfl rfl) rfl ?_; refine za (zb rfl rfl rfl) rfl ?_; refine za (zk L rfl rfl rfl rfl) rfl ?_; refine za (zl L (zn rfl) rfl rfl rfl rfl) rfl ?_; refine za (zw rfl rfl rfl rfl (decide_eq_false (by omega))) rfl ?_; refine za (zm rfl rfl rfl rfl) rfl ?_; refine za (zb rfl rfl rfl) rfl ?_; refine za (zk L rfl rfl rfl rfl) rfl ?_; refine za (zl L (zn rfl) rfl rfl rfl rfl) rfl ?_; refine za (qm rfl rfl rfl rfl (decide_eq_true (by omega))) rfl ?_; refine za (zm rfl rfl rfl rfl) rfl ?_; refine za (zb rfl rfl rfl) rfl ?_; refine za (zj rfl (zi rfl) rfl) rfl ?_; refine za (zj rfl (zi rfl) rfl) rfl ?_; refine za (zj rfl (zi rfl) rfl) rfl ?_; refine za (zm rfl rfl rfl rfl) rfl ?_; refine za (zb rfl rfl rfl) rfl ?_; refine za (zj rfl (zi rfl) rfl) rfl ?_; refine za (zj rfl (zi rfl) rfl) rfl ?_; refine za (zj rfl (zi rfl) rfl) rfl ?_; refine za (zm rfl rfl rfl rfl) rfl ?_; refine zg ?_; refine zh ?_; refine zx rfl ?_; refine zf ?_; refine zd (id := 3) ?_; refine za (ze rfl rfl rfl) rfl ?_; refine zg ?_; refine zh ?_
                  refine qh L (rs := [.tmp 4]) rfl (fun _ _ h => h) Since.refl fun u H hH hle => ?_
                  rfl
              · refine zd (id := 2) ?_; refine za (zk L rfl rfl rfl rfl) rfl ?_; refine za (zl L (zn rfl) rfl rfl rfl rfl) rfl ?_; refine za (zw rfl rfl rfl rfl (decide_eq_false (by omega))) rfl ?_; refine za (zb rfl rfl rfl) rfl ?_; refine za (zk L rfl rfl rfl rfl) rfl ?_; refine za (zl L (zn rfl) rfl rfl rfl rfl) rfl ?_; refine za (zk L rfl rfl rfl rfl) rfl ?_; refine za (zl L (zn rfl) rfl rfl rfl rfl) rfl ?_; refine za (y1 rfl rfl rfl rfl (decide_eq_false (by omega))) rfl ?_; refine za (zm rfl rfl rfl rfl) rfl ?_; refine za (zb rfl rfl rfl) rfl ?_; refine za (zk L rfl rfl rfl rfl) rfl ?_; refine za (zl L (zn rfl) rfl rfl rfl rfl) rfl ?_; refine za (qf rfl rfl rfl rfl (decide_eq_false (by omega))) rfl ?_; refine za (zm rfl rfl rfl rfl) rfl ?_; refine za (zb rfl rfl rfl) rfl ?_; refine za (zk L rfl rfl rfl rfl) rfl ?_; refine za (zl L (zn rfl) rfl rfl rfl rfl) rfl ?_; refine za (zw rfl rfl rfl rfl (decide_eq_false (by omega))) rfl ?_; refine za (zm rfl rfl rfl rfl) rfl ?_; refine za (zb rfl rfl rfl) rfl ?_; refine za (zk L rfl rfl rfl rfl) rfl ?_; refine za (zl L (zn rfl) rfl rfl rfl rfl) rfl ?_; refine za (qm rfl rfl rfl rfl (decide_eq_false (by omega))) rfl ?_; refine za (zm rfl rfl rfl rfl) rfl ?_; refine za (zb rfl rfl rfl) rfl ?_; refine za (zk L rfl rfl rfl rfl) rfl ?_; refine za (zl L (zn rfl) rfl rfl rfl rfl) rfl ?_; refine za (zw rfl rfl rfl rfl (decide_eq_true (by omega))) rfl ?_; refine za (zm rfl rfl rfl rfl) rfl ?_; refine za (zb rfl rfl rfl) rfl ?_; refine za (zj rfl (zi rfl) rfl) rfl ?_; refine za (zj rfl (zi rfl) rfl) rfl ?_; refine za (zj rfl (zi rfl) rfl) rfl ?_; refine za (zm rfl rfl rfl rfl) rfl ?_; refine za (zb rfl rfl rfl) rfl ?_; refine za (zj rfl (zi rfl) rfl) rfl ?_; refine za (zj rfl (zi rfl) rfl) rfl ?_; refine za (zj rfl (zi rfl) rfl) rfl ?_; refine za (zm rfl rfl rfl rfl) rfl ?_; refine za (zb rfl rfl rfl) rfl ?_; refine za (zj rfl (zi rfl) rfl) rfl ?_; refine za (zj rfl (zi rfl) rfl) rfl ?_; refine za (zj rfl (zi rfl) rfl) rfl ?_; refine za (zm rfl rfl rfl rfl) rfl ?_; refine zg ?_; refine zh ?_; refine zx rfl ?_; refine zf ?_; refine zd (id := 3) ?_; refine za (ze rfl rfl rfl) rfl ?_; refine zg ?_; refine zh ?_
                refine qh L (rs := [.tmp 4]) rfl (fun _ _ h => h) Since.refl fun u H hH hle => ?_
                rfl
            · refine zd (id := 2) ?_; refine za (zk L rfl rfl rfl rfl) rfl ?_; refine za (zl L (zn rfl) rfl rfl rfl rfl) rfl ?_; refine za (zw rfl rfl rfl rfl (decide_eq_false (by omega))) rfl ?_; refine za (zb rfl rfl rfl) rfl ?_; refine za (zk L rfl rfl rfl rfl) rfl ?_; refine za (zl L (zn rfl) rfl rfl rfl rfl) rfl ?_; refine za (zk L rfl rfl rfl rfl) rfl ?_; refine za (zl L (zn rfl) rfl rfl rfl rfl) rfl ?_; refine za (y1 rfl rfl rfl rfl (decide_eq_false (by omega))) rfl ?_; refine za (zm rfl rfl rfl rfl) rfl ?_; refine za (zb rfl rfl rfl) rfl ?_; refine za (zk L rfl rfl rfl rfl) rfl ?_; refine za (zl L (zn rfl) rfl rfl rfl rfl) rfl ?_; refine za (qf rfl rfl rfl rfl (decide_eq_false (by omega))) rfl ?_; refine za (zm rfl rfl rfl rfl) rfl ?_; refine za (zb rfl rfl rfl) rfl ?_; refine za (zk L rfl rfl rfl rfl) rfl ?_; refine za (zl L (zn rfl) rfl rfl rfl rfl) rfl ?_; refine za (zw rfl rfl rfl rfl (decide_eq_false (by omega))) rfl ?_; refine za (zm rfl rfl rfl rfl) rfl ?_; refine za (zb rfl rfl rfl) rfl ?_; refine za (zk L rfl rfl rfl rfl) rfl ?_; refine za (zl L (zn rfl) rfl rfl rfl rfl) rfl ?_; refine za (qm rfl rfl rfl rfl (decide_eq_true (by omega))) rfl ?_; refine za (zm rfl rfl rfl rfl) rfl ?_; refine za (zb rfl rfl rfl) rfl ?_; refine za (zj rfl (zi rfl) rfl) rfl ?_; refine za (zj rfl (zi rfl) rfl) rfl ?_; refine za (zj rfl (zi rfl) rfl) rfl ?_; refine za (zm rfl rfl rfl rfl) rfl ?_; refine za (zb rfl rfl rfl) rfl ?_; refine za (zj rfl (zi rfl) rfl) rfl ?_; refine za (zj rfl (zi rfl) rfl) rfl ?_; refine za (zj rfl (zi rfl) rfl) rfl ?_; refine za (zm rfl rfl rfl rfl) rfl ?_; refine za (zb rfl rfl rfl) rfl ?_; refine za (zj rfl (zi rfl) rfl) rfl ?_; refine za (zj rfl (zi rfl) rfl) rfl ?_; refine za (zj rfl (zi rfl) rfl) rfl ?_; refine za (zm rfl rfl rfl rfl) rfl ?_; refine za (zb rfl rfl rfl) rfl ?_; refine za (zj rfl (zi rfl) rfl) rfl ?_; refine za (zj rfl (zi rfl) rfl) rfl ?_; refine za (zj rfl (zi rfl) rfl) rfl ?_; refine za (zm rfl rfl rfl rfl) rfl ?_; refine zg ?_; refine zh ?_; refine zx rfl ?_; refine zf ?_; refine zd (id := 3) ?_; refine za (ze rfl rfl rfl) rfl ?_; refine zg ?_; refine zh ?_
              refine qh L (rs := [.tmp 4]) rfl (fun _ _ h => h) Since.refl fun u H hH hle => ?_
              rfl
          · refine zd (id := 2) ?_; refine za (zk L rfl rfl rfl rfl) rfl ?_; refine za (zl L (zn rfl) rfl rfl rfl rfl) rfl ?_; refine za (zw rfl rfl rfl rfl (decide_eq_false (by omega))) rfl ?_; refine za (zb rfl rfl rfl) rfl ?_; refine za (zk L rfl rfl rfl rfl) rfl ?_; refine za (zl L (zn rfl) rfl rfl rfl rfl) rfl ?_; refine za (zk L rfl rfl rfl rfl) rfl ?_; refine za (zl L (zn rfl) rfl rfl rfl rfl) rfl ?_; refine za (y1 rfl rfl rfl rfl (decide_eq_false (by omega))) rfl ?_; refine za (zm rfl rfl rfl rfl) rfl ?_; refine za (zb rfl rfl rfl) rfl ?_; refine za (zk L rfl rfl rfl rfl) rfl ?_; refine za (zl L (zn rfl) rfl rfl rfl rfl) rfl ?_; refine za (qf rfl rfl rfl rfl (decide_eq_false (by omega))) rfl ?_; refine za (zm rfl rfl rfl rfl) rfl ?_; refine za (zb rfl rfl rfl) rfl ?_; refine za (zk L rfl rfl rfl rfl) rfl ?_; refine za (zl L (zn rfl) rfl rfl rfl rfl) rfl ?_; refine za (zw rfl rfl rfl rfl (decide_eq_true (by omega))) rfl ?_; refine za (zm rfl rfl rfl rfl) rfl ?_; refine za (zb rfl rfl rfl) rfl ?_; refine za (zj rfl (zi rfl) rfl) rfl ?_; refine za (zj rfl (zi rfl) rfl) rfl ?_; refine za (zj rfl (zi rfl) rfl) rfl ?_; refine za (zm rfl rfl rfl rfl) rfl ?_; refine za (zb rfl rfl rfl) rfl ?_; refine za (zj rfl (zi rfl) rfl) rfl ?_; refine za (zj rfl (zi rfl) rfl) rfl ?_; refine za (zj rfl (zi rfl) rfl) rfl ?_; refine za (zm rfl rfl rfl rfl) rfl ?_; refine za (zb rfl rfl rfl) rfl ?_; refine za (zj rfl (zi rfl) rfl) rfl ?_; refine za (zj rfl (zi rfl) rfl) rfl ?_; refine za (zj rfl (zi rfl) rfl) rfl ?_; refine za (zm rfl rfl rfl rfl) rfl ?_; refine za (zb rfl rfl rfl) rfl ?_; refine za (zj rfl (zi rfl) rfl) rfl ?_; refine za (zj rfl (zi rfl) rfl) rfl ?_; refine za (zj rfl (zi rfl) rfl) rfl ?_; refine za (zm rfl rfl rfl rfl) rfl ?_; refine za (zb rfl rfl rfl) rfl ?_; refine za (zj rfl (zi rfl) rfl) rfl ?_; refine za (zj rfl (zi rfl) rfl) rfl ?_; refine za (zj rfl (zi rfl) rfl) rfl ?_; refine za (zm rfl rfl rfl rfl) rfl ?_; refine zg ?_; refine zh ?_; refine zx rfl ?_; refine zf ?_; refine zd (id := 3) ?_; refine za (ze rfl rfl rfl) rfl ?_; refine zg ?_; refine zh ?_
            refine qh L (rs := [.tmp 4]) rfl (fun _ _ h => h) Since.refl fun u H hH hle => ?_
            rfl
        · refine zd (id := 2) ?_; refine za (zk L rfl rfl rfl rfl) rfl ?_; refine za (zl L (zn rfl) rfl rfl rfl rfl) rfl ?_; refine za (zw rfl rfl rfl rfl (decide_eq_false (by omega))) rfl ?_; refine za (zb rfl rfl rfl) rfl ?_; refine za (zk L rfl rfl rfl rfl) rfl ?_; refine za (zl L (zn rfl) rfl rfl rfl rfl) rfl ?_; refine za (zk L rfl rfl rfl rfl) rfl ?_; refine za (zl L (zn rfl) rfl rfl rfl rfl) rfl ?_; refine za (y1 rfl rfl rfl rfl (decide_eq_false (by omega))) rfl ?_; refine za (zm rfl rfl rfl rfl) rfl ?_; refine za (zb rfl rfl rfl) rfl ?_; refine za (zk L rfl rfl rfl rfl) rfl ?_; refine za (zl L (zn rfl) rfl rfl rfl rfl) rfl ?_; refine za (qf rfl rfl rfl rfl (decide_eq_true (by omega))) rfl ?_; refine za (zm rfl rfl rfl rfl) rfl ?_; refine za (zb rfl rfl rfl) rfl ?_; refine za (zj rfl (zi rfl) rfl) rfl ?_; refine za (zj rfl (zi rfl) rfl) rfl ?_; refine za (zj rfl (zi rfl) rfl) rfl ?_; refine za (zm rfl rfl rfl rfl) rfl ?_; refine za (zb rfl rfl rfl) rfl ?_; refine za (zj rfl (zi rfl) rfl) rfl ?_; refine za (zj rfl (zi rfl) rfl) rfl ?_; refine za (zj rfl (zi rfl) rfl) rfl ?_; refine za (zm rfl rfl rfl rfl) rfl ?_; refine za (zb rfl rfl rfl) rfl ?_; refine za (zj rfl (zi rfl) rfl) rfl ?_; refine za (zj rfl (zi rfl) rfl) rfl ?_; refine za (zj rfl (zi rfl) rfl) rfl ?_; refine za (zm rfl rfl rfl rfl) rfl ?_; refine za (zb rfl rfl rfl) rfl ?_; refine za (zj rfl (zi rfl) rfl) rfl ?_; refine za (zj rfl (zi rfl) rfl) rfl ?_; refine za (zj rfl (zi rfl) rfl) rfl ?_; refine za (zm rfl rfl rfl rfl) rfl ?_; refine za (zb rfl rfl rfl) rfl ?_; refine za (zj rfl (zi rfl) rfl) rfl ?_; refine za (zj rfl (zi rfl) rfl) rfl ?_; refine za (zj rfl (zi rfl) rfl) rfl ?_; refine za (zm rfl rfl rfl rfl) rfl ?_; refine za (zb rfl rfl rfl) rfl ?_; refine za (zj rfl (zi rfl) rfl) rfl ?_; refine za (zj rfl (zi rfl) rfl) rfl ?_; refine za (zj rfl (zi rfl) rfl) rfl ?_; refine za (zm rfl rfl rfl rfl) rfl ?_; refine zg ?_; refine zh ?_; refine zx rfl ?_; refine zf ?_; refine zd (id := 3) ?_; refine za (ze rfl rfl rfl) rfl ?_; refine zg ?_; refine zh ?_
          refine qh L (rs := [.tmp 4]) rfl (fun _ _ h => h) Since.refl fun u H hH hle => ?_
          rfl
      · refine zd (id := 2) ?_; refine za (zk L rfl rfl rfl rfl) rfl ?_; refine za (zl L (zn rfl) rfl rfl rfl rfl) rfl ?_; refine za (zw rfl rfl rfl rfl (decide_eq_false (by omega))) rfl ?_; refine za (zb rfl rfl rfl) rfl ?_; refine za (zk L rfl rfl rfl rfl) rfl ?_; refine za (zl L (zn rfl) rfl rfl rfl rfl) rfl ?_; refine za (zk L rfl rfl rfl rfl) rfl ?_; refine za (zl L (zn rfl) rfl rfl rfl rfl) rfl ?_; refine za (y1 rfl rfl rfl rfl (decide_eq_true (by omega))) rfl ?_; refine za (zm rfl rfl rfl rfl) rfl ?_; refine za (zb rfl rfl rfl) rfl ?_; refine za (zj rfl (zi rfl) rfl) rfl ?_; refine za (zj rfl (zi rfl) rfl) rfl ?_; refine za (zj rfl (zi rfl) rfl) rfl ?_; refine za (zm rfl rfl rfl rfl) rfl ?_; refine za (zb rfl rfl rfl) rfl ?_; refine za (zj rfl (zi rfl) rfl) rfl ?_; refine za (zj rfl (zi rfl) rfl) rfl ?_; refine za (zj rfl (zi rfl) rfl) rfl ?_; refine za (zm rfl rfl rfl rfl) rfl ?_; refine za (zb rfl rfl rfl) rfl ?_; refine za (zj rfl (zi rfl) rfl) rfl ?_; refine za (zj rfl (zi rfl) rfl) rfl ?_; refine za (zj rfl (zi rfl) rfl) rfl ?_; refine za (zm rfl rfl rfl rfl) rfl ?_; refine za (zb rfl rfl rfl) rfl ?_; refine za (zj rfl (zi rfl) rfl) rfl ?_; refine za (zj rfl (zi rfl) rfl) rfl ?_; refine za (zj rfl (zi rfl) rfl) rfl ?_; refine za (zm rfl rfl rfl rfl) rfl ?_; refine za (zb rfl rfl rfl) rfl ?_; refine za (zj rfl (zi rfl) rfl) rfl ?_; refine za (zj rfl (zi rfl) rfl) rfl ?_; refine za (zj rfl (zi rfl) rfl) rfl ?_; refine za (zm rfl rfl rfl rfl) rfl ?_; refine za (zb rfl rfl rfl) rfl ?_; refine za (zj rfl (zi rfl) rfl) rfl ?_; refine za (zj rfl (zi rfl) rfl) rfl ?_; refine za (zj rfl (zi rfl) rfl) rfl ?_; refine za (zm rfl rfl rfl rfl) rfl ?_; refine za (zb rfl rfl rfl) rfl ?_; refine za (zj rfl (zi rfl) rfl) rfl ?_; refine za (zj rfl (zi rfl) rfl) rfl ?_; refine za (zj rfl (zi rfl) rfl) rfl ?_; refine za (zm rfl rfl rfl rfl) rfl ?_; refine zg ?_; refine zh ?_; refine zx rfl ?_; refine zf ?_; refine zd (id := 3) ?_; refine za (ze rfl rfl rfl) rfl ?_; refine zg ?_; refine zh ?_
        refine qh L (rs := [.tmp 4]) rfl (fun _ _ h => h) Since.refl fun u H hH hle => ?_
        rfl
    · refine zd (id := 2) ?_; refine za (zk L rfl rfl rfl rfl) rfl ?_; refine za (zl L (zn rfl) rfl rfl rfl rfl) rfl ?_; refine za (zw rfl rfl rfl rfl (decide_eq_true (by omega))) rfl ?_; refine za (zb rfl rfl rfl) rfl ?_; refine za (zj rfl (zi rfl) rfl) rfl ?_; refine za (zj rfl (zi rfl) rfl) rfl ?_; refine za (zj rfl (zi rfl) rfl) rfl ?_; refine za (zj rfl (zi rfl) rfl) rfl ?_; refine za (zj rfl (zi rfl) rfl) rfl ?_; refine za (zm rfl rfl rfl rfl) rfl ?_; refine za (zb rfl rfl rfl) rfl ?_; refine za (zj rfl (zi rfl) rfl) rfl ?_; refine za (zj rfl (zi rfl) rfl) rfl ?_; refine za (zj rfl (zi rfl) rfl) rfl ?_; refine za (zm rfl rfl rfl rfl) rfl ?_; refine za (zb rfl rfl rfl) rfl ?_; refine za (zj rfl (zi rfl) rfl) rfl ?_; refine za (zj rfl (zi rfl) rfl) rfl ?_; refine za (zj rfl (zi rfl) rfl) rfl ?_; refine za (zm rfl rfl rfl rfl) rfl ?_; refine za (zb rfl rfl rfl) rfl ?_; refine za (zj rfl (zi rfl) rfl) rfl ?_; refine za (zj rfl (zi rfl) rfl) rfl ?_; refine za (zj rfl (zi rfl) rfl) rfl ?_; refine za (zm rfl rfl rfl rfl) rfl ?_; refine za (zb rfl rfl rfl) rfl ?_; refine za (zj rfl (zi rfl) rfl) rfl ?_; refine za (zj rfl (zi rfl) rfl) rfl ?_; refine za (zj rfl (zi rfl) rfl) rfl ?_; refine za (zm rfl rfl rfl rfl) rfl ?_; refine za (zb rfl rfl rfl) rfl ?_; refine za (zj rfl (zi rfl) rfl) rfl ?_; refine za (zj rfl (zi rfl) rfl) rfl ?_; refine za (zj rfl (zi rfl) rfl) rfl ?_; refine za (zm rfl rfl rfl rfl) rfl ?_; refine za (zb rfl rfl rfl) rfl ?_; refine za (zj rfl (zi rfl) rfl) rfl ?_; refine za (zj rfl (zi rfl) rfl) rfl ?_; refine za (zj rfl (zi rfl) rfl) rfl ?_; refine za (zm rfl rfl rfl rfl) rfl ?_; refine za (zb rfl rfl rfl) rfl ?_; refine za (zj rfl (zi rfl) rfl) rfl ?_; refine za (zj rfl (zi rfl) rfl) rfl ?_; refine za (zj rfl (zi rfl) rfl) rfl ?_; refine za (zm rfl rfl rfl rfl) rfl ?_; refine zg ?_; refine zh ?_; refine zx rfl ?_; refine zf ?_; refine zd (id := 3) ?_; refine za (ze rfl rfl rfl) rfl ?_; refine zg ?_; refine zh ?_
      refine qh L (rs := [.tmp 4]) rfl (fun _ _ h => h) Since.refl fun u H hH hle => ?_
      rfl
  | true =>
    have hr' := hr
    unfold rngB at hr'
    rw [decide_eq_true_eq] at hr'
    obtain ⟨r1, r2, r3, r4, r5, r6, r7, r8, r9⟩ := hr'
    refine zd (id := 2) ?_; refine za (zk L rfl rfl rfl rfl) rfl ?_; refine za (zl L (zn rfl) rfl rfl rfl rfl) rfl ?_; refine za (zw rfl rfl rfl rfl (decide_eq_false (by omega))) rfl ?_; refine za (zb rfl rfl rfl) rfl ?_; refine za (zk L rfl rfl rfl rfl) rfl ?_; refine za (zl L (zn rfl) rfl rfl rfl rfl) rfl ?_; refine za (zk L rfl rfl rfl rfl) rfl ?_; refine za (zl L (zn rfl) rfl rfl rfl rfl) rfl ?_; refine za (y1 rfl rfl rfl rfl (decide_eq_false (by omega))) rfl ?_; refine za (zm rfl rfl rfl rfl) rfl ?_; refine za (zb rfl rfl rfl) rfl ?_; refine za (zk L rfl rfl rfl rfl) rfl ?_; refine za (zl L (zn rfl) rfl rfl rfl rfl) rfl ?_; refine za (qf rfl rfl rfl rfl (decide_eq_false (by omega))) rfl ?_; refine za (zm rfl rfl rfl rfl) rfl ?_; refine za (zb rfl rfl rfl) rfl ?_; refine za (zk L rfl rfl rfl rfl) rfl ?_; refine za (zl L (zn rfl) rfl rfl rfl rfl) rfl ?_; refine za (zw rfl rfl rfl rfl (decide_eq_false (by omega))) rfl ?_; refine za (zm rfl rfl rfl rfl) rfl ?_; refine za (zb rfl rfl rfl) rfl ?_; refine za (zk L rfl rfl rfl rfl) rfl ?_; refine za (zl L (zn rfl) rfl rfl rfl rfl) rfl ?_; refine za (qm rfl rfl rfl rfl (decide_eq_false (by omega))) rfl ?_; refine za (zm rfl rfl rfl rfl) rfl ?_; refine za (zb rfl rfl rfl) rfl ?_; refine za (zk L rfl rfl rfl rfl) rfl ?_; refine za (zl L (zn rfl) rfl rfl rfl rfl) rfl ?_; refine za (zw rfl rfl rfl rfl (decide_eq_false (by omega))) rfl ?_; refine za (zm rfl rfl rfl rfl) rfl ?_; refine za (zb rfl rfl rfl) rfl ?_; refine za (zk L rfl rfl rfl rfl) rfl ?_; refine za (zl L (zn rfl) rfl rfl rfl rfl) rfl ?_; refine za (qm rfl rfl rfl rfl (decide_eq_false (by omega))) rfl ?_; refine za (zm rfl rfl rfl rfl) rfl ?_; refine za (zb rfl rfl rfl) rfl ?_; refine za (zk L rfl rfl rfl rfl) rfl ?_; refine za (zl L (zn rfl) rfl rfl rfl rfl) rfl ?_; refine za (zw rfl rfl rfl rfl (decide_eq_false (by omega))) rfl ?_; refine za (zm rfl rfl rfl rfl) rfl ?_; refine za (zb rfl rfl rfl) rfl ?_; refine za (zk L rfl rfl rfl rfl) rfl ?_; refine za (zl L (zn rfl) rfl rfl rfl rfl) rfl ?_; refine za (qm rfl rfl rfl rfl (decide_eq_false (by omega))) rfl ?_; refine za (zm rfl rfl rfl rfl) rfl ?_; refine zg ?_; refine zh ?_; refine zo rfl ?_; refine zt ?_; refine zh ?_; refine zf ?_; refine zf ?_
    refine V_meetC (fun _ : Unit => [(1, .is (.int .i64 i)), (2, .sat (At [.int .i64 t.nx, s] tyT 0)), (5, .sat (At [.int .i64 f.id, .int .u64 f.rv, .int .u8 f.q.kd, .string f.q.g.1.1, .string f.q.g.1.2, .string f.q.g.2, .string f.q.u.1, .string f.q.u.2, .int .i64 f.cl, .int .i64 f.cs, .int .i64 f.si, .int .i64 f.ve, .int .i64 f.sp, .slice p f.is.length c] tyF 0))]) (fun _ => ordB (t.fl.take i) f = true) (fun _ => []) ?rest ?first
    case first =>
      by_cases hi0 : 0 < i
      · obtain ⟨g, pg, cg, _, hgl, _, _, hcg⟩ := hs.at hz (show i - 1 < zs.length by omega)
        have hw : IntKind.i64.wrap ((i : Int) - 1) = ((i - 1 : Nat) : Int) := wrap_i64 (by omega) (by omega) |>.trans (by omega)
        have ho := ord_at (f := f) hi0 hgl
        by_cases o1 : g.id < f.id
        · by_cases o2 : g.si ≤ f.si
          · rw [decide_eq_true ⟨o1, o2⟩] at ho
            refine q8 (id := 4) [] mixed (by kernel_rfl) ?_; refine zc (zb rfl rfl rfl) rfl ?_; refine zc (qm rfl rfl rfl rfl (decide_eq_true (by omega))) rfl ?_; refine zc (zb rfl rfl rfl) rfl ?_; refine zc (zk L rfl rfl rfl rfl) rfl ?_; refine zc (StepOK.seeV (zl L (zn rfl) rfl rfl rfl rfl) (by assumption)) rfl ?_; refine zc (zb rfl rfl rfl) rfl ?_; refine zc (qs rfl rfl rfl rfl (by assumption)) rfl ?_; refine zc (qb L _ rfl rfl rfl rfl rfl rfl rfl (by first | omega | decide) (by assumption)) rfl ?_; refine zc (qk L rfl rfl rfl rfl) rfl ?_; refine zc (qn L rfl rfl rfl rfl rfl) rfl ?_; refine zc (zk L rfl rfl rfl rfl) rfl ?_; refine zc (zl L (zn rfl) rfl rfl rfl rfl) rfl ?_; refine zc (y1 rfl rfl rfl rfl (decide_eq_false (by omega))) rfl ?_; refine zc (zb rfl rfl rfl) rfl ?_; refine zc (zk L rfl rfl rfl rfl) rfl ?_; refine zc (StepOK.seeV (zl L (zn rfl) rfl rfl rfl rfl) (by assumption)) rfl ?_; refine zc (zb rfl rfl rfl) rfl ?_; refine zc (qs rfl rfl rfl rfl (by assumption)) rfl ?_; refine zc (qb L _ rfl rfl rfl rfl rfl rfl rfl (by first | omega | decide) (by assumption)) rfl ?_; refine zc (qk L rfl rfl rfl rfl) rfl ?_; refine zc (qn L rfl rfl rfl rfl rfl) rfl ?_; refine zc (zk L rfl rfl rfl rfl) rfl ?_; refine zc (zl L (zn rfl) rfl rfl rfl rfl) rfl ?_; refine zc (qm rfl rfl rfl rfl (decide_eq_false (by omega))) rfl ?_; refine zc (zm rfl rfl rfl rfl) rfl ?_; refine zc (zm rfl rfl rfl rfl) rfl ?_; refine qg ?_; refine zh ?_; refine zo rfl ?_; refine zt ?_
            exact N_mids () Since.refl ho rfl ⟨rfl, rfl, rfl, trivial⟩
          · rw [decide_eq_false (fun h => o2 h.2)] at ho
            rw [flE_ord hr ho] at he
            subst he
            refine q8 (id := 4) [] mixed (by kernel_rfl) ?_; refine zc (zb rfl rfl rfl) rfl ?_; refine zc (qm rfl rfl rfl rfl (decide_eq_true (by omega))) rfl ?_; refine zc (zb rfl rfl rfl) rfl ?_; refine zc (zk L rfl rfl rfl rfl) rfl ?_; refine zc (StepOK.seeV (zl L (zn rfl) rfl rfl rfl rfl) (by assumption)) rfl ?_; refine zc (zb rfl rfl rfl) rfl ?_; refine zc (qs rfl rfl rfl rfl (by assumption)) rfl ?_; refine zc (qb L _ rfl rfl rfl rfl rfl rfl rfl (by first | omega | decide) (by assumption)) rfl ?_; refine zc (qk L rfl rfl rfl rfl) rfl ?_; refine zc (qn L rfl rfl rfl rfl rfl) rfl ?_; refine zc (zk L rfl rfl rfl rfl) rfl ?_; refine zc (zl L (zn rfl) rfl rfl rfl rfl) rfl ?_; refine zc (y1 rfl rfl rfl rfl (decide_eq_false (by omega))) rfl ?_; refine zc (zb rfl rfl rfl) rfl ?_; refine zc (zk L rfl rfl rfl rfl) rfl ?_; refine zc (StepOK.seeV (zl L (zn rfl) rfl rfl rfl rfl) (by assumption)) rfl ?_; refine zc (zb rfl rfl rfl) rfl ?_; refine zc (qs rfl rfl rfl rfl (by assumption)) rfl ?_; refine zc (qb L _ rfl rfl rfl rfl rfl rfl rfl (by first | omega | decide) (by assumption)) rfl ?_; refine zc (qk L rfl rfl rfl rfl) rfl ?_; refine zc (qn L rfl rfl rfl rfl rfl) rfl ?_; refine zc (zk L rfl rfl rfl rfl) rfl ?_; refine zc (zl L (zn rfl) rfl rfl rfl rfl) rfl ?_; refine zc (qm rfl rfl rfl rfl (decide_eq_true (by omega))) rfl ?_; refine zc (zm rfl rfl rfl rfl) rfl ?_; refine zc (zm rfl rfl rfl rfl) rfl ?_; refine qg ?_; refine zh ?_; refine zx rfl ?_; refine zf ?_; refine zd (id := 5) ?_; refine za (ze rfl rfl rfl) rfl ?_; refine zg ?_; refine zh ?_
            refine qh L (rs := [.tmp 4]) rfl (fun _ _ h => h) Since.refl fun u H hH hle => ?_
            rfl
        · rw [decide_eq_false (fun h => o1 h.1)] at ho
          rw [flE_ord hr ho] at he
          subst he
          refine q8 (id := 4) [] mixed (by kernel_rfl) ?_; refine zc (zb rfl rfl rfl) rfl ?_; refine zc (qm rfl rfl rfl rfl (decide_eq_true (by omega))) rfl ?_; refine zc (zb rfl rfl rfl) rfl ?_; refine zc (zk L rfl rfl rfl rfl) rfl ?_; refine zc (StepOK.seeV (zl L (zn rfl) rfl rfl rfl rfl) (by assumption)) rfl ?_; refine zc (zb rfl rfl rfl) rfl ?_; refine zc (qs rfl rfl rfl rfl (by assumption)) rfl ?_; refine zc (qb L _ rfl rfl rfl rfl rfl rfl rfl (by first | omega | decide) (by assumption)) rfl ?_; refine zc (qk L rfl rfl rfl rfl) rfl ?_; refine zc (qn L rfl rfl rfl rfl rfl) rfl ?_; refine zc (zk L rfl rfl rfl rfl) rfl ?_; refine zc (zl L (zn rfl) rfl rfl rfl rfl) rfl ?_; refine zc (y1 rfl rfl rfl rfl (decide_eq_true (by omega))) rfl ?_; refine zc (zb rfl rfl rfl) rfl ?_; refine zc (zj rfl (zi rfl) rfl) rfl ?_; refine zc (zj rfl (zi rfl) rfl) rfl ?_; refine zc (zj rfl (zi rfl) rfl) rfl ?_; refine zc (zj rfl (zi rfl) rfl) rfl ?_; refine zc (zj rfl (zi rfl) rfl) rfl ?_; refine zc (zj rfl (zi rfl) rfl) rfl ?_; refine zc (zj rfl (zi rfl) rfl) rfl ?_; refine zc (zj rfl (zi rfl) rfl) rfl ?_; refine zc (zj rfl (zi rfl) rfl) rfl ?_; refine zc (zj rfl (zi rfl) rfl) rfl ?_; refine zc (zm rfl rfl rfl rfl) rfl ?_; refine zc (zm rfl rfl rfl rfl) rfl ?_; refine qg ?_; refine zh ?_; refine zx rfl ?_; refine zf ?_; refine zd (id := 5) ?_; refine za (ze rfl rfl rfl) rfl ?_; refine zg ?_; refine zh ?_
          refine qh L (rs := [.tmp 4]) rfl (fun _ _ h => h) Since.refl fun u H hH hle => ?_
          rfl
      · obtain rfl : i = 0 := by omega
        refine q8 (id := 4) [] mixed (by kernel_rfl) ?_; refine zc (zb rfl rfl rfl) rfl ?_; refine zc (qm rfl rfl rfl rfl (decide_eq_false (by omega))) rfl ?_; refine zc (zb rfl rfl rfl) rfl ?_; refine zc (zj rfl (zi rfl) rfl) rfl ?_; refine zc (zj rfl (zi rfl) rfl) rfl ?_; refine zc (zj rfl (zi rfl) rfl) rfl ?_; refine zc (zj rfl (zi rfl) rfl) rfl ?_; refine zc (zj rfl (zi rfl) rfl) rfl ?_; refine zc (zj rfl (zi rfl) rfl) rfl ?_; refine zc (zj rfl (zi rfl) rfl) rfl ?_; refine zc (zj rfl (zi rfl) rfl) rfl ?_; refine zc (zj rfl (zi rfl) rfl) rfl ?_; refine zc (zj rfl (zi rfl) rfl) rfl ?_; refine zc (zj rfl (zi rfl) rfl) rfl ?_; refine zc (zj rfl (zi rfl) rfl) rfl ?_; refine zc (zj rfl (zi rfl) rfl) rfl ?_; refine zc (zj rfl (zi rfl) rfl) rfl ?_; refine zc (zj rfl (zi rfl) rfl) rfl ?_; refine zc (zj rfl (zi rfl) rfl) rfl ?_; refine zc (zj rfl (zi rfl) rfl) rfl ?_; refine zc (zj rfl (zi rfl) rfl) rfl ?_; refine zc (zj rfl (zi rfl) rfl) rfl ?_; refine zc (zj rfl (zi rfl) rfl) rfl ?_; refine zc (zj rfl (zi rfl) rfl) rfl ?_; refine zc (zj rfl (zi rfl) rfl) rfl ?_; refine zc (zm rfl rfl rfl rfl) rfl ?_; refine qg ?_; refine zh ?_; refine zo rfl ?_; refine zt ?_
        exact N_mids () Since.refl ord_zero rfl ⟨rfl, rfl, rfl, trivial⟩
    intro _ ho
    by_cases hq : quE f.q = 0
    · by_cases hem : f.is = []
      · have hl0 : f.is.length = 0 := by rw [hem]; rfl
        rw [flE_em hr ho hq hem] at he
        subst he
        refine zf ?_; refine zf ?_; refine zd (id := 6) ?_; refine za (zk L rfl rfl rfl rfl) rfl ?_; refine za (zu L (vs := [_, _, _, _, _, _]) (zn rfl) rfl rfl rfl rfl ⟨_, rfl⟩) rfl ?_; refine za (zq L rfl rfl (zi rfl) rfl rfl rfl (fun u H hH _ _ => rquery_ret hQ (by first | exact hq | rfl) hH)) rfl ?_; refine za (qm rfl rfl rfl rfl (decide_eq_false (by omega))) rfl ?_; refine zg ?_; refine zh ?_; refine zo rfl ?_; refine zt ?_; refine zh ?_; refine zf ?_; refine zf ?_; refine zd (id := 8) ?_; refine za (zk L rfl rfl rfl rfl) rfl ?_; refine za (zl L (zn rfl) rfl rfl rfl rfl) rfl ?_; refine za (ok_lenL L rfl rfl rfl rfl) rfl ?_; refine za (qf rfl rfl rfl rfl (decide_eq_true (by omega))) rfl ?_; refine zg ?_; refine zh ?_; refine zx rfl ?_; refine zf ?_; refine zd (id := 9) ?_; refine za (ze rfl rfl rfl) rfl ?_; refine zg ?_; refine zh ?_
        refine qh L (rs := [.tmp 4]) rfl (fun _ _ h => h) Since.refl fun u H hH hle => ?_
        rfl
      · have hl0 : 0 < f.is.length := List.length_pos_iff.2 hem
        obtain ⟨x0, hx0⟩ := get_some hl0
        have hc0 := it_at hx0
        have hhd : f.is.head?.map It.cl = some x0.cl := by
          cases hfi : f.is with
          | nil => exact absurd hfi hem
          | cons y l => rw [hfi] at hx0; simp at hx0; subst hx0; rfl
        have hm := memB_eq (f := f)
        rw [hhd] at hm
        refine zf ?_; refine zf ?_; refine zd (id := 6) ?_; refine za (zk L rfl rfl rfl rfl) rfl ?_; refine za (zu L (vs := [_, _, _, _, _, _]) (zn rfl) rfl rfl rfl rfl ⟨_, rfl⟩) rfl ?_; refine za (zq L rfl rfl (zi rfl) rfl rfl rfl (fun u H hH _ _ => rquery_ret hQ (by first | exact hq | rfl) hH)) rfl ?_; refine za (qm rfl rfl rfl rfl (decide_eq_false (by omega))) rfl ?_; refine zg ?_; refine zh ?_; refine zo rfl ?_; refine zt ?_; refine zh ?_; refine zf ?_; refine zf ?_; refine zd (id := 8) ?_; refine za (zk L rfl rfl rfl rfl) rfl ?_; refine za (zl L (zn rfl) rfl rfl rfl rfl) rfl ?_; refine za (ok_lenL L rfl rfl rfl rfl) rfl ?_; refine za (qf rfl rfl rfl rfl (decide_eq_false (by omega))) rfl ?_; refine zg ?_; refine zh ?_; refine zo rfl ?_; refine zt ?_; refine zh ?_; refine zf ?_; refine zd (id := 10) ?_; refine za (ze rfl rfl rfl) rfl ?_; refine zg ?_; refine zh ?_; refine zf ?_; refine zf ?_; refine zd (id := 11) ?_; refine za (ze rfl rfl rfl) rfl ?_; refine zg ?_; refine zh ?_; refine zz ?_
        refine yd (fun k : Nat => [(1, .is (.int .i64 i)), (2, .sat (At [.int .i64 t.nx, s] tyT 0)), (5, .sat (At [.int .i64 f.id, .int .u64 f.rv, .int .u8 f.q.kd, .string f.q.g.1.1, .string f.q.g.1.2, .string f.q.g.2, .string f.q.u.1, .string f.q.u.2, .int .i64 f.cl, .int .i64 f.cs, .int .i64 f.si, .int .i64 f.ve, .int .i64 f.sp, .slice p f.is.length c] tyF 0)), (6, .is (.int .i64 (cls (f.is.take k)))), (7, .is (.int .i64 k))]) (fun k => k ≤ f.is.length ∧ ∀ (j : Nat) x, j < k → f.is[j]? = some x → itV x = true) (fun k => f.is.length - k) 0 ⟨Nat.zero_le _, fun j x h => absurd h (Nat.not_lt_zero _)⟩ ⟨rfl, rfl, rfl, rfl, rfl, trivial⟩ ?_
        rintro k ⟨hk, hok⟩
        by_cases hkl : k < f.is.length
        · obtain ⟨x, hx⟩ := get_some hkl
          have hcx := it_at hx
          cases hv : itV x with
          | false =>
            have hall : f.is.all itV = false := by
              rw [Bool.eq_false_iff]
              intro h
              have := List.all_eq_true.1 h x (List.mem_of_getElem? hx)
              rw [hv] at this; cases this
            rw [hall] at hm
            rw [flE_mem hr ho hq hem hm] at he
            subst he
            refine zf ?_; refine zf ?_; refine zd (id := 12) ?_; refine za (zb rfl rfl rfl) rfl ?_; refine za (zk L rfl rfl rfl rfl) rfl ?_; refine za (zl L (zn rfl) rfl rfl rfl rfl) rfl ?_; refine za (ok_lenL L rfl rfl rfl rfl) rfl ?_; refine za (zw rfl rfl rfl rfl (decide_eq_true (by omega))) rfl ?_; refine zg ?_; refine zh ?_; refine zx rfl ?_; refine zt ?_; refine zh ?_; refine zf ?_; refine zz ?_; refine zf ?_; refine zf ?_; refine zd (id := 14) ?_; refine za (zk L rfl rfl rfl rfl) rfl ?_; refine za (StepOK.seeV (zl L (zn rfl) rfl rfl rfl rfl) (by assumption)) rfl ?_; refine za (zb rfl rfl rfl) rfl ?_; refine za (qb L _ rfl rfl rfl rfl rfl rfl rfl (by first | omega | decide) (by assumption)) rfl ?_; refine za (ok_loadPA L (vs := [_, _, _, _, _]) rfl rfl rfl rfl rfl ⟨_, rfl⟩) rfl ?_; refine za (zq L rfl rfl (zi rfl) rfl rfl rfl (fun u H hH _ _ => ritem_ret (hI f (fls_mem hfi) x (List.mem_of_getElem? hx)) hv hH)) rfl ?_; refine za (qf rfl rfl rfl rfl rfl) rfl ?_; refine zg ?_; refine zh ?_; refine zx rfl ?_; refine zf ?_; refine zd (id := 15) ?_; refine za (ze rfl rfl rfl) rfl ?_; refine zg ?_; refine zh ?_
            refine qh L (rs := [.tmp 4]) rfl (fun _ _ h => h) Since.refl fun u H hH hle => ?_
            rfl
          | true =>
            have hct := cls_take hx
            refine zf ?_; refine zf ?_; refine zd (id := 12) ?_; refine za (zb rfl rfl rfl) rfl ?_; refine za (zk L rfl rfl rfl rfl) rfl ?_; refine za (zl L (zn rfl) rfl rfl rfl rfl) rfl ?_; refine za (ok_lenL L rfl rfl rfl rfl) rfl ?_; refine za (zw rfl rfl rfl rfl (decide_eq_true (by omega))) rfl ?_; refine zg ?_; refine zh ?_; refine zx rfl ?_; refine zt ?_; refine zh ?_; refine zf ?_; refine zz ?_; refine zf ?_; refine zf ?_; refine zd (id := 14) ?_; refine za (zk L rfl rfl rfl rfl) rfl ?_; refine za (StepOK.seeV (zl L (zn rfl) rfl rfl rfl rfl) (by assumption)) rfl ?_; refine za (zb rfl rfl rfl) rfl ?_; refine za (qb L _ rfl rfl rfl rfl rfl rfl rfl (by first | omega | decide) (by assumption)) rfl ?_; refine za (ok_loadPA L (vs := [_, _, _, _, _]) rfl rfl rfl rfl rfl ⟨_, rfl⟩) rfl ?_; refine za (zq L rfl rfl (zi rfl) rfl rfl rfl (fun u H hH _ _ => ritem_ret (hI f (fls_mem hfi) x (List.mem_of_getElem? hx)) hv hH)) rfl ?_; refine za (qf rfl rfl rfl rfl rfl) rfl ?_; refine zg ?_; refine zh ?_; refine zo rfl ?_; refine zt ?_; refine zh ?_; refine zd (id := 16) ?_; refine za (zb rfl rfl rfl) rfl ?_; refine za (zk L rfl rfl rfl rfl) rfl ?_; refine za (StepOK.seeV (zl L (zn rfl) rfl rfl rfl rfl) (by assumption)) rfl ?_; refine za (zb rfl rfl rfl) rfl ?_; refine za (qb L _ rfl rfl rfl rfl rfl rfl rfl (by first | omega | decide) (by assumption)) rfl ?_; refine za (qk L rfl rfl rfl rfl) rfl ?_; refine za (qn L rfl rfl rfl rfl rfl) rfl ?_; refine za (ok_min rfl rfl rfl rfl rfl) rfl ?_; refine za (ze rfl rfl rfl) rfl ?_; refine zg ?_; refine qo ?_; refine zh ?_; refine zd (id := 13) ?_; refine za (zb rfl rfl rfl) rfl ?_; refine za (q9 rfl rfl rfl rfl (wrap_i64 (by omega) (by omega))) rfl ?_; refine za (ze rfl rfl rfl) rfl ?_; refine zg ?_
            exact qp (x := k) (k + 1) ⟨hkl, fun j y hj hy => by
              rcases Nat.lt_or_ge j k with h | h
              · exact hok j y h hy
              · have : j = k := by omega
                subst this; rw [hx] at hy; cases hy; exact hv⟩ (by omega) ⟨rfl, rfl, rfl, by rw [hct]; rfl, rfl, trivial⟩
        · obtain rfl : k = f.is.length := by omega
          rw [List.take_length]
          have hall : f.is.all itV = true := List.all_eq_true.2 fun x hx => by
            obtain ⟨j, hj⟩ := List.getElem?_of_mem hx
            exact hok j x (get_lt hj) hj
          rw [hall] at hm
          by_cases m1 : f.cl = x0.cl
          · by_cases m2 : f.cs = cls f.is
            · rw [decide_eq_true (by rw [m1]), decide_eq_true m2] at hm
              refine zf ?_; refine zf ?_; refine zd (id := 12) ?_; refine za (zb rfl rfl rfl) rfl ?_; refine za (zk L rfl rfl rfl rfl) rfl ?_; refine za (zl L (zn rfl) rfl rfl rfl rfl) rfl ?_; refine za (ok_lenL L rfl rfl rfl rfl) rfl ?_; refine za (zw rfl rfl rfl rfl (decide_eq_false (by omega))) rfl ?_; refine zg ?_; refine zh ?_; refine zo rfl ?_; refine y3 ?_; refine qe ?_; refine qe ?_; refine y2 ?_; refine zh ?_; refine zf ?_; refine zf ?_; refine q8 (id := 17) [] mixed (by kernel_rfl) ?_; refine zc (zk L rfl rfl rfl rfl) rfl ?_; refine zc (zl L (zn rfl) rfl rfl rfl rfl) rfl ?_; refine zc (zk L rfl rfl rfl rfl) rfl ?_; refine zc (StepOK.seeV (zl L (zn rfl) rfl rfl rfl rfl) (by assumption)) rfl ?_; refine zc (qb L _ rfl rfl rfl rfl rfl rfl rfl (by first | omega | decide) (by assumption)) rfl ?_; refine zc (qk L rfl rfl rfl rfl) rfl ?_; refine zc (qn L rfl rfl rfl rfl rfl) rfl ?_; refine zc (ql rfl rfl rfl rfl (decide_eq_false (by omega))) rfl ?_; refine zc (zb rfl rfl rfl) rfl ?_; refine zc (zk L rfl rfl rfl rfl) rfl ?_; refine zc (zl L (zn rfl) rfl rfl rfl rfl) rfl ?_; refine zc (zb rfl rfl rfl) rfl ?_; refine zc (ql rfl rfl rfl rfl (decide_eq_false (by omega))) rfl ?_; refine zc (zm rfl rfl rfl rfl) rfl ?_; refine qg ?_; refine zh ?_; refine zo rfl ?_; refine zt ?_; refine zh ?_; refine zf ?_; refine zf ?_; refine zd (id := 19) ?_; refine za (ze rfl rfl rfl) rfl ?_; refine zg ?_; refine zh ?_; refine zz ?_
              refine yd (fun k : Nat => [(1, .is (.int .i64 i)), (2, .sat (At [.int .i64 t.nx, s] tyT 0)), (5, .sat (At [.int .i64 f.id, .int .u64 f.rv, .int .u8 f.q.kd, .string f.q.g.1.1, .string f.q.g.1.2, .string f.q.g.2, .string f.q.u.1, .string f.q.u.2, .int .i64 f.cl, .int .i64 f.cs, .int .i64 f.si, .int .i64 f.ve, .int .i64 f.sp, .slice p f.is.length c] tyF 0)), (8, .is (.int .i64 k))]) (fun k => k ≤ i ∧ ∀ (j : Nat) g, j < k → t.fl[j]? = some g → ¬ (g.rv = f.rv ∧ g.q = f.q)) (fun k => i - k) 0 ⟨Nat.zero_le _, fun j x h => absurd h (Nat.not_lt_zero _)⟩ ⟨rfl, rfl, rfl, rfl, trivial⟩ ?_
              rintro k ⟨hk, hok2⟩
              by_cases hki : k < i
              · obtain ⟨g, pg, cg, _, hgl, _, _, hcg⟩ := hs.at hz (show k < zs.length by omega)
                have hno : ∀ {h : ¬ (g.rv = f.rv ∧ g.q = f.q)}, ∀ (j : Nat) g', j < k + 1 → t.fl[j]? = some g' → ¬ (g'.rv = f.rv ∧ g'.q = f.q) := fun {h} j g' hj hg' => by
                  rcases Nat.lt_or_ge j k with h1 | h1
                  · exact hok2 j g' h1 hg'
                  · have : j = k := by omega
                    subst this; rw [hgl] at hg'; cases hg'; exact h
                by_cases t1 : g.rv = f.rv
                · by_cases t2 : g.q = f.q
                  · have htw : twB (t.fl.take i) f = true := List.any_eq_true.2 ⟨g, List.mem_of_getElem? (i := k) (by rw [List.getElem?_take_of_lt hki]; exact hgl), decide_eq_true ⟨t1, t2⟩⟩
                    rw [flE_tw hr ho hq hem hm htw] at he
                    subst he
                    have hqe := eqQv (decide_eq_true t2)
                    refine zf ?_; refine zf ?_; refine zd (id := 20) ?_; refine za (zb rfl rfl rfl) rfl ?_; refine za (zb rfl rfl rfl) rfl ?_; refine za (zw rfl rfl rfl rfl (decide_eq_true (by omega))) rfl ?_; refine zg ?_; refine zh ?_; refine zx rfl ?_; refine zt ?_; refine zh ?_; refine zf ?_; refine zz ?_; refine zf ?_; refine q8 (id := 22) [] mixed (by kernel_rfl) ?_; refine zc (zk L rfl rfl rfl rfl) rfl ?_; refine zc (StepOK.seeV (zl L (zn rfl) rfl rfl rfl rfl) (by assumption)) rfl ?_; refine zc (zb rfl rfl rfl) rfl ?_; refine zc (qb L _ rfl rfl rfl rfl rfl rfl rfl (by first | omega | decide) (by assumption)) rfl ?_; refine zc (qk L rfl rfl rfl rfl) rfl ?_; refine zc (qn L rfl rfl rfl rfl rfl) rfl ?_; refine zc (zk L rfl rfl rfl rfl) rfl ?_; refine zc (zl L (zn rfl) rfl rfl rfl rfl) rfl ?_; refine zc (qf rfl rfl rfl rfl (decide_eq_true (by omega))) rfl ?_; refine zc (zb rfl rfl rfl) rfl ?_; refine zc (zk L rfl rfl rfl rfl) rfl ?_; refine zc (StepOK.seeV (zl L (zn rfl) rfl rfl rfl rfl) (by assumption)) rfl ?_; refine zc (zb rfl rfl rfl) rfl ?_; refine zc (qb L _ rfl rfl rfl rfl rfl rfl rfl (by first | omega | decide) (by assumption)) rfl ?_; refine zc (qk L rfl rfl rfl rfl) rfl ?_; refine zc (ok_loadPA L (vs := [_, _, _, _, _, _]) rfl rfl rfl rfl rfl ⟨_, rfl⟩) rfl ?_; refine zc (zk L rfl rfl rfl rfl) rfl ?_; refine zc (zu L (vs := [_, _, _, _, _, _]) (zn rfl) rfl rfl rfl rfl ⟨_, rfl⟩) rfl ?_; refine zc (ok_aeql rfl rfl rfl rfl eq30 (by assumption) rfl) rfl ?_; refine zc (zm rfl rfl rfl rfl) rfl ?_; refine qg ?_; refine zh ?_; refine zx rfl ?_; refine zf ?_; refine zd (id := 23) ?_; refine za (ze rfl rfl rfl) rfl ?_; refine zg ?_; refine zh ?_
                    refine qh L (rs := [.tmp 4]) rfl (fun _ _ h => h) Since.refl fun u H hH hle => ?_
                    rfl
                  · have hqe := eqQv (decide_eq_false t2)
                    refine zf ?_; refine zf ?_; refine zd (id := 20) ?_; refine za (zb rfl rfl rfl) rfl ?_; refine za (zb rfl rfl rfl) rfl ?_; refine za (zw rfl rfl rfl rfl (decide_eq_true (by omega))) rfl ?_; refine zg ?_; refine zh ?_; refine zx rfl ?_; refine zt ?_; refine zh ?_; refine zf ?_; refine zz ?_; refine zf ?_; refine q8 (id := 22) [] mixed (by kernel_rfl) ?_; refine zc (zk L rfl rfl rfl rfl) rfl ?_; refine zc (StepOK.seeV (zl L (zn rfl) rfl rfl rfl rfl) (by assumption)) rfl ?_; refine zc (zb rfl rfl rfl) rfl ?_; refine zc (qb L _ rfl rfl rfl rfl rfl rfl rfl (by first | omega | decide) (by assumption)) rfl ?_; refine zc (qk L rfl rfl rfl rfl) rfl ?_; refine zc (qn L rfl rfl rfl rfl rfl) rfl ?_; refine zc (zk L rfl rfl rfl rfl) rfl ?_; refine zc (zl L (zn rfl) rfl rfl rfl rfl) rfl ?_; refine zc (qf rfl rfl rfl rfl (decide_eq_true (by omega))) rfl ?_; refine zc (zb rfl rfl rfl) rfl ?_; refine zc (zk L rfl rfl rfl rfl) rfl ?_; refine zc (StepOK.seeV (zl L (zn rfl) rfl rfl rfl rfl) (by assumption)) rfl ?_; refine zc (zb rfl rfl rfl) rfl ?_; refine zc (qb L _ rfl rfl rfl rfl rfl rfl rfl (by first | omega | decide) (by assumption)) rfl ?_; refine zc (qk L rfl rfl rfl rfl) rfl ?_; refine zc (ok_loadPA L (vs := [_, _, _, _, _, _]) rfl rfl rfl rfl rfl ⟨_, rfl⟩) rfl ?_; refine zc (zk L rfl rfl rfl rfl) rfl ?_; refine zc (zu L (vs := [_, _, _, _, _, _]) (zn rfl) rfl rfl rfl rfl ⟨_, rfl⟩) rfl ?_; refine zc (ok_aeql rfl rfl rfl rfl eq30 (by assumption) rfl) rfl ?_; refine zc (zm rfl rfl rfl rfl) rfl ?_; refine qg ?_; refine zh ?_; refine zo rfl ?_; refine zt ?_; refine qo ?_; refine zh ?_; refine zd (id := 21) ?_; refine za (zb rfl rfl rfl) rfl ?_; refine za (q9 rfl rfl rfl rfl (wrap_i64 (by omega) (by omega))) rfl ?_; refine za (ze rfl rfl rfl) rfl ?_; refine zg ?_
                    exact qp (x := k) (k + 1) ⟨hki, hno (h := fun h => t2 h.2)⟩ (by omega) ⟨rfl, rfl, rfl, rfl, trivial⟩
                · refine zf ?_; refine zf ?_; refine zd (id := 20) ?_; refine za (zb rfl rfl rfl) rfl ?_; refine za (zb rfl rfl rfl) rfl ?_; refine za (zw rfl rfl rfl rfl (decide_eq_true (by omega))) rfl ?_; refine zg ?_; refine zh ?_; refine zx rfl ?_; refine zt ?_; refine zh ?_; refine zf ?_; refine zz ?_; refine zf ?_; refine q8 (id := 22) [] mixed (by kernel_rfl) ?_; refine zc (zk L rfl rfl rfl rfl) rfl ?_; refine zc (StepOK.seeV (zl L (zn rfl) rfl rfl rfl rfl) (by assumption)) rfl ?_; refine zc (zb rfl rfl rfl) rfl ?_; refine zc (qb L _ rfl rfl rfl rfl rfl rfl rfl (by first | omega | decide) (by assumption)) rfl ?_; refine zc (qk L rfl rfl rfl rfl) rfl ?_; refine zc (qn L rfl rfl rfl rfl rfl) rfl ?_; refine zc (zk L rfl rfl rfl rfl) rfl ?_; refine zc (zl L (zn rfl) rfl rfl rfl rfl) rfl ?_; refine zc (qf rfl rfl rfl rfl (decide_eq_false (by omega))) rfl ?_; refine zc (zb rfl rfl rfl) rfl ?_; refine zc (zj rfl (zi rfl) rfl) rfl ?_; refine zc (zj rfl (zi rfl) rfl) rfl ?_; refine zc (zj rfl (zi rfl) rfl) rfl ?_; refine zc (zj rfl (zi rfl) rfl) rfl ?_; refine zc (zj rfl (zi rfl) rfl) rfl ?_; refine zc (zj rfl (zi rfl) rfl) rfl ?_; refine zc (zj rfl (zi rfl) rfl) rfl ?_; refine zc (zj rfl (zi rfl) rfl) rfl ?_; refine zc (zj rfl (zi rfl) rfl) rfl ?_; refine zc (zm rfl rfl rfl rfl) rfl ?_; refine qg ?_; refine zh ?_; refine zo rfl ?_; refine zt ?_; refine qo ?_; refine zh ?_; refine zd (id := 21) ?_; refine za (zb rfl rfl rfl) rfl ?_; refine za (q9 rfl rfl rfl rfl (wrap_i64 (by omega) (by omega))) rfl ?_; refine za (ze rfl rfl rfl) rfl ?_; refine zg ?_
                  exact qp (x := k) (k + 1) ⟨hki, hno (h := fun h => t1 h.1)⟩ (by omega) ⟨rfl, rfl, rfl, rfl, trivial⟩
              · obtain rfl : k = i := by omega
                have htw : twB (t.fl.take k) f = false := twB_iff.2 fun g hg => by
                  obtain ⟨j, hj⟩ := List.getElem?_of_mem hg
                  have hjk := get_lt hj
                  rw [List.length_take] at hjk
                  rw [List.getElem?_take_of_lt (by omega)] at hj
                  exact hok2 j g (by omega) hj
                rw [flE_ok hr ho hq hem hm htw] at he
                subst he
                refine zf ?_; refine zf ?_; refine zd (id := 20) ?_; refine za (zb rfl rfl rfl) rfl ?_; refine za (zb rfl rfl rfl) rfl ?_; refine za (zw rfl rfl rfl rfl (decide_eq_false (by omega))) rfl ?_; refine zg ?_; refine zh ?_; refine zo rfl ?_; refine y3 ?_; refine qe ?_; refine qe ?_; refine y2 ?_; refine zh ?_; refine zf ?_; refine zd (id := 24) ?_; refine za (ze rfl rfl rfl) rfl ?_; refine zg ?_; refine zh ?_
                refine qh L (rs := [.tmp 4]) rfl (fun _ _ h => h) Since.refl fun u H hH hle => ?_
                rfl
            · rw [decide_eq_false m2, Bool.and_false] at hm
              rw [flE_mem hr ho hq hem hm] at he
              subst he
              refine zf ?_; refine zf ?_; refine zd (id := 12) ?_; refine za (zb rfl rfl rfl) rfl ?_; refine za (zk L rfl rfl rfl rfl) rfl ?_; refine za (zl L (zn rfl) rfl rfl rfl rfl) rfl ?_; refine za (ok_lenL L rfl rfl rfl rfl) rfl ?_; refine za (zw rfl rfl rfl rfl (decide_eq_false (by omega))) rfl ?_; refine zg ?_; refine zh ?_; refine zo rfl ?_; refine y3 ?_; refine qe ?_; refine qe ?_; refine y2 ?_; refine zh ?_; refine zf ?_; refine zf ?_; refine q8 (id := 17) [] mixed (by kernel_rfl) ?_; refine zc (zk L rfl rfl rfl rfl) rfl ?_; refine zc (zl L (zn rfl) rfl rfl rfl rfl) rfl ?_; refine zc (zk L rfl rfl rfl rfl) rfl ?_; refine zc (StepOK.seeV (zl L (zn rfl) rfl rfl rfl rfl) (by assumption)) rfl ?_; refine zc (qb L _ rfl rfl rfl rfl rfl rfl rfl (by first | omega | decide) (by assumption)) rfl ?_; refine zc (qk L rfl rfl rfl rfl) rfl ?_; refine zc (qn L rfl rfl rfl rfl rfl) rfl ?_; refine zc (ql rfl rfl rfl rfl (decide_eq_false (by omega))) rfl ?_; refine zc (zb rfl rfl rfl) rfl ?_; refine zc (zk L rfl rfl rfl rfl) rfl ?_; refine zc (zl L (zn rfl) rfl rfl rfl rfl) rfl ?_; refine zc (zb rfl rfl rfl) rfl ?_; refine zc (ql rfl rfl rfl rfl (decide_eq_true (by omega))) rfl ?_; refine zc (zm rfl rfl rfl rfl) rfl ?_; refine qg ?_; refine zh ?_; refine zx rfl ?_; refine zf ?_; refine zd (id := 18) ?_; refine za (ze rfl rfl rfl) rfl ?_; refine zg ?_; refine zh ?_
              refine qh L (rs := [.tmp 4]) rfl (fun _ _ h => h) Since.refl fun u H hH hle => ?_
              rfl
          · rw [decide_eq_false (fun h => m1 (Option.some.inj h).symm), Bool.and_false, Bool.false_and] at hm
            rw [flE_mem hr ho hq hem hm] at he
            subst he
            refine zf ?_; refine zf ?_; refine zd (id := 12) ?_; refine za (zb rfl rfl rfl) rfl ?_; refine za (zk L rfl rfl rfl rfl) rfl ?_; refine za (zl L (zn rfl) rfl rfl rfl rfl) rfl ?_; refine za (ok_lenL L rfl rfl rfl rfl) rfl ?_; refine za (zw rfl rfl rfl rfl (decide_eq_false (by omega))) rfl ?_; refine zg ?_; refine zh ?_; refine zo rfl ?_; refine y3 ?_; refine qe ?_; refine qe ?_; refine y2 ?_; refine zh ?_; refine zf ?_; refine zf ?_; refine q8 (id := 17) [] mixed (by kernel_rfl) ?_; refine zc (zk L rfl rfl rfl rfl) rfl ?_; refine zc (zl L (zn rfl) rfl rfl rfl rfl) rfl ?_; refine zc (zk L rfl rfl rfl rfl) rfl ?_; refine zc (StepOK.seeV (zl L (zn rfl) rfl rfl rfl rfl) (by assumption)) rfl ?_; refine zc (qb L _ rfl rfl rfl rfl rfl rfl rfl (by first | omega | decide) (by assumption)) rfl ?_; refine zc (qk L rfl rfl rfl rfl) rfl ?_; refine zc (qn L rfl rfl rfl rfl rfl) rfl ?_; refine zc (ql rfl rfl rfl rfl (decide_eq_true (by omega))) rfl ?_; refine zc (zb rfl rfl rfl) rfl ?_; refine zc (zj rfl (zi rfl) rfl) rfl ?_; refine zc (zj rfl (zi rfl) rfl) rfl ?_; refine zc (zj rfl (zi rfl) rfl) rfl ?_; refine zc (zj rfl (zi rfl) rfl) rfl ?_; refine zc (zm rfl rfl rfl rfl) rfl ?_; refine qg ?_; refine zh ?_; refine zx rfl ?_; refine zf ?_; refine zd (id := 18) ?_; refine za (ze rfl rfl rfl) rfl ?_; refine zg ?_; refine zh ?_
            refine qh L (rs := [.tmp 4]) rfl (fun _ _ h => h) Since.refl fun u H hH hle => ?_
            rfl
    · rw [flE_qu hr ho hq] at he
      subst he
      refine zf ?_; refine zf ?_; refine zd (id := 6) ?_; refine za (zk L rfl rfl rfl rfl) rfl ?_; refine za (zu L (vs := [_, _, _, _, _, _]) (zn rfl) rfl rfl rfl rfl ⟨_, rfl⟩) rfl ?_; refine za (zq L rfl rfl (zi rfl) rfl rfl rfl (fun u H hH _ _ => rquery_ret hQ (by first | exact hq | rfl) hH)) rfl ?_; refine za (qm rfl rfl rfl rfl (decide_eq_true (by omega))) rfl ?_; refine zg ?_; refine zh ?_; refine zx rfl ?_; refine zf ?_; refine zd (id := 7) ?_; refine za (zk L rfl rfl rfl rfl) rfl ?_; refine za (zu L (vs := [_, _, _, _, _, _]) (zn rfl) rfl rfl rfl rfl ⟨_, rfl⟩) rfl ?_; refine za (zq L rfl rfl (zi rfl) rfl rfl rfl (fun u H hH _ _ => rquery_ret hQ (by first | exact hq | rfl) hH)) rfl ?_; refine za (ze rfl rfl rfl) rfl ?_; refine zg ?_; refine zh ?_
      refine qh L (rs := [.tmp 4]) rfl (fun _ _ h => h) Since.refl fun u H hH hle => ?_
      rfl
theorem rcheck_ret {t : Tb} {zs : List (Fl × Value)} (hz : zs.map Prod.fst = t.fl) {fu fi : Bool} {s : Value} {w : World} {B : Heap} (hs : FsB zs fu fi s B) (hZ : ∀ f ∈ t.fl, QuZ f.q) (hI : ∀ f ∈ t.fl, ∀ x ∈ f.is, 0 ≤ x.rv) (hn : itsN t.fl ≤ 9223372036854775807) {e : Int} (he : chkE t = e) (hB : B.Le (hp w)) :
    Ret Try.prog 15 [tbv t.nx s] w B (fun v _ => v = .int .i64 e) := by
  have hsl := hs.sl
  have hlen := fls_len hz
  have hzl := hs.ln
  refine y6 Try.func15 rfl Try.ntmps15 (Nat.le_of_ble_eq_true rfl) hB ?_
  by_cases hnx : 0 ≤ t.nx ∧ t.nx ≤ 2147483647
  · by_cases hit : 1024 < itsN t.fl
    · have : e = 3 := by rw [← he]; unfold chkE; rw [if_neg (by omega), if_pos hit]
      subst this
      refine zf ?_; refine zd (id := 0) ?_; refine za (qz rfl rfl rfl rfl) rfl ?_; refine za (ze rfl rfl rfl) rfl ?_; refine zg ?_; refine zh ?_; refine zf ?_; refine zf ?_; refine zd (id := 1) ?_; refine za (zk L rfl rfl rfl rfl) rfl ?_; refine za (zl L (zn rfl) rfl rfl rfl rfl) rfl ?_; refine za (zw rfl rfl rfl rfl (decide_eq_false (by omega))) rfl ?_; refine za (zb rfl rfl rfl) rfl ?_; refine za (zk L rfl rfl rfl rfl) rfl ?_; refine za (zl L (zn rfl) rfl rfl rfl rfl) rfl ?_; refine za (qm rfl rfl rfl rfl (decide_eq_false (by omega))) rfl ?_; refine za (zm rfl rfl rfl rfl) rfl ?_; refine zg ?_; refine zh ?_; refine zo rfl ?_; refine zt ?_; refine zh ?_; refine zf ?_; refine zf ?_; refine zd (id := 3) ?_; refine za (zu L (vs := [_, _]) (zn rfl) rfl rfl rfl rfl ⟨_, rfl⟩) rfl ?_; refine za (zq L rfl rfl (zi rfl) rfl rfl rfl (fun u H hH hle _ => ritems_ret hz (hs.le hle) hn hH)) rfl ?_; refine za (qm rfl rfl rfl rfl (decide_eq_true (by omega))) rfl ?_; refine zg ?_; refine zh ?_; refine zx rfl ?_; refine zf ?_; refine zd (id := 4) ?_; refine za (ze rfl rfl rfl) rfl ?_; refine zg ?_; refine zh ?_
      refine qh L (rs := [.tmp 2]) rfl (fun _ _ h => h) Since.refl fun u H hH hle => ?_
      rfl
    · refine zf ?_; refine zd (id := 0) ?_; refine za (qz rfl rfl rfl rfl) rfl ?_; refine za (ze rfl rfl rfl) rfl ?_; refine zg ?_; refine zh ?_; refine zf ?_; refine zf ?_; refine zd (id := 1) ?_; refine za (zk L rfl rfl rfl rfl) rfl ?_; refine za (zl L (zn rfl) rfl rfl rfl rfl) rfl ?_; refine za (zw rfl rfl rfl rfl (decide_eq_false (by omega))) rfl ?_; refine za (zb rfl rfl rfl) rfl ?_; refine za (zk L rfl rfl rfl rfl) rfl ?_; refine za (zl L (zn rfl) rfl rfl rfl rfl) rfl ?_; refine za (qm rfl rfl rfl rfl (decide_eq_false (by omega))) rfl ?_; refine za (zm rfl rfl rfl rfl) rfl ?_; refine zg ?_; refine zh ?_; refine zo rfl ?_; refine zt ?_; refine zh ?_; refine zf ?_; refine zf ?_; refine zd (id := 3) ?_; refine za (zu L (vs := [_, _]) (zn rfl) rfl rfl rfl rfl ⟨_, rfl⟩) rfl ?_; refine za (zq L rfl rfl (zi rfl) rfl rfl rfl (fun u H hH hle _ => ritems_ret hz (hs.le hle) hn hH)) rfl ?_; refine za (qm rfl rfl rfl rfl (decide_eq_false (by omega))) rfl ?_; refine zg ?_; refine zh ?_; refine zo rfl ?_; refine zt ?_; refine zh ?_; refine zf ?_; refine zf ?_; refine zd (id := 5) ?_; refine za (ze rfl rfl rfl) rfl ?_; refine zg ?_; refine zh ?_; refine zz ?_
      refine yd (fun i : Nat => [(1, .sat (At [.int .i64 t.nx, s] tyT 0)), (3, .is (.int .i64 i))]) (fun i => i ≤ zs.length ∧ flsE t.nx [] (t.fl.take i) = 0) (fun i => zs.length - i) 0 ⟨Nat.zero_le _, rfl⟩ ⟨rfl, rfl, trivial⟩ ?_
      rintro i ⟨hi, hok⟩
      by_cases hlt : i < zs.length
      · obtain ⟨f, hf⟩ := get_some (show i < t.fl.length by omega)
        obtain ⟨e1, he1⟩ : ∃ e1, flE t.nx (t.fl.take i) f = e1 := ⟨_, rfl⟩
        have hp := flE_pos t.nx (t.fl.take i) f
        rw [he1] at hp
        by_cases h0 : e1 = 0
        · subst h0
          refine zf ?_; refine zf ?_; refine zd (id := 6) ?_; refine za (zb rfl rfl rfl) rfl ?_; refine za (zk L rfl rfl rfl rfl) rfl ?_; refine za (StepOK.seeV (zl L (zn rfl) rfl rfl rfl rfl) (by assumption)) rfl ?_; refine za (y0 L rfl rfl rfl rfl) rfl ?_; refine za (zw rfl rfl rfl rfl (decide_eq_true (by omega))) rfl ?_; refine zg ?_; refine zh ?_; refine zx rfl ?_; refine zt ?_; refine zh ?_; refine zf ?_; refine zz ?_; refine zf ?_; refine zd (id := 8) ?_; refine za (zu L (vs := [_, _]) (zn rfl) rfl rfl rfl rfl ⟨_, rfl⟩) rfl ?_; refine za (zb rfl rfl rfl) rfl ?_; refine za (zq L rfl rfl (zi rfl) rfl rfl rfl (fun u H hH hle _ => rflight_ret hz (hs.le hle) hZ hI hf he1 hH)) rfl ?_; refine za (qm rfl rfl rfl rfl (decide_eq_false (by omega))) rfl ?_; refine zg ?_; refine zh ?_; refine zo rfl ?_; refine zt ?_; refine qo ?_; refine zh ?_; refine zd (id := 7) ?_; refine za (zb rfl rfl rfl) rfl ?_; refine za (q9 rfl rfl rfl rfl (wrap_i64 (by omega) (by omega))) rfl ?_; refine za (ze rfl rfl rfl) rfl ?_; refine zg ?_
          exact qp (x := i) (i + 1) ⟨hlt, chk_good hf hok he1⟩ (by omega) ⟨rfl, rfl, trivial⟩
        · rw [← he, chk_bad hnx hit hf hok he1 h0]
          refine zf ?_; refine zf ?_; refine zd (id := 6) ?_; refine za (zb rfl rfl rfl) rfl ?_; refine za (zk L rfl rfl rfl rfl) rfl ?_; refine za (StepOK.seeV (zl L (zn rfl) rfl rfl rfl rfl) (by assumption)) rfl ?_; refine za (y0 L rfl rfl rfl rfl) rfl ?_; refine za (zw rfl rfl rfl rfl (decide_eq_true (by omega))) rfl ?_; refine zg ?_; refine zh ?_; refine zx rfl ?_; refine zt ?_; refine zh ?_; refine zf ?_; refine zz ?_; refine zf ?_; refine zd (id := 8) ?_; refine za (zu L (vs := [_, _]) (zn rfl) rfl rfl rfl rfl ⟨_, rfl⟩) rfl ?_; refine za (zb rfl rfl rfl) rfl ?_; refine za (zq L rfl rfl (zi rfl) rfl rfl rfl (fun u H hH hle _ => rflight_ret hz (hs.le hle) hZ hI hf he1 hH)) rfl ?_; refine za (qm rfl rfl rfl rfl (decide_eq_true (by omega))) rfl ?_; refine zg ?_; refine zh ?_; refine zx rfl ?_; refine zf ?_; refine zd (id := 9) ?_; refine za (zu L (vs := [_, _]) (zn rfl) rfl rfl rfl rfl ⟨_, rfl⟩) rfl ?_; refine za (zb rfl rfl rfl) rfl ?_; refine za (zq L rfl rfl (zi rfl) rfl rfl rfl (fun u H hH hle _ => rflight_ret hz (hs.le hle) hZ hI hf he1 hH)) rfl ?_; refine za (ze rfl rfl rfl) rfl ?_; refine zg ?_; refine zh ?_
          refine qh L (rs := [.tmp 2]) rfl (fun _ _ h => h) Since.refl fun u H hH hle => ?_
          rfl
      · obtain rfl : i = zs.length := by omega
        rw [hlen, List.take_length] at hok
        have : e = 0 := by rw [← he]; unfold chkE; rw [if_neg (by omega), if_neg hit, hok]
        subst this
        refine zf ?_; refine zf ?_; refine zd (id := 6) ?_; refine za (zb rfl rfl rfl) rfl ?_; refine za (zk L rfl rfl rfl rfl) rfl ?_; refine za (StepOK.seeV (zl L (zn rfl) rfl rfl rfl rfl) (by assumption)) rfl ?_; refine za (y0 L rfl rfl rfl rfl) rfl ?_; refine za (zw rfl rfl rfl rfl (decide_eq_false (by omega))) rfl ?_; refine zg ?_; refine zh ?_; refine zo rfl ?_; refine y3 ?_; refine qe ?_; refine qe ?_; refine y2 ?_; refine zh ?_; refine zf ?_; refine zd (id := 10) ?_; refine za (ze rfl rfl rfl) rfl ?_; refine zg ?_; refine zh ?_
        refine qh L (rs := [.tmp 2]) rfl (fun _ _ h => h) Since.refl fun u H hH hle => ?_
        rfl
  · have : e = 4 := by rw [← he]; unfold chkE; rw [if_pos hnx]
    subst this
    by_cases h1 : t.nx < 0
    · refine zf ?_; refine zd (id := 0) ?_; refine za (qz rfl rfl rfl rfl) rfl ?_; refine za (ze rfl rfl rfl) rfl ?_; refine zg ?_; refine zh ?_; refine zf ?_; refine zf ?_; refine zd (id := 1) ?_; refine za (zk L rfl rfl rfl rfl) rfl ?_; refine za (zl L (zn rfl) rfl rfl rfl rfl) rfl ?_; refine za (zw rfl rfl rfl rfl (decide_eq_true (by omega))) rfl ?_; refine za (zb rfl rfl rfl) rfl ?_; refine za (zj rfl (zi rfl) rfl) rfl ?_; refine za (zj rfl (zi rfl) rfl) rfl ?_; refine za (zj rfl (zi rfl) rfl) rfl ?_; refine za (zm rfl rfl rfl rfl) rfl ?_; refine zg ?_; refine zh ?_; refine zx rfl ?_; refine zf ?_; refine zd (id := 2) ?_; refine za (ze rfl rfl rfl) rfl ?_; refine zg ?_; refine zh ?_
      refine qh L (rs := [.tmp 2]) rfl (fun _ _ h => h) Since.refl fun u H hH hle => ?_
      rfl
    · refine zf ?_; refine zd (id := 0) ?_; refine za (qz rfl rfl rfl rfl) rfl ?_; refine za (ze rfl rfl rfl) rfl ?_; refine zg ?_; refine zh ?_; refine zf ?_; refine zf ?_; refine zd (id := 1) ?_; refine za (zk L rfl rfl rfl rfl) rfl ?_; refine za (zl L (zn rfl) rfl rfl rfl rfl) rfl ?_; refine za (zw rfl rfl rfl rfl (decide_eq_false (by omega))) rfl ?_; refine za (zb rfl rfl rfl) rfl ?_; refine za (zk L rfl rfl rfl rfl) rfl ?_; refine za (zl L (zn rfl) rfl rfl rfl rfl) rfl ?_; refine za (qm rfl rfl rfl rfl (decide_eq_true (by omega))) rfl ?_; refine za (zm rfl rfl rfl rfl) rfl ?_; refine zg ?_; refine zh ?_; refine zx rfl ?_; refine zf ?_; refine zd (id := 2) ?_; refine za (ze rfl rfl rfl) rfl ?_; refine zg ?_; refine zh ?_
      refine qh L (rs := [.tmp 2]) rfl (fun _ _ h => h) Since.refl fun u H hH hle => ?_
      rfl
end Go.V.L39
namespace Go.V
open Go.Proofs Go.RowKit
def SlW (e : TypeId) (s n : Nat) (xs : List Value) : Value → Heap → Prop := fun v H => xs.length = n * s ∧ ((n = 0 ∧ v = .slice none 0 0) ∨ ∃ b cap rest, v = .slice (some ⟨b, 0, none⟩) n cap ∧ H b = some (.cells (xs ++ rest).toArray e) ∧ n ≤ cap ∧ cap ≤ maxLen ∧ (xs ++ rest).length = cap * s)
theorem SlW.mono {e : TypeId} {s n : Nat} {xs : List Value} : Kn.mono (.sat (SlW e s n xs)) := fun _ _ _ ⟨hl, h⟩ hle => ⟨hl, h.imp id fun ⟨b, cap, rest, h1, h2, h3⟩ => ⟨b, cap, rest, h1, hle _ _ h2, h3⟩⟩
def SlWN (B : Heap) (e : TypeId) (s n : Nat) (xs : List Value) : Value → Heap → Prop := fun v H => SlW e s n xs v H ∧ NewIn B v
theorem SlWN.mono {B : Heap} {e : TypeId} {s n : Nat} {xs : List Value} : Kn.mono (.sat (SlWN B e s n xs)) := fun _ _ _ h hle => ⟨SlW.mono _ _ _ h.1 hle, h.2⟩
theorem SlW.toV {e : TypeId} {s n : Nat} {xs : List Value} {v : Value} {H : Heap} (h : SlW e s n xs v H) : SlV e s xs n false v H := ⟨h.1, by
  rcases h.2 with ⟨h1, h2⟩ | ⟨b, cap, rest, h1, h2, h3, _, _⟩
  · exact .inl ⟨h1, _, h2⟩
  · exact .inr ⟨b, 0, cap, _, _, (0, 0), h1, h2, by show ((xs ++ rest).drop 0).take xs.length = _; rw [List.drop_zero, List.take_left], h3, fun h => by cases h⟩⟩
section
variable {P : Program} {F : Fr} {B : Heap} {O : Boxes} {n : Nat} {ops : Array Oper} {κ : Kap} {d : Nat} {ty : TypeId} {pos : String} {aft : Array Edge} {g : Option (Nat × Bool)} {os : List Oper} {Q : Exit → Act → World → Prop}
theorem Has.fact {t : Nat} {φ : Heap → Prop} {a : Act} {u : World} (hm : ∀ H H', φ H → H.Le H' → φ H') (hφ : φ B) (hh : Has F B O n κ a u) : Has F B O n (upd κ t (.sat fun _ H => φ H)) a u := by
  obtain ⟨H, fp, hh⟩ := hh
  exact ⟨H, fp, hh.setSat (fun _ _ _ h hle => hm _ _ h hle) (hm _ _ hφ hh.base)⟩
def Heap.off (B : Heap) (S : List (Nat × List Value × TypeId)) : Heap := fun k => if ∃ y ∈ S, y.1 = k then none else B k
end
theorem SlV.off {B : Heap} {S : List (Nat × List Value × TypeId)} {e : TypeId} {s n : Nat} {xs : List Value} {fu : Bool} {v : Value} (h : SlV e s xs n fu v B) (hS : ∀ y ∈ S, ∀ b o k m c, v = .slice (some ⟨b, o, k⟩) m c → y.1 ≠ b) : SlV e s xs n fu v (B.off S) := ⟨h.1, by
  rcases h.2 with h | ⟨b, off, cap, cs, ty0, fr, hv, hb, h3⟩
  · exact .inl h
  · refine .inr ⟨b, off, cap, cs, ty0, fr, hv, ?_, h3⟩
    unfold Heap.off
    rw [if_neg]
    · exact hb
    · rintro ⟨y, hy, rfl⟩
      exact hS y hy _ _ _ _ _ hv rfl⟩
end Go.V
namespace Go.V.L39
open Go.Proofs Go.RowKit Go.V
structure CpyI (B : Heap) (l : List Fl) (zs : List (Fl × Value)) (H : Heap) : Prop where
  fl : zs.map Prod.fst = l
  it : ∀ (i : Nat) z, zs[i]? = some z → SlW tyI 5 z.1.is.length (z.1.is.flatMap itc) z.2 H ∧ NewIn B z.2
  ap : ∀ (i j : Nat) z y, i < j → zs[i]? = some z → zs[j]? = some y → Apart z.2 y.2
theorem CpyI.mono {B : Heap} {l : List Fl} {zs : List (Fl × Value)} : ∀ H H', CpyI B l zs H → H.Le H' → CpyI B l zs H' := fun _ _ h hle => ⟨h.fl, fun i z hz => ⟨SlW.mono _ _ _ (h.it i z hz).1 hle, (h.it i z hz).2⟩, h.ap⟩
theorem CpyI.nil {B H : Heap} {l : List Fl} : CpyI B (l.take 0) [] H := ⟨rfl, fun i z hz => (by cases hz), fun i j z y _ hz => (by cases hz)⟩
structure CpyF (B : Heap) (l : List Fl) (zs : List (Fl × Value)) (s : Value) (H : Heap) : Prop extends CpyI B l zs H where
  fs : SlW tyF 14 zs.length (zs.flatMap flc) s H
  nf : NewIn B s
  af : ∀ (i : Nat) z, zs[i]? = some z → Apart z.2 s
theorem CpyF.mono {B : Heap} {l : List Fl} {zs : List (Fl × Value)} {s : Value} : ∀ H H', CpyF B l zs s H → H.Le H' → CpyF B l zs s H' := fun _ _ h hle => ⟨CpyI.mono _ _ h.toCpyI hle, SlW.mono _ _ _ h.fs hle, h.nf, h.af⟩
theorem CpyF.le {B B' : Heap} {l : List Fl} {zs : List (Fl × Value)} {s : Value} {H : Heap} (h : CpyF B' l zs s H) (hle : B.Le B') : CpyF B l zs s H := ⟨⟨h.fl, fun i z hz => ⟨(h.it i z hz).1, (h.it i z hz).2.le hle⟩, h.ap⟩, h.fs, h.nf.le hle, h.af⟩
def CopyP (B : Heap) (t : Tb) : Value → Heap → Prop := fun v H => ∃ zs s, v = tbv t.nx s ∧ CpyF B t.fl zs s H
theorem CopyP.mono {B : Heap} {t : Tb} : Kn.mono (.sat (CopyP B t)) := fun _ _ _ ⟨zs, s, h1, h2⟩ hle => ⟨zs, s, h1, CpyF.mono _ _ h2 hle⟩
attribute [local irreducible] V N X VO Par StepOK Has Ret RetL RetO RetT RetG Src
end Go.V.L39
namespace Go.V.L39
open Go.Proofs Go.RowKit Go.V
def TbR (t : Tb) (tv : Value) (H : Heap) : Prop := ∃ zs s, tv = tbv t.nx s ∧ zs.map Prod.fst = t.fl ∧ FsB zs false false s H
theorem TbR.mono {t : Tb} {tv : Value} {H H' : Heap} (h : TbR t tv H) (hle : H.Le H') : TbR t tv H' := let ⟨zs, s, h1, h2, h3⟩ := h; ⟨zs, s, h1, h2, h3.le hle⟩
def RTabP (t : Tb) (e : Int) : Value → Heap → Prop := fun v H => ∃ tv, v = .tuple #[tv, .int .i64 e] ∧ TbR t tv H
theorem RTabP.mono {t : Tb} {e : Int} : Kn.mono (.sat (RTabP t e)) := fun _ _ _ ⟨tv, h1, h2⟩ hle => ⟨tv, h1, h2.mono hle⟩
attribute [local irreducible] V N X VO Par StepOK Has Ret RetL RetO RetT RetG Src
end Go.V.L39
namespace Go.V
open Go.Proofs Go.RowKit
def RetX (P : Program) (f : FuncId) (args : List Value) (w : World) (B : Heap) (C : Nat → Prop) (r : GR) (v : Value) : Prop :=
  RetL P f args w B C fun x H u => x = v ∧ ∃ C', r.P H u C' ∧ ∀ k, C' k → (C k ∨ w.heap.size ≤ k) ∧ k < u.heap.size ∧ H k = none
section
variable {P : Program} {F : Fr} {B : Heap} {O : Boxes} {n : Nat} {ops : Array Oper} {κ : Kap} {d : Nat} {ty : TypeId} {pos : String} {aft : Array Edge} {g : Option (Nat × Bool)} {Q : Exit → Act → World → Prop}
theorem yc (L : Tabs P) (q : Nat) (r' : GR) (v : Value) {r : GR} {f : Nat} {args : Array Operand} {at_ : Array TypeId} {cap : List Value} {fo : Operand}
    (hn : Nat.blt d n = true) (hg : gK ops κ ⟨some d, .call { callee := .value fo, args := args, argTypes := at_ }, ty, pos, aft, g⟩ = some true)
    (hf : evK κ fo = some (.func (.func f) #[] cap.toArray)) (hfn : L.fn f = some ()) (hq : κ q = some (.own r.res))
    (h : ∀ u H C, H.Le (hp u) → B.Le H → r.P H u C → (∀ k, C k → k < u.heap.size ∧ H k = none) → Args κ H args.toList [] (fun vs => RetX P f (vs ++ cap) u H C r' v)) :
    StepOK2 P F B n ops O κ ⟨some d, .call { callee := .value fo, args := args, argTypes := at_ }, ty, pos, aft, g⟩ q (.own r'.res) d (.is v) := by
  rintro κ' a u hlk hks ⟨H, fp, hh⟩
  unfold After
  rw [if_pos (wanted_gK hh hlk hg)]
  have hk' : κ' q = some (.own r.res) := hks.trans hq
  obtain ⟨hown, hM⟩ := hh.slot q _ hk'
  have e2 := hh.env hlk
  have hfe : a.eval fo = .func (.func f) #[] cap.toArray := e2.is_ fo _ (by simp [Op.operands, Call.operands]) hf
  have hc := Args.use e2 args.toList [] (fun x hx => by simp [Op.operands, Call.operands] at hx ⊢; exact .inr hx) (h u H (fp q) hh.sub hh.base hown fun k hk => ⟨(hM k hk).1, (hM k hk).2.1⟩)
  simp only [List.reverse_nil, List.nil_append] at hc
  rw [run_call L rfl hfe hfn]
  simp only [Upon]
  refine Calls.mono hc fun e' u' hp => ?_
  obtain ⟨x, rfl, H', g', hx, C', hv, hC'⟩ := hp
  have h2 := hh.usePut (d := q) (a' := a) (r' := r'.res) hk' g' rfl rfl (fun _ _ => rfl) hv hC'
  rw [upd_upd] at h2
  exact ⟨x, rfl, H', _, h2.put (k := .is v) (zi hn) trivial hx⟩
theorem V_retX (L : Tabs P) {fn : Func} {B0 : Heap} (gs : Nat) {r r' : GR} {rs : List ResultVar} {v : Value} (hrs : fn.results = rs.toArray)
    (hQ : ∀ a u, bodyPostM Fence.wide 0 P fn (PostL F.w0 B0 F.L fun x H u => x = v ∧ ∃ C', r'.P H u C' ∧ ∀ k, C' k → (F.L k ∨ F.w0.heap.size ≤ k) ∧ k < u.heap.size ∧ H k = none) .ret a u → Q .ret a u) (hs : Since F B0 B) (hk : κ gs = some (.own r.res)) (e : r = r')
    (h : ∀ H, ResK L F B O κ H rs [] (fun vs => tup vs = v)) (hd : F.ds = [] := by rfl) : V P F B n O κ .ret Q := fun a u hh => by
  obtain ⟨H, fp, hH⟩ := hh
  refine wpIn_ret (hQ a u ?_)
  have h0 := hH.defers
  rw [hd] at h0
  show LeavesInM _ _ _ _ _ _ a.defers _ _
  rw [h0]
  subst e
  obtain ⟨vs, h1, h2⟩ := results_run L hH hrs (h H)
  obtain ⟨C', h3, h4⟩ := HasH.ghost hk hH
  exact ⟨_, h1, _, rfl, H, ⟨hH.keep, hH.sub, hs.le.trans hH.base, fun k hk hl => (hH.fresh k hk hl).trans (hs.fresh k hk hl)⟩, h2, C', h3, h4⟩
theorem ok_shl {t t' : TypeId} {x y : Operand} {k k2 : IntKind} {p q r : Int} (hn : Nat.blt d n = true) (hg : gK ops κ ⟨some d, .binOp .shl t x y t', ty, pos, aft, g⟩ = some true) (hx : evK κ x = some (.int k p)) (hy : evK κ y = some (.int k2 q)) (h0 : 0 ≤ q) (hb : k.wrap (p * 2 ^ min q.toNat k.bits) = r) :
    StepOK P F B n ops O κ ⟨some d, .binOp .shl t x y t', ty, pos, aft, g⟩ d (.is (.int k r)) := ok_bin hn hg hx hy fun u => by subst hb; simp [eqGuard_shl, binOp_shl, Op.shift, Int.not_lt.2 h0]
theorem ok_xor {t t' : TypeId} {x y : Operand} {k : IntKind} {p q r : Int} (hn : Nat.blt d n = true) (hg : gK ops κ ⟨some d, .binOp .xor t x y t', ty, pos, aft, g⟩ = some true) (hx : evK κ x = some (.int k p)) (hy : evK κ y = some (.int k q)) (hb : bits .xor k p q = r) :
    StepOK P F B n ops O κ ⟨some d, .binOp .xor t x y t', ty, pos, aft, g⟩ d (.is (.int k r)) := ok_bin hn hg hx hy fun u => by subst hb; simp [eqGuard_xor, binOp_xor, intBits_xor]
theorem V_midB {id : Nat} {x y : Code} {R : Exit → Act → World → Prop} (hm : MidOK P F B n R y Q) (h : V P F B n O κ x (Exit.inBlock id R)) : V P F B n O κ x (Exit.inBlock id (Exit.then (fun a u => y.wpIn (FW F.r) 0 P Q a u) Q)) := fun a u hh => by
  have key : ∀ e a u, R e a u → Exit.then (fun a u => y.wpIn (FW F.r) 0 P Q a u) Q e a u := fun e a u he => by
    cases e <;> first | exact hm.1 a u he | exact hm.2 _ a u (by intro h; cases h) he
  refine Go.wpIn_mono (h a u hh) fun e a u he => ?_
  cases e with
  | exit j =>
    simp only [Exit.inBlock] at he ⊢
    split at he
    · rename_i h; rw [if_pos h]; exact key _ _ _ he
    · rename_i h; rw [if_neg h]; exact key _ _ _ he
  | _ => exact key _ _ _ he
end
def uC (d : Array Int) : List Value := d.toList.map (Value.int .u64)
theorem uC_len (d : Array Int) : (uC d).length = d.size := by simp [uC]
theorem uC_get {d : Array Int} {j : Nat} (h : j < d.size) : (uC d)[j]? = some (.int .u64 d[j]!) := by
  unfold uC
  rw [List.getElem?_map, Array.getElem?_toList, Array.getElem?_eq_getElem h, getElem!_pos d j h]
  rfl
theorem u_at {d : Array Int} {rest : List Value} {j : Nat} (h : j < d.size) (off : Nat) (ho : off = 0 + j * 1) : ∃ r, (uC d ++ rest).drop off = .int .u64 d[j]! :: r := by
  subst ho
  rw [Nat.zero_add, Nat.mul_one]
  have hl : j < (uC d ++ rest).length := by rw [List.length_append, uC_len]; omega
  refine ⟨(uC d ++ rest).drop (j + 1), ?_⟩
  rw [List.drop_eq_getElem_cons hl]
  congr 1
  have := uC_get h
  rw [← List.getElem?_append_left (l₂ := rest) (by rw [uC_len]; exact h), List.getElem?_eq_getElem hl] at this
  exact Option.some.inj this
theorem u_set {d : Array Int} {rest : List Value} {j : Nat} (z : Int) (h : j < d.size) (off : Nat) (ho : off = 0 + j * 1) : (uC d ++ rest).take off ++ ([.int .u64 z] ++ (uC d ++ rest).drop (off + 1)) = uC (d.setIfInBounds j z) ++ rest := by
  subst ho
  rw [Nat.zero_add, Nat.mul_one]
  have h1 : uC (d.setIfInBounds j z) = (uC d).set j (.int .u64 z) := by
    unfold uC
    rw [Array.toList_setIfInBounds, List.map_set]
  rw [h1, List.take_append_of_le_length (by rw [uC_len]; omega), List.drop_append_of_le_length (by rw [uC_len]; omega), List.set_eq_take_append_cons_drop, if_pos (by rw [uC_len]; exact h)]
  simp
theorem u_ble {d : Array Int} {rest : List Value} {j : Nat} (h : j < d.size) (off : Nat) (ho : off = 0 + j * 1) : Nat.ble (off + 1) (uC d ++ rest).length = true := Nat.ble_eq_true_of_le (by rw [List.length_append, uC_len]; omega)
theorem swp_eq (d : Array Int) (i j : Nat) : (d.setIfInBounds i d[j]!).setIfInBounds j d[i]! = Go.Sort.swp d i j := rfl
theorem swp_size (d : Array Int) (i j : Nat) : (Go.Sort.swp d i j).size = d.size := by unfold Go.Sort.swp; rw [Array.size_setIfInBounds, Array.size_setIfInBounds]
end Go.V
namespace Go.V.L39
open Go.Proofs Go.RowKit Go.V
abbrev zF : Value := .agg #[.int .i64 0, .int .u64 0, .int .u8 0, .string ⟨#[]⟩, .string ⟨#[]⟩, .string ⟨#[]⟩, .string ⟨#[]⟩, .string ⟨#[]⟩, .int .i64 0, .int .i64 0, .int .i64 0, .int .i64 0, .int .i64 0, .slice none 0 0]
def zfL (m : Nat) : List Value := (Builtin.zeroCells (Value.cells zF) m).toList
def kept (id : Int) (z : Fl × Value) : Bool := decide (z.1.id ≠ id)
theorem flat_take {α : Type} {f : α → List Value} {s : Nat} (hf : ∀ a, (f a).length = s) (l : List α) (i : Nat) (hi : i ≤ l.length) : (l.flatMap f).take (i * s) = (l.take i).flatMap f := by
  conv => lhs; rw [← List.take_append_drop i l, List.flatMap_append]
  rw [List.take_append_of_le_length (by rw [flatMap_len hf, List.length_take, Nat.min_eq_left hi]; exact Nat.le_refl _), List.take_of_length_le (by rw [flatMap_len hf, List.length_take, Nat.min_eq_left hi]; exact Nat.le_refl _)]
theorem fsb_held {zs : List (Fl × Value)} {b n : Nat} {H : Heap} (hn : n = zs.length) (hl : zs.length ≤ 100000) (hb : H b = some (.cells (zs.flatMap flc).toArray tyF)) (hi : ∀ (i : Nat) z, zs[i]? = some z → IsV z.1.is true z.2 H) (hli : ∀ (i : Nat) z, zs[i]? = some z → z.1.is.length ≤ 4611686018427387904) : FsB zs true true (.slice (some ⟨b, 0, none⟩) n n) H := by
  subst hn
  exact ⟨⟨flatMap_len flc_len zs, .inr ⟨b, 0, zs.length, _, _, (0, 0), rfl, hb, by show ((zs.flatMap flc).drop 0).take (zs.flatMap flc).length = _; rw [List.drop_zero, List.take_length], Nat.le_refl _, fun _ => rfl⟩⟩, hi, hl, hli⟩
theorem lend_zs {b : Nat} {cs : List Value} {ty : TypeId} : ∀ v H u C, (HeldR b cs ty).P v H u C → joinH H u C b = some (.cells cs.toArray ty) := fun _ _ _ _ ⟨hb, hC⟩ => (joinH_in ((hC b).2 rfl)).trans hb
theorem take_kept {zs : List (Fl × Value)} {id : Int} {j : Nat} {z : Fl × Value} (hz : zs[j]? = some z) : (zs.take (j + 1)).filter (kept id) = (zs.take j).filter (kept id) ++ if kept id z = true then [z] else [] := by
  rw [take_snoc hz, List.filter_append, List.filter_cons, List.filter_nil]
attribute [local irreducible] V N X VO Par StepOK Has Ret RetL RetO RetT RetG RetX Src
theorem l1_ret {f : Fl} {sv : Value} {id : Int} {b3 : Nat} (hsv : (cellsL sv).length = 1 ∧ (cellsL sv).all plainV = true) {r : Bool} (hr : decide (f.id = id) = r) {w : World} {B : Heap} (h3 : B b3 = some (.cells #[.int .i64 id] 3)) (hB : B.Le (hp w)) :
    Ret Try.prog 54 ([flv f sv] ++ [.pointer (some ⟨b3, 0, none⟩)]) w B (fun v _ => v = .bool r) := by
  refine y6 Try.func54 rfl Try.ntmps54 (Nat.le_of_ble_eq_true rfl) hB ?_
  by_cases h : f.id = id
  · rw [decide_eq_true h] at hr
    subst hr
    refine zf ?_; refine zd (id := 0) ?_; refine za (qz rfl rfl rfl rfl) rfl ?_; refine za (ze rfl rfl rfl) rfl ?_; refine zg ?_; refine zh ?_; refine zf ?_; refine zd (id := 1) ?_; refine za (zk L rfl rfl rfl rfl) rfl ?_; refine za (zl L (zn rfl) rfl rfl rfl rfl) rfl ?_; refine za (zl L (src_base rfl (by assumption)) rfl rfl rfl rfl) rfl ?_; refine za (qf rfl rfl rfl rfl (decide_eq_true (by omega))) rfl ?_; refine za (ze rfl rfl rfl) rfl ?_; refine zg ?_; refine zh ?_
    refine qh L (rs := [.tmp 3]) rfl (fun _ _ h => h) Since.refl fun u H hH hle => ?_
    rfl
  · rw [decide_eq_false h] at hr
    subst hr
    refine zf ?_; refine zd (id := 0) ?_; refine za (qz rfl rfl rfl rfl) rfl ?_; refine za (ze rfl rfl rfl) rfl ?_; refine zg ?_; refine zh ?_; refine zf ?_; refine zd (id := 1) ?_; refine za (zk L rfl rfl rfl rfl) rfl ?_; refine za (zl L (zn rfl) rfl rfl rfl rfl) rfl ?_; refine za (zl L (src_base rfl (by assumption)) rfl rfl rfl rfl) rfl ?_; refine za (qf rfl rfl rfl rfl (decide_eq_false (by omega))) rfl ?_; refine za (ze rfl rfl rfl) rfl ?_; refine zg ?_; refine zh ?_
    refine qh L (rs := [.tmp 3]) rfl (fun _ _ h => h) Since.refl fun u H hH hle => ?_
    rfl
abbrev fvL (b3 : Nat) : Value := .func (.func 54) #[] #[.pointer (some ⟨b3, 0, none⟩)]
set_option maxHeartbeats 4000000 in
set_option maxRecDepth 20000 in
theorem del_ret {zs : List (Fl × Value)} {l : List Fl} (hz : zs.map Prod.fst = l) {id : Int} {n b b3 k : Nat} (hn : n = zs.length) (hn5 : n ≤ 50000) (hk : posF l id = some k) {w : World} {B : Heap} {C : Nat → Prop} (h3 : B b3 = some (.cells #[.int .i64 id] 3))
    (hi : ∀ (i : Nat) z, zs[i]? = some z → IsV z.1.is true z.2 B) (hli : ∀ (i : Nat) z, zs[i]? = some z → z.1.is.length ≤ 4611686018427387904) (hB : B.Le (hp w)) (hr : (GHeld b (zs.flatMap flc) tyF).P B w C) (hC : ∀ k, C k → k < w.heap.size ∧ B k = none) :
    RetX Try.prog 53 [.slice (some ⟨b, 0, none⟩) n n, fvL b3] w B C (GHeld b ((zs.filter (kept id)).flatMap flc ++ zfL (n - (zs.filter (kept id)).length)) tyF) (.slice (some ⟨b, 0, none⟩) (zs.filter (kept id)).length n) := by
  unfold RetX
  refine V_enterG 900 (GHeld b (zs.flatMap flc) tyF) Try.func53 rfl Try.ntmps53 (Nat.le_of_ble_eq_true rfl) hB hr hC ?_
  rw [gheld_res]
  obtain ⟨f0, hf0, hid0, hbef⟩ := idx_lt hk
  have hkn : k < n := by have := get_lt hf0; rw [← hz, List.length_map] at this; omega
  obtain ⟨sv0, hz0⟩ := fls_at hz hf0
  have hlz := flatMap_len flc_len zs
  have hw0 : IntKind.i64.wrap ((k : Int) + 1) = ((k + 1 : Nat) : Int) := wrap_i64 (by omega) (by omega)
  have hk0 : (zs.take (k + 1)).filter (kept id) = zs.take k := by
    have hkk : kept id (f0, sv0) = false := by unfold kept; simpa using hid0
    rw [take_kept hz0, hkk, List.filter_eq_self.2 fun z hzm => ?_]
    · simp
    · obtain ⟨j, hj, hjz⟩ := List.getElem_of_mem hzm
      rw [List.length_take] at hj
      have h1 : (zs.take k)[j]? = some z := by rw [List.getElem?_eq_getElem (by rw [List.length_take]; exact hj), hjz]
      rw [List.getElem?_take_of_lt (by omega)] at h1
      have := hbef j z.1 (by omega) (fls_get hz h1)
      unfold kept; simpa using this
  refine zf ?_; refine zd (id := 0) ?_; refine za (ze rfl rfl rfl) rfl ?_; refine zg ?_; refine zh ?_; refine zf ?_; refine zd (id := 1) ?_; refine za (zb rfl rfl rfl) rfl ?_; refine za (zb rfl rfl rfl) rfl ?_; refine vo_stepR (ok_callLendG L 900 (Φ := fun H => H b = some (.cells (zs.flatMap flc).toArray tyF)) (c := .int .i64 k) rfl rfl (zi rfl) rfl rfl rfl rfl rfl lend_zs (fun u H hH hle hb => (show idxZ (l.findIdx? fun f => decide (f.id = id)) = (k : Int) from congrArg idxZ hk) ▸ idxF_ret (caps := [.pointer (some ⟨b3, 0, none⟩)]) (pr := fun f => decide (f.id = id)) hz (fsb_held hn (by omega) hb (fun i z hzi => (hi i z hzi).le hle) hli) rfl hH (fun f p c u' H' hH' hle' => l1_ret ⟨rfl, rfl⟩ rfl (hle' _ _ (hle _ _ h3)) hH'))) ?_; refine za (ze rfl rfl rfl) rfl ?_; refine zg ?_; refine zh ?_; refine zf ?_; refine zf ?_; refine zd (id := 2) ?_; refine za (zb rfl rfl rfl) rfl ?_; refine za (qf rfl rfl rfl rfl (decide_eq_false (by omega))) rfl ?_; refine zg ?_; refine zh ?_; refine zo rfl ?_; refine zt ?_; refine zh ?_; refine zf ?_; refine zf ?_; refine zd (id := 4) ?_; refine za (zb rfl rfl rfl) rfl ?_; refine za (q9 rfl rfl rfl rfl (by assumption)) rfl ?_; refine za (ze rfl rfl rfl) rfl ?_; refine zg ?_; refine zh ?_; refine zz ?_
  refine yd (fun T : (Nat × Nat) × List (Fl × Value) => [(0, .is (.slice (some ⟨b, 0, none⟩) n n)), (1, .is (fvL b3)), (5, .is (.int .i64 T.1.1)), (6, .is (.int .i64 T.1.2)), (900, .own (HeldR b (T.2.flatMap flc) tyF))])
    (fun T => T.1.2 ≤ n ∧ T.2.length = n ∧ T.1.1 ≤ T.1.2 ∧ T.2.take T.1.1 = (zs.take T.1.2).filter (kept id) ∧ T.1.1 = ((zs.take T.1.2).filter (kept id)).length ∧ T.2.drop T.1.2 = zs.drop T.1.2) (fun T => n - T.1.2) ((k, k + 1), zs) ⟨by dsimp only; omega, hn.symm, by dsimp only; omega, hk0.symm, by dsimp only; rw [hk0, List.length_take]; omega, rfl⟩ ⟨rfl, rfl, rfl, rfl, rfl, trivial⟩ ?_
  rintro ⟨⟨i, j⟩, ys⟩ ⟨q1, q2, q3, q4, q5, q6⟩
  dsimp only at q1 q2 q3 q4 q5 q6 ⊢
  have hly := flatMap_len flc_len ys
  by_cases hlt : j < n
  · obtain ⟨⟨f, sv⟩, hzj⟩ := get_some (show j < zs.length by omega)
    have hyj : ys[j]? = some (f, sv) := by
      have := congrArg (·[0]?) q6
      simp only [List.getElem?_drop, Nat.add_zero] at this
      rw [this, hzj]
    have hsv := hi j _ hzj
    dsimp only at hsv
    obtain ⟨p, c, hsve⟩ := slv_sh hsv
    subst hsve
    have hwj : IntKind.i64.wrap ((j : Int) + 1) = ((j + 1 : Nat) : Int) := wrap_i64 (by omega) (by omega)
    have hwi : IntKind.i64.wrap ((i : Int) + 1) = ((i + 1 : Nat) : Int) := wrap_i64 (by omega) (by omega)
    have htk := take_kept (id := id) hzj
    have hdr : ys.drop (j + 1) = zs.drop (j + 1) := by rw [← List.drop_drop, ← List.drop_drop, q6]
    obtain ⟨r, hq⟩ : ∃ r, (ys.flatMap flc).drop (0 + j * 14) = [.int .i64 f.id, .int .u64 f.rv, .int .u8 f.q.kd, .string f.q.g.1.1, .string f.q.g.1.2, .string f.q.g.2, .string f.q.u.1, .string f.q.u.2, .int .i64 f.cl, .int .i64 f.cs, .int .i64 f.si, .int .i64 f.ve, .int .i64 f.sp, .slice p f.is.length c] ++ r := ⟨_, (by rw [Nat.zero_add, ← fl_at hyj, List.take_append_drop])⟩
    cases hd : decide (f.id = id) with
    | true =>
      have hkf : kept id (f, .slice p f.is.length c) = false := by unfold kept; simpa using hd
      rw [hkf] at htk
      simp only [Bool.false_eq_true, if_false, List.append_nil] at htk
      refine zf ?_; refine zf ?_; refine zd (id := 5) ?_; refine za (zb rfl rfl rfl) rfl ?_; refine za (zb rfl rfl rfl) rfl ?_; refine za (ok_lenL L rfl rfl rfl rfl) rfl ?_; refine za (zw rfl rfl rfl rfl (decide_eq_true (by omega))) rfl ?_; refine zg ?_; refine zh ?_; refine zx rfl ?_; refine zt ?_; refine zh ?_; refine zf ?_; refine zz ?_; refine zf ?_; refine zd (id := 7) ?_; refine za (zb rfl rfl rfl) rfl ?_; refine za (zb rfl rfl rfl) rfl ?_; refine za (zp L _ rfl rfl rfl rfl rfl rfl rfl (by omega)) rfl ?_; refine vo_stepR (ok_loadHA L (q := 900) (vs := [_, _, _, _, _, _, _, _, _, _, _, _, _, _]) rfl rfl rfl rfl rfl rfl ⟨r, hq⟩) ?_; refine za (qt L rfl rfl rfl rfl) rfl ?_; refine za (qq L rfl rfl rfl rfl rfl rfl rfl rfl) rfl ?_; refine zg ?_; refine zh ?_; refine zf ?_; refine zd (id := 8) ?_; refine za (zb rfl rfl rfl) rfl ?_; refine za (zu L (vs := [_, _, _, _, _, _, _, _, _, _, _, _, _, _]) (qw rfl) rfl rfl rfl rfl ⟨_, rfl⟩) rfl ?_; refine za (zq L rfl rfl (zi rfl) rfl rfl rfl (fun u H hH hle _ => l1_ret ⟨rfl, rfl⟩ hd (hle _ _ h3) hH)) rfl ?_; refine za (ok_not rfl rfl rfl rfl) rfl ?_; refine zg ?_; refine zh ?_; refine zo rfl ?_; refine zt ?_; refine qo ?_; refine zh ?_; refine zd (id := 6) ?_; refine za (zb rfl rfl rfl) rfl ?_; refine za (q9 rfl rfl rfl rfl (by assumption)) rfl ?_; refine za (ze rfl rfl rfl) rfl ?_; refine zg ?_
      exact qp (x := ((i, j), ys)) ((i, j + 1), ys) ⟨hlt, q2, by dsimp only; omega, by dsimp only; rw [htk]; exact q4, by dsimp only; rw [htk]; exact q5, hdr⟩ (by dsimp only; omega) ⟨rfl, rfl, rfl, rfl, rfl, trivial⟩
    | false =>
      have hkf : kept id (f, .slice p f.is.length c) = true := by unfold kept; simpa using hd
      rw [hkf] at htk
      simp only [if_true] at htk
      have hin : i < ys.length := by omega
      have hset := (flat_set flc_len ys i (f, .slice p f.is.length c) hin).symm
      have hset2 : (ys.flatMap flc).take (0 + i * 14) ++ ([.int .i64 f.id, .int .u64 f.rv, .int .u8 f.q.kd, .string f.q.g.1.1, .string f.q.g.1.2, .string f.q.g.2, .string f.q.u.1, .string f.q.u.2, .int .i64 f.cl, .int .i64 f.cs, .int .i64 f.si, .int .i64 f.ve, .int .i64 f.sp, .slice p f.is.length c] ++ (ys.flatMap flc).drop (0 + i * 14 + 14)) = (ys.set i (f, .slice p f.is.length c)).flatMap flc := by rw [Nat.zero_add]; exact hset
      have hble : Nat.ble (0 + i * 14 + 14) (ys.flatMap flc).length = true := Nat.ble_eq_true_of_le (by omega)
      refine zf ?_; refine zf ?_; refine zd (id := 5) ?_; refine za (zb rfl rfl rfl) rfl ?_; refine za (zb rfl rfl rfl) rfl ?_; refine za (ok_lenL L rfl rfl rfl rfl) rfl ?_; refine za (zw rfl rfl rfl rfl (decide_eq_true (by omega))) rfl ?_; refine zg ?_; refine zh ?_; refine zx rfl ?_; refine zt ?_; refine zh ?_; refine zf ?_; refine zz ?_; refine zf ?_; refine zd (id := 7) ?_; refine za (zb rfl rfl rfl) rfl ?_; refine za (zb rfl rfl rfl) rfl ?_; refine za (zp L _ rfl rfl rfl rfl rfl rfl rfl (by omega)) rfl ?_; refine vo_stepR (ok_loadHA L (q := 900) (vs := [_, _, _, _, _, _, _, _, _, _, _, _, _, _]) rfl rfl rfl rfl rfl rfl ⟨r, hq⟩) ?_; refine za (qt L rfl rfl rfl rfl) rfl ?_; refine za (qq L rfl rfl rfl rfl rfl rfl rfl rfl) rfl ?_; refine zg ?_; refine zh ?_; refine zf ?_; refine zd (id := 8) ?_; refine za (zb rfl rfl rfl) rfl ?_; refine za (zu L (vs := [_, _, _, _, _, _, _, _, _, _, _, _, _, _]) (qw rfl) rfl rfl rfl rfl ⟨_, rfl⟩) rfl ?_; refine za (zq L rfl rfl (zi rfl) rfl rfl rfl (fun u H hH hle _ => l1_ret ⟨rfl, rfl⟩ hd (hle _ _ h3) hH)) rfl ?_; refine za (ok_not rfl rfl rfl rfl) rfl ?_; refine zg ?_; refine zh ?_; refine zx rfl ?_; refine zf ?_; refine zd (id := 9) ?_; refine za (zb rfl rfl rfl) rfl ?_; refine za (zb rfl rfl rfl) rfl ?_; refine za (zu L (vs := [_, _, _, _, _, _, _, _, _, _, _, _, _, _]) (qw rfl) rfl rfl rfl rfl ⟨_, rfl⟩) rfl ?_; refine za (zp L _ rfl rfl rfl rfl rfl rfl rfl (by omega)) rfl ?_; refine vo_stepS (qy L (q := 900) rfl rfl rfl rfl rfl rfl hble rfl hset2) ?_; refine zg ?_; refine zh ?_; refine zd (id := 10) ?_; refine za (zb rfl rfl rfl) rfl ?_; refine za (q9 rfl rfl rfl rfl (by assumption)) rfl ?_; refine za (ze rfl rfl rfl) rfl ?_; refine zg ?_; refine qo ?_; refine zh ?_; refine zd (id := 6) ?_; refine za (zb rfl rfl rfl) rfl ?_; refine za (q9 rfl rfl rfl rfl (by assumption)) rfl ?_; refine za (ze rfl rfl rfl) rfl ?_; refine zg ?_
      exact qp (x := ((i, j), ys)) ((i + 1, j + 1), ys.set i (f, .slice p f.is.length c)) ⟨hlt, by rw [List.length_set]; exact q2, by dsimp only; omega, by
        dsimp only
        rw [htk, ← q4, List.take_add_one, List.getElem?_set_self hin, List.take_set_of_le (Nat.le_refl _)]; rfl, by dsimp only; rw [htk, List.length_append, ← q5]; rfl, by
        dsimp only
        rw [List.drop_set_of_lt (by omega)]; exact hdr⟩ (by dsimp only; omega) ⟨rfl, rfl, rfl, rfl, rfl, trivial⟩
  · obtain rfl : j = n := by omega
    have hfull : zs.take j = zs := List.take_of_length_le (by omega)
    rw [hfull] at q4 q5
    rw [← q5]
    have hne : ¬ j = i := fun e => by
      have h1 : (zs.filter (kept id)).length = zs.length := by omega
      have h2 := List.length_filter_eq_length_iff.1 h1 _ (List.mem_of_getElem? hz0)
      unfold kept at h2
      simp only [decide_eq_true_eq] at h2 hid0
      exact h2 hid0
    have hne0 : ¬ j = 0 := by omega
    have hcl : (ys.flatMap flc).take (0 + i * 14) ++ (zfL (j - i) ++ (ys.flatMap flc).drop (0 + i * 14 + (j - i) * 14)) = (zs.filter (kept id)).flatMap flc ++ zfL (j - i) := by
      rw [Nat.zero_add, flat_take flc_len ys i (by omega), q4, List.drop_eq_nil_of_le (by omega), List.append_nil]
    have hbd : 0 + i * 14 + (j - i) * 14 ≤ (ys.flatMap flc).length := by omega
    refine zf ?_; refine zf ?_; refine zd (id := 5) ?_; refine za (zb rfl rfl rfl) rfl ?_; refine za (zb rfl rfl rfl) rfl ?_; refine za (ok_lenL L rfl rfl rfl rfl) rfl ?_; refine za (zw rfl rfl rfl rfl (decide_eq_false (by omega))) rfl ?_; refine zg ?_; refine zh ?_; refine zo rfl ?_; refine y3 ?_; refine qe ?_; refine qe ?_; refine y2 ?_; refine zh ?_; refine zf ?_; refine zd (id := 11) ?_; refine za (zb rfl rfl rfl) rfl ?_; refine za (zb rfl rfl rfl) rfl ?_; refine za (ok_sliceI L (kh := .i64) (ph := 0) _ _ rfl rfl rfl rfl rfl ⟨rfl, rfl⟩ rfl (by omega) (by omega)) rfl ?_; rw [if_neg hne]; refine vo_stepS (ok_clearH L (q := 900) rfl rfl rfl rfl el49 rfl rfl (.inr hbd) (fun _ => hcl) (fun h => by omega)) ?_; refine zg ?_; refine zh ?_; refine zf ?_; refine zd (id := 12) ?_; refine za (zb rfl rfl rfl) rfl ?_; refine za (zb rfl rfl rfl) rfl ?_; refine za (ok_sliceI L (kl := .i64) (pl := 0) 0 _ rfl rfl rfl rfl rfl rfl ⟨rfl, rfl⟩ (by omega) (by omega)) rfl ?_; refine za (ze rfl rfl rfl) rfl ?_; refine zg ?_; refine zh ?_
    rw [if_neg hne0]
    exact V_retX L 900 (r := GHeld b _ tyF) (rs := [.tmp 4]) rfl (fun _ _ h => h) Since.refl rfl rfl (fun _ => rfl)
end Go.V.L39
namespace Go.V.L39
open Go.Proofs Go.RowKit Go.V
def LandP (B : Heap) (t : Tb) (f : Fl) (e : Int) : Value → Heap → Prop := fun v H => ∃ tv sv, v = .tuple #[tv, flv f sv, .int .i64 e] ∧ TbN B t tv H ∧ SlN B tyI 5 (f.is.flatMap itc) f.is.length true sv H
theorem LandP.mono {B : Heap} {t : Tb} {f : Fl} {e : Int} : Kn.mono (.sat (LandP B t f e)) := fun _ _ _ ⟨tv, sv, h1, h2, h3⟩ hle => ⟨tv, sv, h1, tbn_mono h2 hle, SlN.mono _ _ _ h3 hle⟩
theorem map_kept {zs : List (Fl × Value)} {l : List Fl} (h : zs.map Prod.fst = l) (id : Int) : (zs.filter (kept id)).map Prod.fst = l.filter fun f => decide (f.id ≠ id) := by
  subst h
  rw [List.filter_map]
  rfl
theorem filter_get {zs : List (Fl × Value)} {p : Fl × Value → Bool} {i : Nat} {z : Fl × Value} (h : (zs.filter p)[i]? = some z) : ∃ j : Nat, zs[j]? = some z :=
  List.getElem?_of_mem (List.mem_filter.1 (List.mem_of_getElem? h)).1
theorem ownF1_ret {zs : List (Fl × Value)} {fu fi : Bool} {s v : Value} {w : World} {B : Heap} (hs : FsB zs fu fi s B) (hl : zs.length ≤ 50000) (hB : B.Le (hp w)) (hv : SlB [s] 22 1 v B) :
    RetO Try.prog 52 [v] w B (SlE tyF 14 zs.length (zs.flatMap flc)) := by
  have e1 : nXs [(zs.flatMap flc, zs.length)] = zs.length := by simp [nXs]
  have e2 : cXs [(zs.flatMap flc, zs.length)] = zs.flatMap flc := by simp [cXs]
  have h := ownF_ret (lsts1 hs.sl hs.plain) (by simp) (by rw [e1]; exact hl) hB hv
  rw [e1, e2] at h
  exact h
theorem ownF0_ret {zs : List (Fl × Value)} (h0 : zs.length = 0) {fu fi : Bool} {s v : Value} {w : World} {B : Heap} (hs : FsB zs fu fi s B) (hB : B.Le (hp w)) (hv : SlB [s] 22 1 v B) :
    Ret Try.prog 52 [v] w B (fun x _ => x = .slice none 0 0) :=
  own0F_ret (lsts1 hs.sl hs.plain) (by simp) (by show zs.length + 0 = 0; omega) hB hv
theorem fsb_cut {zs : List (Fl × Value)} {rest : List Value} {b m n : Nat} {H : Heap} (hm : m = zs.length) (hmn : m ≤ n) (hl : zs.length ≤ 100000) (hb : H b = some (.cells (zs.flatMap flc ++ rest).toArray tyF)) (hi : ∀ (i : Nat) z, zs[i]? = some z → IsV z.1.is true z.2 H) (hli : ∀ (i : Nat) z, zs[i]? = some z → z.1.is.length ≤ 4611686018427387904) : FsB zs false true (.slice (some ⟨b, 0, none⟩) m n) H := by
  subst hm
  exact ⟨⟨flatMap_len flc_len zs, .inr ⟨b, 0, n, _, _, (0, 0), rfl, hb, by show ((zs.flatMap flc ++ rest).drop 0).take (zs.flatMap flc).length = _; rw [List.drop_zero, List.take_left], hmn, fun h => by cases h⟩⟩, hi, hl, hli⟩
theorem ldT0 {t : Tb} {id : Int} (h : plE t id ≠ 0) : ldT t id = T0 := if_pos h
theorem ldT1 {t : Tb} {id : Int} (h : plE t id = 0) : ldT t id = ⟨t.nx, t.fl.filter fun f => decide (f.id ≠ id)⟩ := if_neg (by simp [h])
attribute [local irreducible] V N X VO Par StepOK Has Ret RetL RetO RetT RetG RetX Src
set_option maxHeartbeats 4000000 in
set_option maxRecDepth 20000 in
theorem land_ret {t : Tb} {zs : List (Fl × Value)} (hz : zs.map Prod.fst = t.fl) {fu fi : Bool} {s : Value} {id : Int} {w : World} {B0 : Heap} (hs0 : FsB zs fu fi s B0) (hZ : ∀ f ∈ t.fl, QuZ f.q) (hn : itsN t.fl ≤ 4611686018427387904) (hln : zs.length ≤ 40000) (hB : B0.Le (hp w)) :
    Ret Try.prog 19 [tbv t.nx s, .int .i64 id] w B0 (LandP B0 (ldT t id) (findF t id) (plE t id)) := by
  have hlen := fls_len hz
  refine y6 Try.func19 rfl Try.ntmps19 (Nat.le_of_ble_eq_true rfl) hB ?_
  refine zf ?_; refine zd (id := 0) ?_; refine za (qz rfl rfl rfl rfl) rfl ?_; refine za (qz rfl rfl rfl rfl) rfl ?_; refine za (qt L rfl rfl rfl rfl) rfl ?_; refine za (qt L rfl rfl rfl rfl) rfl ?_; refine za (ze rfl rfl rfl) rfl ?_; refine zg ?_; refine zh ?_; refine zf ?_
  refine V_opn 3 rfl fun v3 B s1 ⟨b3, e3, hb3⟩ => ?_
  subst e3
  have hs := hs0.le s1.le
  by_cases h0 : plE t id = 0
  · obtain ⟨hc, k, f, hp, hf, hid⟩ := plE_zero h0
    have h1024 := chk_its hc
    have hk : k < zs.length := by have := get_lt hf; omega
    have hit5 : ∀ g ∈ t.fl, g.is.length ≤ 50000 := fun g hg => by have := is_le hg; omega
    rw [ldT1 h0]
    refine zd (id := 1) ?_; refine za (zu L (vs := [_, _]) (zn rfl) rfl rfl rfl rfl ⟨_, rfl⟩) rfl ?_; refine za (zl L (src_base rfl (by assumption)) rfl rfl rfl rfl) rfl ?_; refine za (ok_call (φ := FindP B (findF t id) (plE t id)) L rfl rfl (zi rfl) rfl rfl rfl FindP.mono (fun u H hH hle _ => Ret.mono (find_ret hz (hs.le hle) hZ hn hH) fun v H' _ ⟨sv, h1, h2⟩ => ⟨sv, h1, SlN.le h2 hle⟩)) rfl ?_; refine vo_opn 13 rfl fun fv H2 s2 hfv => ?_; obtain ⟨sv, hfe, hsv⟩ := hfv; obtain ⟨p1, c1, he⟩ := slv_sh hsv.1; subst he; subst hfe; rw [h0]; refine za (zb rfl rfl rfl) rfl ?_; refine za (qv rfl rfl rfl rfl) rfl ?_; refine za (qv rfl rfl rfl rfl) rfl ?_; refine za (qt L rfl rfl rfl rfl) rfl ?_; refine za (qq L rfl rfl rfl rfl rfl rfl rfl rfl) rfl ?_; refine za (ze rfl rfl rfl) rfl ?_; refine zg ?_; refine zh ?_; refine zf ?_; refine zf ?_; refine zd (id := 2) ?_; refine za (zb rfl rfl rfl) rfl ?_; refine za (ql rfl rfl rfl rfl (decide_eq_false (by omega))) rfl ?_; refine zg ?_; refine zh ?_; refine zo rfl ?_; refine zt ?_; refine zh ?_; refine zf ?_; refine zd (id := 4) ?_; refine za (zu L (vs := [_, _]) (zn rfl) rfl rfl rfl rfl ⟨_, rfl⟩) rfl ?_; refine za (ok_callO (r := CpR B t.nx t.fl) L rfl rfl (zi rfl) rfl rfl rfl (fun u H hH hle _ => (copied_ret (zs := zs) (ys := []) (l := t.fl) (by rw [List.append_nil]; exact hz) (by simp only [List.length_nil]; omega) hit5 (hs.le (s2.le.trans hle)) (fsb_nil (fu := true) (fi := true) rfl) hH).mono (CpR.le (s2.le.trans hle)))) rfl ?_; refine vo_opnX 22 rfl fun zs1 H4 s4 ⟨q1, q2⟩ => ?_; refine vo_openAgg 22 901 rfl (fun h _ => absurd h (by rw [fls_len q1]; omega)) fun b hbl hbm => ?_; refine za (qt L rfl rfl rfl rfl) rfl ?_; refine za (qq L rfl rfl rfl rfl rfl rfl rfl rfl) rfl ?_; refine zg ?_; refine zh ?_; refine zf ?_
    have hl1z := fls_len q1
    have hb3' := s4.le _ _ (s2.le _ _ hb3)
    have hli1 : ∀ (i : Nat) z, zs1[i]? = some z → z.1.is.length ≤ 4611686018427387904 := fun i z hzi => by have := hit5 z.1 (fls_mem (fls_get q1 hzi)); omega
    have hfl : (zs1.filter (kept id)).length ≤ zs1.length := List.length_filter_le _ _
    refine V_hold 9 902 rfl fun b9 => ?_
    by_cases hm0 : (zs1.filter (kept id)).length = 0
    · have hf0 : zs1.filter (kept id) = [] := List.eq_nil_of_length_eq_zero hm0
      have hmk := map_kept q1 id
      rw [hf0] at hmk
      refine zd (id := 5) ?_; refine za (y9 L rfl rfl rfl rfl) rfl ?_; refine vo_stepR (zy L (q := 902) rfl rfl rfl rfl rfl rfl) ?_; refine za (ok_makeFunc rfl rfl rfl rfl) rfl ?_; refine qd (yc L 901 (GHeld b ((zs1.filter (kept id)).flatMap flc ++ zfL (zs1.length - (zs1.filter (kept id)).length)) tyF) (.slice (some ⟨b, 0, none⟩) (zs1.filter (kept id)).length zs1.length) (r := GHeld b (zs1.flatMap flc) tyF) rfl rfl rfl rfl rfl (fun u H C hH hle hr hC => del_ret q1 rfl (by omega) hp (hle _ _ hb3') (fun i z hzi => (q2 i z hzi).1.le hle) hli1 hH hr hC)) ?_; refine vo_pubH 901 rfl fun H6 s6 hnb hb6 => ?_; refine za (y7 L rfl rfl rfl rfl rfl rfl rfl rfl rfl) rfl ?_; refine za (zq (r := .slice none 0 0) L rfl rfl (zi rfl) rfl rfl rfl (fun u H hH hle _ v hv => ownF0_ret hm0 (fsb_cut rfl hfl (by omega) (hle _ _ hb6) (fun i z hzi => by obtain ⟨j, hj⟩ := filter_get hzi; exact ((q2 j z hj).1.le s6.le).le hle) (fun i z hzi => by obtain ⟨j, hj⟩ := filter_get hzi; exact hli1 j z hj)) hH hv)) rfl ?_; refine za (y9 L rfl rfl rfl rfl) rfl ?_; refine vo_stepS (qy L (q := 902) rfl rfl rfl rfl rfl rfl rfl rfl rfl) ?_; refine zg ?_; refine zh ?_; refine zf ?_
      refine V_release 9 902 rfl rfl ?_
      refine q8 (id := 6) [] mixed (by kernel_rfl) ?_; refine zc (zu L (vs := [_, _]) (qw rfl) rfl rfl rfl rfl ⟨_, rfl⟩) rfl ?_; refine zc (zu L (vs := [_, _, _, _, _, _, _, _, _, _, _, _, _, _]) (qw rfl) rfl rfl rfl rfl ⟨_, rfl⟩) rfl ?_; refine zc (qq L rfl rfl rfl rfl rfl rfl rfl rfl) rfl ?_; refine zc (qq L rfl rfl rfl rfl rfl rfl rfl rfl) rfl ?_; refine zc (ze rfl rfl rfl) rfl ?_; refine qg ?_; refine zh ?_
      refine qh L (rs := [.cell 4 24, .cell 5 49, .tmp 6]) rfl (fun _ _ h => h) (((s1.trans s2).trans s4).trans s6) fun u H hH hle => ?_
      refine resK_cellA (qw rfl) rfl rfl ?_
      refine resK_cellA (qw rfl) rfl rfl ?_
      rw [← hmk]
      exact ⟨_, _, rfl, ⟨[], _, rfl, rfl, fsb_nil rfl, newin_nil, fun i z hz => by cases hz⟩, SlN.le (SlN.mono _ _ _ hsv ((s4.le.trans s6.le).trans hle)) s1.le⟩
    · refine zd (id := 5) ?_; refine za (y9 L rfl rfl rfl rfl) rfl ?_; refine vo_stepR (zy L (q := 902) rfl rfl rfl rfl rfl rfl) ?_; refine za (ok_makeFunc rfl rfl rfl rfl) rfl ?_; refine qd (yc L 901 (GHeld b ((zs1.filter (kept id)).flatMap flc ++ zfL (zs1.length - (zs1.filter (kept id)).length)) tyF) (.slice (some ⟨b, 0, none⟩) (zs1.filter (kept id)).length zs1.length) (r := GHeld b (zs1.flatMap flc) tyF) rfl rfl rfl rfl rfl (fun u H C hH hle hr hC => del_ret q1 rfl (by omega) hp (hle _ _ hb3') (fun i z hzi => (q2 i z hzi).1.le hle) hli1 hH hr hC)) ?_; refine vo_pubH 901 rfl fun H6 s6 hnb hb6 => ?_; refine za (y7 L rfl rfl rfl rfl rfl rfl rfl rfl rfl) rfl ?_; refine za (ok_callO (r := SlE tyF 14 (zs1.filter (kept id)).length ((zs1.filter (kept id)).flatMap flc)) L rfl rfl (zi rfl) rfl rfl rfl (fun u H hH hle _ v hv => ownF1_ret (fsb_cut rfl hfl (by omega) (hle _ _ hb6) (fun i z hzi => by obtain ⟨j, hj⟩ := filter_get hzi; exact ((q2 j z hj).1.le s6.le).le hle) (fun i z hzi => by obtain ⟨j, hj⟩ := filter_get hzi; exact hli1 j z hj)) (by omega) hH hv)) rfl ?_; refine vo_holdE 28 903 (Nat.pos_of_ne_zero hm0) rfl fun b2 hbl2 => ?_; refine za (y9 L rfl rfl rfl rfl) rfl ?_; refine vo_stepS (qy L (q := 902) rfl rfl rfl rfl rfl rfl rfl rfl rfl) ?_; refine zg ?_; refine zh ?_; refine zf ?_
      refine V_release 9 902 rfl rfl ?_
      refine q8 (id := 6) [] mixed (by kernel_rfl) ?_; refine zc (zu L (vs := [_, _]) (qw rfl) rfl rfl rfl rfl ⟨_, rfl⟩) rfl ?_; refine zc (zu L (vs := [_, _, _, _, _, _, _, _, _, _, _, _, _, _]) (qw rfl) rfl rfl rfl rfl ⟨_, rfl⟩) rfl ?_; refine zc (qq L rfl rfl rfl rfl rfl rfl rfl rfl) rfl ?_; refine zc (qq L rfl rfl rfl rfl rfl rfl rfl rfl) rfl ?_; refine zc (ze rfl rfl rfl) rfl ?_; refine qg ?_; refine zh ?_
      refine V_pubH 903 rfl fun H7 s7 hnb7 hb7 => ?_
      refine qh L (rs := [.cell 4 24, .cell 5 49, .tmp 6]) rfl (fun _ _ h => h) ((((s1.trans s2).trans s4).trans s6).trans s7) fun u H hH hle => ?_
      refine resK_cellA (qw rfl) rfl rfl ?_
      refine resK_cellA (qw rfl) rfl rfl ?_
      have hBH : B.Le H6 := (s2.le.trans s4.le).trans s6.le
      refine ⟨_, _, rfl, tbn_mono (tbn_of rfl (map_kept q1 id) (fun i z hzi => ?_) hb7 (none_le (s1.le.trans hBH) hnb7) (by omega) fun g hg => ?_) hle, SlN.le (SlN.mono _ _ _ hsv (((s4.le.trans s6.le).trans s7.le).trans hle)) s1.le⟩
      · obtain ⟨j, hj⟩ := filter_get hzi
        exact SlN.le (SlN.mono _ _ _ (q2 j z hj) (s6.le.trans s7.le)) s1.le
      · have := hit5 g (List.mem_filter.1 hg).1
        omega
  · have hk : findF t id = F0 := if_pos h0
    rw [ldT0 h0]
    refine zd (id := 1) ?_; refine za (zu L (vs := [_, _]) (zn rfl) rfl rfl rfl rfl ⟨_, rfl⟩) rfl ?_; refine za (zl L (src_base rfl (by assumption)) rfl rfl rfl rfl) rfl ?_; refine za (ok_call (φ := FindP B (findF t id) (plE t id)) L rfl rfl (zi rfl) rfl rfl rfl FindP.mono (fun u H hH hle _ => Ret.mono (find_ret hz (hs.le hle) hZ hn hH) fun v H' _ ⟨sv, h1, h2⟩ => ⟨sv, h1, SlN.le h2 hle⟩)) rfl ?_; refine vo_opn 13 rfl fun fv H2 s2 hfv => ?_; obtain ⟨sv, hfe, hsv⟩ := hfv; obtain ⟨p1, c1, he⟩ := slv_sh hsv.1; subst he; subst hfe; refine za (zb rfl rfl rfl) rfl ?_; refine za (qv rfl rfl rfl rfl) rfl ?_; refine za (qv rfl rfl rfl rfl) rfl ?_; refine za (qt L rfl rfl rfl rfl) rfl ?_; refine za (qq L rfl rfl rfl rfl rfl rfl rfl rfl) rfl ?_; refine za (ze rfl rfl rfl) rfl ?_; refine zg ?_; refine zh ?_; refine zf ?_; refine zf ?_; refine zd (id := 2) ?_; refine za (zb rfl rfl rfl) rfl ?_; refine za (ql rfl rfl rfl rfl (decide_eq_true (by omega))) rfl ?_; refine zg ?_; refine zh ?_; refine zx rfl ?_; refine zf ?_; refine zd (id := 3) ?_; refine za (yb (cs := [_, _]) rfl rfl pl24 rfl rfl) rfl ?_; refine za (yb (cs := [_, _, _, _, _, _, _, _, _, _, _, _, _, _]) rfl rfl pl49 rfl rfl) rfl ?_; refine za (zb rfl rfl rfl) rfl ?_; refine za (qq L rfl rfl rfl rfl rfl rfl rfl rfl) rfl ?_; refine za (qq L rfl rfl rfl rfl rfl rfl rfl rfl) rfl ?_; refine za (ze rfl rfl rfl) rfl ?_; refine zg ?_; refine zh ?_
    refine qh L (rs := [.cell 4 24, .cell 5 49, .tmp 6]) rfl (fun _ _ h => h) (s1.trans s2) fun u H hH hle => ?_
    refine resK_cellA (qw rfl) rfl rfl ?_
    refine resK_cellA (qw rfl) rfl rfl ?_
    rw [hk]
    exact ⟨_, _, rfl, tbn_zero, sln_nil⟩
end Go.V.L39
namespace Go.V.L39
open Go.Proofs Go.RowKit Go.V
def FactL (B : Heap) (ys : List (Fl × Value)) (x : Value) : Heap → Prop := fun H => SlWN B tyF 14 ys.length (ys.flatMap flc) x H
theorem FactL.mono {B : Heap} {ys : List (Fl × Value)} {x : Value} : ∀ H H', FactL B ys x H → H.Le H' → FactL B ys x H' := fun _ _ h hle => SlWN.mono _ _ _ h hle
attribute [local irreducible] V N X VO Par StepOK Has Ret RetL RetO RetT RetG Src
end Go.V.L39
namespace Go.V.L39
open Go.Proofs Go.RowKit Go.V
def RJoinP (r : Tb × Int × Bool) (e : Int) : Value → Heap → Prop := fun v H => ∃ tv, v = .tuple #[tv, .int .i64 r.2.1, .int .i64 (if r.2.2 = true then 1 else 0), .int .i64 e] ∧ TbR r.1 tv H
theorem RJoinP.mono {r : Tb × Int × Bool} {e : Int} : Kn.mono (.sat (RJoinP r e)) := fun _ _ _ ⟨tv, h1, h2⟩ hle => ⟨tv, h1, h2.mono hle⟩
attribute [local irreducible] V N X VO Par StepOK Has Ret RetL RetO RetT RetG Src
end Go.V.L39
namespace Go.V.L39
open Go.Proofs Go.RowKit Go.V
def cntP (cl rv : Int) : It → Bool := fun x => decide ((cl = -1 ∨ x.cl = cl) ∧ (rv = 0 ∨ x.rv = rv))
attribute [local irreducible] V N X VO Par StepOK Has Ret RetL RetO RetT RetG Src
theorem rcount_ret {t : Tb} {zs : List (Fl × Value)} (hz : zs.map Prod.fst = t.fl) {fu fi : Bool} {s : Value} {cl rv : Int} {w : World} {B : Heap} (hs : FsB zs fu fi s B) (hn : itsN t.fl ≤ 4611686018427387904) (hB : B.Le (hp w)) :
    Ret Try.prog 31 [tbv t.nx s, .int .i64 cl, .int .u64 rv] w B (fun v _ => v = .int .i64 (cntB (cntP cl rv) t.fl : Nat)) := by
  have hsl := hs.sl
  have hlen := fls_len hz
  have hzl := hs.ln
  have hle := countP_le_its (p := cntP cl rv) (l := t.fl)
  obtain ⟨p, hp⟩ : ∃ p : It → Bool, p = cntP cl rv := ⟨_, rfl⟩
  rw [← hp] at hle ⊢
  refine y6 Try.func31 rfl Try.ntmps31 (Nat.le_of_ble_eq_true rfl) hB ?_
  refine zf ?_; refine zd (id := 0) ?_; refine za (qz rfl rfl rfl rfl) rfl ?_; refine za (ze rfl rfl rfl) rfl ?_; refine zg ?_; refine zh ?_; refine zf ?_; refine zd (id := 1) ?_; refine za (ze rfl rfl rfl) rfl ?_; refine zg ?_; refine zh ?_; refine zf ?_; refine zf ?_; refine zd (id := 2) ?_; refine za (ze rfl rfl rfl) rfl ?_; refine zg ?_; refine zh ?_; refine zz ?_
  refine yd (fun i : Nat => [(1, .is (.int .i64 cl)), (2, .is (.int .u64 rv)), (3, .sat (At [.int .i64 t.nx, s] tyT 0)), (7, .is (.int .i64 (cntB p (t.fl.take i)))), (8, .is (.int .i64 i))]) (fun i => i ≤ zs.length) (fun i => zs.length - i) 0 (Nat.zero_le _) ⟨rfl, rfl, rfl, rfl, rfl, trivial⟩ ?_
  rintro i hi
  by_cases hlt : i < zs.length
  · obtain ⟨f, pp, c, hzi, hli, hzv, hil, hc14⟩ := hs.at hz hlt
    have h1 := cntB_take (p := p) hli
    have h2 := cntB_le (p := p) t.fl (i + 1)
    refine zf ?_; refine zf ?_; refine zd (id := 3) ?_; refine za (zb rfl rfl rfl) rfl ?_; refine za (zk L rfl rfl rfl rfl) rfl ?_; refine za (StepOK.seeV (zl L (zn rfl) rfl rfl rfl rfl) (by assumption)) rfl ?_; refine za (y0 L rfl rfl rfl rfl) rfl ?_; refine za (zw rfl rfl rfl rfl (decide_eq_true (by omega))) rfl ?_; refine zg ?_; refine zh ?_; refine zx rfl ?_; refine zt ?_; refine zh ?_; refine zf ?_; refine zz ?_; refine zf ?_; refine zd (id := 5) ?_; refine za (ze rfl rfl rfl) rfl ?_; refine zg ?_; refine zh ?_; refine zz ?_
    refine yd (fun k : Nat => [(1, .is (.int .i64 cl)), (2, .is (.int .u64 rv)), (3, .sat (At [.int .i64 t.nx, s] tyT 0)), (7, .is (.int .i64 (cntB p (t.fl.take i) + (f.is.take k).countP p : Nat))), (8, .is (.int .i64 i)), (9, .is (.int .i64 k))]) (fun k => k ≤ f.is.length) (fun k => f.is.length - k) 0 (Nat.zero_le _) ⟨rfl, rfl, rfl, rfl, rfl, rfl, trivial⟩ ?_
    rintro k hk
    by_cases hkl : k < f.is.length
    · obtain ⟨x, hx⟩ := get_some hkl
      have hc := it_at hx
      have h3 := countP_take (p := p) hx
      have h4 := countP_take_le (p := p) f.is (k + 1)
      by_cases c0 : cl = -1
      · by_cases r0 : rv = 0
        · have hpx : p x = true := by rw [hp]; exact decide_eq_true ⟨Or.inl c0, Or.inl r0⟩
          rw [if_pos hpx] at h3
          have had : IntKind.i64.wrap (((cntB p (t.fl.take i) + (f.is.take k).countP p : Nat) : Int) + 1) = ((cntB p (t.fl.take i) + (f.is.take (k + 1)).countP p : Nat) : Int) := wrap_i64 (by omega) (by omega) |>.trans (by omega)
          refine zf ?_; refine zf ?_; refine zd (id := 6) ?_; refine za (zb rfl rfl rfl) rfl ?_; refine za (zk L rfl rfl rfl rfl) rfl ?_; refine za (StepOK.seeV (zl L (zn rfl) rfl rfl rfl rfl) (by assumption)) rfl ?_; refine za (zb rfl rfl rfl) rfl ?_; refine za (qb L _ rfl rfl rfl rfl rfl rfl rfl (by first | omega | decide) (by assumption)) rfl ?_; refine za (qk L rfl rfl rfl rfl) rfl ?_; refine za (StepOK.seeV (qn L rfl rfl rfl rfl rfl) (by assumption)) rfl ?_; refine za (y0 L rfl rfl rfl rfl) rfl ?_; refine za (zw rfl rfl rfl rfl (decide_eq_true (by omega))) rfl ?_; refine zg ?_; refine zh ?_; refine zx rfl ?_; refine zt ?_; refine zh ?_; refine zf ?_; refine zz ?_; refine zf ?_; refine zd (id := 8) ?_; refine za (zk L rfl rfl rfl rfl) rfl ?_; refine za (StepOK.seeV (zl L (zn rfl) rfl rfl rfl rfl) (by assumption)) rfl ?_; refine za (zb rfl rfl rfl) rfl ?_; refine za (qb L _ rfl rfl rfl rfl rfl rfl rfl (by first | omega | decide) (by assumption)) rfl ?_; refine za (qk L rfl rfl rfl rfl) rfl ?_; refine za (StepOK.seeV (qn L rfl rfl rfl rfl rfl) (by assumption)) rfl ?_; refine za (zb rfl rfl rfl) rfl ?_; refine za (qb L _ rfl rfl rfl rfl rfl rfl rfl (by first | omega | decide) (by assumption)) rfl ?_; refine za (ok_loadPA L (vs := [_, _, _, _, _]) rfl rfl rfl rfl rfl ⟨_, rfl⟩) rfl ?_; refine za (qt L rfl rfl rfl rfl) rfl ?_; refine za (qq L rfl rfl rfl rfl rfl rfl rfl rfl) rfl ?_; refine zg ?_; refine zh ?_; refine zf ?_
          refine V_pub 10 rfl ?_
          refine zd (id := 9) ?_; refine za (zb rfl rfl rfl) rfl ?_; refine za (qf rfl rfl rfl rfl (decide_eq_true (by omega))) rfl ?_; refine za (zb rfl rfl rfl) rfl ?_; refine za (zj rfl (zi rfl) rfl) rfl ?_; refine za (zj rfl (zi rfl) rfl) rfl ?_; refine za (zj rfl (zi rfl) rfl) rfl ?_; refine za (zj rfl (zi rfl) rfl) rfl ?_; refine za (zm rfl rfl rfl rfl) rfl ?_; refine za (zb rfl rfl rfl) rfl ?_; refine za (zb rfl rfl rfl) rfl ?_; refine za (qf rfl rfl rfl rfl (decide_eq_true (by omega))) rfl ?_; refine za (zb rfl rfl rfl) rfl ?_; refine za (zj rfl (zi rfl) rfl) rfl ?_; refine za (zj rfl (zi rfl) rfl) rfl ?_; refine za (zj rfl (zi rfl) rfl) rfl ?_; refine za (zj rfl (zi rfl) rfl) rfl ?_; refine za (zm rfl rfl rfl rfl) rfl ?_; refine za (zm rfl rfl rfl rfl) rfl ?_; refine zg ?_; refine zh ?_; refine zx rfl ?_; refine zd (id := 10) ?_; refine za (zb rfl rfl rfl) rfl ?_; refine za (q9 rfl rfl rfl rfl (by assumption)) rfl ?_; refine za (ze rfl rfl rfl) rfl ?_; refine zg ?_; refine qo ?_; refine zh ?_; refine zd (id := 7) ?_; refine za (zb rfl rfl rfl) rfl ?_; refine za (q9 rfl rfl rfl rfl (wrap_i64 (by omega) (by omega))) rfl ?_; refine za (ze rfl rfl rfl) rfl ?_; refine zg ?_
          exact qp (x := k) (k + 1) hkl (by omega) ⟨rfl, rfl, rfl, rfl, rfl, rfl, trivial⟩
        · by_cases r1 : x.rv = rv
          · have hpx : p x = true := by rw [hp]; exact decide_eq_true ⟨Or.inl c0, Or.inr r1⟩
            rw [if_pos hpx] at h3
            have had : IntKind.i64.wrap (((cntB p (t.fl.take i) + (f.is.take k).countP p : Nat) : Int) + 1) = ((cntB p (t.fl.take i) + (f.is.take (k + 1)).countP p : Nat) : Int) := wrap_i64 (by omega) (by omega) |>.trans (by omega)
            refine zf ?_; refine zf ?_; refine zd (id := 6) ?_; refine za (zb rfl rfl rfl) rfl ?_; refine za (zk L rfl rfl rfl rfl) rfl ?_; refine za (StepOK.seeV (zl L (zn rfl) rfl rfl rfl rfl) (by assumption)) rfl ?_; refine za (zb rfl rfl rfl) rfl ?_; refine za (qb L _ rfl rfl rfl rfl rfl rfl rfl (by first | omega | decide) (by assumption)) rfl ?_; refine za (qk L rfl rfl rfl rfl) rfl ?_; refine za (StepOK.seeV (qn L rfl rfl rfl rfl rfl) (by assumption)) rfl ?_; refine za (y0 L rfl rfl rfl rfl) rfl ?_; refine za (zw rfl rfl rfl rfl (decide_eq_true (by omega))) rfl ?_; refine zg ?_; refine zh ?_; refine zx rfl ?_; refine zt ?_; refine zh ?_; refine zf ?_; refine zz ?_; refine zf ?_; refine zd (id := 8) ?_; refine za (zk L rfl rfl rfl rfl) rfl ?_; refine za (StepOK.seeV (zl L (zn rfl) rfl rfl rfl rfl) (by assumption)) rfl ?_; refine za (zb rfl rfl rfl) rfl ?_; refine za (qb L _ rfl rfl rfl rfl rfl rfl rfl (by first | omega | decide) (by assumption)) rfl ?_; refine za (qk L rfl rfl rfl rfl) rfl ?_; refine za (StepOK.seeV (qn L rfl rfl rfl rfl rfl) (by assumption)) rfl ?_; refine za (zb rfl rfl rfl) rfl ?_; refine za (qb L _ rfl rfl rfl rfl rfl rfl rfl (by first | omega | decide) (by assumption)) rfl ?_; refine za (ok_loadPA L (vs := [_, _, _, _, _]) rfl rfl rfl rfl rfl ⟨_, rfl⟩) rfl ?_; refine za (qt L rfl rfl rfl rfl) rfl ?_; refine za (qq L rfl rfl rfl rfl rfl rfl rfl rfl) rfl ?_; refine zg ?_; refine zh ?_; refine zf ?_
            refine V_pub 10 rfl ?_
            refine zd (id := 9) ?_; refine za (zb rfl rfl rfl) rfl ?_; refine za (qf rfl rfl rfl rfl (decide_eq_true (by omega))) rfl ?_; refine za (zb rfl rfl rfl) rfl ?_; refine za (zj rfl (zi rfl) rfl) rfl ?_; refine za (zj rfl (zi rfl) rfl) rfl ?_; refine za (zj rfl (zi rfl) rfl) rfl ?_; refine za (zj rfl (zi rfl) rfl) rfl ?_; refine za (zm rfl rfl rfl rfl) rfl ?_; refine za (zb rfl rfl rfl) rfl ?_; refine za (zb rfl rfl rfl) rfl ?_; refine za (qf rfl rfl rfl rfl (decide_eq_false (by omega))) rfl ?_; refine za (zb rfl rfl rfl) rfl ?_; refine za (zk L rfl rfl rfl rfl) rfl ?_; refine za (zl L (zn rfl) rfl rfl rfl rfl) rfl ?_; refine za (zb rfl rfl rfl) rfl ?_; refine za (qf rfl rfl rfl rfl (decide_eq_true (by omega))) rfl ?_; refine za (zm rfl rfl rfl rfl) rfl ?_; refine za (zm rfl rfl rfl rfl) rfl ?_; refine zg ?_; refine zh ?_; refine zx rfl ?_; refine zd (id := 10) ?_; refine za (zb rfl rfl rfl) rfl ?_; refine za (q9 rfl rfl rfl rfl (by assumption)) rfl ?_; refine za (ze rfl rfl rfl) rfl ?_; refine zg ?_; refine qo ?_; refine zh ?_; refine zd (id := 7) ?_; refine za (zb rfl rfl rfl) rfl ?_; refine za (q9 rfl rfl rfl rfl (wrap_i64 (by omega) (by omega))) rfl ?_; refine za (ze rfl rfl rfl) rfl ?_; refine zg ?_
            exact qp (x := k) (k + 1) hkl (by omega) ⟨rfl, rfl, rfl, rfl, rfl, rfl, trivial⟩
          · have hpx : ¬ (p x = true) := by rw [hp]; exact fun h => absurd (of_decide_eq_true h) (fun h => h.2.elim r0 r1)
            rw [if_neg hpx] at h3
            refine zf ?_; refine zf ?_; refine zd (id := 6) ?_; refine za (zb rfl rfl rfl) rfl ?_; refine za (zk L rfl rfl rfl rfl) rfl ?_; refine za (StepOK.seeV (zl L (zn rfl) rfl rfl rfl rfl) (by assumption)) rfl ?_; refine za (zb rfl rfl rfl) rfl ?_; refine za (qb L _ rfl rfl rfl rfl rfl rfl rfl (by first | omega | decide) (by assumption)) rfl ?_; refine za (qk L rfl rfl rfl rfl) rfl ?_; refine za (StepOK.seeV (qn L rfl rfl rfl rfl rfl) (by assumption)) rfl ?_; refine za (y0 L rfl rfl rfl rfl) rfl ?_; refine za (zw rfl rfl rfl rfl (decide_eq_true (by omega))) rfl ?_; refine zg ?_; refine zh ?_; refine zx rfl ?_; refine zt ?_; refine zh ?_; refine zf ?_; refine zz ?_; refine zf ?_; refine zd (id := 8) ?_; refine za (zk L rfl rfl rfl rfl) rfl ?_; refine za (StepOK.seeV (zl L (zn rfl) rfl rfl rfl rfl) (by assumption)) rfl ?_; refine za (zb rfl rfl rfl) rfl ?_; refine za (qb L _ rfl rfl rfl rfl rfl rfl rfl (by first | omega | decide) (by assumption)) rfl ?_; refine za (qk L rfl rfl rfl rfl) rfl ?_; refine za (StepOK.seeV (qn L rfl rfl rfl rfl rfl) (by assumption)) rfl ?_; refine za (zb rfl rfl rfl) rfl ?_; refine za (qb L _ rfl rfl rfl rfl rfl rfl rfl (by first | omega | decide) (by assumption)) rfl ?_; refine za (ok_loadPA L (vs := [_, _, _, _, _]) rfl rfl rfl rfl rfl ⟨_, rfl⟩) rfl ?_; refine za (qt L rfl rfl rfl rfl) rfl ?_; refine za (qq L rfl rfl rfl rfl rfl rfl rfl rfl) rfl ?_; refine zg ?_; refine zh ?_; refine zf ?_
            refine V_pub 10 rfl ?_
            refine zd (id := 9) ?_; refine za (zb rfl rfl rfl) rfl ?_; refine za (qf rfl rfl rfl rfl (decide_eq_true (by omega))) rfl ?_; refine za (zb rfl rfl rfl) rfl ?_; refine za (zj rfl (zi rfl) rfl) rfl ?_; refine za (zj rfl (zi rfl) rfl) rfl ?_; refine za (zj rfl (zi rfl) rfl) rfl ?_; refine za (zj rfl (zi rfl) rfl) rfl ?_; refine za (zm rfl rfl rfl rfl) rfl ?_; refine za (zb rfl rfl rfl) rfl ?_; refine za (zb rfl rfl rfl) rfl ?_; refine za (qf rfl rfl rfl rfl (decide_eq_false (by omega))) rfl ?_; refine za (zb rfl rfl rfl) rfl ?_; refine za (zk L rfl rfl rfl rfl) rfl ?_; refine za (zl L (zn rfl) rfl rfl rfl rfl) rfl ?_; refine za (zb rfl rfl rfl) rfl ?_; refine za (qf rfl rfl rfl rfl (decide_eq_false (by omega))) rfl ?_; refine za (zm rfl rfl rfl rfl) rfl ?_; refine za (zm rfl rfl rfl rfl) rfl ?_; refine zg ?_; refine zh ?_; refine zo rfl ?_; refine zt ?_; refine qo ?_; refine zh ?_; refine zd (id := 7) ?_; refine za (zb rfl rfl rfl) rfl ?_; refine za (q9 rfl rfl rfl rfl (wrap_i64 (by omega) (by omega))) rfl ?_; refine za (ze rfl rfl rfl) rfl ?_; refine zg ?_
            exact qp (x := k) (k + 1) hkl (by omega) ⟨rfl, rfl, rfl, by rw [h3]; rfl, rfl, rfl, trivial⟩
      · by_cases c1 : x.cl = cl
        · by_cases r0 : rv = 0
          · have hpx : p x = true := by rw [hp]; exact decide_eq_true ⟨Or.inr c1, Or.inl r0⟩
            rw [if_pos hpx] at h3
            have had : IntKind.i64.wrap (((cntB p (t.fl.take i) + (f.is.take k).countP p : Nat) : Int) + 1) = ((cntB p (t.fl.take i) + (f.is.take (k + 1)).countP p : Nat) : Int) := wrap_i64 (by omega) (by omega) |>.trans (by omega)
            refine zf ?_; refine zf ?_; refine zd (id := 6) ?_; refine za (zb rfl rfl rfl) rfl ?_; refine za (zk L rfl rfl rfl rfl) rfl ?_; refine za (StepOK.seeV (zl L (zn rfl) rfl rfl rfl rfl) (by assumption)) rfl ?_; refine za (zb rfl rfl rfl) rfl ?_; refine za (qb L _ rfl rfl rfl rfl rfl rfl rfl (by first | omega | decide) (by assumption)) rfl ?_; refine za (qk L rfl rfl rfl rfl) rfl ?_; refine za (StepOK.seeV (qn L rfl rfl rfl rfl rfl) (by assumption)) rfl ?_; refine za (y0 L rfl rfl rfl rfl) rfl ?_; refine za (zw rfl rfl rfl rfl (decide_eq_true (by omega))) rfl ?_; refine zg ?_; refine zh ?_; refine zx rfl ?_; refine zt ?_; refine zh ?_; refine zf ?_; refine zz ?_; refine zf ?_; refine zd (id := 8) ?_; refine za (zk L rfl rfl rfl rfl) rfl ?_; refine za (StepOK.seeV (zl L (zn rfl) rfl rfl rfl rfl) (by assumption)) rfl ?_; refine za (zb rfl rfl rfl) rfl ?_; refine za (qb L _ rfl rfl rfl rfl rfl rfl rfl (by first | omega | decide) (by assumption)) rfl ?_; refine za (qk L rfl rfl rfl rfl) rfl ?_; refine za (StepOK.seeV (qn L rfl rfl rfl rfl rfl) (by assumption)) rfl ?_; refine za (zb rfl rfl rfl) rfl ?_; refine za (qb L _ rfl rfl rfl rfl rfl rfl rfl (by first | omega | decide) (by assumption)) rfl ?_; refine za (ok_loadPA L (vs := [_, _, _, _, _]) rfl rfl rfl rfl rfl ⟨_, rfl⟩) rfl ?_; refine za (qt L rfl rfl rfl rfl) rfl ?_; refine za (qq L rfl rfl rfl rfl rfl rfl rfl rfl) rfl ?_; refine zg ?_; refine zh ?_; refine zf ?_
            refine V_pub 10 rfl ?_
            refine zd (id := 9) ?_; refine za (zb rfl rfl rfl) rfl ?_; refine za (qf rfl rfl rfl rfl (decide_eq_false (by omega))) rfl ?_; refine za (zb rfl rfl rfl) rfl ?_; refine za (zk L rfl rfl rfl rfl) rfl ?_; refine za (zl L (zn rfl) rfl rfl rfl rfl) rfl ?_; refine za (zb rfl rfl rfl) rfl ?_; refine za (qf rfl rfl rfl rfl (decide_eq_true (by omega))) rfl ?_; refine za (zm rfl rfl rfl rfl) rfl ?_; refine za (zb rfl rfl rfl) rfl ?_; refine za (zb rfl rfl rfl) rfl ?_; refine za (qf rfl rfl rfl rfl (decide_eq_true (by omega))) rfl ?_; refine za (zb rfl rfl rfl) rfl ?_; refine za (zj rfl (zi rfl) rfl) rfl ?_; refine za (zj rfl (zi rfl) rfl) rfl ?_; refine za (zj rfl (zi rfl) rfl) rfl ?_; refine za (zj rfl (zi rfl) rfl) rfl ?_; refine za (zm rfl rfl rfl rfl) rfl ?_; refine za (zm rfl rfl rfl rfl) rfl ?_; refine zg ?_; refine zh ?_; refine zx rfl ?_; refine zd (id := 10) ?_; refine za (zb rfl rfl rfl) rfl ?_; refine za (q9 rfl rfl rfl rfl (by assumption)) rfl ?_; refine za (ze rfl rfl rfl) rfl ?_; refine zg ?_; refine qo ?_; refine zh ?_; refine zd (id := 7) ?_; refine za (zb rfl rfl rfl) rfl ?_; refine za (q9 rfl rfl rfl rfl (wrap_i64 (by omega) (by omega))) rfl ?_; refine za (ze rfl rfl rfl) rfl ?_; refine zg ?_
            exact qp (x := k) (k + 1) hkl (by omega) ⟨rfl, rfl, rfl, rfl, rfl, rfl, trivial⟩
          · by_cases r1 : x.rv = rv
            · have hpx : p x = true := by rw [hp]; exact decide_eq_true ⟨Or.inr c1, Or.inr r1⟩
              rw [if_pos hpx] at h3
              have had : IntKind.i64.wrap (((cntB p (t.fl.take i) + (f.is.take k).countP p : Nat) : Int) + 1) = ((cntB p (t.fl.take i) + (f.is.take (k + 1)).countP p : Nat) : Int) := wrap_i64 (by omega) (by omega) |>.trans (by omega)
              refine zf ?_; refine zf ?_; refine zd (id := 6) ?_; refine za (zb rfl rfl rfl) rfl ?_; refine za (zk L rfl rfl rfl rfl) rfl ?_; refine za (StepOK.seeV (zl L (zn rfl) rfl rfl rfl rfl) (by assumption)) rfl ?_; refine za (zb rfl rfl rfl) rfl ?_; refine za (qb L _ rfl rfl rfl rfl rfl rfl rfl (by first | omega | decide) (by assumption)) rfl ?_; refine za (qk L rfl rfl rfl rfl) rfl ?_; refine za (StepOK.seeV (qn L rfl rfl rfl rfl rfl) (by assumption)) rfl ?_; refine za (y0 L rfl rfl rfl rfl) rfl ?_; refine za (zw rfl rfl rfl rfl (decide_eq_true (by omega))) rfl ?_; refine zg ?_; refine zh ?_; refine zx rfl ?_; refine zt ?_; refine zh ?_; refine zf ?_; refine zz ?_; refine zf ?_; refine zd (id := 8) ?_; refine za (zk L rfl rfl rfl rfl) rfl ?_; refine za (StepOK.seeV (zl L (zn rfl) rfl rfl rfl rfl) (by assumption)) rfl ?_; refine za (zb rfl rfl rfl) rfl ?_; refine za (qb L _ rfl rfl rfl rfl rfl rfl rfl (by first | omega | decide) (by assumption)) rfl ?_; refine za (qk L rfl rfl rfl rfl) rfl ?_; refine za (StepOK.seeV (qn L rfl rfl rfl rfl rfl) (by assumption)) rfl ?_; refine za (zb rfl rfl rfl) rfl ?_; refine za (qb L _ rfl rfl rfl rfl rfl rfl rfl (by first | omega | decide) (by assumption)) rfl ?_; refine za (ok_loadPA L (vs := [_, _, _, _, _]) rfl rfl rfl rfl rfl ⟨_, rfl⟩) rfl ?_; refine za (qt L rfl rfl rfl rfl) rfl ?_; refine za (qq L rfl rfl rfl rfl rfl rfl rfl rfl) rfl ?_; refine zg ?_; refine zh ?_; refine zf ?_
              refine V_pub 10 rfl ?_
              refine zd (id := 9) ?_; refine za (zb rfl rfl rfl) rfl ?_; refine za (qf rfl rfl rfl rfl (decide_eq_false (by omega))) rfl ?_; refine za (zb rfl rfl rfl) rfl ?_; refine za (zk L rfl rfl rfl rfl) rfl ?_; refine za (zl L (zn rfl) rfl rfl rfl rfl) rfl ?_; refine za (zb rfl rfl rfl) rfl ?_; refine za (qf rfl rfl rfl rfl (decide_eq_true (by omega))) rfl ?_; refine za (zm rfl rfl rfl rfl) rfl ?_; refine za (zb rfl rfl rfl) rfl ?_; refine za (zb rfl rfl rfl) rfl ?_; refine za (qf rfl rfl rfl rfl (decide_eq_false (by omega))) rfl ?_; refine za (zb rfl rfl rfl) rfl ?_; refine za (zk L rfl rfl rfl rfl) rfl ?_; refine za (zl L (zn rfl) rfl rfl rfl rfl) rfl ?_; refine za (zb rfl rfl rfl) rfl ?_; refine za (qf rfl rfl rfl rfl (decide_eq_true (by omega))) rfl ?_; refine za (zm rfl rfl rfl rfl) rfl ?_; refine za (zm rfl rfl rfl rfl) rfl ?_; refine zg ?_; refine zh ?_; refine zx rfl ?_; refine zd (id := 10) ?_; refine za (zb rfl rfl rfl) rfl ?_; refine za (q9 rfl rfl rfl rfl (by assumption)) rfl ?_; refine za (ze rfl rfl rfl) rfl ?_; refine zg ?_; refine qo ?_; refine zh ?_; refine zd (id := 7) ?_; refine za (zb rfl rfl rfl) rfl ?_; refine za (q9 rfl rfl rfl rfl (wrap_i64 (by omega) (by omega))) rfl ?_; refine za (ze rfl rfl rfl) rfl ?_; refine zg ?_
              exact qp (x := k) (k + 1) hkl (by omega) ⟨rfl, rfl, rfl, rfl, rfl, rfl, trivial⟩
            · have hpx : ¬ (p x = true) := by rw [hp]; exact fun h => absurd (of_decide_eq_true h) (fun h => h.2.elim r0 r1)
              rw [if_neg hpx] at h3
              refine zf ?_; refine zf ?_; refine zd (id := 6) ?_; refine za (zb rfl rfl rfl) rfl ?_; refine za (zk L rfl rfl rfl rfl) rfl ?_; refine za (StepOK.seeV (zl L (zn rfl) rfl rfl rfl rfl) (by assumption)) rfl ?_; refine za (zb rfl rfl rfl) rfl ?_; refine za (qb L _ rfl rfl rfl rfl rfl rfl rfl (by first | omega | decide) (by assumption)) rfl ?_; refine za (qk L rfl rfl rfl rfl) rfl ?_; refine za (StepOK.seeV (qn L rfl rfl rfl rfl rfl) (by assumption)) rfl ?_; refine za (y0 L rfl rfl rfl rfl) rfl ?_; refine za (zw rfl rfl rfl rfl (decide_eq_true (by omega))) rfl ?_; refine zg ?_; refine zh ?_; refine zx rfl ?_; refine zt ?_; refine zh ?_; refine zf ?_; refine zz ?_; refine zf ?_; refine zd (id := 8) ?_; refine za (zk L rfl rfl rfl rfl) rfl ?_; refine za (StepOK.seeV (zl L (zn rfl) rfl rfl rfl rfl) (by assumption)) rfl ?_; refine za (zb rfl rfl rfl) rfl ?_; refine za (qb L _ rfl rfl rfl rfl rfl rfl rfl (by first | omega | decide) (by assumption)) rfl ?_; refine za (qk L rfl rfl rfl rfl) rfl ?_; refine za (StepOK.seeV (qn L rfl rfl rfl rfl rfl) (by assumption)) rfl ?_; refine za (zb rfl rfl rfl) rfl ?_; refine za (qb L _ rfl rfl rfl rfl rfl rfl rfl (by first | omega | decide) (by assumption)) rfl ?_; refine za (ok_loadPA L (vs := [_, _, _, _, _]) rfl rfl rfl rfl rfl ⟨_, rfl⟩) rfl ?_; refine za (qt L rfl rfl rfl rfl) rfl ?_; refine za (qq L rfl rfl rfl rfl rfl rfl rfl rfl) rfl ?_; refine zg ?_; refine zh ?_; refine zf ?_
              refine V_pub 10 rfl ?_
              refine zd (id := 9) ?_; refine za (zb rfl rfl rfl) rfl ?_; refine za (qf rfl rfl rfl rfl (decide_eq_false (by omega))) rfl ?_; refine za (zb rfl rfl rfl) rfl ?_; refine za (zk L rfl rfl rfl rfl) rfl ?_; refine za (zl L (zn rfl) rfl rfl rfl rfl) rfl ?_; refine za (zb rfl rfl rfl) rfl ?_; refine za (qf rfl rfl rfl rfl (decide_eq_true (by omega))) rfl ?_; refine za (zm rfl rfl rfl rfl) rfl ?_; refine za (zb rfl rfl rfl) rfl ?_; refine za (zb rfl rfl rfl) rfl ?_; refine za (qf rfl rfl rfl rfl (decide_eq_false (by omega))) rfl ?_; refine za (zb rfl rfl rfl) rfl ?_; refine za (zk L rfl rfl rfl rfl) rfl ?_; refine za (zl L (zn rfl) rfl rfl rfl rfl) rfl ?_; refine za (zb rfl rfl rfl) rfl ?_; refine za (qf rfl rfl rfl rfl (decide_eq_false (by omega))) rfl ?_; refine za (zm rfl rfl rfl rfl) rfl ?_; refine za (zm rfl rfl rfl rfl) rfl ?_; refine zg ?_; refine zh ?_; refine zo rfl ?_; refine zt ?_; refine qo ?_; refine zh ?_; refine zd (id := 7) ?_; refine za (zb rfl rfl rfl) rfl ?_; refine za (q9 rfl rfl rfl rfl (wrap_i64 (by omega) (by omega))) rfl ?_; refine za (ze rfl rfl rfl) rfl ?_; refine zg ?_
              exact qp (x := k) (k + 1) hkl (by omega) ⟨rfl, rfl, rfl, by rw [h3]; rfl, rfl, rfl, trivial⟩
        · have hpx : ¬ (p x = true) := by rw [hp]; exact fun h => absurd (of_decide_eq_true h) (fun h => h.1.elim c0 c1)
          rw [if_neg hpx] at h3
          refine zf ?_; refine zf ?_; refine zd (id := 6) ?_; refine za (zb rfl rfl rfl) rfl ?_; refine za (zk L rfl rfl rfl rfl) rfl ?_; refine za (StepOK.seeV (zl L (zn rfl) rfl rfl rfl rfl) (by assumption)) rfl ?_; refine za (zb rfl rfl rfl) rfl ?_; refine za (qb L _ rfl rfl rfl rfl rfl rfl rfl (by first | omega | decide) (by assumption)) rfl ?_; refine za (qk L rfl rfl rfl rfl) rfl ?_; refine za (StepOK.seeV (qn L rfl rfl rfl rfl rfl) (by assumption)) rfl ?_; refine za (y0 L rfl rfl rfl rfl) rfl ?_; refine za (zw rfl rfl rfl rfl (decide_eq_true (by omega))) rfl ?_; refine zg ?_; refine zh ?_; refine zx rfl ?_; refine zt ?_; refine zh ?_; refine zf ?_; refine zz ?_; refine zf ?_; refine zd (id := 8) ?_; refine za (zk L rfl rfl rfl rfl) rfl ?_; refine za (StepOK.seeV (zl L (zn rfl) rfl rfl rfl rfl) (by assumption)) rfl ?_; refine za (zb rfl rfl rfl) rfl ?_; refine za (qb L _ rfl rfl rfl rfl rfl rfl rfl (by first | omega | decide) (by assumption)) rfl ?_; refine za (qk L rfl rfl rfl rfl) rfl ?_; refine za (StepOK.seeV (qn L rfl rfl rfl rfl rfl) (by assumption)) rfl ?_; refine za (zb rfl rfl rfl) rfl ?_; refine za (qb L _ rfl rfl rfl rfl rfl rfl rfl (by first | omega | decide) (by assumption)) rfl ?_; refine za (ok_loadPA L (vs := [_, _, _, _, _]) rfl rfl rfl rfl rfl ⟨_, rfl⟩) rfl ?_; refine za (qt L rfl rfl rfl rfl) rfl ?_; refine za (qq L rfl rfl rfl rfl rfl rfl rfl rfl) rfl ?_; refine zg ?_; refine zh ?_; refine zf ?_
          refine V_pub 10 rfl ?_
          refine zd (id := 9) ?_; refine za (zb rfl rfl rfl) rfl ?_; refine za (qf rfl rfl rfl rfl (decide_eq_false (by omega))) rfl ?_; refine za (zb rfl rfl rfl) rfl ?_; refine za (zk L rfl rfl rfl rfl) rfl ?_; refine za (zl L (zn rfl) rfl rfl rfl rfl) rfl ?_; refine za (zb rfl rfl rfl) rfl ?_; refine za (qf rfl rfl rfl rfl (decide_eq_false (by omega))) rfl ?_; refine za (zm rfl rfl rfl rfl) rfl ?_; refine za (zb rfl rfl rfl) rfl ?_; refine za (zj rfl (zi rfl) rfl) rfl ?_; refine za (zj rfl (zi rfl) rfl) rfl ?_; refine za (zj rfl (zi rfl) rfl) rfl ?_; refine za (zj rfl (zi rfl) rfl) rfl ?_; refine za (zj rfl (zi rfl) rfl) rfl ?_; refine za (zj rfl (zi rfl) rfl) rfl ?_; refine za (zj rfl (zi rfl) rfl) rfl ?_; refine za (zj rfl (zi rfl) rfl) rfl ?_; refine za (zm rfl rfl rfl rfl) rfl ?_; refine zg ?_; refine zh ?_; refine zo rfl ?_; refine zt ?_; refine qo ?_; refine zh ?_; refine zd (id := 7) ?_; refine za (zb rfl rfl rfl) rfl ?_; refine za (q9 rfl rfl rfl rfl (wrap_i64 (by omega) (by omega))) rfl ?_; refine za (ze rfl rfl rfl) rfl ?_; refine zg ?_
          exact qp (x := k) (k + 1) hkl (by omega) ⟨rfl, rfl, rfl, by rw [h3]; rfl, rfl, rfl, trivial⟩
    · obtain rfl : k = f.is.length := by omega
      rw [List.take_length, ← h1]
      refine zf ?_; refine zf ?_; refine zd (id := 6) ?_; refine za (zb rfl rfl rfl) rfl ?_; refine za (zk L rfl rfl rfl rfl) rfl ?_; refine za (StepOK.seeV (zl L (zn rfl) rfl rfl rfl rfl) (by assumption)) rfl ?_; refine za (zb rfl rfl rfl) rfl ?_; refine za (qb L _ rfl rfl rfl rfl rfl rfl rfl (by first | omega | decide) (by assumption)) rfl ?_; refine za (qk L rfl rfl rfl rfl) rfl ?_; refine za (StepOK.seeV (qn L rfl rfl rfl rfl rfl) (by assumption)) rfl ?_; refine za (y0 L rfl rfl rfl rfl) rfl ?_; refine za (zw rfl rfl rfl rfl (decide_eq_false (by omega))) rfl ?_; refine zg ?_; refine zh ?_; refine zo rfl ?_; refine y3 ?_; refine qe ?_; refine qe ?_; refine y2 ?_; refine qo ?_; refine zh ?_; refine zd (id := 4) ?_; refine za (zb rfl rfl rfl) rfl ?_; refine za (q9 rfl rfl rfl rfl (wrap_i64 (by omega) (by omega))) rfl ?_; refine za (ze rfl rfl rfl) rfl ?_; refine zg ?_
      exact qp (x := i) (i + 1) hlt (by omega) ⟨rfl, rfl, rfl, rfl, rfl, trivial⟩
  · obtain rfl : i = zs.length := by omega
    rw [hlen, List.take_length]
    refine zf ?_; refine zf ?_; refine zd (id := 3) ?_; refine za (zb rfl rfl rfl) rfl ?_; refine za (zk L rfl rfl rfl rfl) rfl ?_; refine za (StepOK.seeV (zl L (zn rfl) rfl rfl rfl rfl) (by assumption)) rfl ?_; refine za (y0 L rfl rfl rfl rfl) rfl ?_; refine za (zw rfl rfl rfl rfl (decide_eq_false (by omega))) rfl ?_; refine zg ?_; refine zh ?_; refine zo rfl ?_; refine y3 ?_; refine qe ?_; refine qe ?_; refine y2 ?_; refine zh ?_; refine zf ?_; refine zd (id := 11) ?_; refine za (zb rfl rfl rfl) rfl ?_; refine za (ze rfl rfl rfl) rfl ?_; refine zg ?_; refine zh ?_
    refine qh L (rs := [.tmp 6]) rfl (fun _ _ h => h) Since.refl fun u H hH hle => ?_
    rfl
end Go.V.L39
namespace Go.V
open Go.Proofs Go.RowKit
attribute [local irreducible] V N X VO Par StepOK Has Ret RetL Src
theorem id_ret (n : Nat) {w : World} {B : Heap} (hB : B.Le (hp w)) : Ret Try.prog 56 [.int .i64 n] w B (fun v _ => v = .string (idS n)) := by
  unfold idS
  have e : Int.tmod (n : Int) 5 = ((n % 5 : Nat) : Int) := rfl
  refine y6 Try.func56 rfl Try.ntmps56 (Nat.le_of_ble_eq_true rfl) hB ?_
  have hlt := Nat.mod_lt n (show 0 < 5 by decide)
  rcases (by omega : n % 5 = 0 ∨ n % 5 = 1 ∨ n % 5 = 2 ∨ n % 5 = 3 ∨ n % 5 = 4) with h | h | h | h | h
  · have e0 : Int.tmod (n : Int) 5 = 0 := by rw [e, h]; rfl
    rw [h]
    refine zf ?_; refine zd (id := 0) ?_; refine za (ze rfl rfl rfl) rfl ?_; refine zg ?_; refine zh ?_; refine zf ?_; refine zd (id := 1) ?_; refine za (y7 L rfl rfl rfl rfl rfl rfl rfl rfl rfl) rfl ?_; refine za (zb rfl rfl rfl) rfl ?_; refine za (ok_rem rfl rfl rfl rfl (by omega) (by assumption)) rfl ?_; refine za (y8 L 0 rfl rfl rfl rfl rfl rfl rfl (by omega)) rfl ?_; refine za (zl L (zn rfl) rfl rfl rfl rfl) rfl ?_; refine za (ze rfl rfl rfl) rfl ?_; refine zg ?_; refine zh ?_
    refine qh L (rs := [.tmp 2]) rfl (fun _ _ h => h) Since.refl fun u H hH hle => ?_
    rfl
  · have e0 : Int.tmod (n : Int) 5 = 1 := by rw [e, h]; rfl
    rw [h]
    refine zf ?_; refine zd (id := 0) ?_; refine za (ze rfl rfl rfl) rfl ?_; refine zg ?_; refine zh ?_; refine zf ?_; refine zd (id := 1) ?_; refine za (y7 L rfl rfl rfl rfl rfl rfl rfl rfl rfl) rfl ?_; refine za (zb rfl rfl rfl) rfl ?_; refine za (ok_rem rfl rfl rfl rfl (by omega) (by assumption)) rfl ?_; refine za (y8 L 1 rfl rfl rfl rfl rfl rfl rfl (by omega)) rfl ?_; refine za (zl L (zn rfl) rfl rfl rfl rfl) rfl ?_; refine za (ze rfl rfl rfl) rfl ?_; refine zg ?_; refine zh ?_
    refine qh L (rs := [.tmp 2]) rfl (fun _ _ h => h) Since.refl fun u H hH hle => ?_
    rfl
  · have e0 : Int.tmod (n : Int) 5 = 2 := by rw [e, h]; rfl
    rw [h]
    refine zf ?_; refine zd (id := 0) ?_; refine za (ze rfl rfl rfl) rfl ?_; refine zg ?_; refine zh ?_; refine zf ?_; refine zd (id := 1) ?_; refine za (y7 L rfl rfl rfl rfl rfl rfl rfl rfl rfl) rfl ?_; refine za (zb rfl rfl rfl) rfl ?_; refine za (ok_rem rfl rfl rfl rfl (by omega) (by assumption)) rfl ?_; refine za (y8 L 2 rfl rfl rfl rfl rfl rfl rfl (by omega)) rfl ?_; refine za (zl L (zn rfl) rfl rfl rfl rfl) rfl ?_; refine za (ze rfl rfl rfl) rfl ?_; refine zg ?_; refine zh ?_
    refine qh L (rs := [.tmp 2]) rfl (fun _ _ h => h) Since.refl fun u H hH hle => ?_
    rfl
  · have e0 : Int.tmod (n : Int) 5 = 3 := by rw [e, h]; rfl
    rw [h]
    refine zf ?_; refine zd (id := 0) ?_; refine za (ze rfl rfl rfl) rfl ?_; refine zg ?_; refine zh ?_; refine zf ?_; refine zd (id := 1) ?_; refine za (y7 L rfl rfl rfl rfl rfl rfl rfl rfl rfl) rfl ?_; refine za (zb rfl rfl rfl) rfl ?_; refine za (ok_rem rfl rfl rfl rfl (by omega) (by assumption)) rfl ?_; refine za (y8 L 3 rfl rfl rfl rfl rfl rfl rfl (by omega)) rfl ?_; refine za (zl L (zn rfl) rfl rfl rfl rfl) rfl ?_; refine za (ze rfl rfl rfl) rfl ?_; refine zg ?_; refine zh ?_
    refine qh L (rs := [.tmp 2]) rfl (fun _ _ h => h) Since.refl fun u H hH hle => ?_
    rfl
  · have e0 : Int.tmod (n : Int) 5 = 4 := by rw [e, h]; rfl
    rw [h]
    refine zf ?_; refine zd (id := 0) ?_; refine za (ze rfl rfl rfl) rfl ?_; refine zg ?_; refine zh ?_; refine zf ?_; refine zd (id := 1) ?_; refine za (y7 L rfl rfl rfl rfl rfl rfl rfl rfl rfl) rfl ?_; refine za (zb rfl rfl rfl) rfl ?_; refine za (ok_rem rfl rfl rfl rfl (by omega) (by assumption)) rfl ?_; refine za (y8 L 4 rfl rfl rfl rfl rfl rfl rfl (by omega)) rfl ?_; refine za (zl L (zn rfl) rfl rfl rfl rfl) rfl ?_; refine za (ze rfl rfl rfl) rfl ?_; refine zg ?_; refine zh ?_
    refine qh L (rs := [.tmp 2]) rfl (fun _ _ h => h) Since.refl fun u H hH hle => ?_
    rfl
theorem rel_ret (n : Nat) {w : World} {B : Heap} (hB : B.Le (hp w)) : Ret Try.prog 57 [.int .i64 n] w B (fun v _ => v = .string (relS n)) := by
  unfold relS
  have e : Int.tmod (n : Int) 4 = ((n % 4 : Nat) : Int) := rfl
  refine y6 Try.func57 rfl Try.ntmps57 (Nat.le_of_ble_eq_true rfl) hB ?_
  have hlt := Nat.mod_lt n (show 0 < 4 by decide)
  rcases (by omega : n % 4 = 0 ∨ n % 4 = 1 ∨ n % 4 = 2 ∨ n % 4 = 3) with h | h | h | h
  · have e0 : Int.tmod (n : Int) 4 = 0 := by rw [e, h]; rfl
    rw [h]
    refine zf ?_; refine zd (id := 0) ?_; refine za (ze rfl rfl rfl) rfl ?_; refine zg ?_; refine zh ?_; refine zf ?_; refine zd (id := 1) ?_; refine za (y7 L rfl rfl rfl rfl rfl rfl rfl rfl rfl) rfl ?_; refine za (zb rfl rfl rfl) rfl ?_; refine za (ok_rem rfl rfl rfl rfl (by omega) (by assumption)) rfl ?_; refine za (y8 L 0 rfl rfl rfl rfl rfl rfl rfl (by omega)) rfl ?_; refine za (zl L (zn rfl) rfl rfl rfl rfl) rfl ?_; refine za (ze rfl rfl rfl) rfl ?_; refine zg ?_; refine zh ?_
    refine qh L (rs := [.tmp 2]) rfl (fun _ _ h => h) Since.refl fun u H hH hle => ?_
    rfl
  · have e0 : Int.tmod (n : Int) 4 = 1 := by rw [e, h]; rfl
    rw [h]
    refine zf ?_; refine zd (id := 0) ?_; refine za (ze rfl rfl rfl) rfl ?_; refine zg ?_; refine zh ?_; refine zf ?_; refine zd (id := 1) ?_; refine za (y7 L rfl rfl rfl rfl rfl rfl rfl rfl rfl) rfl ?_; refine za (zb rfl rfl rfl) rfl ?_; refine za (ok_rem rfl rfl rfl rfl (by omega) (by assumption)) rfl ?_; refine za (y8 L 1 rfl rfl rfl rfl rfl rfl rfl (by omega)) rfl ?_; refine za (zl L (zn rfl) rfl rfl rfl rfl) rfl ?_; refine za (ze rfl rfl rfl) rfl ?_; refine zg ?_; refine zh ?_
    refine qh L (rs := [.tmp 2]) rfl (fun _ _ h => h) Since.refl fun u H hH hle => ?_
    rfl
  · have e0 : Int.tmod (n : Int) 4 = 2 := by rw [e, h]; rfl
    rw [h]
    refine zf ?_; refine zd (id := 0) ?_; refine za (ze rfl rfl rfl) rfl ?_; refine zg ?_; refine zh ?_; refine zf ?_; refine zd (id := 1) ?_; refine za (y7 L rfl rfl rfl rfl rfl rfl rfl rfl rfl) rfl ?_; refine za (zb rfl rfl rfl) rfl ?_; refine za (ok_rem rfl rfl rfl rfl (by omega) (by assumption)) rfl ?_; refine za (y8 L 2 rfl rfl rfl rfl rfl rfl rfl (by omega)) rfl ?_; refine za (zl L (zn rfl) rfl rfl rfl rfl) rfl ?_; refine za (ze rfl rfl rfl) rfl ?_; refine zg ?_; refine zh ?_
    refine qh L (rs := [.tmp 2]) rfl (fun _ _ h => h) Since.refl fun u H hH hle => ?_
    rfl
  · have e0 : Int.tmod (n : Int) 4 = 3 := by rw [e, h]; rfl
    rw [h]
    refine zf ?_; refine zd (id := 0) ?_; refine za (ze rfl rfl rfl) rfl ?_; refine zg ?_; refine zh ?_; refine zf ?_; refine zd (id := 1) ?_; refine za (y7 L rfl rfl rfl rfl rfl rfl rfl rfl rfl) rfl ?_; refine za (zb rfl rfl rfl) rfl ?_; refine za (ok_rem rfl rfl rfl rfl (by omega) (by assumption)) rfl ?_; refine za (y8 L 3 rfl rfl rfl rfl rfl rfl rfl (by omega)) rfl ?_; refine za (zl L (zn rfl) rfl rfl rfl rfl) rfl ?_; refine za (ze rfl rfl rfl) rfl ?_; refine zg ?_; refine zh ?_
    refine qh L (rs := [.tmp 2]) rfl (fun _ _ h => h) Since.refl fun u H hH hle => ?_
    rfl
end Go.V
namespace Go.V.L39
open Go.Proofs Go.RowKit Go.V
attribute [local irreducible] V N X VO Par StepOK Has Ret RetL RetO RetT RetG Src
theorem query_law {n : Nat} (hn : n ≤ 255) {w : World} {B : Heap} (hB : B.Le (hp w)) : Ret Try.prog 26 [.int .u8 n] w B (fun v _ => v = quv (qS n)) := by
  have e6 : Int.tmod (n : Int) 6 = ((n % 6 : Nat) : Int) := rfl
  have e2 : Int.tmod (n : Int) 2 = ((n % 2 : Nat) : Int) := rfl
  have hlt := Nat.mod_lt n (show 0 < 6 by decide)
  have hlt2 := Nat.mod_lt n (show 0 < 2 by decide)
  unfold qS
  generalize n % 6 = m at e6 hlt
  generalize n % 2 = s at e2 hlt2
  have q1 : (m : Int).tdiv 2 = ((m / 2 : Nat) : Int) := rfl
  have d1 : IntKind.i64.wrap ((m : Int).tdiv 2) = ((m / 2 : Nat) : Int) := wrap_i64 (by omega) (by omega)
  refine y6 Try.func26 rfl Try.ntmps26 (Nat.le_of_ble_eq_true rfl) hB ?_
  by_cases h : 3 < m
  · rw [if_pos h]
    refine zf ?_; refine zd (id := 0) ?_; refine za (qt L rfl rfl rfl rfl) rfl ?_; refine zg ?_; refine zh ?_; refine zf ?_; refine zd (id := 1) ?_; refine za (zb rfl rfl rfl) rfl ?_; refine za (ok_rem rfl rfl rfl rfl (by omega) (by assumption)) rfl ?_; refine za (ok_conv rfl rfl rfl cv5_3.1 cv5_3.2 (wrap_i64 (by omega) (by omega))) rfl ?_; refine za (ok_quo rfl rfl rfl rfl (by omega) (by assumption)) rfl ?_; refine za (zq L rfl rfl (zi rfl) rfl rfl rfl (fun u H hH _ _ => id_ret _ hH)) rfl ?_; refine za (yb (cs := [_, _]) rfl rfl pl26 rfl rfl) rfl ?_; refine za (yb (cs := [_, _, _]) rfl rfl pl28 rfl rfl) rfl ?_; refine za (zb rfl rfl rfl) rfl ?_; refine za (ok_rem rfl rfl rfl rfl (by omega) (by assumption)) rfl ?_; refine za (ok_conv rfl rfl rfl cv5_3.1 cv5_3.2 (wrap_i64 (by omega) (by omega))) rfl ?_; refine za (zq L rfl rfl (zi rfl) rfl rfl rfl (fun u H hH _ _ => id_ret _ hH)) rfl ?_; refine za (yb (cs := [_, _]) rfl rfl pl26 rfl rfl) rfl ?_; refine za (yb (cs := [_, _, _, _, _, _]) rfl rfl pl30 rfl rfl) rfl ?_; refine za (qt L rfl rfl rfl rfl) rfl ?_; refine za (qq L rfl rfl rfl rfl rfl rfl rfl rfl) rfl ?_; refine zg ?_; refine zh ?_; refine zf ?_; refine zf ?_; refine zd (id := 2) ?_; refine za (zb rfl rfl rfl) rfl ?_; refine za (ok_rem rfl rfl rfl rfl (by omega) (by assumption)) rfl ?_; refine za (qm rfl rfl rfl rfl (decide_eq_true (by omega))) rfl ?_; refine zg ?_; refine zh ?_; refine zx rfl ?_; refine zf ?_
    refine V_box 3 rfl fun b3 hb3 => ?_
    refine zd (id := 3) ?_; refine za (y9 L rfl rfl rfl rfl) rfl ?_; refine box_store L (O1 := []) rfl rfl rfl rfl rfl rfl rfl rfl rfl ?_; refine zg ?_; refine zh ?_; refine zf ?_; refine zd (id := 4) ?_; refine za (zb rfl rfl rfl) rfl ?_; refine za (ok_rem rfl rfl rfl rfl (by omega) (by assumption)) rfl ?_; refine za (ok_conv rfl rfl rfl cv5_3.1 cv5_3.2 (wrap_i64 (by omega) (by omega))) rfl ?_; refine za (zq L rfl rfl (zi rfl) rfl rfl rfl (fun u H hH _ _ => rel_ret _ hH)) rfl ?_; refine za (y9 L rfl rfl rfl rfl) rfl ?_; refine za (y9 L rfl rfl rfl rfl) rfl ?_; refine box_store L (O1 := []) rfl rfl rfl rfl rfl rfl rfl rfl rfl ?_; refine zg ?_; refine zh ?_; refine zd (id := 5) ?_; refine za (yb (cs := [_, _]) rfl rfl pl26 rfl rfl) rfl ?_; refine za (y9 L rfl rfl rfl rfl) rfl ?_; refine box_store L (O1 := []) rfl rfl rfl rfl rfl rfl rfl rfl rfl ?_; refine zg ?_; refine zh ?_; refine zf ?_; refine zd (id := 6) ?_; refine za (zu L (vs := [_, _, _, _, _, _]) (src_box rfl (List.Mem.head _)) rfl rfl rfl rfl ⟨_, rfl⟩) rfl ?_; refine za (qq L rfl rfl rfl rfl rfl rfl rfl rfl) rfl ?_; refine zg ?_; refine zh ?_
    refine qh L (rs := [.cell 2 30]) rfl (fun _ _ h => h) Since.refl fun u H hH hle => ?_
    refine resK_cellA (qw rfl) rfl rfl ?_
    rfl
  · rw [if_neg h]
    refine zf ?_; refine zd (id := 0) ?_; refine za (qt L rfl rfl rfl rfl) rfl ?_; refine zg ?_; refine zh ?_; refine zf ?_; refine zd (id := 1) ?_; refine za (zb rfl rfl rfl) rfl ?_; refine za (ok_rem rfl rfl rfl rfl (by omega) (by assumption)) rfl ?_; refine za (ok_conv rfl rfl rfl cv5_3.1 cv5_3.2 (wrap_i64 (by omega) (by omega))) rfl ?_; refine za (ok_quo rfl rfl rfl rfl (by omega) (by assumption)) rfl ?_; refine za (zq L rfl rfl (zi rfl) rfl rfl rfl (fun u H hH _ _ => id_ret _ hH)) rfl ?_; refine za (yb (cs := [_, _]) rfl rfl pl26 rfl rfl) rfl ?_; refine za (yb (cs := [_, _, _]) rfl rfl pl28 rfl rfl) rfl ?_; refine za (zb rfl rfl rfl) rfl ?_; refine za (ok_rem rfl rfl rfl rfl (by omega) (by assumption)) rfl ?_; refine za (ok_conv rfl rfl rfl cv5_3.1 cv5_3.2 (wrap_i64 (by omega) (by omega))) rfl ?_; refine za (zq L rfl rfl (zi rfl) rfl rfl rfl (fun u H hH _ _ => id_ret _ hH)) rfl ?_; refine za (yb (cs := [_, _]) rfl rfl pl26 rfl rfl) rfl ?_; refine za (yb (cs := [_, _, _, _, _, _]) rfl rfl pl30 rfl rfl) rfl ?_; refine za (qt L rfl rfl rfl rfl) rfl ?_; refine za (qq L rfl rfl rfl rfl rfl rfl rfl rfl) rfl ?_; refine zg ?_; refine zh ?_; refine zf ?_; refine zf ?_; refine zd (id := 2) ?_; refine za (zb rfl rfl rfl) rfl ?_; refine za (ok_rem rfl rfl rfl rfl (by omega) (by assumption)) rfl ?_; refine za (qm rfl rfl rfl rfl (decide_eq_false (by omega))) rfl ?_; refine zg ?_; refine zh ?_; refine zo rfl ?_; refine zt ?_; refine zh ?_; refine zf ?_; refine zd (id := 6) ?_; refine za (zu L (vs := [_, _, _, _, _, _]) (qw rfl) rfl rfl rfl rfl ⟨_, rfl⟩) rfl ?_; refine za (qq L rfl rfl rfl rfl rfl rfl rfl rfl) rfl ?_; refine zg ?_; refine zh ?_
    refine qh L (rs := [.cell 2 30]) rfl (fun _ _ h => h) Since.refl fun u H hH hle => ?_
    refine resK_cellA (qw rfl) rfl rfl ?_
    rfl
theorem pair_law {w : World} {B : Heap} (hB : B.Le (hp w)) : Ret Try.prog 32 [] w B (fun v _ => v = .tuple #[quv (qS 0), quv (qS 1)]) := by
  refine y6 Try.func32 rfl Try.ntmps32 (Nat.le_of_ble_eq_true rfl) hB ?_
  refine zf ?_; refine zd (id := 0) ?_; refine za (qt L rfl rfl rfl rfl) rfl ?_; refine za (qt L rfl rfl rfl rfl) rfl ?_; refine zg ?_; refine zh ?_; refine zf ?_; refine zd (id := 1) ?_; refine za (zq L rfl rfl (zi rfl) rfl rfl rfl (fun u H hH _ _ => query_law (n := _) (by decide) hH)) rfl ?_; refine za (zq L rfl rfl (zi rfl) rfl rfl rfl (fun u H hH _ _ => query_law (n := _) (by decide) hH)) rfl ?_; refine za (qq L rfl rfl rfl rfl rfl rfl rfl rfl) rfl ?_; refine za (qq L rfl rfl rfl rfl rfl rfl rfl rfl) rfl ?_; refine zg ?_; refine zh ?_
  refine qh L (rs := [.cell 0 30, .cell 1 30]) rfl (fun _ _ h => h) Since.refl fun u H hH hle => ?_
  refine resK_cellA (qw rfl) rfl rfl ?_
  refine resK_cellA (qw rfl) rfl rfl ?_
  rfl
def bndB (t : Tb) : Bool := decide (t.fl.length ≤ 30 ∧ itsN t.fl ≤ 60)
theorem bounded_law {t : Tb} {zs : List (Fl × Value)} (hz : zs.map Prod.fst = t.fl) {fu fi : Bool} {s : Value} {b : Bool} (hb : bndB t = b) {w : World} {B : Heap} (hs : FsB zs fu fi s B) (hn : itsN t.fl ≤ 9223372036854775807) (hB : B.Le (hp w)) :
    Ret Try.prog 9 [tbv t.nx s] w B (fun v _ => v = .bool b) := by
  have hsl := hs.sl
  have hlen := fls_len hz
  have hzl := hs.ln
  unfold bndB at hb
  refine y6 Try.func9 rfl Try.ntmps9 (Nat.le_of_ble_eq_true rfl) hB ?_
  by_cases h1 : zs.length ≤ 30
  · by_cases h2 : itsN t.fl ≤ 60
    · obtain rfl : b = true := by rw [← hb]; exact decide_eq_true ⟨by omega, h2⟩
      refine zf ?_; refine zd (id := 0) ?_; refine za (qz rfl rfl rfl rfl) rfl ?_; refine za (ze rfl rfl rfl) rfl ?_; refine zg ?_; refine zh ?_; refine zf ?_; refine zd (id := 1) ?_; refine za (zk L rfl rfl rfl rfl) rfl ?_; refine za (StepOK.seeV (zl L (zn rfl) rfl rfl rfl rfl) (by assumption)) rfl ?_; refine za (y0 L rfl rfl rfl rfl) rfl ?_; refine za (ok_leq rfl rfl rfl rfl (decide_eq_true (by omega))) rfl ?_; refine za (zb rfl rfl rfl) rfl ?_; refine za (zu L (vs := [_, _]) (zn rfl) rfl rfl rfl rfl ⟨_, rfl⟩) rfl ?_; refine za (zq L rfl rfl (zi rfl) rfl rfl rfl (fun u H hH hle _ => ritems_ret hz (hs.le hle) hn hH)) rfl ?_; refine za (ok_leq rfl rfl rfl rfl (decide_eq_true (by omega))) rfl ?_; refine za (zm rfl rfl rfl rfl) rfl ?_; refine za (ze rfl rfl rfl) rfl ?_; refine zg ?_; refine zh ?_
      refine qh L (rs := [.tmp 2]) rfl (fun _ _ h => h) Since.refl fun u H hH hle => ?_
      rfl
    · obtain rfl : b = false := by rw [← hb]; exact decide_eq_false fun h => h2 h.2
      refine zf ?_; refine zd (id := 0) ?_; refine za (qz rfl rfl rfl rfl) rfl ?_; refine za (ze rfl rfl rfl) rfl ?_; refine zg ?_; refine zh ?_; refine zf ?_; refine zd (id := 1) ?_; refine za (zk L rfl rfl rfl rfl) rfl ?_; refine za (StepOK.seeV (zl L (zn rfl) rfl rfl rfl rfl) (by assumption)) rfl ?_; refine za (y0 L rfl rfl rfl rfl) rfl ?_; refine za (ok_leq rfl rfl rfl rfl (decide_eq_true (by omega))) rfl ?_; refine za (zb rfl rfl rfl) rfl ?_; refine za (zu L (vs := [_, _]) (zn rfl) rfl rfl rfl rfl ⟨_, rfl⟩) rfl ?_; refine za (zq L rfl rfl (zi rfl) rfl rfl rfl (fun u H hH hle _ => ritems_ret hz (hs.le hle) hn hH)) rfl ?_; refine za (ok_leq rfl rfl rfl rfl (decide_eq_false (by omega))) rfl ?_; refine za (zm rfl rfl rfl rfl) rfl ?_; refine za (ze rfl rfl rfl) rfl ?_; refine zg ?_; refine zh ?_
      refine qh L (rs := [.tmp 2]) rfl (fun _ _ h => h) Since.refl fun u H hH hle => ?_
      rfl
  · obtain rfl : b = false := by rw [← hb]; exact decide_eq_false fun h => h1 (by omega)
    refine zf ?_; refine zd (id := 0) ?_; refine za (qz rfl rfl rfl rfl) rfl ?_; refine za (ze rfl rfl rfl) rfl ?_; refine zg ?_; refine zh ?_; refine zf ?_; refine zd (id := 1) ?_; refine za (zk L rfl rfl rfl rfl) rfl ?_; refine za (StepOK.seeV (zl L (zn rfl) rfl rfl rfl rfl) (by assumption)) rfl ?_; refine za (y0 L rfl rfl rfl rfl) rfl ?_; refine za (ok_leq rfl rfl rfl rfl (decide_eq_false (by omega))) rfl ?_; refine za (zb rfl rfl rfl) rfl ?_; refine za (zj rfl (zi rfl) rfl) rfl ?_; refine za (zj rfl (zi rfl) rfl) rfl ?_; refine za (zj rfl (zi rfl) rfl) rfl ?_; refine za (zm rfl rfl rfl rfl) rfl ?_; refine za (ze rfl rfl rfl) rfl ?_; refine zg ?_; refine zh ?_
    refine qh L (rs := [.tmp 2]) rfl (fun _ _ h => h) Since.refl fun u H hH hle => ?_
    rfl
end Go.V.L39
namespace Go.V.L39
open Go.Proofs Go.RowKit Go.V
theorem FsB.nofu {zs : List (Fl × Value)} {fu fi : Bool} {s : Value} {B : Heap} (h : FsB zs fu fi s B) : FsB zs false false s B := ⟨h.sl.nofu, fun i z hz => (h.is i z hz).nofu, h.ln, h.li⟩
theorem qS_z (n : Nat) : QuZ (qS n) := by
  have hi := fun n => (idS_ok n).2
  have hr := fun n => (relS_ok n).2
  unfold qS
  split
  · exact ⟨⟨(by decide : (0 : Int) ≤ 2), (by decide : (2 : Int) ≤ 255)⟩, (by decide : ByteArray.size sDoc ≤ 9223372036854775807), by have := hi (n % 6 / 2); dsimp only; omega, by have := hr (n % 2); dsimp only; omega, (by decide : ByteArray.size U0.1 ≤ 9223372036854775807), (by decide : ByteArray.size U0.2 ≤ 9223372036854775807)⟩
  · exact ⟨⟨(by decide : (0 : Int) ≤ 1), (by decide : (1 : Int) ≤ 255)⟩, (by decide : ByteArray.size sDoc ≤ 9223372036854775807), by have := hi (n % 6 / 2); dsimp only; omega, (by decide : ByteArray.size sViewer ≤ 9223372036854775807), (by decide : ByteArray.size sUser ≤ 9223372036854775807), by have := hi (n % 2); dsimp only; omega⟩
theorem tup2 {φ1 φ2 : Value → Heap → Prop} {a b : Value} {H : Heap} (h1 : φ1 a H) (h2 : φ2 b H) : TupS [φ1, φ2] (.tuple #[a, b]) H := ⟨[a, b], rfl, rfl, fun i φ x hi hx => by
  match i with
  | 0 => cases hi; cases hx; exact h1
  | 1 => cases hi; cases hx; exact h2
  | i + 2 => cases hi⟩
theorem tup4 {φ1 φ2 φ3 φ4 : Value → Heap → Prop} {a b c d : Value} {H : Heap} (h1 : φ1 a H) (h2 : φ2 b H) (h3 : φ3 c H) (h4 : φ4 d H) : TupS [φ1, φ2, φ3, φ4] (.tuple #[a, b, c, d]) H := ⟨[a, b, c, d], rfl, rfl, fun i φ x hi hx => by
  match i with
  | 0 => cases hi; cases hx; exact h1
  | 1 => cases hi; cases hx; exact h2
  | 2 => cases hi; cases hx; exact h3
  | 3 => cases hi; cases hx; exact h4
  | i + 4 => cases hi⟩
theorem TbR.mn {t : Tb} : Kn.mono (.sat (TbR t)) := fun _ _ _ h hle => h.mono hle
theorem eqv_mono {c : Value} : Kn.mono (.sat fun v _ => v = c) := fun _ _ _ h _ => h
abbrev RTabS (t : Tb) (e : Int) : Value → Heap → Prop := TupS [TbR t, fun v _ => v = .int .i64 e]
theorem RTabS.mono {t : Tb} {e : Int} : Kn.mono (.sat (RTabS t e)) := TupS.mono fun φ h => by
  simp only [List.mem_cons, List.mem_nil_iff, or_false] at h
  rcases h with rfl | rfl
  · exact TbR.mn
  · exact eqv_mono
theorem RTabP.tup {t : Tb} {e : Int} {v : Value} {H : Heap} (h : RTabP t e v H) : RTabS t e v H := by
  obtain ⟨tv, rfl, h⟩ := h
  exact tup2 h rfl
abbrev RJoinS (r : Tb × Int × Bool) (e : Int) : Value → Heap → Prop := TupS [TbR r.1, fun v _ => v = .int .i64 r.2.1, fun v _ => v = .int .i64 (if r.2.2 = true then 1 else 0), fun v _ => v = .int .i64 e]
theorem RJoinS.mono {r : Tb × Int × Bool} {e : Int} : Kn.mono (.sat (RJoinS r e)) := TupS.mono fun φ h => by
  simp only [List.mem_cons, List.mem_nil_iff, or_false] at h
  rcases h with rfl | rfl | rfl | rfl
  · exact TbR.mn
  · exact eqv_mono
  · exact eqv_mono
  · exact eqv_mono
theorem RJoinP.tup {r : Tb × Int × Bool} {e : Int} {v : Value} {H : Heap} (h : RJoinP r e v H) : RJoinS r e v H := by
  obtain ⟨tv, rfl, h⟩ := h
  exact tup4 h rfl rfl rfl
abbrev SlX := Option Addr × Nat × Nat
def tbxC (t : Tb) (x : SlX) : List Value := [.int .i64 t.nx, .slice x.1 x.2.1 x.2.2]
def TbX (t : Tb) (x : SlX) (H : Heap) : Prop := ∃ zs, zs.map Prod.fst = t.fl ∧ FsB zs false false (.slice x.1 x.2.1 x.2.2) H
theorem TbX.mono {t : Tb} : MonoX (TbX t) := fun _ _ _ ⟨zs, h1, h2⟩ hle => ⟨zs, h1, h2.le hle⟩
theorem tbx_st {t : Tb} : ∀ v H, TbR t v H → ∃ x, TbX t x H ∧ cellsL v = tbxC t x := fun v H ⟨zs, s, h1, h2, h3⟩ => by
  obtain ⟨p, c, hsv⟩ := h3.shape
  subst h1 hsv
  exact ⟨(p, zs.length, c), ⟨zs, h2, h3⟩, rfl⟩
attribute [local irreducible] V N X VO Par StepOK Has Ret RetL RetO RetT RetG Src
end Go.V.L39
namespace Go.V.L39
open Go.Proofs Go.RowKit Go.V
def lvQ (i : Nat) : Qu := if i < 3 then qS 0 else qS 1
def lvI : Nat → It
  | 0 => ⟨0, 0, 0, 2, 1⟩
  | 1 => ⟨1, 0, 3, 1, 1⟩
  | 2 => ⟨2, 0, 0, 0, 2⟩
  | _ => ⟨2, 1, 0, 0, 1⟩
def lvT : Nat → Tb
  | 0 => T0
  | i + 1 => (joinT (lvT i) (lvQ i) (lvI i).rv (lvI i) 5 false).1
theorem lv_join : ∀ i, i < 4 → joinE (lvT i) (lvQ i) (lvI i).rv (lvI i) 5 false = 0 ∧ (joinT (lvT i) (lvQ i) (lvI i).rv (lvI i) 5 false).2 = ((([0, 0, 1, 2] : List Int)[i]?).getD 0, decide (i ≠ 1)) := by decide +kernel
def lvU : Tb := cmT (cmT (lvT 4) 0 7) 0 5
def lvV : Tb := ldT lvU 0
theorem lv_rest : plE (lvT 4) 0 = 0 ∧ cmE (lvT 4) 0 7 = 0 ∧ cmE (cmT (lvT 4) 0 7) 0 5 = 0 ∧ plE lvU 0 = 0 ∧ plE lvV 0 = 8 ∧ cmE (lvT 4) 1 (-1) = 4 := by decide +kernel
theorem lv_find : (findF (lvT 4) 0).cl = 0 ∧ (findF (lvT 4) 0).cs = 1 ∧ (findF (lvT 4) 0).si = 5 ∧ (findF lvU 0).ve = 2 ∧ (findF lvU 0).sp = 12 ∧ (findF lvU 0).is.length = 2 := by decide +kernel
theorem lv_ends : joinE lvV (qS 0) 1 ⟨3, 0, 1, 0, 1⟩ 5 true = 0 ∧ (joinT lvV (qS 0) 1 ⟨3, 0, 1, 0, 1⟩ 5 true).2 = (1, false) ∧ joinE (lvT 1) (qS 0) 1 (lvI 0) 4 false = 4 ∧ joinE (lvT 4) ⟨0, ((⟨#[]⟩, ⟨#[]⟩), ⟨#[]⟩), U0⟩ 1 (lvI 0) 5 false = 10 := by decide +kernel
end Go.V.L39
namespace Go.V.L39
open Go.Proofs Go.RowKit Go.V
abbrev tyP : TypeId := 74
attribute [local irreducible] V N X VO Par StepOK Has Ret RetL RetO RetT RetG Src
set_option maxRecDepth 20000 in
theorem growP_ret {n : Nat} (hn : n ≤ 100000) {w : World} {B : Heap} (hB : B.Le (hp w)) : RetO Try.prog 100 [.slice none 0 0, .int .i64 n] w B (SlR tyP 2 0 []) := by
  refine V_enterO Try.func100 rfl Try.ntmps100 (Nat.le_of_ble_eq_true rfl) hB ?_
  have hs : IntKind.i64.wrap ((n : Int) - 0) = (n : Int) := wrap_i64 (by omega) (by omega) |>.trans (by omega)
  by_cases h0 : 0 < n
  · refine zf ?_; refine zd (id := 0) ?_; refine za (ze rfl rfl rfl) rfl ?_; refine zg ?_; refine zh ?_; refine zf ?_; refine zf ?_; refine zd (id := 1) ?_; refine za (zb rfl rfl rfl) rfl ?_; refine za (zw rfl rfl rfl rfl (decide_eq_false (by omega))) rfl ?_; refine zg ?_; refine zh ?_; refine zo rfl ?_; refine zt ?_; refine zh ?_; refine zf ?_; refine zf ?_; refine zd (id := 3) ?_; refine za (zb rfl rfl rfl) rfl ?_; refine za (zb rfl rfl rfl) rfl ?_; refine za (ok_capL L rfl rfl rfl rfl) rfl ?_; refine za (zb rfl rfl rfl) rfl ?_; refine za (ok_lenL L rfl rfl rfl rfl) rfl ?_; refine za (qs rfl rfl rfl rfl (wrap_i64 (by omega) (by omega))) rfl ?_; refine za (qs rfl rfl rfl rfl (by assumption)) rfl ?_; refine za (ze rfl rfl rfl) rfl ?_; refine zg ?_; refine zh ?_; refine zf ?_; refine zd (id := 4) ?_; refine za (zb rfl rfl rfl) rfl ?_; refine za (qm rfl rfl rfl rfl (decide_eq_true (by omega))) rfl ?_; refine zg ?_; refine zh ?_; refine zx rfl ?_; refine zd (id := 5) ?_; refine za (zb rfl rfl rfl) rfl ?_; refine za (zb rfl rfl rfl) rfl ?_; refine za (ok_capL L rfl rfl rfl rfl) rfl ?_; refine za (ok_sliceN L 0 rfl rfl rfl rfl rfl rfl rfl) rfl ?_; refine za (zb rfl rfl rfl) rfl ?_; refine za (ok_appendM L rfl rfl rfl rfl rfl Try.underlying3 el74 h0 (by omega) (by omega)) rfl ?_; refine za (zb rfl rfl rfl) rfl ?_; refine za (ok_lenL L rfl rfl rfl rfl) rfl ?_; refine qd (ok_slice0 L 0 rfl h0 rfl rfl rfl rfl rfl rfl) ?_; refine qd (ya (.inr rfl) rfl rfl rfl rfl) ?_; refine zg ?_; refine zh ?_; refine zf ?_; refine zd (id := 6) ?_; refine qd (ya (.inl rfl) rfl rfl rfl rfl) ?_; refine qd (ya (.inr rfl) rfl rfl rfl rfl) ?_; refine zg ?_; refine zh ?_
    exact V_retO rfl (fun _ _ h => h) Since.refl rfl
  · obtain rfl : n = 0 := by omega
    refine zf ?_; refine zd (id := 0) ?_; refine za (ze rfl rfl rfl) rfl ?_; refine zg ?_; refine zh ?_; refine zf ?_; refine zf ?_; refine zd (id := 1) ?_; refine za (zb rfl rfl rfl) rfl ?_; refine za (zw rfl rfl rfl rfl (decide_eq_false (by omega))) rfl ?_; refine zg ?_; refine zh ?_; refine zo rfl ?_; refine zt ?_; refine zh ?_; refine zf ?_; refine zf ?_; refine zd (id := 3) ?_; refine za (zb rfl rfl rfl) rfl ?_; refine za (zb rfl rfl rfl) rfl ?_; refine za (ok_capL L rfl rfl rfl rfl) rfl ?_; refine za (zb rfl rfl rfl) rfl ?_; refine za (ok_lenL L rfl rfl rfl rfl) rfl ?_; refine za (qs rfl rfl rfl rfl (by assumption)) rfl ?_; refine za (qs rfl rfl rfl rfl (by assumption)) rfl ?_; refine za (ze rfl rfl rfl) rfl ?_; refine zg ?_; refine zh ?_; refine zf ?_; refine zd (id := 4) ?_; refine za (zb rfl rfl rfl) rfl ?_; refine za (qm rfl rfl rfl rfl (decide_eq_false (by omega))) rfl ?_; refine zg ?_; refine zh ?_; refine zo rfl ?_; refine zt ?_; refine zh ?_; refine zf ?_
    refine V_nilR 0 tyP 2 rfl ?_
    refine zd (id := 6) ?_; refine qd (ya (.inl rfl) rfl rfl rfl rfl) ?_; refine qd (ya (.inr rfl) rfl rfl rfl rfl) ?_; refine zg ?_; refine zh ?_
    exact V_retO rfl (fun _ _ h => h) Since.refl rfl
set_option maxHeartbeats 2000000 in
theorem concatP_ret {avs : List Value} {Xs : List (List Value × Nat)} {B : Heap} (hX : Lsts tyP 2 B avs Xs) (hk : avs.length ≤ 1000) (hn : nXs Xs ≤ 50000) {v : Value} {w : World} (hB : B.Le (hp w)) (hv : SlB avs 70 avs.length v B) :
    Ret Try.prog 80 [v] w B (SlV tyP 2 (cXs Xs) (nXs Xs) false) := by
  obtain ⟨k, hkk⟩ : ∃ k, k = avs.length := ⟨_, rfl⟩
  rw [← hkk] at hk hv
  obtain ⟨sz, hsz⟩ : ∃ sz : Nat → Nat, sz = fun i => nXs (Xs.take i) := ⟨_, rfl⟩
  obtain ⟨ac, hac⟩ : ∃ ac : Nat → List Value, ac = fun i => cXs (Xs.take i) := ⟨_, rfl⟩
  have step : ∀ i, i < k → ∃ x p c f l m, avs[i * 1]? = some x ∧ x = .slice p m c ∧ SlV tyP 2 l m f x B ∧ sz (i + 1) = sz i + m ∧ ac (i + 1) = ac i ++ l ∧ sz (i + 1) ≤ 50000 ∧ l.all plainV = true ∧ l.length = m * 2 := fun i hi => by
    subst hkk hsz hac
    obtain ⟨x, p, c, f, l, m, h1, h2, h3, h4, h5⟩ := hX.at hi
    refine ⟨x, p, c, f, l, m, by rw [Nat.mul_one]; exact h1, h2, h3, nXs_take h4, cXs_take h4, Nat.le_trans (nXs_le _ _) hn, h5, h3.1⟩
  have h0 : sz 0 = 0 := by subst hsz; rfl
  have a0 : ac 0 = [] := by subst hac; rfl
  have a2 : ac k = cXs Xs := by subst hac; dsimp only; rw [List.take_of_length_le (by rw [hkk, hX.1]; omega)]
  have s2 : sz k = nXs Xs := by subst hsz; dsimp only; rw [List.take_of_length_le (by rw [hkk, hX.1]; omega)]
  have hal : ∀ i, (ac i).length = sz i * 2 ∧ sz i ≤ 50000 := fun i => by
    subst hsz hac
    exact ⟨hX.len i, Nat.le_trans (nXs_le _ _) hn⟩
  rw [← a2, ← s2]
  have s3 : sz k ≤ 100000 := by have := (hal k).2; omega
  clear hsz hac hX hn a2 s2 hkk
  refine y6 Try.func80 rfl Try.ntmps80 (Nat.le_of_ble_eq_true rfl) hB ?_
  refine V_seen 0 (SlB avs 70 k) rfl SlB.mono hv ?_
  refine zf ?_; refine zd (id := 0) ?_; refine za (ze rfl rfl rfl) rfl ?_; refine zg ?_; refine zh ?_; refine zf ?_; refine zd (id := 1) ?_; refine za (ze rfl rfl rfl) rfl ?_; refine zg ?_; refine zh ?_; refine zf ?_; refine zf ?_; refine zd (id := 2) ?_; refine za (q0 rfl rfl rfl) rfl ?_; refine za (ok_lenSl L rfl rfl rfl rfl) rfl ?_; refine za (zb rfl rfl rfl) rfl ?_; refine zg ?_; refine zh ?_; refine zz ?_
  refine yd (fun i : Nat => [(0, .sat (SlB avs 70 k)), (3, .is (.int .i64 (sz i))), (9, .sat (SlB avs 70 k)), (10, .is (.int .i64 k)), (11, .is (.int .i64 i))]) (fun i => i ≤ k) (fun i => k - i) 0 (Nat.zero_le _) ⟨rfl, by rw [h0]; rfl, rfl, rfl, rfl, trivial⟩ ?_
  rintro i hi
  by_cases hlt : i < k
  · obtain ⟨x, p, c, f, l, m, hx, hxe, hk, hs, _, hb5, _, _⟩ := step i hlt
    subst hxe
    have had : IntKind.i64.wrap ((sz i : Int) + (m : Int)) = (sz (i + 1) : Int) := wrap_i64 (by omega) (by omega) |>.trans (by omega)
    refine zf ?_; refine zd (id := 3) ?_; refine za (zw rfl rfl rfl rfl (decide_eq_true (by omega))) rfl ?_; refine zg ?_; refine zh ?_; refine zf ?_; refine zx rfl ?_; refine zt ?_; refine zh ?_; refine zf ?_; refine zz ?_; refine zf ?_; refine zd (id := 4) ?_; refine za (y8 L _ rfl rfl rfl rfl rfl rfl rfl (by omega)) rfl ?_; refine za (ok_load1c L (zn rfl) rfl rfl rfl (by assumption)) rfl ?_; refine za (ze rfl rfl rfl) rfl ?_; refine zg ?_; refine zh ?_; refine zf ?_; refine zd (id := 5) ?_; refine za (zb rfl rfl rfl) rfl ?_; refine za (zb rfl rfl rfl) rfl ?_; refine za (ok_lenL L rfl rfl rfl rfl) rfl ?_; refine za (q9 rfl rfl rfl rfl (by assumption)) rfl ?_; refine za (ze rfl rfl rfl) rfl ?_; refine zg ?_; refine zh ?_; refine zf ?_; refine zd (id := 6) ?_; refine za (zb rfl rfl rfl) rfl ?_; refine za (zw rfl rfl rfl rfl (decide_eq_false (by omega))) rfl ?_; refine zg ?_; refine zh ?_; refine zo rfl ?_; refine zt ?_; refine qo ?_; refine zh ?_; refine zd (id := 8) ?_; refine za (q9 rfl rfl rfl rfl (wrap_i64 (by omega) (by omega))) rfl ?_; refine za (zb rfl rfl rfl) rfl ?_; refine zg ?_
    exact qp (x := i) (i + 1) hlt (by omega) ⟨rfl, rfl, rfl, rfl, rfl, trivial⟩
  · obtain rfl : i = k := by omega
    refine zf ?_; refine zd (id := 3) ?_; refine za (zw rfl rfl rfl rfl (decide_eq_false (by omega))) rfl ?_; refine zg ?_; refine zh ?_; refine zf ?_; refine zo rfl ?_; refine y3 ?_; refine qe ?_; refine qe ?_; refine y2 ?_; refine zh ?_; refine zf ?_; refine zd (id := 9) ?_; refine za (zb rfl rfl rfl) rfl ?_; refine za (ok_callO L rfl rfl (zi rfl) rfl rfl rfl (fun u H hH _ _ => growP_ret s3 hH)) rfl ?_; refine qd (ya (.inr rfl) rfl rfl rfl rfl) ?_; refine zg ?_; refine zh ?_; refine zf ?_; refine zf ?_; refine zd (id := 10) ?_; refine za (q0 rfl rfl rfl) rfl ?_; refine za (ok_lenSl L rfl rfl rfl rfl) rfl ?_; refine za (zb rfl rfl rfl) rfl ?_; refine zg ?_; refine zh ?_; refine zz ?_
    refine yd (fun j : Nat => [(6, .own (SlR tyP 2 (sz j) (ac j))), (25, .sat (SlB avs 70 i)), (26, .is (.int .i64 i)), (27, .is (.int .i64 j))]) (fun j => j ≤ i) (fun j => i - j) 0 (Nat.zero_le _) ⟨by rw [a0, h0]; rfl, rfl, rfl, rfl, trivial⟩ ?_
    rintro j hj
    obtain ⟨hlj, hlj2⟩ := hal j
    by_cases hjl : j < i
    · obtain ⟨x, p, c, f, l, m, hx, _, hk, hs', ha', hb5, hpl, hlen⟩ := step j hjl
      refine zf ?_; refine zd (id := 11) ?_; refine za (zw rfl rfl rfl rfl (decide_eq_true (by omega))) rfl ?_; refine zg ?_; refine zh ?_; refine zf ?_; refine zx rfl ?_; refine zt ?_; refine zh ?_; refine zf ?_; refine zz ?_; refine zf ?_; refine zd (id := 12) ?_; refine za (y8 L _ rfl rfl rfl rfl rfl rfl rfl (by omega)) rfl ?_; refine za (ok_load1c L (zn rfl) rfl rfl rfl (by assumption)) rfl ?_; refine za (ze rfl rfl rfl) rfl ?_; refine zg ?_; refine zh ?_
      refine V_seen 8 (SlV tyP 2 l m f) rfl SlV.mono hk ?_
      refine zd (id := 13) ?_; refine qd (ya (.inl rfl) rfl rfl rfl rfl) ?_; refine za (q0 rfl rfl rfl) rfl ?_; refine qd (ok_append L rfl rfl rfl (apd_V rfl) rfl el74 (by assumption) (by assumption) (by omega) (by omega)) ?_; refine qd (ya (.inr rfl) rfl rfl rfl rfl) ?_; refine zg ?_; refine qo ?_; refine zh ?_; refine zd (id := 14) ?_; refine za (q9 rfl rfl rfl rfl (wrap_i64 (by omega) (by omega))) rfl ?_; refine za (zb rfl rfl rfl) rfl ?_; refine zg ?_
      exact qp (x := j) (j + 1) hjl (by omega) ⟨by rw [ha', hs']; rfl, rfl, rfl, rfl, trivial⟩
    · obtain rfl : j = i := by omega
      refine V_pubR 6 rfl ?_
      refine zf ?_; refine zd (id := 11) ?_; refine za (zw rfl rfl rfl rfl (decide_eq_false (by omega))) rfl ?_; refine zg ?_; refine zh ?_; refine zf ?_; refine zo rfl ?_; refine y3 ?_; refine qe ?_; refine qe ?_; refine y2 ?_; refine zh ?_; refine zf ?_; refine zd (id := 15) ?_; refine za (q0 rfl rfl rfl) rfl ?_; refine za (ok_assigns' rfl rfl rfl) rfl ?_; refine zg ?_; refine zh ?_
      refine qh L (rs := [.tmp 2]) rfl (fun _ _ h => h) Since.refl fun u H hH hle => ?_
      exact fun v hv => hv
theorem ownP_ret {avs : List Value} {Xs : List (List Value × Nat)} {B : Heap} (hX : Lsts tyP 2 B avs Xs) (hk : avs.length ≤ 1000) (hn : nXs Xs ≤ 50000) {v : Value} {w : World} (hB : B.Le (hp w)) (hv : SlB avs 70 avs.length v B) :
    RetO Try.prog 59 [v] w B (SlE tyP 2 (nXs Xs) (cXs Xs)) := by
  have hpl := hX.plain
  have hlen : (cXs Xs).length = nXs Xs * 2 := by have := hX.len Xs.length; rwa [List.take_length] at this
  have hc : ∀ {u : World} {H : Heap}, H.Le (hp u) → B.Le H → Ret Try.prog 80 [v] u H (SlV tyP 2 (cXs Xs) (nXs Xs) false) := fun hH hle => concatP_ret (hX.le hle) hk hn hH (SlB.mono _ _ _ hv hle)
  generalize cXs Xs = cs at *
  generalize nXs Xs = m at *
  clear hX
  refine V_enterO Try.func59 rfl Try.ntmps59 (Nat.le_of_ble_eq_true rfl) hB ?_
  by_cases h0 : m = 0
  · subst h0
    obtain rfl : cs = [] := List.eq_nil_of_length_eq_zero (by omega)
    refine zf ?_; refine zd (id := 0) ?_; refine za (ze rfl rfl rfl) rfl ?_; refine zg ?_; refine zh ?_; refine zf ?_; refine zd (id := 1) ?_; refine za (zb rfl rfl rfl) rfl ?_; refine za (ok_call L rfl rfl (zi rfl) rfl rfl rfl SlV.mono (fun u H hH hle _ => hc hH hle)) rfl ?_; refine za (ok_assigns' rfl rfl rfl) rfl ?_; refine zg ?_; refine zh ?_; refine zf ?_; refine zf ?_; refine zd (id := 2) ?_; refine za (q0 rfl rfl rfl) rfl ?_; refine za (y0 L rfl rfl rfl rfl) rfl ?_; refine za (qf rfl rfl rfl rfl (decide_eq_true (by omega))) rfl ?_; refine zg ?_; refine zh ?_; refine zx rfl ?_; refine zf ?_; refine zd (id := 3) ?_; refine za (ze rfl rfl rfl) rfl ?_; refine zg ?_; refine zh ?_
    refine V_nilE 2 tyP 2 rfl ?_
    exact V_retO rfl (fun _ _ h => h) Since.refl rfl
  · refine zf ?_; refine zd (id := 0) ?_; refine za (ze rfl rfl rfl) rfl ?_; refine zg ?_; refine zh ?_; refine zf ?_; refine zd (id := 1) ?_; refine za (zb rfl rfl rfl) rfl ?_; refine za (ok_call L rfl rfl (zi rfl) rfl rfl rfl SlV.mono (fun u H hH hle _ => hc hH hle)) rfl ?_; refine za (ok_assigns' rfl rfl rfl) rfl ?_; refine zg ?_; refine zh ?_; refine zf ?_; refine zf ?_; refine zd (id := 2) ?_; refine za (q0 rfl rfl rfl) rfl ?_; refine za (y0 L rfl rfl rfl rfl) rfl ?_; refine za (qf rfl rfl rfl rfl (decide_eq_false (by omega))) rfl ?_; refine zg ?_; refine zh ?_; refine zo rfl ?_; refine zt ?_; refine zh ?_; refine zf ?_; refine zd (id := 4) ?_; refine za (q0 rfl rfl rfl) rfl ?_; refine za (y0 L rfl rfl rfl rfl) rfl ?_; refine za (ok_makeN L m rfl rfl rfl el74 rfl rfl rfl rfl (by omega) (by unfold maxLen; omega)) rfl ?_; refine qd (ya (.inr rfl) rfl rfl rfl rfl) ?_; refine zg ?_; refine zh ?_; refine zf ?_
    refine V_holdE 4 901 (by omega) rfl fun b hzl => ?_
    refine zd (id := 5) ?_; refine za (zb rfl rfl rfl) rfl ?_; refine za (q0 rfl rfl rfl) rfl ?_; refine qd (ok_copyH L (q := 901) (by omega) rfl rfl rfl rfl (apd_V rfl) rfl el74 hzl hlen hpl) ?_; refine zg ?_; refine zh ?_; refine zf ?_; refine zd (id := 6) ?_; refine za (zb rfl rfl rfl) rfl ?_; refine za (ze rfl rfl rfl) rfl ?_; refine zg ?_; refine zh ?_
    refine V_relE 2 901 rfl rfl hlen (by unfold maxLen; omega) ?_
    exact V_retO rfl (fun _ _ h => h) Since.refl rfl
end Go.V.L39
namespace Go.V
open Go.RowKit
def MiE {V : Type} (kd : IntKind) (vc : V → Value) (l : List (Int × V)) (es : List MapEntry) : Prop := es.map (fun e => (e.key, e.val)) = l.map fun p => (Value.int kd p.1, vc p.2)
section
variable {P : Program} {V : Type} {kd : IntKind} {vc : V → Value} {l : List (Int × V)} {t kt et : TypeId}
theorem mie_cons {p : Int × V} {l : List (Int × V)} {es : List MapEntry} (h : MiE kd vc (p :: l) es) : ∃ e r, es = e :: r ∧ e.key = .int kd p.1 ∧ e.val = vc p.2 ∧ MiE kd vc l r := by
  unfold MiE at h
  cases es with
  | nil => simp at h
  | cons e r =>
    simp at h
    exact ⟨e, r, rfl, h.1.1, h.1.2, h.2⟩
theorem findNow_I (k : Int) : ∀ (l : List (Int × V)) (es : List MapEntry) (i : Nat), MiE kd vc l es → Instr.findNow (.int kd) (.int kd k) es i = some ((mfind k l i).map fun p => (p.1, vc p.2))
  | [], es, i, h => by
    have : es = [] := by simpa [MiE] using h
    subst this; rfl
  | p :: l, es, i, h => by
    obtain ⟨e, r, rfl, h1, h2, h3⟩ := mie_cons h
    rw [Instr.findNow, mfind, h1]
    simp only [Instr.sameNow, if_true]
    by_cases hkp : k = p.1
    · rw [if_pos hkp, beq_iff_eq.2 hkp, h2]; rfl
    · rw [if_neg hkp, beq_false_of_ne hkp]
      exact findNow_I k l r (i + 1) h3
theorem run_findKeyI (hk : P.underlying kt = some (.int kd)) (k : Int) (w : World) (l : List (Int × V)) (es : List MapEntry) (h : MiE kd vc l es) :
    (Instr.findKey kt (.int kd k) es).run P w = .ok ((mfind k l 0).map fun p => (p.1, vc p.2)) w := by
  unfold Instr.findKey
  simp only [Sem.run_bind, run_underlying hk, Result.andThen_ok, findNow_I k l es 0 h, Sem.run_pure]
theorem run_checkKeyI (hk : P.underlying kt = some (.int kd)) (k : Int) (em : Bool) (w : World) : (Instr.checkKey em 10000 kt (.int kd k)).run P w = .ok () w := by
  rw [Instr.checkKey]
  simp only [Sem.run_bind, run_underlying hk, Result.andThen_ok]
  rfl
theorem run_lookupI (ht : P.underlying t = some (.map kt et)) (hk : P.underlying kt = some (.int kd)) {b : Nat} {es : Array MapEntry} {ck : Nat} {u : World} (hb : u.heap[b]? = some (.map es ck)) (he : MiE kd vc l es.toList) (k : Int) {z : Value}
    (hz : (zeroValue et).run P u = .ok z u) : (Instr.lookup t (.map (some b)) (.int kd k) false).run P u = .ok ((mget k l).elim z vc) u := by
  unfold Instr.lookup
  have hf := run_findKeyI hk k u l es.toList he
  simp only [Sem.run_bind, run_underlying ht, Result.andThen_ok, MapKept.run_getObj_map hb, Sem.run_pure, run_checkKeyI hk k, hf]
  unfold mget
  cases mfind k l 0 with
  | none => simp [hz]
  | some p => simp
theorem mi_modify (k : Int) (v : V) : ∀ (l : List (Int × V)) (es : List MapEntry) (i j : Nat) (x : V), MiE kd vc l es → mfind k l i = some (j, x) →
    MiE kd vc (mput k v l) (es.modify (j - i) fun e => { e with key := .int kd k, val := vc v })
  | [], _, _, _, _, _, h => by cases h
  | p :: l, es, i, j, x, he, h => by
    obtain ⟨e, r, rfl, h1, h2, h3⟩ := mie_cons he
    unfold mfind at h
    rw [mput]
    split at h
    · rename_i hk
      cases h
      rw [if_pos hk, Nat.sub_self]
      unfold MiE at h3 ⊢
      subst hk
      simpa using h3
    · rename_i hk
      rw [if_neg hk]
      obtain ⟨n, hn, _⟩ := mfind_get h
      have ih := mi_modify k v l r (i + 1) j x h3 h
      have e1 : j - i = (j - (i + 1)) + 1 := by omega
      rw [e1]
      unfold MiE at ih ⊢
      simp [h1, h2]
      exact ih
theorem run_mapUpdateI (ht : P.underlying t = some (.map kt et)) (hk : P.underlying kt = some (.int kd)) {b : Nat} {es : Array MapEntry} {ck : Nat} {u : World} (hb : u.heap[b]? = some (.map es ck)) (he : MiE kd vc l es.toList) (k : Int) (v : V) :
    ∃ es' ck', (Instr.mapUpdate t (.map (some b)) (.int kd k) (vc v)).run P u = .ok () (u.putObj b (.map es' ck')) ∧ MiE kd vc (mput k v l) es'.toList := by
  have hf := run_findKeyI hk k u l es.toList he
  cases hm : mfind k l 0 with
  | none =>
    refine ⟨es.push { key := .int kd k, val := vc v, born := ck }, ck + 1, ?_, ?_⟩
    · unfold Instr.mapUpdate
      rw [hm] at hf
      simp only [Sem.run_bind, run_underlying ht, Result.andThen_ok, MapKept.run_getObj_map hb, Sem.run_pure, run_checkKeyI hk k, hf, Option.map_none]
      simp [setObj, Sem.run, hb, World.putObj, Result.andThen]
    · rw [mput_none hm]
      unfold MiE at he ⊢
      simp [he]
  | some q =>
    obtain ⟨j, x⟩ := q
    refine ⟨es.modify j fun e => { e with key := .int kd k, val := vc v }, ck, ?_, ?_⟩
    · obtain ⟨n, hn, hx⟩ := mfind_get hm
      have hn' : j = n := by omega
      subst hn'
      have hkey : ((es[j]?).map (·.key)).getD (.int kd k) = .int kd k := by
        have h2 := congrArg (·[j]?) he
        simp only [List.getElem?_map, hx, Option.map_some] at h2
        rw [← Array.getElem?_toList]
        cases hz : es.toList[j]? with
        | none => rfl
        | some e =>
          rw [hz] at h2
          simp at h2
          simpa using h2.1
      unfold Instr.mapUpdate
      rw [hm] at hf
      simp only [Sem.run_bind, run_underlying ht, Result.andThen_ok, MapKept.run_getObj_map hb, Sem.run_pure, run_checkKeyI hk k, hf, Option.map_some, hkey]
      unfold Instr.keyThatStays
      rw [if_pos (show Instr.sameBits 10000 (.int kd k) (.int kd k) = true by simp [Instr.sameBits])]
      simp [setObj, Sem.run, hb, World.putObj, Result.andThen]
    · have := mi_modify k v l es.toList 0 j x he hm
      simpa using this
end
def MapRi {V : Type} (kd : IntKind) (vc : V → Value) (l : List (Int × V)) : Res where
  P x _ u C := ∃ b, x = .map (some b) ∧ (∃ es ck, u.heap[b]? = some (.map es ck) ∧ MiE kd vc l es.toList) ∧ ∀ k, C k ↔ k = b
  st := fun ⟨b, hx, ⟨es, ck, hb, he⟩, hC⟩ _ _ _ hk => ⟨b, hx, ⟨es, ck, (hk b ((hC b).2 rfl)).trans hb, he⟩, hC⟩
def MapHi {V : Type} (b : Nat) (kd : IntKind) (vc : V → Value) (l : List (Int × V)) : Res where
  P _ _ u C := (∃ es ck, u.heap[b]? = some (.map es ck) ∧ MiE kd vc l es.toList) ∧ ∀ k, C k ↔ k = b
  st := fun ⟨⟨es, ck, hb, he⟩, hC⟩ _ _ _ hk => ⟨⟨es, ck, (hk b ((hC b).2 rfl)).trans hb, he⟩, hC⟩
section
variable {P : Program} {F : Fr} {B : Heap} {O : Boxes} {n : Nat} {ops : Array Oper} {κ : Kap} {d : Nat} {ty : TypeId} {pos : String} {aft : Array Edge} {g : Option (Nat × Bool)} {a : Act} {u : World} {H : Heap} {os : List Oper} {Q : Exit → Act → World → Prop} {ex : Exs}
variable {Y : Type} {kd : IntKind} {vc : Y → Value} {l : List (Int × Y)}
theorem Has.holdMi {t q : Nat} (hk : κ t = some (.own (MapRi kd vc l))) (h : Has F B O n κ a u) : ∃ b, Has F B O n (upd (upd (upd κ t nilK) q (.own (MapHi b kd vc l))) t (.is (.map (some b)))) a u := by
  obtain ⟨H, fp, h⟩ := h
  obtain ⟨⟨b, hv, hb, hC⟩, hM⟩ := h.slot t _ hk
  have h2 := h.usePut (d := q) (a' := a) (r' := MapHi b kd vc l) (C := fp t) hk ⟨Keep.refl _ _, h.sub, Heap.Le.refl _, fun _ _ _ => rfl⟩ rfl rfl (fun _ _ => rfl) ⟨hb, hC⟩ fun k hk => ⟨.inl hk, (hM k hk).1, (hM k hk).2.1⟩
  have h3 := h2.name t
  rw [hv] at h3
  exact ⟨b, H, _, h3⟩
theorem V_holdMi (t q : Nat) {c : Code} (hk : κ t = some (.own (MapRi kd vc l))) (h : ∀ b, V P F B n O (upd (upd (upd κ t nilK) q (.own (MapHi b kd vc l))) t (.is (.map (some b)))) c Q) : V P F B n O κ c Q := fun a u hh => let ⟨b, h'⟩ := hh.holdMi (q := q) hk; h b a u h'
theorem ok_makeMapI (kd : IntKind) (vc : Y → Value) {t : TypeId} (hn : Nat.blt d n = true) (hg : gK ops κ ⟨some d, .makeMap t none, ty, pos, aft, g⟩ = some true) :
    StepOK P F B n ops O κ ⟨some d, .makeMap t none, ty, pos, aft, g⟩ d (.own (MapRi kd vc [])) := by
  rintro κ' a u hl ⟨H, fp, hh⟩
  have hn : d < n := by simpa using hn
  unfold After
  rw [if_pos (wanted_gK hh hl hg)]
  have hrun : (execOp a.eval ⟨some d, .makeMap t none, ty, pos, aft, g⟩).run P u = .ok (.value (.map (some u.heap.size))) (u.alloc (.map #[] 0)) := by
    simp [execOp, Instr.makeMap]
  rw [hrun]
  simp only [Upon]
  have hg2 := hh.grow (Grow.hid hh.sub (.map #[] 0))
  refine ⟨H, _, hg2.putR (C := fun k => k = u.heap.size) (by simp [Act.put]) rfl (fun t ht => eval_put_other ht) ⟨u.heap.size, eval_put_same (by rw [hh.size]; exact hn), ⟨_, _, heap_push_same _ _, rfl⟩, fun _ => Iff.rfl⟩ (fun k hk => ?_) fun t r' _ ht k hf hk => ?_⟩
  · subst hk
    exact ⟨size_of_heap (heap_push_same u _), none_of_ge hh.sub (Nat.le_refl _), .inl hh.keep.size, fun y hy e => by have := size_of_heap (hh.boxes y hy).1; omega⟩
  · have := ((hh.slot t _ ht).2 k hf).1
    omega
theorem ok_lookupI {x y : Operand} {q b : Nat} {t kt et : TypeId} (k : Int) {r z : Value} (ht : P.underlying t = some (.map kt et)) (hkt : P.underlying kt = some (.int kd)) (hz : ∀ w, (zeroValue et).run P w = .ok z w)
    (hx : evK κ x = some (.map (some b))) (hq : κ q = some (.own (MapHi b kd vc l))) (hy : evK κ y = some (.int kd k)) (hn : Nat.blt d n = true) (hg : gK ops κ ⟨some d, .lookup t x y false, ty, pos, aft, g⟩ = some true)
    (hr : (mget k l).elim z vc = r) :
    StepOKR P F B n ops O κ ⟨some d, .lookup t x y false, ty, pos, aft, g⟩ q d (.is r) := by
  rintro κ' a u hlk hqk ⟨H, fp, hh⟩
  subst hr
  unfold After
  rw [if_pos (wanted_gK hh hlk hg)]
  have e := hh.env hlk
  have h1 := e.is_ x _ (by simp [Op.operands]) hx
  have h2 := e.is_ y _ (by simp [Op.operands]) hy
  obtain ⟨⟨⟨es, ck, hb, he⟩, hC⟩, hM⟩ := hh.slot q _ (hqk.trans hq)
  have hrun : (execOp a.eval ⟨some d, .lookup t x y false, ty, pos, aft, g⟩).run P u = .ok (.value ((mget k l).elim z vc)) u := by
    simp only [execOp, h1, h2, Sem.run_bind, run_lookupI ht hkt hb he k (hz u), Result.andThen_ok]
    rfl
  rw [hrun]
  simp only [Upon]
  exact ⟨H, fp, hh.put (k := .is _) (zi hn) trivial rfl⟩
theorem ok_mapUpdI {x y z : Operand} {q b : Nat} {t kt et : TypeId} (k : Int) (v : Y) {zv : Value} {l' : List (Int × Y)} (ht : P.underlying t = some (.map kt et)) (hkt : P.underlying kt = some (.int kd))
    (hx : evK κ x = some (.map (some b))) (hq : κ q = some (.own (MapHi b kd vc l))) (hy : evK κ y = some (.int kd k)) (hz : evK κ z = some zv) (hzv : vc v = zv) (hg : gK ops κ ⟨none, .mapUpdate t x y z, ty, pos, aft, g⟩ = some true)
    (hl' : mput k v l = l') :
    StepOKS P F B n ops O κ ⟨none, .mapUpdate t x y z, ty, pos, aft, g⟩ q (.own (MapHi b kd vc l')) := by
  rintro κ' a u hlk hqk ⟨H, fp, hh⟩
  subst hl' hzv
  unfold After
  rw [if_pos (wanted_gK hh hlk hg)]
  have e := hh.env hlk
  have h1 := e.is_ x _ (by simp [Op.operands]) hx
  have h2 := e.is_ y _ (by simp [Op.operands]) hy
  have h3 := e.is_ z _ (by simp [Op.operands]) hz
  have hqs := hqk.trans hq
  obtain ⟨⟨⟨es, ck, hb, he⟩, hC⟩, hM⟩ := hh.slot q _ hqs
  obtain ⟨es', ck', hr, he'⟩ := run_mapUpdateI ht hkt hb he k v
  have hrun : (execOp a.eval ⟨none, .mapUpdate t x y z, ty, pos, aft, g⟩).run P u = .ok .skip (u.putObj b (.map es' ck')) := by
    simp only [execOp, h1, h2, h3, Sem.run_bind, hr, Result.andThen_ok]
    rfl
  rw [hrun]
  simp only [Upon, Act.put]
  have hbm := hM b ((hC b).2 rfl)
  have := hh.usePut (d := q) (a' := a) (r' := MapHi b kd vc (mput k v l)) (C := fun k => k = b) hqs (grow_putObj hh.sub ((hC b).2 rfl) hbm.2.1) rfl rfl (fun _ _ => rfl) ⟨⟨es', ck', World.putObj_heap_same hbm.1, he'⟩, fun _ => Iff.rfl⟩ (fun k hk => by
    subst hk; exact ⟨.inl ((hC k).2 rfl), by rw [World.putObj_size]; exact hbm.1, hbm.2.1⟩)
  rw [upd_upd] at this
  exact ⟨H, _, this⟩
end
end Go.V
namespace Go.V.So
open Go.Proofs Go.RowKit Go.V Go.Sort
abbrev lt : Int → Int → Bool := ltInt
abbrev tyU : TypeId := 31
attribute [local irreducible] V N X VO Par StepOK Has Ret RetL RetO RetG RetX Src
theorem isnanU (a : Int) {w : World} {B : Heap} (hB : B.Le (hp w)) : Ret Try.prog 110 [.int .u64 a] w B (fun v _ => v = .bool false) := by
  refine y6 Try.func110 rfl Try.ntmps110 (Nat.le_of_ble_eq_true rfl) hB ?_
  refine zf ?_; refine zd (id := 0) ?_; refine za (ze rfl rfl rfl) rfl ?_; refine zg ?_; refine zh ?_; refine zf ?_; refine zd (id := 1) ?_; refine za (zb rfl rfl rfl) rfl ?_; refine za (zb rfl rfl rfl) rfl ?_; refine za (ql rfl rfl rfl rfl (decide_eq_false (by omega))) rfl ?_; refine za (ze rfl rfl rfl) rfl ?_; refine zg ?_; refine zh ?_
  refine qh L (rs := [.tmp 2]) rfl (fun _ _ h => h) Since.refl fun u H hH hle => ?_
  rfl
theorem lessU (a b : Int) {w : World} {B : Heap} (hB : B.Le (hp w)) : Ret Try.prog 95 [.int .u64 a, .int .u64 b] w B (fun v _ => v = .bool (lt a b)) := by
  unfold lt ltInt
  refine y6 Try.func95 rfl Try.ntmps95 (Nat.le_of_ble_eq_true rfl) hB ?_
  by_cases h : a < b
  · rw [decide_eq_true h]
    refine zf ?_; refine zd (id := 0) ?_; refine za (ze rfl rfl rfl) rfl ?_; refine zg ?_; refine zh ?_; refine zf ?_; refine zd (id := 1) ?_; refine za (zb rfl rfl rfl) rfl ?_; refine za (zq L rfl rfl (zi rfl) rfl rfl rfl (fun u H hH _ _ => isnanU _ hH)) rfl ?_; refine za (zb rfl rfl rfl) rfl ?_; refine za (zj rfl (zi rfl) rfl) rfl ?_; refine za (zj rfl (zi rfl) rfl) rfl ?_; refine za (zj rfl (zi rfl) rfl) rfl ?_; refine za (zm rfl rfl rfl rfl) rfl ?_; refine za (zb rfl rfl rfl) rfl ?_; refine za (zb rfl rfl rfl) rfl ?_; refine za (zb rfl rfl rfl) rfl ?_; refine za (zw rfl rfl rfl rfl (decide_eq_true (by omega))) rfl ?_; refine za (zm rfl rfl rfl rfl) rfl ?_; refine za (ze rfl rfl rfl) rfl ?_; refine zg ?_; refine zh ?_
    refine qh L (rs := [.tmp 4]) rfl (fun _ _ h => h) Since.refl fun u H hH hle => ?_
    rfl
  · rw [decide_eq_false h]
    refine zf ?_; refine zd (id := 0) ?_; refine za (ze rfl rfl rfl) rfl ?_; refine zg ?_; refine zh ?_; refine zf ?_; refine zd (id := 1) ?_; refine za (zb rfl rfl rfl) rfl ?_; refine za (zq L rfl rfl (zi rfl) rfl rfl rfl (fun u H hH _ _ => isnanU _ hH)) rfl ?_; refine za (zb rfl rfl rfl) rfl ?_; refine za (zj rfl (zi rfl) rfl) rfl ?_; refine za (zj rfl (zi rfl) rfl) rfl ?_; refine za (zj rfl (zi rfl) rfl) rfl ?_; refine za (zm rfl rfl rfl rfl) rfl ?_; refine za (zb rfl rfl rfl) rfl ?_; refine za (zb rfl rfl rfl) rfl ?_; refine za (zb rfl rfl rfl) rfl ?_; refine za (zw rfl rfl rfl rfl (decide_eq_false (by omega))) rfl ?_; refine za (zm rfl rfl rfl rfl) rfl ?_; refine za (ze rfl rfl rfl) rfl ?_; refine zg ?_; refine zh ?_
    refine qh L (rs := [.tmp 4]) rfl (fun _ _ h => h) Since.refl fun u H hH hle => ?_
    rfl
theorem lessU' {a b : Int} {f : Bool} (h : lt a b = f) {w : World} {B : Heap} (hB : B.Le (hp w)) : Ret Try.prog 95 [.int .u64 a, .int .u64 b] w B (fun v _ => v = .bool f) := h ▸ lessU a b hB
set_option maxHeartbeats 1000000 in
set_option maxRecDepth 20000 in
theorem ins_ret {d : Array Int} {rest : List Value} {b m cap a e : Nat} (hab : a ≤ e) (he : e ≤ d.size) (hm : d.size = m) (hm1 : m ≤ 100000) {w : World} {B : Heap} {C : Nat → Prop} (hB : B.Le (hp w))
    (hr : (GHeld b (uC d ++ rest) tyU).P B w C) (hC : ∀ k, C k → k < w.heap.size ∧ B k = none) :
    RetG Try.prog 89 [.slice (some ⟨b, 0, none⟩) m cap, .int .i64 a, .int .i64 e] w B C (GHeld b (uC (insertionSort lt d a e) ++ rest) tyU) := by
  unfold RetG
  refine V_enterG 900 (GHeld b (uC d ++ rest) tyU) Try.func89 rfl Try.ntmps89 (Nat.le_of_ble_eq_true rfl) hB hr hC ?_
  rw [gheld_res]
  have hw0 : IntKind.i64.wrap ((a : Int) + 1) = ((a + 1 : Nat) : Int) := wrap_i64 (by omega) (by omega)
  refine zf ?_; refine zd (id := 0) ?_; refine za (zb rfl rfl rfl) rfl ?_; refine za (q9 rfl rfl rfl rfl (by assumption)) rfl ?_; refine za (ze rfl rfl rfl) rfl ?_; refine zg ?_; refine zh ?_; refine zz ?_
  refine yd (fun s : Nat × Array Int => [(0, .is (.slice (some ⟨b, 0, none⟩) m cap)), (1, .is (.int .i64 a)), (2, .is (.int .i64 e)), (6, .is (.int .i64 s.1)), (900, .own (HeldR b (uC s.2 ++ rest) tyU))]) (fun s => s.1 ≤ e + 1 ∧ a < s.1 ∧ s.2.size = m ∧ insOuter lt a e s.1 s.2 = insertionSort lt d a e) (fun s => e + 1 - s.1) (a + 1, d) ⟨by omega, by omega, hm, rfl⟩ ⟨rfl, rfl, rfl, rfl, rfl, trivial⟩ ?_
  rintro ⟨i, D⟩ ⟨hi, hai, hD, hO⟩
  dsimp only at hi hai hD hO ⊢
  by_cases hlt : i < e
  · rw [insOuter, if_pos hlt] at hO
    refine zf ?_; refine zf ?_; refine zd (id := 1) ?_; refine za (zb rfl rfl rfl) rfl ?_; refine za (zb rfl rfl rfl) rfl ?_; refine za (zw rfl rfl rfl rfl (decide_eq_true (by omega))) rfl ?_; refine zg ?_; refine zh ?_; refine zx rfl ?_; refine zt ?_; refine zh ?_; refine zf ?_; refine zz ?_; refine zf ?_; refine zd (id := 3) ?_; refine za (zb rfl rfl rfl) rfl ?_; refine za (ze rfl rfl rfl) rfl ?_; refine zg ?_; refine zh ?_; refine zz ?_
    refine yd (fun t : Nat × Array Int => [(0, .is (.slice (some ⟨b, 0, none⟩) m cap)), (1, .is (.int .i64 a)), (2, .is (.int .i64 e)), (6, .is (.int .i64 i)), (7, .is (.int .i64 t.1)), (900, .own (HeldR b (uC t.2 ++ rest) tyU))]) (fun t => t.1 ≤ i ∧ t.2.size = m ∧ insInner lt a t.1 t.2 = insInner lt a i D) (fun t => t.1) (i, D) ⟨Nat.le_refl _, hD, rfl⟩ ⟨rfl, rfl, rfl, rfl, rfl, rfl, trivial⟩ ?_
    rintro ⟨j, E⟩ ⟨hj, hE, hI⟩
    dsimp only at hj hE hI ⊢
    rcases j with _ | j
    · rw [insInner] at hI
      rw [hI]
      refine zf ?_; refine zf ?_; refine q8 (id := 4) [] mixed (by kernel_rfl) ?_; refine zc (zb rfl rfl rfl) rfl ?_; refine zc (zb rfl rfl rfl) rfl ?_; refine zc (qm rfl rfl rfl rfl (decide_eq_false (by omega))) rfl ?_; refine zc (zb rfl rfl rfl) rfl ?_; refine zc (zj rfl (zi rfl) rfl) rfl ?_; refine zc (zj rfl (zi rfl) rfl) rfl ?_; refine zc (zj rfl (zi rfl) rfl) rfl ?_; refine zc (zj rfl (zi rfl) rfl) rfl ?_; refine zc (zj rfl (zi rfl) rfl) rfl ?_; refine zc (zj rfl (zi rfl) rfl) rfl ?_; refine zc (zj rfl (zi rfl) rfl) rfl ?_; refine zc (zj rfl (zi rfl) rfl) rfl ?_; refine zc (zj rfl (zi rfl) rfl) rfl ?_; refine zc (zj rfl (zi rfl) rfl) rfl ?_; refine zc (zm rfl rfl rfl rfl) rfl ?_; refine qg ?_; refine zh ?_; refine zo rfl ?_; refine y3 ?_; refine qe ?_; refine qe ?_; refine y2 ?_; refine qo ?_; refine zh ?_; refine zd (id := 2) ?_; refine za (zb rfl rfl rfl) rfl ?_; refine za (q9 rfl rfl rfl rfl (wrap_i64 (by omega) (by omega))) rfl ?_; refine za (ze rfl rfl rfl) rfl ?_; refine zg ?_
      exact qp (x := (i, D)) (i + 1, insInner lt a i D) ⟨by dsimp only; omega, by dsimp only; omega, by dsimp only; rw [← hI]; exact hE, hO⟩ (by dsimp only; omega) ⟨rfl, rfl, rfl, rfl, rfl, trivial⟩
    · by_cases hja : a < j + 1
      · have hw1 : IntKind.i64.wrap (((j + 1 : Nat) : Int) - 1) = (j : Int) := wrap_i64 (by omega) (by omega) |>.trans (by omega)
        obtain ⟨r1, q1⟩ := u_at (rest := rest) (show j + 1 < E.size by omega) (0 + (j + 1) * 1) rfl
        obtain ⟨r2, q2⟩ := u_at (rest := rest) (show j < E.size by omega) (0 + j * 1) rfl
        cases hc : lt E[j + 1]! E[j]! with
        | true =>
          rw [insInner, if_pos (by rw [hc]; simp; omega)] at hI
          have s1 := u_set (rest := rest) E[j]! (show j + 1 < E.size by omega) (0 + (j + 1) * 1) rfl
          have b1 := u_ble (rest := rest) (show j + 1 < E.size by omega) (0 + (j + 1) * 1) rfl
          have hz : j < (E.setIfInBounds (j + 1) E[j]!).size := by rw [Array.size_setIfInBounds]; omega
          have s2 := u_set (rest := rest) E[j + 1]! hz (0 + j * 1) rfl
          have b2 := u_ble (rest := rest) hz (0 + j * 1) rfl
          rw [swp_eq] at s2
          refine zf ?_; refine zf ?_; refine q8 (id := 4) [(200023, [900]), (200028, [900])] mixed (by kernel_rfl) ?_; refine zc (zb rfl rfl rfl) rfl ?_; refine zc (zb rfl rfl rfl) rfl ?_; refine zc (qm rfl rfl rfl rfl (decide_eq_true (by omega))) rfl ?_; refine zc (zb rfl rfl rfl) rfl ?_; refine zc (zb rfl rfl rfl) rfl ?_; refine zc (zb rfl rfl rfl) rfl ?_; refine zc (zp L _ rfl rfl rfl rfl rfl rfl rfl (by omega)) rfl ?_; refine q7 (zy L (q := 900) rfl rfl rfl rfl rfl q1) rfl rfl ?_; refine zc (zb rfl rfl rfl) rfl ?_; refine zc (zb rfl rfl rfl) rfl ?_; refine zc (qs rfl rfl rfl rfl (by assumption)) rfl ?_; refine zc (zp L _ rfl rfl rfl rfl rfl rfl rfl (by omega)) rfl ?_; refine q7 (zy L (q := 900) rfl rfl rfl rfl rfl q2) rfl rfl ?_; refine zc (zq L rfl rfl (zi rfl) rfl rfl rfl (fun u H hH _ _ => lessU' hc hH)) rfl ?_; refine zc (zm rfl rfl rfl rfl) rfl ?_; refine qg ?_; refine zh ?_; refine zx rfl ?_; refine zt ?_; refine zh ?_; refine zf ?_; refine zz ?_; refine q8 (id := 6) [(200042, [900]), (200046, [900]), (100047, [900]), (100048, [900])] mixed (by kernel_rfl) ?_; refine zc (zb rfl rfl rfl) rfl ?_; refine zc (zb rfl rfl rfl) rfl ?_; refine zc (zb rfl rfl rfl) rfl ?_; refine zc (zb rfl rfl rfl) rfl ?_; refine zc (qs rfl rfl rfl rfl (by assumption)) rfl ?_; refine zc (zb rfl rfl rfl) rfl ?_; refine zc (zb rfl rfl rfl) rfl ?_; refine zc (qs rfl rfl rfl rfl (by assumption)) rfl ?_; refine zc (zp L _ rfl rfl rfl rfl rfl rfl rfl (by omega)) rfl ?_; refine q7 (zy L (q := 900) rfl rfl rfl rfl rfl q2) rfl rfl ?_; refine zc (zb rfl rfl rfl) rfl ?_; refine zc (zb rfl rfl rfl) rfl ?_; refine zc (zp L _ rfl rfl rfl rfl rfl rfl rfl (by omega)) rfl ?_; refine q7 (zy L (q := 900) rfl rfl rfl rfl rfl q1) rfl rfl ?_; refine zc (zp L _ rfl rfl rfl rfl rfl rfl rfl (by omega)) rfl ?_; refine y4 (qy L (q := 900) rfl rfl rfl rfl rfl rfl b1 rfl s1) rfl ?_; refine zc (zp L _ rfl rfl rfl rfl rfl rfl rfl (by omega)) rfl ?_; refine y4 (qy L (q := 900) rfl rfl rfl rfl rfl rfl b2 rfl s2) rfl ?_; refine qg ?_; refine qo ?_; refine zh ?_; refine zd (id := 5) ?_; refine za (zb rfl rfl rfl) rfl ?_; refine za (qs rfl rfl rfl rfl (by assumption)) rfl ?_; refine za (ze rfl rfl rfl) rfl ?_; refine zg ?_
          exact qp (x := (j + 1, E)) (j, swp E (j + 1) j) ⟨by dsimp only; omega, by dsimp only; rw [swp_size]; exact hE, hI⟩ (by dsimp only; omega) ⟨rfl, rfl, rfl, rfl, rfl, rfl, trivial⟩
        | false =>
          rw [insInner, if_neg (by rw [hc]; simp)] at hI
          refine zf ?_; refine zf ?_; refine q8 (id := 4) [(200023, [900]), (200028, [900])] mixed (by kernel_rfl) ?_; refine zc (zb rfl rfl rfl) rfl ?_; refine zc (zb rfl rfl rfl) rfl ?_; refine zc (qm rfl rfl rfl rfl (decide_eq_true (by omega))) rfl ?_; refine zc (zb rfl rfl rfl) rfl ?_; refine zc (zb rfl rfl rfl) rfl ?_; refine zc (zb rfl rfl rfl) rfl ?_; refine zc (zp L _ rfl rfl rfl rfl rfl rfl rfl (by omega)) rfl ?_; refine q7 (zy L (q := 900) rfl rfl rfl rfl rfl q1) rfl rfl ?_; refine zc (zb rfl rfl rfl) rfl ?_; refine zc (zb rfl rfl rfl) rfl ?_; refine zc (qs rfl rfl rfl rfl (by assumption)) rfl ?_; refine zc (zp L _ rfl rfl rfl rfl rfl rfl rfl (by omega)) rfl ?_; refine q7 (zy L (q := 900) rfl rfl rfl rfl rfl q2) rfl rfl ?_; refine zc (zq L rfl rfl (zi rfl) rfl rfl rfl (fun u H hH _ _ => lessU' hc hH)) rfl ?_; refine zc (zm rfl rfl rfl rfl) rfl ?_; refine qg ?_; refine zh ?_; refine zo rfl ?_; refine y3 ?_; refine qe ?_; refine qe ?_; refine y2 ?_; refine qo ?_; refine zh ?_
          rw [hI]
          refine zd (id := 2) ?_; refine za (zb rfl rfl rfl) rfl ?_; refine za (q9 rfl rfl rfl rfl (wrap_i64 (by omega) (by omega))) rfl ?_; refine za (ze rfl rfl rfl) rfl ?_; refine zg ?_
          exact qp (x := (i, D)) (i + 1, insInner lt a i D) ⟨by dsimp only; omega, by dsimp only; omega, by dsimp only; rw [← hI]; exact hE, hO⟩ (by dsimp only; omega) ⟨rfl, rfl, rfl, rfl, rfl, trivial⟩
      · rw [insInner, if_neg (by simp; omega)] at hI
        rw [hI]
        refine zf ?_; refine zf ?_; refine q8 (id := 4) [] mixed (by kernel_rfl) ?_; refine zc (zb rfl rfl rfl) rfl ?_; refine zc (zb rfl rfl rfl) rfl ?_; refine zc (qm rfl rfl rfl rfl (decide_eq_false (by omega))) rfl ?_; refine zc (zb rfl rfl rfl) rfl ?_; refine zc (zj rfl (zi rfl) rfl) rfl ?_; refine zc (zj rfl (zi rfl) rfl) rfl ?_; refine zc (zj rfl (zi rfl) rfl) rfl ?_; refine zc (zj rfl (zi rfl) rfl) rfl ?_; refine zc (zj rfl (zi rfl) rfl) rfl ?_; refine zc (zj rfl (zi rfl) rfl) rfl ?_; refine zc (zj rfl (zi rfl) rfl) rfl ?_; refine zc (zj rfl (zi rfl) rfl) rfl ?_; refine zc (zj rfl (zi rfl) rfl) rfl ?_; refine zc (zj rfl (zi rfl) rfl) rfl ?_; refine zc (zm rfl rfl rfl rfl) rfl ?_; refine qg ?_; refine zh ?_; refine zo rfl ?_; refine y3 ?_; refine qe ?_; refine qe ?_; refine y2 ?_; refine qo ?_; refine zh ?_; refine zd (id := 2) ?_; refine za (zb rfl rfl rfl) rfl ?_; refine za (q9 rfl rfl rfl rfl (wrap_i64 (by omega) (by omega))) rfl ?_; refine za (ze rfl rfl rfl) rfl ?_; refine zg ?_
        exact qp (x := (i, D)) (i + 1, insInner lt a i D) ⟨by dsimp only; omega, by dsimp only; omega, by dsimp only; rw [← hI]; exact hE, hO⟩ (by dsimp only; omega) ⟨rfl, rfl, rfl, rfl, rfl, trivial⟩
  · rw [insOuter, if_neg hlt] at hO
    subst hO
    refine zf ?_; refine zf ?_; refine zd (id := 1) ?_; refine za (zb rfl rfl rfl) rfl ?_; refine za (zb rfl rfl rfl) rfl ?_; refine za (zw rfl rfl rfl rfl (decide_eq_false (by omega))) rfl ?_; refine zg ?_; refine zh ?_; refine zo rfl ?_; refine y3 ?_; refine qe ?_; refine qe ?_; refine y2 ?_
    exact N_retGhost L 900 (r := GHeld b _ tyU) rfl (fun _ _ h => h) Since.refl rfl rfl
end Go.V.So
