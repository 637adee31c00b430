/- The definition's answers are the tree's (chapter 5): plain laws. -/
import Derived.Test.YtnfekidcmfljoaaLawC05
namespace Go.V.L5
open Go.Proofs Go.RowKit Go.V Go.V.R5
/-- What is found. -/
theorem get_view (k : Int) : ∀ (l : LL) (i : Nat), Tr.Srt ordF l → (Tr.getS ordF k l = none ∧ getL k l i = -1) ∨ ∃ (j : Nat) (x : Int), Tr.getS ordF k l = some x ∧ getL k l i = ((i + j : Nat) : Int) ∧ l[j]? = some (k, x) ∧ rankL k l = j ∧ j < l.length
  | [], _, _ => .inl ⟨rfl, rfl⟩
  | y :: l, i, hs => by
    have h1 := List.pairwise_cons.1 hs
    have hy : ∀ z ∈ l, y.1 < z.1 := fun z hz => ordF_lt.1 (h1.1 z hz)
    simp only [Tr.getS, getL]
    by_cases h2 : y.1 = k
    · refine .inr ⟨0, y.2, ?_⟩
      rw [if_pos (ordF_eq.2 h2.symm), if_pos h2]
      refine ⟨rfl, rfl, by simp [← h2], ?_, by simp⟩
      unfold rankL
      rw [List.length_eq_zero_iff, List.filter_eq_nil_iff]
      intro z hz
      rcases List.mem_cons.1 hz with rfl | hz
      · simp; omega
      · have := hy z hz; simp; omega
    · rw [if_neg (fun h => h2 (ordF_eq.1 h).symm), if_neg h2]
      rcases get_view k l (i + 1) h1.2 with h | ⟨j, x, h3, h4, h5, h6, h7⟩
      · exact .inl h
      · refine .inr ⟨j + 1, x, h3, by rw [h4]; omega, by simpa using h5, ?_, by simp; omega⟩
        have := hy _ (List.mem_of_getElem? h5)
        unfold rankL at h6 ⊢
        rw [List.filter_cons_of_pos (by simpa using this), List.length_cons, h6]
theorem rank_view (k : Int) {t : Tr Int Int} (hg : Good t) : Tr.rank ordF k t = rankL k (Tr.list t) := by
  rw [Tr.rank_list ordF_ordr k hg.srt]
  unfold Tr.rankS rankL
  congr 1
  refine List.filter_congr fun y _ => ?_
  simp only [decide_eq_decide]
  exact ordF_lt
theorem cut_eq (f e : Int) : ∀ (l : LL) (i : Nat), cutL f e l i = Tr.cutI f e l i
  | [], _ => rfl
  | y :: l, i => by
    simp only [cutL, Tr.cutI]
    rw [cut_eq f e l (i + 1)]
    rfl
theorem range_view (f e : Int) (t : Tr Int Int) : II.rangeL t f e = cutL f e (Tr.list t) 0 := by
  have hl := Tr.size_list t
  rw [cut_eq]
  unfold II.rangeL
  split
  · rename_i h
    exact (Tr.cutI_clip (f' := t.size) (e' := t.size) _ _ (fun j h1 h2 => by constructor <;> intro h3 <;> omega)).trans (Tr.cutI_out _ _ _ _ (by omega)) |>.symm
  · rename_i h
    rw [Tr.prs_list]
    exact (Tr.cutI_clip _ _ fun j h1 h2 => by constructor <;> intro h3 <;> omega)
theorem at_view (t : Tr Int Int) (i : Int) : II.atO t i = if i < 0 then none else (Tr.list t)[i.toNat]? := by
  unfold II.atO
  rw [Tr.at_list]
theorem cutL_length (f e : Int) : ∀ (l : LL) (i : Nat), (cutL f e l i).length ≤ l.length
  | [], _ => Nat.le_refl _
  | y :: l, i => by
    have := cutL_length f e l (i + 1)
    unfold cutL
    split <;> simp <;> omega
theorem rankL_length (k : Int) (l : LL) : rankL k l ≤ l.length := List.length_filter_le _ _
end Go.V.L5
