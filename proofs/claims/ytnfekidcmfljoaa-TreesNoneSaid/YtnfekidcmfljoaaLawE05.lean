/- The inputs of chapter 5's laws, as they are read. -/
import Derived.Test.YtnfekidcmfljoaaLawC05
import Derived.Test.YtnfekidcmfljoaaKitW
namespace Go.V.L5
open Go.Proofs Go.RowKit Go.V Go.V.R5
theorem ops_of : ∀ (cs : List (List Value)), (∀ c ∈ cs, LeafsOK [.i .u8, .i .i16] c) → ∃ ops : Ops', cs.flatten = ops.flatMap encO ∧ cs.length = ops.length ∧ OkO ops
  | [], _ => ⟨[], rfl, rfl, fun _ h => by cases h⟩
  | c :: cs, h => by
    obtain ⟨ops, h1, h2, h3⟩ := ops_of cs fun c hc => h c (List.mem_cons_of_mem _ hc)
    obtain ⟨q, r, rfl, hq, h4⟩ := leaf_i (h c (List.mem_cons_self ..))
    obtain ⟨k, r, rfl, hk, h4⟩ := leaf_i h4
    obtain rfl := leaf_nil h4
    have b1 := Go.bounds_u8 hq
    have b2 := Go.bounds_i16 hk
    refine ⟨(q, k) :: ops, by simp [h1, encO], by simp [h2], fun o ho => ?_⟩
    rcases List.mem_cons.1 ho with rfl | ho
    · exact ⟨b1.1, b1.2, b2.1, b2.2⟩
    · exact h3 o ho
theorem treesPlay_in {cs : List (List Value)} (lcs : ∀ c ∈ cs, LeafsOK [.i .u8, .i .i16] c) (zcs : cs.length ≤ maxLen) {W : World} {v : Value} (hcs : SlV tyO 2 cs.flatten cs.length false v (hp W)) :
    Ret Try.prog 5 [v] W (hp W) (fun v _ => v = .bool true) := by
  obtain ⟨ops, h1, h2, h3⟩ := ops_of cs lcs
  refine treesPlay_law ops false h3 (by unfold maxLen at zcs; omega) (Heap.Le.refl _) ?_
  rw [h1, h2] at hcs
  exact hcs
end Go.V.L5
