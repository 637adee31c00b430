/- The inputs of TreesViews, as they are read. -/
import Derived.Test.YtnfekidcmfljoaaLawF05
import Derived.Test.YtnfekidcmfljoaaLawE05
namespace Go.V.L5
open Go.Proofs Go.RowKit Go.V Go.V.R5
theorem treesViews_in {cs : List (List Value)} (lcs : ∀ c ∈ cs, LeafsOK [.i .u8, .i .i16] c) (zcs : cs.length ≤ maxLen) {W : World} {v : Value} (hcs : SlV tyO 2 cs.flatten cs.length false v (hp W)) {key : Int} (hk : (Lit.int .i16 key).wf = true) (z0 z1 : Int) :
    Ret Try.prog 3 [v, .int .i16 key, .agg #[.int .i64 z0, .int .i64 z1]] W (hp W) (fun v _ => v = .bool true) := by
  obtain ⟨ops, h1, h2, h3⟩ := ops_of cs lcs
  have b1 := Go.bounds_i16 hk
  refine treesViews_law ops false h3 (by unfold maxLen at zcs; omega) key z0 z1 b1.1 b1.2 (Heap.Le.refl _) ?_
  rw [h1, h2] at hcs
  exact hcs
end Go.V.L5
