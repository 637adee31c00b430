/- The inputs of TreesAny, as they are read. -/
import Derived.Test.YtnfekidcmfljoaaLawH05
import Derived.Test.YtnfekidcmfljoaaKitW
namespace Go.V.L5
open Go.Proofs Go.RowKit Go.V Go.V.R5
theorem ks_of : ∀ (cs : List (List Value)), (∀ c ∈ cs, LeafsOK [.i .i16] c) → ∃ ks : List Int, cs.flatten = (ks.map fun k => Value.int .i16 k) ∧ cs.length = ks.length ∧ ∀ k ∈ ks, -32768 ≤ k ∧ k ≤ 32767
  | [], _ => ⟨[], rfl, rfl, fun _ h => by cases h⟩
  | c :: cs, h => by
    obtain ⟨ks, h1, h2, h3⟩ := ks_of cs fun c hc => h c (List.mem_cons_of_mem _ hc)
    obtain ⟨k, r, rfl, hk, h4⟩ := leaf_i (h c (List.mem_cons_self ..))
    obtain rfl := leaf_nil h4
    have b2 := Go.bounds_i16 hk
    refine ⟨k :: ks, by simp [h1], by simp [h2], fun o ho => ?_⟩
    rcases List.mem_cons.1 ho with rfl | ho
    · exact b2
    · exact h3 o ho
theorem treesAny_in {cs : List (List Value)} (lcs : ∀ c ∈ cs, LeafsOK [.i .i16] c) (zcs : cs.length ≤ maxLen) {W : World} {v : Value} (hcs : SlV tyK 1 cs.flatten cs.length false v (hp W)) {b : Int} (hb : (Lit.int .u8 b).wf = true) :
    Ret Try.prog 6 [v, .int .u8 b] W (hp W) (fun v _ => v = .bool true) := by
  obtain ⟨ks, h1, h2, h3⟩ := ks_of cs lcs
  have b1 := Go.bounds_u8 hb
  obtain ⟨n, rfl⟩ := Int.eq_ofNat_of_zero_le b1.1
  refine treesAny_law ks false h3 (by unfold maxLen at zcs; omega) n (by omega) (Heap.Le.refl _) ?_
  rw [h1, h2] at hcs
  exact hcs
end Go.V.L5
