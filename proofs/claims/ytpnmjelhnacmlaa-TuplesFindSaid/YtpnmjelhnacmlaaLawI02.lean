/- What is handed in, as pairs of numbers and tuples (chapter 2). -/
import Derived.Test.YtpnmjelhnacmlaaLawC02
import Derived.Test.YtpnmjelhnacmlaaKitW
namespace Go.V.L2
open Go.Proofs Go.RowKit Go.V
theorem u8_of {n : Int} (h : Lit.wf (.int .u8 n) = true) : ∃ k : Nat, n = k ∧ k ≤ 255 := by
  have hb : IntKind.u8.min ≤ n ∧ n ≤ IntKind.u8.max := by simpa [Lit.wf] using h
  have hmin : IntKind.u8.min = 0 := by decide
  have hmax : IntKind.u8.max = 255 := by decide
  rw [hmin, hmax] at hb
  exact ⟨n.toNat, by omega, by omega⟩
theorem pairs_of : ∀ (cs : List (List Value)), (∀ c ∈ cs, LeafsOK [.i .u8, .i .u8] c) → ∃ ps : List (Nat × Nat), cs.flatten = ps.flatMap pcs ∧ cs.length = ps.length ∧ ∀ p ∈ ps, p.1 ≤ 255 ∧ p.2 ≤ 255
  | [], _ => ⟨[], rfl, rfl, fun n h => by cases h⟩
  | c :: cs, h => by
    obtain ⟨ps, h1, h2, h3⟩ := pairs_of cs fun x hx => h x (List.mem_cons_of_mem _ hx)
    have hc := h c (List.mem_cons_self ..)
    obtain ⟨n, r1, rfl, hw, hc⟩ := leaf_i hc
    obtain ⟨m, r2, rfl, hw2, hc⟩ := leaf_i hc
    obtain rfl := leaf_nil hc
    obtain ⟨n, rfl, hn⟩ := u8_of hw
    obtain ⟨m, rfl, hm⟩ := u8_of hw2
    refine ⟨(n, m) :: ps, by rw [List.flatten_cons, List.flatMap_cons, h1]; rfl, by rw [List.length_cons, List.length_cons, h2], fun p hp => ?_⟩
    rcases List.mem_cons.1 hp with rfl | hp
    · exact ⟨hn, hm⟩
    · exact h3 p hp
theorem ps_of {cs : List (List Value)} (lcs : ∀ c ∈ cs, LeafsOK [.i .u8, .i .u8] c) (zcs : cs.length ≤ maxLen) {H : Heap} {v : Value} (hcs : SlV ty2 2 cs.flatten cs.length false v H) :
    ∃ ps : List (Nat × Nat), (∀ p ∈ ps, p.1 ≤ 255 ∧ p.2 ≤ 255) ∧ ps.length ≤ 9223372036854775807 ∧ PS2 ps false v H := by
  obtain ⟨ps, h1, h2, h3⟩ := pairs_of cs lcs
  rw [h1, h2] at hcs
  exact ⟨ps, h3, by unfold maxLen at zcs; omega, hcs⟩
theorem tuplesFind_in {cs : List (List Value)} (lcs : ∀ c ∈ cs, LeafsOK [.i .u8, .i .u8] c) (zcs : cs.length ≤ maxLen) {W : World} {v : Value} (hcs : SlV ty2 2 cs.flatten cs.length false v (hp W)) {a b : Int} (ha : Lit.wf (.int .u8 a) = true) (hb : Lit.wf (.int .u8 b) = true) (hM : GlobM (hp W)) :
    Ret Try.prog 8 [.agg #[v], .agg #[.int .u8 a, .int .u8 b]] W (hp W) (fun v _ => v = .bool true) := by
  obtain ⟨ps, h1, h2, h3⟩ := ps_of lcs zcs hcs
  obtain ⟨a, rfl, ka⟩ := u8_of ha
  obtain ⟨b, rfl, kb⟩ := u8_of hb
  exact tuplesFind_law h1 h2 ka kb (Heap.Le.refl _) hM h3
end Go.V.L2
