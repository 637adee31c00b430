/- What is handed in, as goals and numbers (chapter 23). -/
import Derived.Test.YtpnmjelhnacmlaaLawC23
import Derived.Test.YtpnmjelhnacmlaaKitW
namespace Go.V.L23
open Go.Proofs Go.RowKit Go.V
theorem goals_of : ∀ (cs : List (List Value)), (∀ c ∈ cs, LeafsOK [.s, .s, .s] c) → ∃ l : List G, cs.flatten = l.flatMap gcs ∧ cs.length = l.length
  | [], _ => ⟨[], rfl, rfl⟩
  | c :: cs, h => by
    obtain ⟨l, h1, h2⟩ := goals_of cs fun x hx => h x (List.mem_cons_of_mem _ hx)
    have hc := h c (List.mem_cons_self ..)
    obtain ⟨a, r1, rfl, _, hc⟩ := leaf_s hc
    obtain ⟨b, r2, rfl, _, hc⟩ := leaf_s hc
    obtain ⟨d, r3, rfl, _, hc⟩ := leaf_s hc
    obtain rfl := leaf_nil hc
    exact ⟨((a, b), d) :: l, by rw [List.flatten_cons, List.flatMap_cons, h1]; rfl, by rw [List.length_cons, List.length_cons, h2]⟩
theorem goalsOf_in {cs : List (List Value)} (lcs : ∀ c ∈ cs, LeafsOK [.s, .s, .s] c) (zcs : cs.length ≤ maxLen) {W : World} {v : Value} (hcs : SlV tyG 3 cs.flatten cs.length false v (hp W)) :
    Ret Try.prog 4 [v] W (hp W) (fun v _ => v = .bool true) := by
  obtain ⟨l, h1, h2⟩ := goals_of cs lcs
  rw [h1, h2] at hcs
  exact goalsOf_law l false (by unfold maxLen at zcs; omega) (Heap.Le.refl _) hcs
/-- Numbers, as they lie in memory. -/
theorem nums_of : ∀ (cs : List (List Value)), (∀ c ∈ cs, LeafsOK [.i .u8] c) → ∃ ns : List Nat, cs.flatten = ns.map (fun n : Nat => Value.int .u8 n) ∧ cs.length = ns.length ∧ ∀ n ∈ ns, n ≤ 255
  | [], _ => ⟨[], rfl, rfl, fun n h => by cases h⟩
  | c :: cs, h => by
    obtain ⟨ns, h1, h2, h3⟩ := nums_of cs fun x hx => h x (List.mem_cons_of_mem _ hx)
    have hc := h c (List.mem_cons_self ..)
    obtain ⟨n, r1, rfl, hw, hc⟩ := leaf_i hc
    obtain rfl := leaf_nil hc
    have hb : IntKind.u8.min ≤ n ∧ n ≤ IntKind.u8.max := by simpa [Lit.wf] using hw
    have hmin : IntKind.u8.min = 0 := by decide
    have hmax : IntKind.u8.max = 255 := by decide
    rw [hmin, hmax] at hb
    refine ⟨n.toNat :: ns, ?_, by rw [List.length_cons, List.length_cons, h2], fun m hm => ?_⟩
    · rw [List.flatten_cons, List.map_cons, h1, show ((n.toNat : Nat) : Int) = n by omega]; rfl
    · rcases List.mem_cons.1 hm with rfl | hm
      · omega
      · exact h3 m hm
theorem us_of {cs : List (List Value)} (lcs : ∀ c ∈ cs, LeafsOK [.i .u8] c) (zcs : cs.length ≤ maxLen) {H : Heap} {v : Value} (hcs : SlV tyU 1 cs.flatten cs.length false v H) :
    ∃ ns : List Nat, (∀ n ∈ ns, n ≤ 255) ∧ ns.length ≤ 9223372036854775807 ∧ US ns false v H := by
  obtain ⟨ns, h1, h2, h3⟩ := nums_of cs lcs
  rw [h1, h2] at hcs
  exact ⟨ns, h3, by unfold maxLen at zcs; omega, hcs⟩
theorem goalsWith_in {cs : List (List Value)} (lcs : ∀ c ∈ cs, LeafsOK [.i .u8] c) (zcs : cs.length ≤ maxLen) {W : World} {v : Value} (hcs : SlV tyU 1 cs.flatten cs.length false v (hp W)) :
    Ret Try.prog 3 [.agg #[v]] W (hp W) (fun v _ => v = .bool true) := by
  obtain ⟨ns, h1, h2, h3⟩ := us_of lcs zcs hcs
  exact goalsWith_law ns false h1 h2 (Heap.Le.refl _) h3
end Go.V.L23
