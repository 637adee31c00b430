/- GoalsErrors and GoalsViews, of what is handed in (chapter 23). -/
import Derived.Test.YtpnmjelhnacmlaaLawD23
import Derived.Test.YtpnmjelhnacmlaaLawE23
import Derived.Test.YtpnmjelhnacmlaaLawI23
namespace Go.V.L23
open Go.Proofs Go.RowKit Go.V
theorem goalsErrors_in {cs : List (List Value)} (lcs : ∀ c ∈ cs, LeafsOK [.i .u8] c) (zcs : cs.length ≤ maxLen) {W : World} {v : Value} (hcs : SlV tyU 1 cs.flatten cs.length false v (hp W)) (a b c : ByteArray) :
    Ret Try.prog 6 [.agg #[v], .agg #[.string a, .string b, .string c]] W (hp W) (fun v _ => v = .bool true) := by
  obtain ⟨ns, h1, h2, h3⟩ := us_of lcs zcs hcs
  exact goalsErrors_law ns false h1 h2 a b c (Heap.Le.refl _) h3
theorem goalsViews_in {cs ds : List (List Value)} (lcs : ∀ c ∈ cs, LeafsOK [.i .u8] c) (zcs : cs.length ≤ maxLen) (lds : ∀ c ∈ ds, LeafsOK [.i .u8] c) (zds : ds.length ≤ maxLen) {W : World} {v v2 : Value} (hcs : SlV tyU 1 cs.flatten cs.length false v (hp W)) (hds : SlV tyU 1 ds.flatten ds.length false v2 (hp W))
    (n : Int) {sp rl : ByteArray} (hsp : sp.size ≤ maxLen) (hrl : rl.size ≤ maxLen) :
    Ret Try.prog 5 [.agg #[v], .agg #[v2], .agg #[.int .i64 n, .string sp, .string rl]] W (hp W) (fun v _ => v = .bool true) := by
  obtain ⟨ns, h1, h2, h3⟩ := us_of lcs zcs hcs
  obtain ⟨ms, k1, k2, k3⟩ := us_of lds zds hds
  exact goalsViews_law ns ms false false h1 h2 k1 k2 n sp rl (by unfold maxLen at hsp; omega) (by unfold maxLen at hrl; omega) (Heap.Le.refl _) h3 k3
end Go.V.L23
