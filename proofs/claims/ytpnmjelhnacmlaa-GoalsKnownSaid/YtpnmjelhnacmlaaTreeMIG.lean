/- The walks of trees at int, countersign/api.Goal: what is taken out of a map, by what the map is. -/
import Derived.Test.YtpnmjelhnacmlaaTreeRIG
import Derived.Test.YtpnmjelhnacmlaaTreeMaIG
namespace Go.V.IG
open Go.Proofs Go.RowKit Go.V
theorem range_m {fv : Value} {t : Tr KT VT} (f e : Int) {v : Value} {w : World} {B : Heap} (hB : B.Le (hp w)) (hv : MA fv t v B) (hs : t.size < 1099511627776) {l : List (KT × VT)} (hl : rangeL t f e = l) :
    Ret Try.prog 63 [v, .int .i64 f, .int .i64 e] w B (PS l true) := by
  obtain ⟨p, rfl, h⟩ := hv
  subst hl
  exact range_ret f e hB h hs
theorem all_m {fv : Value} {t : Tr KT VT} {v : Value} {w : World} {B : Heap} (hB : B.Le (hp w)) (hv : MA fv t v B) (hs : t.size < 1099511627776) {l : List (KT × VT)} (hl : rangeL t 0 t.size = l) :
    Ret Try.prog 65 [v] w B (PS l true) := by
  obtain ⟨p, rfl, h⟩ := hv
  subst hl
  exact all_ret hB h hs
end Go.V.IG
