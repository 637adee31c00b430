/- The walks of trees at countersign/api.Goal, int: the methods of a map, by what the map is. -/
import Derived.Test.YtpnmjelhnacmlaaTreeYGI
namespace Go.V.GI
open Go.Proofs Go.RowKit Go.V
abbrev MF (cf : Nat) (t : Tr KT VT) : Value → Heap → Prop := MA (.func (.func cf) #[] #[]) t
theorem mput_m {cf : Nat} {c : KT → KT → Int} (hc : Cmp cf c) (k : KT) (x : VT) {t : Tr KT VT} {v : Value} {w : World} {B : Heap} (hB : B.Le (hp w)) (hv : MF cf t v B) (hs : t.size + 1 < 1099511627776) :
    Ret Try.prog 61 [v, kv k, vv x] w B (MF cf (Tr.put c k x t)) := by
  obtain ⟨p, rfl, h⟩ := hv
  exact mput_ret hc k x hB h hs
theorem get_m {cf : Nat} {c : KT → KT → Int} (hc : Cmp cf c) (k : KT) {t : Tr KT VT} {v : Value} {w : World} {B : Heap} (hB : B.Le (hp w)) (hv : MF cf t v B) {o : Option VT} (ho : Tr.get c k t = o) :
    Ret Try.prog 66 [v, kv k] w B (fun v _ => v = tup (getV o)) := by
  obtain ⟨p, rfl, h⟩ := hv
  subst ho
  exact get_ret hc k hB h
theorem new_m {cf : Nat} {H : Heap} : MF cf .nil (.agg #[.func (.func cf) #[] #[], .pointer none]) H := ⟨none, rfl, rfl⟩
end Go.V.GI
