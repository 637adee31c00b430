/- The walks of trees at int, countersign/api.Goal: the methods of a map, by what the map is. -/
import Derived.Test.YtpnmjelhnacmlaaTreeYIG
namespace Go.V.IG
open Go.Proofs Go.RowKit Go.V
abbrev MF (cf : Nat) (t : Tr KT VT) : Value → Heap → Prop := MA (.func (.func cf) #[] #[]) t
theorem mput_m {cf : Nat} {c : KT → KT → Int} (hc : Cmp cf c) (k : KT) (x : VT) {t : Tr KT VT} {v : Value} {w : World} {B : Heap} (hB : B.Le (hp w)) (hv : MF cf t v B) (hs : t.size + 1 < 1099511627776) :
    Ret Try.prog 60 [v, kv k, vv x] w B (MF cf (Tr.put c k x t)) := by
  obtain ⟨p, rfl, h⟩ := hv
  exact mput_ret hc k x hB h hs
theorem len_m {fv : Value} {t : Tr KT VT} {v : Value} {w : World} {B : Heap} (hB : B.Le (hp w)) (hv : MA fv t v B) {n : Nat} (hn : t.size = n) : Ret Try.prog 96 [v] w B (fun v _ => v = .int .i64 n) := by
  obtain ⟨p, rfl, h⟩ := hv
  subst hn
  exact len_ret hB h
theorem get_m {cf : Nat} {c : KT → KT → Int} (hc : Cmp cf c) (k : KT) {t : Tr KT VT} {v : Value} {w : World} {B : Heap} (hB : B.Le (hp w)) (hv : MF cf t v B) {o : Option VT} (ho : Tr.get c k t = o) :
    Ret Try.prog 64 [v, kv k] w B (fun v _ => v = tup (getV o)) := by
  obtain ⟨p, rfl, h⟩ := hv
  subst ho
  exact get_ret hc k hB h
theorem new_m {cf : Nat} {H : Heap} : MF cf .nil (.agg #[.func (.func cf) #[] #[], .pointer none]) H := ⟨none, rfl, rfl⟩
end Go.V.IG
