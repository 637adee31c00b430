/- The walks of trees at int, string: the methods of a map, by what the map is. -/
import Derived.Test.YtnfekidcmfljoaaTreeRIS
namespace Go.V.IS
open Go.Proofs Go.RowKit Go.V
abbrev MF (cf : Nat) (t : Tr KT VT) : Value → Heap → Prop := MA (.func (.func cf) #[] #[]) t
theorem mput_m {cf : Nat} {c : KT → KT → Int} (hc : Cmp cf c) (k : KT) (x : VT) {t : Tr KT VT} {v : Value} {w : World} {B : Heap} (hB : B.Le (hp w)) (hv : MF cf t v B) (hs : t.size + 1 < 1099511627776) :
    Ret Try.prog 67 [v, kv k, vv x] w B (MF cf (Tr.put c k x t)) := by
  obtain ⟨p, rfl, h⟩ := hv
  exact mput_ret hc k x hB h hs
theorem mdrop_m {cf : Nat} {c : KT → KT → Int} (hc : Cmp cf c) (k : KT) {t : Tr KT VT} {v : Value} {w : World} {B : Heap} (hB : B.Le (hp w)) (hv : MF cf t v B) (hs : t.size < 1099511627776) :
    Ret Try.prog 73 [v, kv k] w B (MF cf (if (Tr.drop c k t).2 = true then (Tr.drop c k t).1 else t)) := by
  obtain ⟨p, rfl, h⟩ := hv
  exact mdrop_ret hc k hB h hs
theorem len_m {fv : Value} {t : Tr KT VT} {v : Value} {w : World} {B : Heap} (hB : B.Le (hp w)) (hv : MA fv t v B) {n : Nat} (hn : t.size = n) : Ret Try.prog 74 [v] w B (fun v _ => v = .int .i64 n) := by
  obtain ⟨p, rfl, h⟩ := hv
  subst hn
  exact len_ret hB h
theorem depth_m {fv : Value} {t : Tr KT VT} {v : Value} {w : World} {B : Heap} (hB : B.Le (hp w)) (hv : MA fv t v B) {n : Nat} (hn : t.deep = n) : Ret Try.prog 75 [v] w B (fun v _ => v = .int .i64 n) := by
  obtain ⟨p, rfl, h⟩ := hv
  subst hn
  exact depth_ret hB h
theorem get_m {cf : Nat} {c : KT → KT → Int} (hc : Cmp cf c) (k : KT) {t : Tr KT VT} {v : Value} {w : World} {B : Heap} (hB : B.Le (hp w)) (hv : MF cf t v B) {o : Option VT} (ho : Tr.get c k t = o) :
    Ret Try.prog 68 [v, kv k] w B (fun v _ => v = tup (getV o)) := by
  obtain ⟨p, rfl, h⟩ := hv
  subst ho
  exact get_ret hc k hB h
theorem rank_m {cf : Nat} {c : KT → KT → Int} (hc : Cmp cf c) (k : KT) {t : Tr KT VT} {v : Value} {w : World} {B : Heap} (hB : B.Le (hp w)) (hv : MF cf t v B) (hs : t.size < 1099511627776) {n : Nat} (hn : Tr.rank c k t = n) :
    Ret Try.prog 72 [v, kv k] w B (fun v _ => v = .int .i64 n) := by
  obtain ⟨p, rfl, h⟩ := hv
  subst hn
  exact rank_ret hc k hB h hs
theorem at_m {fv : Value} {t : Tr KT VT} (i : Int) {v : Value} {w : World} {B : Heap} (hB : B.Le (hp w)) (hv : MA fv t v B) (hs : t.size < 1099511627776) {o : Option (KT × VT)} (ho : atO t i = o) :
    Ret Try.prog 69 [v, .int .i64 i] w B (fun v _ => v = tup (atV o)) := by
  obtain ⟨p, rfl, h⟩ := hv
  subst ho
  exact at_ret i hB h hs
theorem range_m {fv : Value} {t : Tr KT VT} (f e : Int) {v : Value} {w : World} {B : Heap} (hB : B.Le (hp w)) (hv : MA fv t v B) (hs : t.size < 1099511627776) {l : List (KT × VT)} (hl : rangeL t f e = l) :
    Ret Try.prog 70 [v, .int .i64 f, .int .i64 e] w B (PS l true) := by
  obtain ⟨p, rfl, h⟩ := hv
  subst hl
  exact range_ret f e hB h hs
theorem between_m {cf : Nat} {c : KT → KT → Int} (hc : Cmp cf c) (j k : KT) {t : Tr KT VT} {v : Value} {w : World} {B : Heap} (hB : B.Le (hp w)) (hv : MF cf t v B) (hs : t.size < 1099511627776) {l : List (KT × VT)} (hl : rangeL t (Tr.rank c j t) (Tr.rank c k t) = l) :
    Ret Try.prog 71 [v, kv j, kv k] w B (PS l true) := by
  obtain ⟨p, rfl, h⟩ := hv
  subst hl
  exact between_ret hc j k hB h hs
theorem new_m {cf : Nat} {H : Heap} : MF cf .nil (.agg #[.func (.func cf) #[] #[], .pointer none]) H := ⟨none, rfl, rfl⟩
end Go.V.IS
