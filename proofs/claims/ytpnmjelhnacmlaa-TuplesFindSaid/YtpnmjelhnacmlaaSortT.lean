/- What the library says of sorting tuples, at this program. (Laid by the library's own tool; the numbers are this seat's.) -/
import Derived.Test.YtpnmjelhnacmlaaKitV
import Derived.Test.YtpnmjelhnacmlaaSstT
import Derived.Test.YtpnmjelhnacmlaaTupW
namespace Go.Proofs
open Go.Shelf
def Try.sortT_ren : Go.Shelf.Ren := ⟨fun | 6 => 74 | 15 => 109 | 14 => 108 | 28 => 136 | 29 => 137 | 20 => 128 | 21 => 129 | 22 => 130 | 23 => 131 | 24 => 132 | 25 => 133 | 26 => 134 | 27 => 135 | 46 => 145 | 47 => 146 | 48 => 147 | 49 => 148 | 50 => 149 | 57 => 157 | n => n, fun | 22 => 76 | 24 => 81 | 25 => 84 | 3 => 3 | 39 => 156 | 0 => 0 | 53 => 181 | 55 => 183 | 4 => 4 | 46 => 175 | 45 => 174 | 50 => 67 | 5 => 5 | 9 => 9 | 66 => 184 | 70 => 188 | 76 => 192 | 77 => 165 | n => n, fun | n => n⟩
theorem Try.sortT : Go.Proofs.SlLaysF0.n6 Try.prog Try.sortT_ren := {
  mixed := by kernel_rfl
  f6 := ⟨Try.f74.name, by decide, Try.func74.trans (congrArg some (by kernel_rfl))⟩
  f14 := ⟨Try.f108.name, by decide, Try.func108.trans (congrArg some (by kernel_rfl))⟩
  f15 := Try.func109.trans (congrArg some (by kernel_rfl))
  f20 := ⟨Try.f128.name, by decide, Try.func128.trans (congrArg some (by kernel_rfl))⟩
  f21 := ⟨Try.f129.name, by decide, Try.func129.trans (congrArg some (by kernel_rfl))⟩
  f22 := ⟨Try.f130.name, by decide, Try.func130.trans (congrArg some (by kernel_rfl))⟩
  f23 := ⟨Try.f131.name, by decide, Try.func131.trans (congrArg some (by kernel_rfl))⟩
  f24 := ⟨Try.f132.name, by decide, Try.func132.trans (congrArg some (by kernel_rfl))⟩
  f25 := ⟨Try.f133.name, by decide, Try.func133.trans (congrArg some (by kernel_rfl))⟩
  f26 := ⟨Try.f134.name, by decide, Try.func134.trans (congrArg some (by kernel_rfl))⟩
  f27 := ⟨Try.f135.name, by decide, Try.func135.trans (congrArg some (by kernel_rfl))⟩
  f28 := Try.func136.trans (congrArg some (by kernel_rfl))
  f29 := Try.func137.trans (congrArg some (by kernel_rfl))
  f46 := ⟨Try.f145.name, by decide, Try.func145.trans (congrArg some (by kernel_rfl))⟩
  f47 := Try.func146.trans (congrArg some (by kernel_rfl))
  f48 := Try.func147.trans (congrArg some (by kernel_rfl))
  f49 := ⟨Try.f148.name, by decide, Try.func148.trans (congrArg some (by kernel_rfl))⟩
  f50 := ⟨Try.f149.name, by decide, Try.func149.trans (congrArg some (by kernel_rfl))⟩
  f57 := ⟨Try.f157.name, by decide, Try.func157.trans (congrArg some (by kernel_rfl))⟩
  t0 := Try.underlying0
  a0 := Try.isAgg0
  z0 := Try.sizeOf0
  v0 := Try.zeroValue0
  t3 := Try.underlying3
  a3 := Try.isAgg3
  z3 := Try.sizeOf3
  v3 := Try.zeroValue3
  t4 := Try.underlying4
  a4 := Try.isAgg4
  z4 := Try.sizeOf4
  v4 := Try.zeroValue4
  t5 := Try.underlying5
  a5 := Try.isAgg5
  z5 := Try.sizeOf5
  v5 := Try.zeroValue5
  t9 := Try.underlying9
  a9 := Try.isAgg9
  z9 := Try.sizeOf9
  v9 := Try.zeroValue9
  t22 := Try.underlying76
  a22 := Try.isAgg76
  z22 := Try.sizeOf76
  v22 := Try.zeroValue76
  t25 := Try.underlying84
  a25 := Try.isAgg84
  z25 := Try.sizeOf84
  v25 := Try.zeroValue84
  t39 := Try.underlying156
  a39 := Try.isAgg156
  z39 := Try.sizeOf156
  v39 := Try.zeroValue156
  t45 := Try.underlying174
  a45 := Try.isAgg174
  z45 := Try.sizeOf174
  v45 := Try.zeroValue174
  t46 := Try.underlying175
  a46 := Try.isAgg175
  z46 := Try.sizeOf175
  v46 := Try.zeroValue175
  t50 := Try.underlying67
  a50 := Try.isAgg67
  z50 := Try.sizeOf67
  v50 := Try.zeroValue67
  t53 := Try.underlying181
  a53 := Try.isAgg181
  z53 := Try.sizeOf181
  v53 := Try.zeroValue181
  t55 := Try.underlying183
  a55 := Try.isAgg183
  z55 := Try.sizeOf183
  v55 := Try.zeroValue183
  t66 := Try.underlying184
  a66 := Try.isAgg184
  z66 := Try.sizeOf184
  v66 := Try.zeroValue184
  t70 := Try.underlying188
  a70 := Try.isAgg188
  z70 := Try.sizeOf188
  v70 := Try.zeroValue188
  t76 := Try.underlying192
  a76 := Try.isAgg192
  z76 := Try.sizeOf192
  v76 := Try.zeroValue192
  t77 := Try.underlying165
  a77 := Try.isAgg165
  z77 := Try.sizeOf165
  v77 := Try.zeroValue165 }
end Go.Proofs
namespace Go.V.L2
open Go.Proofs Go.RowKit Go.V
theorem swo_of {α : Type} {c : α → α → Int} (h : Ord3 c) : Go.Sort.SWO (Go.Proofs.ltOf c) where
  irrefl x := by simp [Go.Proofs.ltOf, h.refl]
  trans x y z h1 h2 := by
    simp only [Go.Proofs.ltOf, decide_eq_true_eq] at *
    exact h.tr h1 h2
  ntrans x y z h1 h2 := by
    simp only [Go.Proofs.ltOf, decide_eq_false_iff_not] at *
    have a1 := h.anti x y
    have a2 := h.anti y z
    have a3 := h.anti x z
    have := h.trans z y x (by omega) (by omega)
    omega
theorem ucs_one (x : U) : ∀ v ∈ ucs x, v.oneCell' = true := fun v hv => by
  simp only [ucs, List.mem_cons, List.not_mem_nil, or_false] at hv
  rcases hv with rfl | rfl | rfl | rfl | rfl | rfl <;> rfl
theorem sortU : SortC Try.prog U 74 49 [] ucs 6 cmpT where
  none p cap w := AnyF.slices_SortFunc_none Try.sortT p cap _ w
  some b cap d w hH hb hz := AnyQ.slices_SortFunc Try.sortT 6 Try.isAgg81 Try.sizeOf81 ucs ucs_len ucs_one cmpT (swo_of cmpT_ord) 49 #[] b 0 cap d w
    (fun args w => run_callFunc L rfl) (cmpLays (cb := []) (fun x y u => tcmp_ret (a := x) (b := y) (fun _ _ h => by cases h)) b 0 d.size w) hH hb hz
end Go.V.L2
