/- Texts on the way to FlightsKnown, part 5: one behind another. -/
import Derived.Test.YtfihdmobfmkclaaFlightsKnownM4
import Derived.Sort.LotD5
import Derived.Sort.Walk7
import Derived.Sort.WalkA14
set_option linter.unusedVariables false
set_option linter.unusedSimpArgs false
namespace Go.V.L39
open Go.Proofs Go.RowKit Go.V
section
variable {P : Program} {F : Fr} {B : Heap} {n : Nat} {O : Boxes} {ops : Array Oper} {ex : Exs} {κ : Kap} {Q : Exit → Act → World → Prop} {o : Oper} {os : List Oper} {d : Nat} {k : Kn}
theorem _root_.Go.V.Zs66 (h : VO P F B n O ops (upd κ d k) os Q) (s : StepOK P F B n ops O κ o d k := by exact ok_aneq rfl rfl rfl rfl eq30 (by assumption) rfl) (v : vd o = some d := by rfl) : VO P F B n O ops κ (o :: os) Q := z7 s v h
end
attribute [local irreducible] V N X VO Par StepOK Has Ret RetL RetO RetT RetG Src
theorem rsi_ret {l m : List It} (hlm : l.length ≤ 4611686018427387904) (hmm : m.length ≤ 4611686018427387904) {fl fm : Bool} {a b : Value} {r : Int} (hr : (if l = m then (1 : Int) else 0) = r) {w : World} {B : Heap} (ha : IsV l fl a B) (hb : IsV m fm b B) (hB : B.Le (hp w)) :
    Ret Try.prog 55 [a, b] w B (fun v _ => v = .int .i64 r) := by
  refine ya Try.func55 rfl Try.ntmps55 (Nat.le_of_ble_eq_true rfl) hB ?_
  refine V_seen 0 (IsV l fl) rfl SlV.mono ha ?_
  refine V_seen 1 (IsV m fm) rfl SlV.mono hb ?_
  by_cases hl : l.length = m.length
  · refine ze ?_; refine zb (id := 0) ?_; refine Zs2 ?_; refine zd ?_; refine zf ?_; refine ze ?_; refine ze ?_; refine zb (id := 1) ?_; refine Zs37 ?_; refine Zs31 ?_; refine Zs37 ?_; refine Zs31 ?_; refine Zs10 ?_; refine zd ?_; refine zf ?_; refine zm rfl ?_; refine zt ?_; refine zf ?_; refine ze ?_; refine ze ?_; refine zb (id := 3) ?_; refine Zs2 ?_; refine zd ?_; refine zf ?_; refine zy ?_
    refine V_loop (fun i : Nat => [(0, .sat (IsV l fl)), (1, .sat (IsV m fm)), (5, .is (.int .i64 i))]) (fun i => i ≤ l.length ∧ ∀ (j : Nat) x y, j < i → l[j]? = some x → m[j]? = some y → x = y) (fun i => l.length - i) 0 ⟨Nat.zero_le _, fun j x y h => absurd h (Nat.not_lt_zero _)⟩ ⟨rfl, rfl, rfl, trivial⟩ ?_
    rintro i ⟨hi, hs⟩
    by_cases hlt : i < l.length
    · obtain ⟨x, hx⟩ := get_some hlt
      obtain ⟨y, hy⟩ := get_some (show i < m.length by omega)
      have hc1 := it_at hx
      have hc2 := it_at hy
      by_cases hxy : x = y
      · have hq := eqIv (decide_eq_true hxy)
        refine ze ?_; refine ze ?_; refine zb (id := 4) ?_; refine Zs1 ?_; refine Zs37 ?_; refine Zs31 ?_; refine Zs11 ?_; refine zd ?_; refine zf ?_; refine zw rfl ?_; refine zt ?_; refine zf ?_; refine ze ?_; refine zy ?_; refine ze ?_; refine zz (id := 6) [] mixed (by kernel_rfl) ?_; refine Zs58 ?_; refine Zs7 ?_; refine z8 (qb L _ rfl rfl rfl rfl rfl rfl rfl (by first | omega | decide) (by assumption)) rfl ?_; refine z8 (y5 L (vs := [_, _, _, _, _]) rfl rfl rfl rfl rfl ⟨_, rfl⟩) rfl ?_; refine Zs58 ?_; refine Zs7 ?_; refine z8 (qb L _ rfl rfl rfl rfl rfl rfl rfl (by first | omega | decide) (by assumption)) rfl ?_; refine z8 (y5 L (vs := [_, _, _, _, _]) rfl rfl rfl rfl rfl ⟨_, rfl⟩) rfl ?_; refine z8 (ok_aneq rfl rfl rfl rfl eq33 (by assumption) rfl) rfl ?_; refine qk ?_; refine zf ?_; refine zm rfl ?_; refine zt ?_; refine qm ?_; refine zf ?_; refine zb (id := 5) ?_; refine Zs1 ?_; refine Zs13 ?_; refine Zs2 ?_; refine zd ?_
        exact y1 (x := i) (i + 1) ⟨hlt, fun j x' y' hj h1 h2 => by
          rcases Nat.lt_or_ge j i with h | h
          · exact hs j x' y' h h1 h2
          · have : j = i := by omega
            subst this; rw [hx] at h1; rw [hy] at h2; cases h1; cases h2; exact hxy⟩ (by omega) ⟨rfl, rfl, rfl, trivial⟩
      · have hq := eqIv (decide_eq_false hxy)
        obtain rfl : r = 0 := by rw [← hr]; exact if_neg fun e => hxy (by subst e; rw [hx] at hy; exact Option.some.inj hy)
        refine ze ?_; refine ze ?_; refine zb (id := 4) ?_; refine Zs1 ?_; refine Zs37 ?_; refine Zs31 ?_; refine Zs11 ?_; refine zd ?_; refine zf ?_; refine zw rfl ?_; refine zt ?_; refine zf ?_; refine ze ?_; refine zy ?_; refine ze ?_; refine zz (id := 6) [] mixed (by kernel_rfl) ?_; refine Zs58 ?_; refine Zs7 ?_; refine z8 (qb L _ rfl rfl rfl rfl rfl rfl rfl (by first | omega | decide) (by assumption)) rfl ?_; refine z8 (y5 L (vs := [_, _, _, _, _]) rfl rfl rfl rfl rfl ⟨_, rfl⟩) rfl ?_; refine Zs58 ?_; refine Zs7 ?_; refine z8 (qb L _ rfl rfl rfl rfl rfl rfl rfl (by first | omega | decide) (by assumption)) rfl ?_; refine z8 (y5 L (vs := [_, _, _, _, _]) rfl rfl rfl rfl rfl ⟨_, rfl⟩) rfl ?_; refine z8 (ok_aneq rfl rfl rfl rfl eq33 (by assumption) rfl) rfl ?_; refine qk ?_; refine zf ?_; refine zw rfl ?_; refine ze ?_; refine zb (id := 7) ?_; refine Zs2 ?_; refine zd ?_; refine zf ?_
        refine qn L (rs := [.tmp 4]) rfl (fun _ _ h => h) Since.refl fun u H hH hle => ?_
        rfl
    · obtain rfl : r = 1 := by rw [← hr]; exact if_pos (list_eq_of hl fun j x y h1 h2 => hs j x y (by have := get_lt h1; omega) h1 h2)
      refine ze ?_; refine ze ?_; refine zb (id := 4) ?_; refine Zs1 ?_; refine Zs37 ?_; refine Zs31 ?_; refine Zs8 ?_; refine zd ?_; refine zf ?_; refine zm rfl ?_; refine y7 ?_; refine qg ?_; refine qg ?_; refine y6 ?_; refine zf ?_; refine ze ?_; refine zb (id := 8) ?_; refine Zs2 ?_; refine zd ?_; refine zf ?_
      refine qn L (rs := [.tmp 4]) rfl (fun _ _ h => h) Since.refl fun u H hH hle => ?_
      rfl
  · obtain rfl : r = 0 := by rw [← hr]; exact if_neg fun e => hl (by rw [e])
    refine ze ?_; refine zb (id := 0) ?_; refine Zs2 ?_; refine zd ?_; refine zf ?_; refine ze ?_; refine ze ?_; refine zb (id := 1) ?_; refine Zs37 ?_; refine Zs31 ?_; refine Zs37 ?_; refine Zs31 ?_; refine Zs27 ?_; refine zd ?_; refine zf ?_; refine zw rfl ?_; refine ze ?_; refine zb (id := 2) ?_; refine Zs2 ?_; refine zd ?_; refine zf ?_
    refine qn L (rs := [.tmp 4]) rfl (fun _ _ h => h) Since.refl fun u H hH hle => ?_
    rfl
set_option maxHeartbeats 8000000 in
set_option maxRecDepth 20000 in
theorem rsf_ret {f g : Fl} (hlf : f.is.length ≤ 4611686018427387904) (hlg : g.is.length ≤ 4611686018427387904) {sf sg : Value} {ff fg : Bool} {r : Int} (hr : (if f = g then (1 : Int) else 0) = r) {w : World} {B : Heap} (hf : IsV f.is ff sf B) (hg : IsV g.is fg sg B) (hB : B.Le (hp w)) :
    Ret Try.prog 23 [flv f sf, flv g sg] w B (fun v _ => v = .int .i64 r) := by
  have hfg := Fl.eq_iff (a := f) (b := g)
  obtain ⟨p1, c1, e1s⟩ := slv_sh hf
  obtain ⟨p2, c2, e2s⟩ := slv_sh hg
  subst e1s e2s
  refine ya Try.func23 rfl Try.ntmps23 (Nat.le_of_ble_eq_true rfl) hB ?_
  by_cases e1 : f.id = g.id
  · by_cases e2 : f.rv = g.rv
    · by_cases e3 : f.q = g.q
      · by_cases e4 : f.cl = g.cl
        · by_cases e5 : f.cs = g.cs
          · by_cases e6 : f.si = g.si
            · by_cases e7 : f.ve = g.ve
              · by_cases e8 : f.sp = g.sp
                · have hq := eqQv (decide_eq_true e3)
                  by_cases e9 : f.is = g.is
                  · obtain rfl : r = 1 := by rw [← hr]; exact if_pos (hfg.1 ⟨e1, e2, e3, e4, e5, e6, e7, e8, e9⟩)
                    refine ze ?_; refine zb (id := 0) ?_; refine Zs21 ?_; refine Zs21 ?_; refine Zs2 ?_; refine zd ?_; refine zf ?_; refine ze ?_; refine ze ?_; refine zb (id := 1) ?_; refine Zs5 ?_; refine Zs4 ?_; refine Zs5 ?_; refine Zs4 ?_; refine Zs10 ?_; refine Zs1 ?_; refine Zs5 ?_; refine Zs4 ?_; refine Zs5 ?_; refine Zs4 ?_; refine Zs10 ?_; refine Zs6 ?_; refine Zs1 ?_; refine Zs5 ?_; refine z7 (zn L (vs := [_, _, _, _, _, _]) (zl rfl) rfl rfl rfl rfl ⟨_, rfl⟩) rfl ?_; refine Zs5 ?_; refine z7 (zn L (vs := [_, _, _, _, _, _]) (zl rfl) rfl rfl rfl rfl ⟨_, rfl⟩) rfl ?_; refine Zs66 ?_; refine Zs6 ?_; refine Zs1 ?_; refine Zs5 ?_; refine Zs4 ?_; refine Zs5 ?_; refine Zs4 ?_; refine Zs10 ?_; refine Zs6 ?_; refine Zs1 ?_; refine Zs5 ?_; refine Zs4 ?_; refine Zs5 ?_; refine Zs4 ?_; refine Zs10 ?_; refine Zs6 ?_; refine Zs1 ?_; refine Zs5 ?_; refine Zs4 ?_; refine Zs5 ?_; refine Zs4 ?_; refine Zs10 ?_; refine Zs6 ?_; refine Zs1 ?_; refine Zs5 ?_; refine Zs4 ?_; refine Zs5 ?_; refine Zs4 ?_; refine Zs10 ?_; refine Zs6 ?_; refine Zs1 ?_; refine Zs5 ?_; refine Zs4 ?_; refine Zs5 ?_; refine Zs4 ?_; refine Zs10 ?_; refine Zs6 ?_; refine zd ?_; refine zf ?_; refine zm rfl ?_; refine zt ?_; refine zf ?_; refine ze ?_; refine zb (id := 3) ?_; refine Zs5 ?_; refine Zs4 ?_; refine Zs5 ?_; refine Zs4 ?_; refine z7 (zo L rfl rfl (zg rfl) rfl rfl rfl (fun u H hH hle _ => rsi_ret hlf hlg (by first | exact if_pos e9 | exact if_neg e9) (hf.le hle) (hg.le hle) hH)) rfl ?_; refine Zs2 ?_; refine zd ?_; refine zf ?_
                    refine qn L (rs := [.tmp 4]) rfl (fun _ _ h => h) Since.refl fun u H hH hle => ?_
                    rfl
                  · obtain rfl : r = 0 := by rw [← hr]; exact if_neg fun e => e9 (by rw [e])
                    refine ze ?_; refine zb (id := 0) ?_; refine Zs21 ?_; refine Zs21 ?_; refine Zs2 ?_; refine zd ?_; refine zf ?_; refine ze ?_; refine ze ?_; refine zb (id := 1) ?_; refine Zs5 ?_; refine Zs4 ?_; refine Zs5 ?_; refine Zs4 ?_; refine Zs10 ?_; refine Zs1 ?_; refine Zs5 ?_; refine Zs4 ?_; refine Zs5 ?_; refine Zs4 ?_; refine Zs10 ?_; refine Zs6 ?_; refine Zs1 ?_; refine Zs5 ?_; refine z7 (zn L (vs := [_, _, _, _, _, _]) (zl rfl) rfl rfl rfl rfl ⟨_, rfl⟩) rfl ?_; refine Zs5 ?_; refine z7 (zn L (vs := [_, _, _, _, _, _]) (zl rfl) rfl rfl rfl rfl ⟨_, rfl⟩) rfl ?_; refine Zs66 ?_; refine Zs6 ?_; refine Zs1 ?_; refine Zs5 ?_; refine Zs4 ?_; refine Zs5 ?_; refine Zs4 ?_; refine Zs10 ?_; refine Zs6 ?_; refine Zs1 ?_; refine Zs5 ?_; refine Zs4 ?_; refine Zs5 ?_; refine Zs4 ?_; refine Zs10 ?_; refine Zs6 ?_; refine Zs1 ?_; refine Zs5 ?_; refine Zs4 ?_; refine Zs5 ?_; refine Zs4 ?_; refine Zs10 ?_; refine Zs6 ?_; refine Zs1 ?_; refine Zs5 ?_; refine Zs4 ?_; refine Zs5 ?_; refine Zs4 ?_; refine Zs10 ?_; refine Zs6 ?_; refine Zs1 ?_; refine Zs5 ?_; refine Zs4 ?_; refine Zs5 ?_; refine Zs4 ?_; refine Zs10 ?_; refine Zs6 ?_; refine zd ?_; refine zf ?_; refine zm rfl ?_; refine zt ?_; refine zf ?_; refine ze ?_; refine zb (id := 3) ?_; refine Zs5 ?_; refine Zs4 ?_; refine Zs5 ?_; refine Zs4 ?_; refine z7 (zo L rfl rfl (zg rfl) rfl rfl rfl (fun u H hH hle _ => rsi_ret hlf hlg (by first | exact if_pos e9 | exact if_neg e9) (hf.le hle) (hg.le hle) hH)) rfl ?_; refine Zs2 ?_; refine zd ?_; refine zf ?_
                    refine qn L (rs := [.tmp 4]) rfl (fun _ _ h => h) Since.refl fun u H hH hle => ?_
                    rfl
                · have hq := eqQv (decide_eq_true e3)
                  obtain rfl : r = 0 := by rw [← hr]; exact if_neg fun e => e8 (by rw [e])
                  refine ze ?_; refine zb (id := 0) ?_; refine Zs21 ?_; refine Zs21 ?_; refine Zs2 ?_; refine zd ?_; refine zf ?_; refine ze ?_; refine ze ?_; refine zb (id := 1) ?_; refine Zs5 ?_; refine Zs4 ?_; refine Zs5 ?_; refine Zs4 ?_; refine Zs10 ?_; refine Zs1 ?_; refine Zs5 ?_; refine Zs4 ?_; refine Zs5 ?_; refine Zs4 ?_; refine Zs10 ?_; refine Zs6 ?_; refine Zs1 ?_; refine Zs5 ?_; refine z7 (zn L (vs := [_, _, _, _, _, _]) (zl rfl) rfl rfl rfl rfl ⟨_, rfl⟩) rfl ?_; refine Zs5 ?_; refine z7 (zn L (vs := [_, _, _, _, _, _]) (zl rfl) rfl rfl rfl rfl ⟨_, rfl⟩) rfl ?_; refine Zs66 ?_; refine Zs6 ?_; refine Zs1 ?_; refine Zs5 ?_; refine Zs4 ?_; refine Zs5 ?_; refine Zs4 ?_; refine Zs10 ?_; refine Zs6 ?_; refine Zs1 ?_; refine Zs5 ?_; refine Zs4 ?_; refine Zs5 ?_; refine Zs4 ?_; refine Zs10 ?_; refine Zs6 ?_; refine Zs1 ?_; refine Zs5 ?_; refine Zs4 ?_; refine Zs5 ?_; refine Zs4 ?_; refine Zs10 ?_; refine Zs6 ?_; refine Zs1 ?_; refine Zs5 ?_; refine Zs4 ?_; refine Zs5 ?_; refine Zs4 ?_; refine Zs10 ?_; refine Zs6 ?_; refine Zs1 ?_; refine Zs5 ?_; refine Zs4 ?_; refine Zs5 ?_; refine Zs4 ?_; refine Zs27 ?_; refine Zs6 ?_; refine zd ?_; refine zf ?_; refine zw rfl ?_; refine ze ?_; refine zb (id := 2) ?_; refine Zs2 ?_; refine zd ?_; refine zf ?_
                  refine qn L (rs := [.tmp 4]) rfl (fun _ _ h => h) Since.refl fun u H hH hle => ?_
                  rfl
              · have hq := eqQv (decide_eq_true e3)
                obtain rfl : r = 0 := by rw [← hr]; exact if_neg fun e => e7 (by rw [e])
                refine ze ?_; refine zb (id := 0) ?_; refine Zs21 ?_; refine Zs21 ?_; refine Zs2 ?_; refine zd ?_; refine zf ?_; refine ze ?_; refine ze ?_; refine zb (id := 1) ?_; refine Zs5 ?_; refine Zs4 ?_; refine Zs5 ?_; refine Zs4 ?_; refine Zs10 ?_; refine Zs1 ?_; refine Zs5 ?_; refine Zs4 ?_; refine Zs5 ?_; refine Zs4 ?_; refine Zs10 ?_; refine Zs6 ?_; refine Zs1 ?_; refine Zs5 ?_; refine z7 (zn L (vs := [_, _, _, _, _, _]) (zl rfl) rfl rfl rfl rfl ⟨_, rfl⟩) rfl ?_; refine Zs5 ?_; refine z7 (zn L (vs := [_, _, _, _, _, _]) (zl rfl) rfl rfl rfl rfl ⟨_, rfl⟩) rfl ?_; refine Zs66 ?_; refine Zs6 ?_; refine Zs1 ?_; refine Zs5 ?_; refine Zs4 ?_; refine Zs5 ?_; refine Zs4 ?_; refine Zs10 ?_; refine Zs6 ?_; refine Zs1 ?_; refine Zs5 ?_; refine Zs4 ?_; refine Zs5 ?_; refine Zs4 ?_; refine Zs10 ?_; refine Zs6 ?_; refine Zs1 ?_; refine Zs5 ?_; refine Zs4 ?_; refine Zs5 ?_; refine Zs4 ?_; refine Zs10 ?_; refine Zs6 ?_; refine Zs1 ?_; refine Zs5 ?_; refine Zs4 ?_; refine Zs5 ?_; refine Zs4 ?_; refine Zs27 ?_; refine Zs6 ?_; refine Zs1 ?_; refine Zs3 ?_; refine Zs3 ?_; refine Zs3 ?_; refine Zs3 ?_; refine Zs3 ?_; refine Zs6 ?_; refine zd ?_; refine zf ?_; refine zw rfl ?_; refine ze ?_; refine zb (id := 2) ?_; refine Zs2 ?_; refine zd ?_; refine zf ?_
                refine qn L (rs := [.tmp 4]) rfl (fun _ _ h => h) Since.refl fun u H hH hle => ?_
                rfl
            · have hq := eqQv (decide_eq_true e3)
              obtain rfl : r = 0 := by rw [← hr]; exact if_neg fun e => e6 (by rw [e])
              refine ze ?_; refine zb (id := 0) ?_; refine Zs21 ?_; refine Zs21 ?_; refine Zs2 ?_; refine zd ?_; refine zf ?_; refine ze ?_; refine ze ?_; refine zb (id := 1) ?_; refine Zs5 ?_; refine Zs4 ?_; refine Zs5 ?_; refine Zs4 ?_; refine Zs10 ?_; refine Zs1 ?_; refine Zs5 ?_; refine Zs4 ?_; refine Zs5 ?_; refine Zs4 ?_; refine Zs10 ?_; refine Zs6 ?_; refine Zs1 ?_; refine Zs5 ?_; refine z7 (zn L (vs := [_, _, _, _, _, _]) (zl rfl) rfl rfl rfl rfl ⟨_, rfl⟩) rfl ?_; refine Zs5 ?_; refine z7 (zn L (vs := [_, _, _, _, _, _]) (zl rfl) rfl rfl rfl rfl ⟨_, rfl⟩) rfl ?_; refine Zs66 ?_; refine Zs6 ?_; refine Zs1 ?_; refine Zs5 ?_; refine Zs4 ?_; refine Zs5 ?_; refine Zs4 ?_; refine Zs10 ?_; refine Zs6 ?_; refine Zs1 ?_; refine Zs5 ?_; refine Zs4 ?_; refine Zs5 ?_; refine Zs4 ?_; refine Zs10 ?_; refine Zs6 ?_; refine Zs1 ?_; refine Zs5 ?_; refine Zs4 ?_; refine Zs5 ?_; refine Zs4 ?_; refine Zs27 ?_; refine Zs6 ?_; refine Zs1 ?_; refine Zs3 ?_; refine Zs3 ?_; refine Zs3 ?_; refine Zs3 ?_; refine Zs3 ?_; refine Zs6 ?_; refine Zs1 ?_; refine Zs3 ?_; refine Zs3 ?_; refine Zs3 ?_; refine Zs3 ?_; refine Zs3 ?_; refine Zs6 ?_; refine zd ?_; refine zf ?_; refine zw rfl ?_; refine ze ?_; refine zb (id := 2) ?_; refine Zs2 ?_; refine zd ?_; refine zf ?_
              refine qn L (rs := [.tmp 4]) rfl (fun _ _ h => h) Since.refl fun u H hH hle => ?_
              rfl
          · have hq := eqQv (decide_eq_true e3)
            obtain rfl : r = 0 := by rw [← hr]; exact if_neg fun e => e5 (by rw [e])
            refine ze ?_; refine zb (id := 0) ?_; refine Zs21 ?_; refine Zs21 ?_; refine Zs2 ?_; refine zd ?_; refine zf ?_; refine ze ?_; refine ze ?_; refine zb (id := 1) ?_; refine Zs5 ?_; refine Zs4 ?_; refine Zs5 ?_; refine Zs4 ?_; refine Zs10 ?_; refine Zs1 ?_; refine Zs5 ?_; refine Zs4 ?_; refine Zs5 ?_; refine Zs4 ?_; refine Zs10 ?_; refine Zs6 ?_; refine Zs1 ?_; refine Zs5 ?_; refine z7 (zn L (vs := [_, _, _, _, _, _]) (zl rfl) rfl rfl rfl rfl ⟨_, rfl⟩) rfl ?_; refine Zs5 ?_; refine z7 (zn L (vs := [_, _, _, _, _, _]) (zl rfl) rfl rfl rfl rfl ⟨_, rfl⟩) rfl ?_; refine Zs66 ?_; refine Zs6 ?_; refine Zs1 ?_; refine Zs5 ?_; refine Zs4 ?_; refine Zs5 ?_; refine Zs4 ?_; refine Zs10 ?_; refine Zs6 ?_; refine Zs1 ?_; refine Zs5 ?_; refine Zs4 ?_; refine Zs5 ?_; refine Zs4 ?_; refine Zs27 ?_; refine Zs6 ?_; refine Zs1 ?_; refine Zs3 ?_; refine Zs3 ?_; refine Zs3 ?_; refine Zs3 ?_; refine Zs3 ?_; refine Zs6 ?_; refine Zs1 ?_; refine Zs3 ?_; refine Zs3 ?_; refine Zs3 ?_; refine Zs3 ?_; refine Zs3 ?_; refine Zs6 ?_; refine Zs1 ?_; refine Zs3 ?_; refine Zs3 ?_; refine Zs3 ?_; refine Zs3 ?_; refine Zs3 ?_; refine Zs6 ?_; refine zd ?_; refine zf ?_; refine zw rfl ?_; refine ze ?_; refine zb (id := 2) ?_; refine Zs2 ?_; refine zd ?_; refine zf ?_
            refine qn L (rs := [.tmp 4]) rfl (fun _ _ h => h) Since.refl fun u H hH hle => ?_
            rfl
        · have hq := eqQv (decide_eq_true e3)
          obtain rfl : r = 0 := by rw [← hr]; exact if_neg fun e => e4 (by rw [e])
          refine ze ?_; refine zb (id := 0) ?_; refine Zs21 ?_; refine Zs21 ?_; refine Zs2 ?_; refine zd ?_; refine zf ?_; refine ze ?_; refine ze ?_; refine zb (id := 1) ?_; refine Zs5 ?_; refine Zs4 ?_; refine Zs5 ?_; refine Zs4 ?_; refine Zs10 ?_; refine Zs1 ?_; refine Zs5 ?_; refine Zs4 ?_; refine Zs5 ?_; refine Zs4 ?_; refine Zs10 ?_; refine Zs6 ?_; refine Zs1 ?_; refine Zs5 ?_; refine z7 (zn L (vs := [_, _, _, _, _, _]) (zl rfl) rfl rfl rfl rfl ⟨_, rfl⟩) rfl ?_; refine Zs5 ?_; refine z7 (zn L (vs := [_, _, _, _, _, _]) (zl rfl) rfl rfl rfl rfl ⟨_, rfl⟩) rfl ?_; refine Zs66 ?_; refine Zs6 ?_; refine Zs1 ?_; refine Zs5 ?_; refine Zs4 ?_; refine Zs5 ?_; refine Zs4 ?_; refine Zs27 ?_; refine Zs6 ?_; refine Zs1 ?_; refine Zs3 ?_; refine Zs3 ?_; refine Zs3 ?_; refine Zs3 ?_; refine Zs3 ?_; refine Zs6 ?_; refine Zs1 ?_; refine Zs3 ?_; refine Zs3 ?_; refine Zs3 ?_; refine Zs3 ?_; refine Zs3 ?_; refine Zs6 ?_; refine Zs1 ?_; refine Zs3 ?_; refine Zs3 ?_; refine Zs3 ?_; refine Zs3 ?_; refine Zs3 ?_; refine Zs6 ?_; refine Zs1 ?_; refine Zs3 ?_; refine Zs3 ?_; refine Zs3 ?_; refine Zs3 ?_; refine Zs3 ?_; refine Zs6 ?_; refine zd ?_; refine zf ?_; refine zw rfl ?_; refine ze ?_; refine zb (id := 2) ?_; refine Zs2 ?_; refine zd ?_; refine zf ?_
          refine qn L (rs := [.tmp 4]) rfl (fun _ _ h => h) Since.refl fun u H hH hle => ?_
          rfl
      · have hq := eqQv (decide_eq_false e3)
        obtain rfl : r = 0 := by rw [← hr]; exact if_neg fun e => e3 (by rw [e])
        refine ze ?_; refine zb (id := 0) ?_; refine Zs21 ?_; refine Zs21 ?_; refine Zs2 ?_; refine zd ?_; refine zf ?_; refine ze ?_; refine ze ?_; refine zb (id := 1) ?_; refine Zs5 ?_; refine Zs4 ?_; refine Zs5 ?_; refine Zs4 ?_; refine Zs10 ?_; refine Zs1 ?_; refine Zs5 ?_; refine Zs4 ?_; refine Zs5 ?_; refine Zs4 ?_; refine Zs10 ?_; refine Zs6 ?_; refine Zs1 ?_; refine Zs5 ?_; refine z7 (zn L (vs := [_, _, _, _, _, _]) (zl rfl) rfl rfl rfl rfl ⟨_, rfl⟩) rfl ?_; refine Zs5 ?_; refine z7 (zn L (vs := [_, _, _, _, _, _]) (zl rfl) rfl rfl rfl rfl ⟨_, rfl⟩) rfl ?_; refine Zs66 ?_; refine Zs6 ?_; refine Zs1 ?_; refine Zs3 ?_; refine Zs3 ?_; refine Zs3 ?_; refine Zs3 ?_; refine Zs3 ?_; refine Zs6 ?_; refine Zs1 ?_; refine Zs3 ?_; refine Zs3 ?_; refine Zs3 ?_; refine Zs3 ?_; refine Zs3 ?_; refine Zs6 ?_; refine Zs1 ?_; refine Zs3 ?_; refine Zs3 ?_; refine Zs3 ?_; refine Zs3 ?_; refine Zs3 ?_; refine Zs6 ?_; refine Zs1 ?_; refine Zs3 ?_; refine Zs3 ?_; refine Zs3 ?_; refine Zs3 ?_; refine Zs3 ?_; refine Zs6 ?_; refine Zs1 ?_; refine Zs3 ?_; refine Zs3 ?_; refine Zs3 ?_; refine Zs3 ?_; refine Zs3 ?_; refine Zs6 ?_; refine zd ?_; refine zf ?_; refine zw rfl ?_; refine ze ?_; refine zb (id := 2) ?_; refine Zs2 ?_; refine zd ?_; refine zf ?_
        refine qn L (rs := [.tmp 4]) rfl (fun _ _ h => h) Since.refl fun u H hH hle => ?_
        rfl
    · obtain rfl : r = 0 := by rw [← hr]; exact if_neg fun e => e2 (by rw [e])
      refine ze ?_; refine zb (id := 0) ?_; refine Zs21 ?_; refine Zs21 ?_; refine Zs2 ?_; refine zd ?_; refine zf ?_; refine ze ?_; refine ze ?_; refine zb (id := 1) ?_; refine Zs5 ?_; refine Zs4 ?_; refine Zs5 ?_; refine Zs4 ?_; refine Zs10 ?_; refine Zs1 ?_; refine Zs5 ?_; refine Zs4 ?_; refine Zs5 ?_; refine Zs4 ?_; refine Zs27 ?_; refine Zs6 ?_; refine Zs1 ?_; refine Zs3 ?_; refine Zs3 ?_; refine Zs3 ?_; refine Zs3 ?_; refine Zs3 ?_; refine Zs6 ?_; refine Zs1 ?_; refine Zs3 ?_; refine Zs3 ?_; refine Zs3 ?_; refine Zs3 ?_; refine Zs3 ?_; refine Zs6 ?_; refine Zs1 ?_; refine Zs3 ?_; refine Zs3 ?_; refine Zs3 ?_; refine Zs3 ?_; refine Zs3 ?_; refine Zs6 ?_; refine Zs1 ?_; refine Zs3 ?_; refine Zs3 ?_; refine Zs3 ?_; refine Zs3 ?_; refine Zs3 ?_; refine Zs6 ?_; refine Zs1 ?_; refine Zs3 ?_; refine Zs3 ?_; refine Zs3 ?_; refine Zs3 ?_; refine Zs3 ?_; refine Zs6 ?_; refine Zs1 ?_; refine Zs3 ?_; refine Zs3 ?_; refine Zs3 ?_; refine Zs3 ?_; refine Zs3 ?_; refine Zs6 ?_; refine zd ?_; refine zf ?_; refine zw rfl ?_; refine ze ?_; refine zb (id := 2) ?_; refine Zs2 ?_; refine zd ?_; refine zf ?_
      refine qn L (rs := [.tmp 4]) rfl (fun _ _ h => h) Since.refl fun u H hH hle => ?_
      rfl
  · obtain rfl : r = 0 := by rw [← hr]; exact if_neg fun e => e1 (by rw [e])
    refine ze ?_; refine zb (id := 0) ?_; refine Zs21 ?_; refine Zs21 ?_; refine Zs2 ?_; refine zd ?_; refine zf ?_; refine ze ?_; refine ze ?_; refine zb (id := 1) ?_; refine Zs5 ?_; refine Zs4 ?_; refine Zs5 ?_; refine Zs4 ?_; refine Zs27 ?_; refine Zs1 ?_; refine Zs3 ?_; refine Zs3 ?_; refine Zs3 ?_; refine Zs3 ?_; refine Zs3 ?_; refine Zs6 ?_; refine Zs1 ?_; refine Zs3 ?_; refine Zs3 ?_; refine Zs3 ?_; refine Zs3 ?_; refine Zs3 ?_; refine Zs6 ?_; refine Zs1 ?_; refine Zs3 ?_; refine Zs3 ?_; refine Zs3 ?_; refine Zs3 ?_; refine Zs3 ?_; refine Zs6 ?_; refine Zs1 ?_; refine Zs3 ?_; refine Zs3 ?_; refine Zs3 ?_; refine Zs3 ?_; refine Zs3 ?_; refine Zs6 ?_; refine Zs1 ?_; refine Zs3 ?_; refine Zs3 ?_; refine Zs3 ?_; refine Zs3 ?_; refine Zs3 ?_; refine Zs6 ?_; refine Zs1 ?_; refine Zs3 ?_; refine Zs3 ?_; refine Zs3 ?_; refine Zs3 ?_; refine Zs3 ?_; refine Zs6 ?_; refine Zs1 ?_; refine Zs3 ?_; refine Zs3 ?_; refine Zs3 ?_; refine Zs3 ?_; refine Zs3 ?_; refine Zs6 ?_; refine zd ?_; refine zf ?_; refine zw rfl ?_; refine ze ?_; refine zb (id := 2) ?_; refine Zs2 ?_; refine zd ?_; refine zf ?_
    refine qn L (rs := [.tmp 4]) rfl (fun _ _ h => h) Since.refl fun u H hH hle => ?_
    rfl
theorem rsame_ret {t1 t2 : Tb} {zs ys : List (Fl × Value)} (hzl : zs.map Prod.fst = t1.fl) (hym : ys.map Prod.fst = t2.fl) {fu fi gu gi : Bool} {s s2 : Value} {r : Int} (hr : (if t1.nx = t2.nx ∧ t1.fl = t2.fl then (1 : Int) else 0) = r) {w : World} {B : Heap} (hs : FsB zs fu fi s B) (hy : FsB ys gu gi s2 B) (hB : B.Le (hp w)) :
    Ret Try.prog 16 [tbv t1.nx s, tbv t2.nx s2] w B (fun v _ => v = .int .i64 r) := by
  have h1 := fls_len hzl
  have h2 := fls_len hym
  have hn1 := hs.ln
  have hn2 := hy.ln
  have hsl := hs.sl
  have hyl := hy.sl
  refine ya Try.func16 rfl Try.ntmps16 (Nat.le_of_ble_eq_true rfl) hB ?_
  by_cases hnx : t1.nx = t2.nx
  · by_cases hl : zs.length = ys.length
    · refine ze ?_; refine zb (id := 0) ?_; refine Zs21 ?_; refine Zs21 ?_; refine Zs2 ?_; refine zd ?_; refine zf ?_; refine ze ?_; refine ze ?_; refine zb (id := 1) ?_; refine Zs5 ?_; refine Zs4 ?_; refine Zs5 ?_; refine Zs4 ?_; refine Zs10 ?_; refine Zs1 ?_; refine Zs5 ?_; refine Zs17 ?_; refine Zs31 ?_; refine Zs5 ?_; refine Zs17 ?_; refine Zs31 ?_; refine Zs10 ?_; refine Zs6 ?_; refine zd ?_; refine zf ?_; refine zm rfl ?_; refine zt ?_; refine zf ?_; refine ze ?_; refine ze ?_; refine zb (id := 3) ?_; refine Zs2 ?_; refine zd ?_; refine zf ?_; refine zy ?_
      refine V_loop (fun i : Nat => [(2, .sat (At [.int .i64 t1.nx, s] tyT 0)), (3, .sat (At [.int .i64 t2.nx, s2] tyT 0)), (5, .is (.int .i64 i))]) (fun i => i ≤ zs.length ∧ ∀ (j : Nat) x y, j < i → t1.fl[j]? = some x → t2.fl[j]? = some y → x = y) (fun i => zs.length - i) 0 ⟨Nat.zero_le _, fun j x y h => absurd h (Nat.not_lt_zero _)⟩ ⟨rfl, rfl, rfl, trivial⟩ ?_
      rintro i ⟨hi, hsm⟩
      by_cases hlt : i < zs.length
      · obtain ⟨f, pf, cf, _, hfl, hfv, hfi, hc1⟩ := hs.at hzl hlt
        obtain ⟨g, pg, cg, _, hgl, hgv, hgi, hc2⟩ := hy.at hym (show i < ys.length by omega)
        by_cases hfg : f = g
        · refine ze ?_; refine ze ?_; refine zb (id := 4) ?_; refine Zs1 ?_; refine Zs5 ?_; refine Zs17 ?_; refine Zs31 ?_; refine Zs11 ?_; refine zd ?_; refine zf ?_; refine zw rfl ?_; refine zt ?_; refine zf ?_; refine ze ?_; refine zy ?_; refine ze ?_; refine zz (id := 6) [] mixed (by kernel_rfl) ?_; refine Zs32 ?_; refine Zs29 ?_; refine Zs7 ?_; refine z8 (qb L _ rfl rfl rfl rfl rfl rfl rfl (by first | omega | decide) (by assumption)) rfl ?_; refine z8 (y5 L (vs := [_, _, _, _, _, _, _, _, _, _, _, _, _, _]) rfl rfl rfl rfl rfl ⟨_, rfl⟩) rfl ?_; refine Zs32 ?_; refine Zs29 ?_; refine Zs7 ?_; refine z8 (qb L _ rfl rfl rfl rfl rfl rfl rfl (by first | omega | decide) (by assumption)) rfl ?_; refine z8 (y5 L (vs := [_, _, _, _, _, _, _, _, _, _, _, _, _, _]) rfl rfl rfl rfl rfl ⟨_, rfl⟩) rfl ?_; refine z8 (zo L rfl rfl (zg rfl) rfl rfl rfl (fun u H hH hle _ => rsf_ret hfi hgi (if_pos hfg) (hfv.le hle) (hgv.le hle) hH)) rfl ?_; refine Zs71 ?_; refine qk ?_; refine zf ?_; refine zm rfl ?_; refine zt ?_; refine qm ?_; refine zf ?_; refine zb (id := 5) ?_; refine Zs1 ?_; refine Zs13 ?_; refine Zs2 ?_; refine zd ?_
          exact y1 (x := i) (i + 1) ⟨hlt, fun j x' y' hj e1 e2 => by
            rcases Nat.lt_or_ge j i with h | h
            · exact hsm j x' y' h e1 e2
            · have : j = i := by omega
              subst this; rw [hfl] at e1; rw [hgl] at e2; cases e1; cases e2; exact hfg⟩ (by omega) ⟨rfl, rfl, rfl, trivial⟩
        · obtain rfl : r = 0 := by rw [← hr]; exact if_neg fun e => hfg (by rw [e.2, hgl] at hfl; exact (Option.some.inj hfl).symm)
          refine ze ?_; refine ze ?_; refine zb (id := 4) ?_; refine Zs1 ?_; refine Zs5 ?_; refine Zs17 ?_; refine Zs31 ?_; refine Zs11 ?_; refine zd ?_; refine zf ?_; refine zw rfl ?_; refine zt ?_; refine zf ?_; refine ze ?_; refine zy ?_; refine ze ?_; refine zz (id := 6) [] mixed (by kernel_rfl) ?_; refine Zs32 ?_; refine Zs29 ?_; refine Zs7 ?_; refine z8 (qb L _ rfl rfl rfl rfl rfl rfl rfl (by first | omega | decide) (by assumption)) rfl ?_; refine z8 (y5 L (vs := [_, _, _, _, _, _, _, _, _, _, _, _, _, _]) rfl rfl rfl rfl rfl ⟨_, rfl⟩) rfl ?_; refine Zs32 ?_; refine Zs29 ?_; refine Zs7 ?_; refine z8 (qb L _ rfl rfl rfl rfl rfl rfl rfl (by first | omega | decide) (by assumption)) rfl ?_; refine z8 (y5 L (vs := [_, _, _, _, _, _, _, _, _, _, _, _, _, _]) rfl rfl rfl rfl rfl ⟨_, rfl⟩) rfl ?_; refine z8 (zo L rfl rfl (zg rfl) rfl rfl rfl (fun u H hH hle _ => rsf_ret hfi hgi (if_neg hfg) (hfv.le hle) (hgv.le hle) hH)) rfl ?_; refine Zs80 ?_; refine qk ?_; refine zf ?_; refine zw rfl ?_; refine ze ?_; refine zb (id := 7) ?_; refine Zs2 ?_; refine zd ?_; refine zf ?_
          refine qn L (rs := [.tmp 4]) rfl (fun _ _ h => h) Since.refl fun u H hH hle => ?_
          rfl
      · obtain rfl : r = 1 := by rw [← hr]; exact if_pos ⟨hnx, list_eq_of (by omega) fun j x y e1 e2 => hsm j x y (by have := get_lt e1; omega) e1 e2⟩
        refine ze ?_; refine ze ?_; refine zb (id := 4) ?_; refine Zs1 ?_; refine Zs5 ?_; refine Zs17 ?_; refine Zs31 ?_; refine Zs8 ?_; refine zd ?_; refine zf ?_; refine zm rfl ?_; refine y7 ?_; refine qg ?_; refine qg ?_; refine y6 ?_; refine zf ?_; refine ze ?_; refine zb (id := 8) ?_; refine Zs2 ?_; refine zd ?_; refine zf ?_
        refine qn L (rs := [.tmp 4]) rfl (fun _ _ h => h) Since.refl fun u H hH hle => ?_
        rfl
    · obtain rfl : r = 0 := by rw [← hr]; exact if_neg fun e => hl (by rw [h1, h2, e.2])
      refine ze ?_; refine zb (id := 0) ?_; refine Zs21 ?_; refine Zs21 ?_; refine Zs2 ?_; refine zd ?_; refine zf ?_; refine ze ?_; refine ze ?_; refine zb (id := 1) ?_; refine Zs5 ?_; refine Zs4 ?_; refine Zs5 ?_; refine Zs4 ?_; refine Zs10 ?_; refine Zs1 ?_; refine Zs5 ?_; refine Zs17 ?_; refine Zs31 ?_; refine Zs5 ?_; refine Zs17 ?_; refine Zs31 ?_; refine Zs27 ?_; refine Zs6 ?_; refine zd ?_; refine zf ?_; refine zw rfl ?_; refine ze ?_; refine zb (id := 2) ?_; refine Zs2 ?_; refine zd ?_; refine zf ?_
      refine qn L (rs := [.tmp 4]) rfl (fun _ _ h => h) Since.refl fun u H hH hle => ?_
      rfl
  · obtain rfl : r = 0 := by rw [← hr]; exact if_neg fun e => hnx e.1
    refine ze ?_; refine zb (id := 0) ?_; refine Zs21 ?_; refine Zs21 ?_; refine Zs2 ?_; refine zd ?_; refine zf ?_; refine ze ?_; refine ze ?_; refine zb (id := 1) ?_; refine Zs5 ?_; refine Zs4 ?_; refine Zs5 ?_; refine Zs4 ?_; refine Zs27 ?_; refine Zs1 ?_; refine Zs3 ?_; refine Zs3 ?_; refine Zs3 ?_; refine Zs3 ?_; refine Zs3 ?_; refine Zs3 ?_; refine Zs3 ?_; refine Zs6 ?_; refine zd ?_; refine zf ?_; refine zw rfl ?_; refine ze ?_; refine zb (id := 2) ?_; refine Zs2 ?_; refine zd ?_; refine zf ?_
    refine qn L (rs := [.tmp 4]) rfl (fun _ _ h => h) Since.refl fun u H hH hle => ?_
    rfl
end Go.V.L39
namespace Go.V
open Go.Proofs Go.RowKit
section
variable {P : Program} {F : Fr} {B : Heap} {n : Nat} {O : Boxes} {ops : Array Oper} {ex : Exs} {κ : Kap} {Q : Exit → Act → World → Prop} {o : Oper} {os : List Oper} {d : Nat} {k : Kn}
theorem _root_.Go.V.Zs26 (h : VO P F B n O ops (upd κ d k) os Q) (s : StepOK P F B n ops O κ o d k := by exact ok_rem rfl rfl rfl rfl (by omega) (by assumption)) (v : vd o = some d := by rfl) : VO P F B n O ops κ (o :: os) Q := z7 s v h
end
attribute [local irreducible] V N X VO Par StepOK Has Ret RetL Src
theorem id_ret (n : Nat) {w : World} {B : Heap} (hB : B.Le (hp w)) : Ret Try.prog 56 [.int .i64 n] w B (fun v _ => v = .string (idS n)) := by
  unfold idS
  have e : Int.tmod (n : Int) 5 = ((n % 5 : Nat) : Int) := rfl
  refine ya Try.func56 rfl Try.ntmps56 (Nat.le_of_ble_eq_true rfl) hB ?_
  have hlt := Nat.mod_lt n (show 0 < 5 by decide)
  rcases (by omega : n % 5 = 0 ∨ n % 5 = 1 ∨ n % 5 = 2 ∨ n % 5 = 3 ∨ n % 5 = 4) with h | h | h | h | h
  · have e0 : Int.tmod (n : Int) 5 = 0 := by rw [e, h]; rfl
    rw [h]
    refine ze ?_; refine zb (id := 0) ?_; refine Zs2 ?_; refine zd ?_; refine zf ?_; refine ze ?_; refine zb (id := 1) ?_; refine Zs25 ?_; refine Zs1 ?_; refine Zs26 ?_; refine z7 (ok_indexSl L 0 rfl rfl rfl rfl rfl rfl rfl (by omega)) rfl ?_; refine Zs4 ?_; refine Zs2 ?_; refine zd ?_; refine zf ?_
    refine qn L (rs := [.tmp 2]) rfl (fun _ _ h => h) Since.refl fun u H hH hle => ?_
    rfl
  · have e0 : Int.tmod (n : Int) 5 = 1 := by rw [e, h]; rfl
    rw [h]
    refine ze ?_; refine zb (id := 0) ?_; refine Zs2 ?_; refine zd ?_; refine zf ?_; refine ze ?_; refine zb (id := 1) ?_; refine Zs25 ?_; refine Zs1 ?_; refine Zs26 ?_; refine z7 (ok_indexSl L 1 rfl rfl rfl rfl rfl rfl rfl (by omega)) rfl ?_; refine Zs4 ?_; refine Zs2 ?_; refine zd ?_; refine zf ?_
    refine qn L (rs := [.tmp 2]) rfl (fun _ _ h => h) Since.refl fun u H hH hle => ?_
    rfl
  · have e0 : Int.tmod (n : Int) 5 = 2 := by rw [e, h]; rfl
    rw [h]
    refine ze ?_; refine zb (id := 0) ?_; refine Zs2 ?_; refine zd ?_; refine zf ?_; refine ze ?_; refine zb (id := 1) ?_; refine Zs25 ?_; refine Zs1 ?_; refine Zs26 ?_; refine z7 (ok_indexSl L 2 rfl rfl rfl rfl rfl rfl rfl (by omega)) rfl ?_; refine Zs4 ?_; refine Zs2 ?_; refine zd ?_; refine zf ?_
    refine qn L (rs := [.tmp 2]) rfl (fun _ _ h => h) Since.refl fun u H hH hle => ?_
    rfl
  · have e0 : Int.tmod (n : Int) 5 = 3 := by rw [e, h]; rfl
    rw [h]
    refine ze ?_; refine zb (id := 0) ?_; refine Zs2 ?_; refine zd ?_; refine zf ?_; refine ze ?_; refine zb (id := 1) ?_; refine Zs25 ?_; refine Zs1 ?_; refine Zs26 ?_; refine z7 (ok_indexSl L 3 rfl rfl rfl rfl rfl rfl rfl (by omega)) rfl ?_; refine Zs4 ?_; refine Zs2 ?_; refine zd ?_; refine zf ?_
    refine qn L (rs := [.tmp 2]) rfl (fun _ _ h => h) Since.refl fun u H hH hle => ?_
    rfl
  · have e0 : Int.tmod (n : Int) 5 = 4 := by rw [e, h]; rfl
    rw [h]
    refine ze ?_; refine zb (id := 0) ?_; refine Zs2 ?_; refine zd ?_; refine zf ?_; refine ze ?_; refine zb (id := 1) ?_; refine Zs25 ?_; refine Zs1 ?_; refine Zs26 ?_; refine z7 (ok_indexSl L 4 rfl rfl rfl rfl rfl rfl rfl (by omega)) rfl ?_; refine Zs4 ?_; refine Zs2 ?_; refine zd ?_; refine zf ?_
    refine qn L (rs := [.tmp 2]) rfl (fun _ _ h => h) Since.refl fun u H hH hle => ?_
    rfl
theorem rel_ret (n : Nat) {w : World} {B : Heap} (hB : B.Le (hp w)) : Ret Try.prog 57 [.int .i64 n] w B (fun v _ => v = .string (relS n)) := by
  unfold relS
  have e : Int.tmod (n : Int) 4 = ((n % 4 : Nat) : Int) := rfl
  refine ya Try.func57 rfl Try.ntmps57 (Nat.le_of_ble_eq_true rfl) hB ?_
  have hlt := Nat.mod_lt n (show 0 < 4 by decide)
  rcases (by omega : n % 4 = 0 ∨ n % 4 = 1 ∨ n % 4 = 2 ∨ n % 4 = 3) with h | h | h | h
  · have e0 : Int.tmod (n : Int) 4 = 0 := by rw [e, h]; rfl
    rw [h]
    refine ze ?_; refine zb (id := 0) ?_; refine Zs2 ?_; refine zd ?_; refine zf ?_; refine ze ?_; refine zb (id := 1) ?_; refine Zs25 ?_; refine Zs1 ?_; refine Zs26 ?_; refine z7 (ok_indexSl L 0 rfl rfl rfl rfl rfl rfl rfl (by omega)) rfl ?_; refine Zs4 ?_; refine Zs2 ?_; refine zd ?_; refine zf ?_
    refine qn L (rs := [.tmp 2]) rfl (fun _ _ h => h) Since.refl fun u H hH hle => ?_
    rfl
  · have e0 : Int.tmod (n : Int) 4 = 1 := by rw [e, h]; rfl
    rw [h]
    refine ze ?_; refine zb (id := 0) ?_; refine Zs2 ?_; refine zd ?_; refine zf ?_; refine ze ?_; refine zb (id := 1) ?_; refine Zs25 ?_; refine Zs1 ?_; refine Zs26 ?_; refine z7 (ok_indexSl L 1 rfl rfl rfl rfl rfl rfl rfl (by omega)) rfl ?_; refine Zs4 ?_; refine Zs2 ?_; refine zd ?_; refine zf ?_
    refine qn L (rs := [.tmp 2]) rfl (fun _ _ h => h) Since.refl fun u H hH hle => ?_
    rfl
  · have e0 : Int.tmod (n : Int) 4 = 2 := by rw [e, h]; rfl
    rw [h]
    refine ze ?_; refine zb (id := 0) ?_; refine Zs2 ?_; refine zd ?_; refine zf ?_; refine ze ?_; refine zb (id := 1) ?_; refine Zs25 ?_; refine Zs1 ?_; refine Zs26 ?_; refine z7 (ok_indexSl L 2 rfl rfl rfl rfl rfl rfl rfl (by omega)) rfl ?_; refine Zs4 ?_; refine Zs2 ?_; refine zd ?_; refine zf ?_
    refine qn L (rs := [.tmp 2]) rfl (fun _ _ h => h) Since.refl fun u H hH hle => ?_
    rfl
  · have e0 : Int.tmod (n : Int) 4 = 3 := by rw [e, h]; rfl
    rw [h]
    refine ze ?_; refine zb (id := 0) ?_; refine Zs2 ?_; refine zd ?_; refine zf ?_; refine ze ?_; refine zb (id := 1) ?_; refine Zs25 ?_; refine Zs1 ?_; refine Zs26 ?_; refine z7 (ok_indexSl L 3 rfl rfl rfl rfl rfl rfl rfl (by omega)) rfl ?_; refine Zs4 ?_; refine Zs2 ?_; refine zd ?_; refine zf ?_
    refine qn L (rs := [.tmp 2]) rfl (fun _ _ h => h) Since.refl fun u H hH hle => ?_
    rfl
end Go.V
namespace Go.V.L39
open Go.Proofs Go.RowKit Go.V
section
variable {P : Program} {F : Fr} {B : Heap} {n : Nat} {O : Boxes} {ops : Array Oper} {ex : Exs} {κ : Kap} {Q : Exit → Act → World → Prop} {o : Oper} {os : List Oper} {d : Nat} {k : Kn}
theorem _root_.Go.V.Zs33 (h : VO P F B n O ops (upd κ d k) os Q) (s : StepOK P F B n ops O κ o d k := by exact ok_quo rfl rfl rfl rfl (by omega) (by assumption)) (v : vd o = some d := by rfl) : VO P F B n O ops κ (o :: os) Q := z7 s v h
end
attribute [local irreducible] V N X VO Par StepOK Has Ret RetL RetO RetT RetG Src
theorem query_law {n : Nat} (hn : n ≤ 255) {w : World} {B : Heap} (hB : B.Le (hp w)) : Ret Try.prog 26 [.int .u8 n] w B (fun v _ => v = quv (qS n)) := by
  have e6 : Int.tmod (n : Int) 6 = ((n % 6 : Nat) : Int) := rfl
  have e2 : Int.tmod (n : Int) 2 = ((n % 2 : Nat) : Int) := rfl
  have hlt := Nat.mod_lt n (show 0 < 6 by decide)
  have hlt2 := Nat.mod_lt n (show 0 < 2 by decide)
  unfold qS
  generalize n % 6 = m at e6 hlt
  generalize n % 2 = s at e2 hlt2
  have q1 : (m : Int).tdiv 2 = ((m / 2 : Nat) : Int) := rfl
  have d1 : IntKind.i64.wrap ((m : Int).tdiv 2) = ((m / 2 : Nat) : Int) := wrap_i64 (by omega) (by omega)
  refine ya Try.func26 rfl Try.ntmps26 (Nat.le_of_ble_eq_true rfl) hB ?_
  by_cases h : 3 < m
  · rw [if_pos h]
    refine ze ?_; refine zb (id := 0) ?_; refine Zs24 ?_; refine zd ?_; refine zf ?_; refine ze ?_; refine zb (id := 1) ?_; refine Zs1 ?_; refine Zs26 ?_; refine z7 (ok_conv rfl rfl rfl cv5_3.1 cv5_3.2 (wrap_i64 (by omega) (by omega))) rfl ?_; refine Zs33 ?_; refine z7 (zo L rfl rfl (zg rfl) rfl rfl rfl (fun u H hH _ _ => id_ret _ hH)) rfl ?_; refine z7 (qt (cs := [_, _]) rfl rfl pl26 rfl rfl) rfl ?_; refine z7 (qt (cs := [_, _, _]) rfl rfl pl28 rfl rfl) rfl ?_; refine Zs1 ?_; refine Zs26 ?_; refine z7 (ok_conv rfl rfl rfl cv5_3.1 cv5_3.2 (wrap_i64 (by omega) (by omega))) rfl ?_; refine z7 (zo L rfl rfl (zg rfl) rfl rfl rfl (fun u H hH _ _ => id_ret _ hH)) rfl ?_; refine z7 (qt (cs := [_, _]) rfl rfl pl26 rfl rfl) rfl ?_; refine z7 (qt (cs := [_, _, _, _, _, _]) rfl rfl pl30 rfl rfl) rfl ?_; refine Zs24 ?_; refine Zs14 ?_; refine zd ?_; refine zf ?_; refine ze ?_; refine ze ?_; refine zb (id := 2) ?_; refine Zs1 ?_; refine Zs26 ?_; refine Zs23 ?_; refine zd ?_; refine zf ?_; refine zw rfl ?_; refine ze ?_
    refine V_box 3 rfl fun b3 hb3 => ?_
    refine zb (id := 3) ?_; refine Zs19 ?_; refine box_store L (O1 := []) rfl rfl rfl rfl rfl rfl rfl rfl rfl ?_; refine zd ?_; refine zf ?_; refine ze ?_; refine zb (id := 4) ?_; refine Zs1 ?_; refine Zs26 ?_; refine z7 (ok_conv rfl rfl rfl cv5_3.1 cv5_3.2 (wrap_i64 (by omega) (by omega))) rfl ?_; refine z7 (zo L rfl rfl (zg rfl) rfl rfl rfl (fun u H hH _ _ => rel_ret _ hH)) rfl ?_; refine Zs19 ?_; refine Zs19 ?_; refine box_store L (O1 := []) rfl rfl rfl rfl rfl rfl rfl rfl rfl ?_; refine zd ?_; refine zf ?_; refine zb (id := 5) ?_; refine z7 (qt (cs := [_, _]) rfl rfl pl26 rfl rfl) rfl ?_; refine Zs19 ?_; refine box_store L (O1 := []) rfl rfl rfl rfl rfl rfl rfl rfl rfl ?_; refine zd ?_; refine zf ?_; refine ze ?_; refine zb (id := 6) ?_; refine z7 (zn L (vs := [_, _, _, _, _, _]) (qy rfl (List.Mem.head _)) rfl rfl rfl rfl ⟨_, rfl⟩) rfl ?_; refine Zs14 ?_; refine zd ?_; refine zf ?_
    refine qn L (rs := [.cell 2 30]) rfl (fun _ _ h => h) Since.refl fun u H hH hle => ?_
    refine resK_cellA (qe rfl) rfl rfl ?_
    rfl
  · rw [if_neg h]
    refine ze ?_; refine zb (id := 0) ?_; refine Zs24 ?_; refine zd ?_; refine zf ?_; refine ze ?_; refine zb (id := 1) ?_; refine Zs1 ?_; refine Zs26 ?_; refine z7 (ok_conv rfl rfl rfl cv5_3.1 cv5_3.2 (wrap_i64 (by omega) (by omega))) rfl ?_; refine Zs33 ?_; refine z7 (zo L rfl rfl (zg rfl) rfl rfl rfl (fun u H hH _ _ => id_ret _ hH)) rfl ?_; refine z7 (qt (cs := [_, _]) rfl rfl pl26 rfl rfl) rfl ?_; refine z7 (qt (cs := [_, _, _]) rfl rfl pl28 rfl rfl) rfl ?_; refine Zs1 ?_; refine Zs26 ?_; refine z7 (ok_conv rfl rfl rfl cv5_3.1 cv5_3.2 (wrap_i64 (by omega) (by omega))) rfl ?_; refine z7 (zo L rfl rfl (zg rfl) rfl rfl rfl (fun u H hH _ _ => id_ret _ hH)) rfl ?_; refine z7 (qt (cs := [_, _]) rfl rfl pl26 rfl rfl) rfl ?_; refine z7 (qt (cs := [_, _, _, _, _, _]) rfl rfl pl30 rfl rfl) rfl ?_; refine Zs24 ?_; refine Zs14 ?_; refine zd ?_; refine zf ?_; refine ze ?_; refine ze ?_; refine zb (id := 2) ?_; refine Zs1 ?_; refine Zs26 ?_; refine Zs16 ?_; refine zd ?_; refine zf ?_; refine zm rfl ?_; refine zt ?_; refine zf ?_; refine ze ?_; refine zb (id := 6) ?_; refine z7 (zn L (vs := [_, _, _, _, _, _]) (qe rfl) rfl rfl rfl rfl ⟨_, rfl⟩) rfl ?_; refine Zs14 ?_; refine zd ?_; refine zf ?_
    refine qn L (rs := [.cell 2 30]) rfl (fun _ _ h => h) Since.refl fun u H hH hle => ?_
    refine resK_cellA (qe rfl) rfl rfl ?_
    rfl
theorem item_law {o : Op6} {i : Nat} (hi : i ≤ 1000) (hz : OpZ o) {w : World} {B : Heap} (hB : B.Le (hp w)) : Ret Try.prog 25 [.agg #[.int .u8 o.w, .int .u8 o.q, .int .u8 o.r, .int .u8 o.c, .int .u8 o.k, .int .u8 o.n], .int .i64 i] w B (fun v _ => v = itv (itS o i)) := by
  obtain ⟨a, b, r, c, k, m⟩ := o
  obtain ⟨z1, z2, z3, z4, z5, z6⟩ := hz
  dsimp only at z1 z2 z3 z4 z5 z6 ⊢
  have e4 : Int.tmod (c : Int) 4 = ((c % 4 : Nat) : Int) := rfl
  have e8 : Int.tmod (k : Int) 8 = ((k % 8 : Nat) : Int) := rfl
  have e3 : Int.tmod (r : Int) 3 = ((r % 3 : Nat) : Int) := rfl
  have e2 : Int.tmod (i : Int) 2 = ((i % 2 : Nat) : Int) := rfl
  have q1 : (i : Int).tdiv 2 = ((i / 2 : Nat) : Int) := rfl
  have d1 : IntKind.i64.wrap ((i : Int).tdiv 2) = ((i / 2 : Nat) : Int) := wrap_i64 (by omega) (by omega)
  have d2 : IntKind.i64.wrap (Int.tmod (i : Int) 2) = ((i % 2 : Nat) : Int) := wrap_i64 (by omega) (by omega)
  have d3 : IntKind.u64.wrap (1 + ((r % 3 : Nat) : Int)) = ((1 + r % 3 : Nat) : Int) := wrap_u64 (by omega) (by omega) |>.trans (by omega)
  unfold itS
  refine ya Try.func25 rfl Try.ntmps25 (Nat.le_of_ble_eq_true rfl) hB ?_
  refine ze ?_; refine zb (id := 0) ?_; refine Zs21 ?_; refine Zs24 ?_; refine zd ?_; refine zf ?_; refine ze ?_; refine zb (id := 1) ?_; refine Zs1 ?_; refine Zs33 ?_; refine Zs1 ?_; refine Zs26 ?_; refine Zs5 ?_; refine Zs4 ?_; refine Zs26 ?_; refine z7 (ok_conv rfl rfl rfl cv5_3.1 cv5_3.2 (wrap_i64 (by omega) (by omega))) rfl ?_; refine Zs5 ?_; refine Zs4 ?_; refine Zs26 ?_; refine z7 (ok_conv rfl rfl rfl cv5_3.1 cv5_3.2 (wrap_i64 (by omega) (by omega))) rfl ?_; refine Zs5 ?_; refine Zs4 ?_; refine Zs26 ?_; refine z7 (ok_conv rfl rfl rfl cv5_31.1 cv5_31.2 (wrap_u64 (by omega) (by omega))) rfl ?_; refine Zs18 ?_; refine z7 (qt (cs := [_, _, _, _, _]) rfl rfl pl33 rfl rfl) rfl ?_; refine Zs14 ?_; refine zd ?_; refine zf ?_
  refine qn L (rs := [.cell 4 33]) rfl (fun _ _ h => h) Since.refl fun u H hH hle => ?_
  refine resK_cellA (qe rfl) rfl rfl ?_
  rfl
theorem pair_law {w : World} {B : Heap} (hB : B.Le (hp w)) : Ret Try.prog 32 [] w B (fun v _ => v = .tuple #[quv (qS 0), quv (qS 1)]) := by
  refine ya Try.func32 rfl Try.ntmps32 (Nat.le_of_ble_eq_true rfl) hB ?_
  refine ze ?_; refine zb (id := 0) ?_; refine Zs24 ?_; refine Zs24 ?_; refine zd ?_; refine zf ?_; refine ze ?_; refine zb (id := 1) ?_; refine z7 (zo L rfl rfl (zg rfl) rfl rfl rfl (fun u H hH _ _ => query_law (n := _) (by decide) hH)) rfl ?_; refine z7 (zo L rfl rfl (zg rfl) rfl rfl rfl (fun u H hH _ _ => query_law (n := _) (by decide) hH)) rfl ?_; refine Zs14 ?_; refine Zs14 ?_; refine zd ?_; refine zf ?_
  refine qn L (rs := [.cell 0 30, .cell 1 30]) rfl (fun _ _ h => h) Since.refl fun u H hH hle => ?_
  refine resK_cellA (qe rfl) rfl rfl ?_
  refine resK_cellA (qe rfl) rfl rfl ?_
  rfl
def bndB (t : Tb) : Bool := decide (t.fl.length ≤ 30 ∧ itsN t.fl ≤ 60)
theorem bounded_law {t : Tb} {zs : List (Fl × Value)} (hz : zs.map Prod.fst = t.fl) {fu fi : Bool} {s : Value} {b : Bool} (hb : bndB t = b) {w : World} {B : Heap} (hs : FsB zs fu fi s B) (hn : itsN t.fl ≤ 9223372036854775807) (hB : B.Le (hp w)) :
    Ret Try.prog 9 [tbv t.nx s] w B (fun v _ => v = .bool b) := by
  have hsl := hs.sl
  have hlen := fls_len hz
  have hzl := hs.ln
  unfold bndB at hb
  refine ya Try.func9 rfl Try.ntmps9 (Nat.le_of_ble_eq_true rfl) hB ?_
  by_cases h1 : zs.length ≤ 30
  · by_cases h2 : itsN t.fl ≤ 60
    · obtain rfl : b = true := by rw [← hb]; exact decide_eq_true ⟨by omega, h2⟩
      refine ze ?_; refine zb (id := 0) ?_; refine Zs21 ?_; refine Zs2 ?_; refine zd ?_; refine zf ?_; refine ze ?_; refine zb (id := 1) ?_; refine Zs5 ?_; refine Zs17 ?_; refine Zs31 ?_; refine Zs57 ?_; refine Zs1 ?_; refine z7 (zn L (vs := [_, _]) (zl rfl) rfl rfl rfl rfl ⟨_, rfl⟩) rfl ?_; refine z7 (zo L rfl rfl (zg rfl) rfl rfl rfl (fun u H hH hle _ => ritems_ret hz (hs.le hle) hn hH)) rfl ?_; refine Zs57 ?_; refine Zs6 ?_; refine Zs2 ?_; refine zd ?_; refine zf ?_
      refine qn L (rs := [.tmp 2]) rfl (fun _ _ h => h) Since.refl fun u H hH hle => ?_
      rfl
    · obtain rfl : b = false := by rw [← hb]; exact decide_eq_false fun h => h2 h.2
      refine ze ?_; refine zb (id := 0) ?_; refine Zs21 ?_; refine Zs2 ?_; refine zd ?_; refine zf ?_; refine ze ?_; refine zb (id := 1) ?_; refine Zs5 ?_; refine Zs17 ?_; refine Zs31 ?_; refine Zs57 ?_; refine Zs1 ?_; refine z7 (zn L (vs := [_, _]) (zl rfl) rfl rfl rfl rfl ⟨_, rfl⟩) rfl ?_; refine z7 (zo L rfl rfl (zg rfl) rfl rfl rfl (fun u H hH hle _ => ritems_ret hz (hs.le hle) hn hH)) rfl ?_; refine Zs56 ?_; refine Zs6 ?_; refine Zs2 ?_; refine zd ?_; refine zf ?_
      refine qn L (rs := [.tmp 2]) rfl (fun _ _ h => h) Since.refl fun u H hH hle => ?_
      rfl
  · obtain rfl : b = false := by rw [← hb]; exact decide_eq_false fun h => h1 (by omega)
    refine ze ?_; refine zb (id := 0) ?_; refine Zs21 ?_; refine Zs2 ?_; refine zd ?_; refine zf ?_; refine ze ?_; refine zb (id := 1) ?_; refine Zs5 ?_; refine Zs17 ?_; refine Zs31 ?_; refine Zs56 ?_; refine Zs1 ?_; refine Zs3 ?_; refine Zs3 ?_; refine Zs3 ?_; refine Zs6 ?_; refine Zs2 ?_; refine zd ?_; refine zf ?_
    refine qn L (rs := [.tmp 2]) rfl (fun _ _ h => h) Since.refl fun u H hH hle => ?_
    rfl
end Go.V.L39
namespace Go.V.L39
open Go.Proofs Go.RowKit Go.V
section
variable {P : Program} {F : Fr} {B : Heap} {n : Nat} {O : Boxes} {ops : Array Oper} {ex : Exs} {κ : Kap} {Q : Exit → Act → World → Prop} {o : Oper} {os : List Oper} {d : Nat} {k : Kn}
theorem _root_.Go.V.Zs61 (h : Par P F B n O ops ex (upd κ d k) os Q) (s : StepOK P F B n ops O κ o d k := by exact qp rfl rfl rfl rfl) (v : vd o = some d := by rfl) : Par P F B n O ops ex κ (o :: os) Q := z8 s v h
theorem _root_.Go.V.Zs64 (h : Par P F B n O ops ex (upd κ d k) os Q) (s : StepOK P F B n ops O κ o d k := by exact yb rfl rfl rfl rfl (by assumption)) (v : vd o = some d := by rfl) : Par P F B n O ops ex κ (o :: os) Q := z8 s v h
end
theorem FsB.nofu {zs : List (Fl × Value)} {fu fi : Bool} {s : Value} {B : Heap} (h : FsB zs fu fi s B) : FsB zs false false s B := ⟨h.sl.nofu, fun i z hz => (h.is i z hz).nofu, h.ln, h.li⟩
theorem qS_z (n : Nat) : QuZ (qS n) := by
  have hi := fun n => (idS_ok n).2
  have hr := fun n => (relS_ok n).2
  unfold qS
  split
  · exact ⟨⟨(by decide : (0 : Int) ≤ 2), (by decide : (2 : Int) ≤ 255)⟩, (by decide : ByteArray.size sDoc ≤ 9223372036854775807), by have := hi (n % 6 / 2); dsimp only; omega, by have := hr (n % 2); dsimp only; omega, (by decide : ByteArray.size U0.1 ≤ 9223372036854775807), (by decide : ByteArray.size U0.2 ≤ 9223372036854775807)⟩
  · exact ⟨⟨(by decide : (0 : Int) ≤ 1), (by decide : (1 : Int) ≤ 255)⟩, (by decide : ByteArray.size sDoc ≤ 9223372036854775807), by have := hi (n % 6 / 2); dsimp only; omega, (by decide : ByteArray.size sViewer ≤ 9223372036854775807), (by decide : ByteArray.size sUser ≤ 9223372036854775807), by have := hi (n % 2); dsimp only; omega⟩
theorem itS_rv (o : Op6) (i : Nat) : 0 ≤ (itS o i).rv := by simp only [itS]; omega
theorem tup2 {φ1 φ2 : Value → Heap → Prop} {a b : Value} {H : Heap} (h1 : φ1 a H) (h2 : φ2 b H) : TupS [φ1, φ2] (.tuple #[a, b]) H := ⟨[a, b], rfl, rfl, fun i φ x hi hx => by
  match i with
  | 0 => cases hi; cases hx; exact h1
  | 1 => cases hi; cases hx; exact h2
  | i + 2 => cases hi⟩
theorem tup4 {φ1 φ2 φ3 φ4 : Value → Heap → Prop} {a b c d : Value} {H : Heap} (h1 : φ1 a H) (h2 : φ2 b H) (h3 : φ3 c H) (h4 : φ4 d H) : TupS [φ1, φ2, φ3, φ4] (.tuple #[a, b, c, d]) H := ⟨[a, b, c, d], rfl, rfl, fun i φ x hi hx => by
  match i with
  | 0 => cases hi; cases hx; exact h1
  | 1 => cases hi; cases hx; exact h2
  | 2 => cases hi; cases hx; exact h3
  | 3 => cases hi; cases hx; exact h4
  | i + 4 => cases hi⟩
theorem TbR.mn {t : Tb} : Kn.mono (.sat (TbR t)) := fun _ _ _ h hle => h.mono hle
theorem eqv_mono {c : Value} : Kn.mono (.sat fun v _ => v = c) := fun _ _ _ h _ => h
abbrev RTabS (t : Tb) (e : Int) : Value → Heap → Prop := TupS [TbR t, fun v _ => v = .int .i64 e]
theorem RTabS.mono {t : Tb} {e : Int} : Kn.mono (.sat (RTabS t e)) := TupS.mono fun φ h => by
  simp only [List.mem_cons, List.mem_nil_iff, or_false] at h
  rcases h with rfl | rfl
  · exact TbR.mn
  · exact eqv_mono
theorem RTabP.tup {t : Tb} {e : Int} {v : Value} {H : Heap} (h : RTabP t e v H) : RTabS t e v H := by
  obtain ⟨tv, rfl, h⟩ := h
  exact tup2 h rfl
abbrev RJoinS (r : Tb × Int × Bool) (e : Int) : Value → Heap → Prop := TupS [TbR r.1, fun v _ => v = .int .i64 r.2.1, fun v _ => v = .int .i64 (if r.2.2 = true then 1 else 0), fun v _ => v = .int .i64 e]
theorem RJoinS.mono {r : Tb × Int × Bool} {e : Int} : Kn.mono (.sat (RJoinS r e)) := TupS.mono fun φ h => by
  simp only [List.mem_cons, List.mem_nil_iff, or_false] at h
  rcases h with rfl | rfl | rfl | rfl
  · exact TbR.mn
  · exact eqv_mono
  · exact eqv_mono
  · exact eqv_mono
theorem RJoinP.tup {r : Tb × Int × Bool} {e : Int} {v : Value} {H : Heap} (h : RJoinP r e v H) : RJoinS r e v H := by
  obtain ⟨tv, rfl, h⟩ := h
  exact tup4 h rfl rfl rfl
abbrev SlX := Option Addr × Nat × Nat
def tbxC (t : Tb) (x : SlX) : List Value := [.int .i64 t.nx, .slice x.1 x.2.1 x.2.2]
def TbX (t : Tb) (x : SlX) (H : Heap) : Prop := ∃ zs, zs.map Prod.fst = t.fl ∧ FsB zs false false (.slice x.1 x.2.1 x.2.2) H
theorem TbX.mono {t : Tb} : MonoX (TbX t) := fun _ _ _ ⟨zs, h1, h2⟩ hle => ⟨zs, h1, h2.le hle⟩
theorem tbx_st {t : Tb} : ∀ v H, TbR t v H → ∃ x, TbX t x H ∧ cellsL v = tbxC t x := fun v H ⟨zs, s, h1, h2, h3⟩ => by
  obtain ⟨p, c, hsv⟩ := h3.shape
  subst h1 hsv
  exact ⟨(p, zs.length, c), ⟨zs, h2, h3⟩, rfl⟩
attribute [local irreducible] V N X VO Par StepOK Has Ret RetL RetO RetT RetG Src
set_option maxHeartbeats 4000000 in
set_option maxRecDepth 20000 in
theorem step_law {t : Tb} {zs : List (Fl × Value)} (hz : zs.map Prod.fst = t.fl) {fu fi : Bool} {s : Value} {w : World} {B : Heap} (hs : FsB zs fu fi s B) (hZ : ∀ f ∈ t.fl, QuZ f.q) (hI : ∀ f ∈ t.fl, ∀ x ∈ f.is, 0 ≤ x.rv) (hn : itsN t.fl ≤ 9223372036854775807) (hln : zs.length ≤ 40000) {o : Op6} (ho : OpZ o) {i : Nat} (hi : i ≤ 1000) (hB : B.Le (hp w)) :
    Ret Try.prog 24 [tbv t.nx s, .agg #[.int .u8 o.w, .int .u8 o.q, .int .u8 o.r, .int .u8 o.c, .int .u8 o.k, .int .u8 o.n], .int .i64 i] w B (TbR (stp t o i)) := by
  obtain ⟨p0, c0, e0⟩ := hs.shape
  subst e0
  have hsl := hs.sl
  have hlen := fls_len hz
  have how := ho.w
  have hon := ho.n
  have hmj := TbR.mn (t := (joinT t (qS o.q) (itS o i).rv (itS o i) ((i / 3 : Nat) : Int) false).1)
  have e8 : Int.tmod (o.w : Int) 8 = ((o.w % 8 : Nat) : Int) := rfl
  have q3 : (i : Int).tdiv 3 = ((i / 3 : Nat) : Int) := rfl
  have d3 : IntKind.i64.wrap ((i : Int).tdiv 3) = ((i / 3 : Nat) : Int) := wrap_i64 (by omega) (by omega)
  have hst : I64 (o.n : Nat) := ⟨by omega, by omega⟩
  refine ya Try.func24 rfl Try.ntmps24 (Nat.le_of_ble_eq_true rfl) hB ?_
  refine ze ?_; refine zb (id := 0) ?_; refine Zs21 ?_; refine Zs21 ?_; refine Zs24 ?_; refine zd ?_; refine zf ?_; refine ze ?_; refine zb (id := 1) ?_; refine z7 (zn L (vs := [_, _, _, _, _, _]) (zl rfl) rfl rfl rfl rfl ⟨_, rfl⟩) rfl ?_; refine Zs1 ?_; refine z7 (zo L rfl rfl (zg rfl) rfl rfl rfl (fun u H hH _ _ => item_law hi ho hH)) rfl ?_; refine Zs24 ?_; refine Zs14 ?_; refine zd ?_; refine zf ?_; refine ze ?_; refine zy ?_; refine ze ?_
  refine V_pub 7 rfl ?_
  unfold stp
  by_cases h1 : o.w % 8 < 5
  · rw [if_pos h1]
    refine zb (id := 6) ?_; refine Zs5 ?_; refine Zs4 ?_; refine Zs26 ?_; refine Zs11 ?_; refine Zs2 ?_; refine zd ?_; refine zf ?_; refine zw rfl ?_; refine ze ?_; refine zz (id := 7) [] mixed (by kernel_rfl) ?_; refine z8 (zn L (vs := [_, _]) (zl rfl) rfl rfl rfl rfl ⟨_, rfl⟩) rfl ?_; refine Zs32 ?_; refine Zs39 ?_; refine z8 (zo L rfl rfl (zg rfl) rfl rfl rfl (fun u H hH _ _ => query_law (by have := ho.q; omega) hH)) rfl ?_; refine Zs32 ?_; refine Zs39 ?_; refine z8 (zn L (vs := [_, _, _, _, _]) (zl rfl) rfl rfl rfl rfl ⟨_, rfl⟩) rfl ?_; refine Zs7 ?_; refine z8 (ok_quo rfl rfl rfl rfl (by omega) (by assumption)) rfl ?_; refine z8 (ok_call (φ := RJoinS (joinT t (qS o.q) (itS o i).rv (itS o i) ((i / 3 : Nat) : Int) false) (joinE t (qS o.q) (itS o i).rv (itS o i) ((i / 3 : Nat) : Int) false)) L rfl rfl (zg rfl) rfl rfl rfl RJoinS.mono (fun u H hH hle _ => Ret.mono (rjoin_ret hz (hs.le hle) hZ hI (qS_z o.q) (itS_rv o i) hn hln hH) fun v H' _ h => RJoinP.tup h)) rfl ?_; refine Zs58 ?_; refine Zs64 ?_; refine Zs61 ?_; refine Zs61 ?_; refine Zs61 ?_; refine z8 (qo L rfl rfl rfl rfl) rfl ?_; refine z8 (ok_storeX L (X := SlX) (tbxC (joinT t (qS o.q) (itS o i).rv (itS o i) ((i / 3 : Nat) : Int) false).1) (TbX (joinT t (qS o.q) (itS o i).rv (itS o i) ((i / 3 : Nat) : Int) false).1) TbX.mono tbx_st (fun _ => ⟨rfl, rfl⟩) rfl rfl rfl rfl rfl) rfl ?_; refine Zs54 ?_; refine Zs54 ?_; refine Zs54 ?_; refine qk ?_; refine zf ?_; refine ze ?_
    refine V_opnX 8 rfl fun ⟨p1, n1, c1⟩ H1 s1 ⟨zs1, g1, g2⟩ => ?_
    dsimp only [tbxC] at g2 ⊢
    by_cases he : joinE t (qS o.q) (itS o i).rv (itS o i) ((i / 3 : Nat) : Int) false = 0
    · rw [if_pos he, jS]
      refine zb (id := 8) ?_; refine Zs1 ?_; refine Zs15 ?_; refine zd ?_; refine zf ?_; refine zw rfl ?_; refine ze ?_; refine zb (id := 9) ?_; refine z7 (zn L (vs := [_, _]) (qe rfl) rfl rfl rfl rfl ⟨_, rfl⟩) rfl ?_; refine Zs14 ?_; refine zd ?_; refine zf ?_
      refine qn L (rs := [.cell 6 24]) rfl (fun _ _ h => h) s1 fun u H hH hle => ?_
      refine resK_cellA (qe rfl) rfl rfl ?_
      exact TbR.mono ⟨zs1, _, rfl, g1, g2⟩ hle
    · rw [if_neg he]
      refine zb (id := 8) ?_; refine Zs1 ?_; refine Zs9 ?_; refine zd ?_; refine zf ?_; refine zm rfl ?_; refine zt ?_; refine qm ?_; refine zf ?_; refine ze ?_; refine zb (id := 15) ?_; refine z7 (zn L (vs := [_, _]) (zl rfl) rfl rfl rfl rfl ⟨_, rfl⟩) rfl ?_; refine Zs14 ?_; refine zd ?_; refine zf ?_
      refine qn L (rs := [.cell 6 24]) rfl (fun _ _ h => h) s1 fun u H hH hle => ?_
      refine resK_cellA (qe rfl) rfl rfl ?_
      exact TbR.mono ⟨zs, _, rfl, hz, (hs.le s1.le).nofu⟩ hle
  · rw [if_neg h1]
    by_cases h0 : t.fl = []
    · rw [if_pos h0]
      have hl0 : zs.length = 0 := by rw [hlen, h0]; rfl
      by_cases h2 : o.w % 8 < 7
      · refine zb (id := 6) ?_; refine Zs5 ?_; refine Zs4 ?_; refine Zs26 ?_; refine Zs8 ?_; refine Zs2 ?_; refine zd ?_; refine zf ?_; refine zm rfl ?_; refine ze ?_; refine zb (id := 10) ?_; refine Zs5 ?_; refine Zs4 ?_; refine Zs26 ?_; refine Zs11 ?_; refine Zs2 ?_; refine zd ?_; refine zf ?_; refine zw rfl ?_; refine ze ?_; refine zb (id := 11) ?_; refine Zs5 ?_; refine Zs17 ?_; refine Zs31 ?_; refine Zs16 ?_; refine zd ?_; refine zf ?_; refine zm rfl ?_; refine zt ?_; refine qm ?_; refine zf ?_; refine ze ?_; refine zb (id := 15) ?_; refine z7 (zn L (vs := [_, _]) (zl rfl) rfl rfl rfl rfl ⟨_, rfl⟩) rfl ?_; refine Zs14 ?_; refine zd ?_; refine zf ?_
        refine qn L (rs := [.cell 6 24]) rfl (fun _ _ h => h) Since.refl fun u H hH hle => ?_
        refine resK_cellA (qe rfl) rfl rfl ?_
        exact TbR.mono ⟨zs, _, rfl, hz, hs.nofu⟩ hle
      · refine zb (id := 6) ?_; refine Zs5 ?_; refine Zs4 ?_; refine Zs26 ?_; refine Zs8 ?_; refine Zs2 ?_; refine zd ?_; refine zf ?_; refine zm rfl ?_; refine ze ?_; refine zb (id := 10) ?_; refine Zs5 ?_; refine Zs4 ?_; refine Zs26 ?_; refine Zs8 ?_; refine Zs2 ?_; refine zd ?_; refine zf ?_; refine zm rfl ?_; refine ze ?_; refine zb (id := 2) ?_; refine Zs5 ?_; refine Zs17 ?_; refine Zs31 ?_; refine Zs16 ?_; refine zd ?_; refine zf ?_; refine zm rfl ?_; refine zt ?_; refine qm ?_; refine zf ?_; refine ze ?_; refine zb (id := 15) ?_; refine z7 (zn L (vs := [_, _]) (zl rfl) rfl rfl rfl rfl ⟨_, rfl⟩) rfl ?_; refine Zs14 ?_; refine zd ?_; refine zf ?_
        refine qn L (rs := [.cell 6 24]) rfl (fun _ _ h => h) Since.refl fun u H hH hle => ?_
        refine resK_cellA (qe rfl) rfl rfl ?_
        exact TbR.mono ⟨zs, _, rfl, hz, hs.nofu⟩ hle
    · rw [if_neg h0]
      have hl0 : 0 < zs.length := by rw [hlen]; exact List.length_pos_iff.2 h0
      have em : Int.tmod ((o.n : Nat) : Int) (zs.length : Nat) = ((o.n % zs.length : Nat) : Int) := rfl
      have hk := Nat.mod_lt o.n hl0
      obtain ⟨f, p, c, hzi, hli, hzv, hil, hc14⟩ := hs.at hz hk
      have hat : atS t o.n = f := by unfold atS; rw [← hlen, hli]; rfl
      rw [hat]
      have hmc := TbR.mn (t := cmT t f.id (o.n : Nat))
      have hml := TbR.mn (t := ldT t f.id)
      generalize o.n % zs.length = k at em hk hzi hli hc14
      by_cases h2 : o.w % 8 < 7
      · rw [if_pos h2]
        refine zb (id := 6) ?_; refine Zs5 ?_; refine Zs4 ?_; refine Zs26 ?_; refine Zs8 ?_; refine Zs2 ?_; refine zd ?_; refine zf ?_; refine zm rfl ?_; refine ze ?_; refine zb (id := 10) ?_; refine Zs5 ?_; refine Zs4 ?_; refine Zs26 ?_; refine Zs11 ?_; refine Zs2 ?_; refine zd ?_; refine zf ?_; refine zw rfl ?_; refine ze ?_; refine zb (id := 11) ?_; refine Zs5 ?_; refine Zs17 ?_; refine Zs31 ?_; refine Zs23 ?_; refine zd ?_; refine zf ?_; refine zw rfl ?_; refine ze ?_; refine zz (id := 12) [] mixed (by kernel_rfl) ?_; refine z8 (zn L (vs := [_, _]) (zl rfl) rfl rfl rfl rfl ⟨_, rfl⟩) rfl ?_; refine Zs32 ?_; refine Zs29 ?_; refine Zs32 ?_; refine Zs39 ?_; refine z8 (ok_conv rfl rfl rfl cv5_3.1 cv5_3.2 (wrap_i64 (by omega) (by omega))) rfl ?_; refine Zs32 ?_; refine Zs29 ?_; refine z8 (y3 L rfl rfl rfl rfl) rfl ?_; refine z8 (ok_rem rfl rfl rfl rfl (by omega) (by assumption)) rfl ?_; refine z8 (qb L _ rfl rfl rfl rfl rfl rfl rfl (by first | omega | decide) (by assumption)) rfl ?_; refine Zs55 ?_; refine Zs51 ?_; refine Zs32 ?_; refine Zs39 ?_; refine z8 (ok_conv rfl rfl rfl cv5_3.1 cv5_3.2 (wrap_i64 (by omega) (by omega))) rfl ?_; refine z8 (ok_call (φ := RTabS (cmT t f.id (o.n : Nat)) (cmE t f.id (o.n : Nat))) L rfl rfl (zg rfl) rfl rfl rfl RTabS.mono (fun u H hH hle _ => Ret.mono (rcommit_ret hz (hs.le hle) hZ hI hn hln hst hH) fun v H' _ h => RTabP.tup h)) rfl ?_; refine Zs58 ?_; refine Zs64 ?_; refine Zs61 ?_; refine z8 (qo L rfl rfl rfl rfl) rfl ?_; refine z8 (ok_storeX L (X := SlX) (tbxC (cmT t f.id (o.n : Nat))) (TbX (cmT t f.id (o.n : Nat))) TbX.mono tbx_st (fun _ => ⟨rfl, rfl⟩) rfl rfl rfl rfl rfl) rfl ?_; refine Zs54 ?_; refine qk ?_; refine zf ?_; refine ze ?_
        refine V_opnX 12 rfl fun ⟨p1, n1, c1⟩ H1 s1 ⟨zs1, g1, g2⟩ => ?_
        dsimp only [tbxC] at g2 ⊢
        by_cases he : cmE t f.id (o.n : Nat) = 0
        · rw [if_pos he]
          refine zb (id := 13) ?_; refine Zs1 ?_; refine Zs15 ?_; refine zd ?_; refine zf ?_; refine zw rfl ?_; refine ze ?_; refine zb (id := 14) ?_; refine z7 (zn L (vs := [_, _]) (qe rfl) rfl rfl rfl rfl ⟨_, rfl⟩) rfl ?_; refine Zs14 ?_; refine zd ?_; refine zf ?_
          refine qn L (rs := [.cell 6 24]) rfl (fun _ _ h => h) s1 fun u H hH hle => ?_
          refine resK_cellA (qe rfl) rfl rfl ?_
          exact TbR.mono ⟨zs1, _, rfl, g1, g2⟩ hle
        · rw [if_neg he]
          refine zb (id := 13) ?_; refine Zs1 ?_; refine Zs9 ?_; refine zd ?_; refine zf ?_; refine zm rfl ?_; refine zt ?_; refine qm ?_; refine zf ?_; refine ze ?_; refine zb (id := 15) ?_; refine z7 (zn L (vs := [_, _]) (zl rfl) rfl rfl rfl rfl ⟨_, rfl⟩) rfl ?_; refine Zs14 ?_; refine zd ?_; refine zf ?_
          refine qn L (rs := [.cell 6 24]) rfl (fun _ _ h => h) s1 fun u H hH hle => ?_
          refine resK_cellA (qe rfl) rfl rfl ?_
          exact TbR.mono ⟨zs, _, rfl, hz, (hs.le s1.le).nofu⟩ hle
      · rw [if_neg h2]
        refine zb (id := 6) ?_; refine Zs5 ?_; refine Zs4 ?_; refine Zs26 ?_; refine Zs8 ?_; refine Zs2 ?_; refine zd ?_; refine zf ?_; refine zm rfl ?_; refine ze ?_; refine zb (id := 10) ?_; refine Zs5 ?_; refine Zs4 ?_; refine Zs26 ?_; refine Zs8 ?_; refine Zs2 ?_; refine zd ?_; refine zf ?_; refine zm rfl ?_; refine ze ?_; refine zb (id := 2) ?_; refine Zs5 ?_; refine Zs17 ?_; refine Zs31 ?_; refine Zs23 ?_; refine zd ?_; refine zf ?_; refine zw rfl ?_; refine ze ?_; refine zz (id := 3) [] mixed (by kernel_rfl) ?_; refine z8 (zn L (vs := [_, _]) (zl rfl) rfl rfl rfl rfl ⟨_, rfl⟩) rfl ?_; refine Zs32 ?_; refine Zs29 ?_; refine Zs32 ?_; refine Zs39 ?_; refine z8 (ok_conv rfl rfl rfl cv5_3.1 cv5_3.2 (wrap_i64 (by omega) (by omega))) rfl ?_; refine Zs32 ?_; refine Zs29 ?_; refine z8 (y3 L rfl rfl rfl rfl) rfl ?_; refine z8 (ok_rem rfl rfl rfl rfl (by omega) (by assumption)) rfl ?_; refine z8 (qb L _ rfl rfl rfl rfl rfl rfl rfl (by first | omega | decide) (by assumption)) rfl ?_; refine Zs55 ?_; refine Zs51 ?_; refine z8 (ok_call (φ := RTabS (ldT t f.id) (plE t f.id)) L rfl rfl (zg rfl) rfl rfl rfl RTabS.mono (fun u H hH hle _ => Ret.mono (rland_ret hz (hs.le hle) hZ hI hn hln hH) fun v H' _ h => RTabP.tup h)) rfl ?_; refine Zs58 ?_; refine Zs64 ?_; refine Zs61 ?_; refine z8 (qo L rfl rfl rfl rfl) rfl ?_; refine z8 (ok_storeX L (X := SlX) (tbxC (ldT t f.id)) (TbX (ldT t f.id)) TbX.mono tbx_st (fun _ => ⟨rfl, rfl⟩) rfl rfl rfl rfl rfl) rfl ?_; refine Zs54 ?_; refine qk ?_; refine zf ?_; refine ze ?_
        refine V_opnX 14 rfl fun ⟨p1, n1, c1⟩ H1 s1 ⟨zs1, g1, g2⟩ => ?_
        dsimp only [tbxC] at g2 ⊢
        by_cases he : plE t f.id = 0
        · rw [if_pos he]
          refine zb (id := 4) ?_; refine Zs1 ?_; refine Zs15 ?_; refine zd ?_; refine zf ?_; refine zw rfl ?_; refine ze ?_; refine zb (id := 5) ?_; refine z7 (zn L (vs := [_, _]) (qe rfl) rfl rfl rfl rfl ⟨_, rfl⟩) rfl ?_; refine Zs14 ?_; refine zd ?_; refine zf ?_
          refine qn L (rs := [.cell 6 24]) rfl (fun _ _ h => h) s1 fun u H hH hle => ?_
          refine resK_cellA (qe rfl) rfl rfl ?_
          exact TbR.mono ⟨zs1, _, rfl, g1, g2⟩ hle
        · rw [if_neg he]
          refine zb (id := 4) ?_; refine Zs1 ?_; refine Zs9 ?_; refine zd ?_; refine zf ?_; refine zm rfl ?_; refine zt ?_; refine qm ?_; refine zf ?_; refine ze ?_; refine zb (id := 15) ?_; refine z7 (zn L (vs := [_, _]) (zl rfl) rfl rfl rfl rfl ⟨_, rfl⟩) rfl ?_; refine Zs14 ?_; refine zd ?_; refine zf ?_
          refine qn L (rs := [.cell 6 24]) rfl (fun _ _ h => h) s1 fun u H hH hle => ?_
          refine resK_cellA (qe rfl) rfl rfl ?_
          exact TbR.mono ⟨zs, _, rfl, hz, (hs.le s1.le).nofu⟩ hle
end Go.V.L39
namespace Go.V.L39
open Go.Proofs Go.RowKit Go.V
def lvQ (i : Nat) : Qu := if i < 3 then qS 0 else qS 1
def lvI : Nat → It
  | 0 => ⟨0, 0, 0, 2, 1⟩
  | 1 => ⟨1, 0, 3, 1, 1⟩
  | 2 => ⟨2, 0, 0, 0, 2⟩
  | _ => ⟨2, 1, 0, 0, 1⟩
def lvT : Nat → Tb
  | 0 => T0
  | i + 1 => (joinT (lvT i) (lvQ i) (lvI i).rv (lvI i) 5 false).1
theorem lv_join : ∀ i, i < 4 → joinE (lvT i) (lvQ i) (lvI i).rv (lvI i) 5 false = 0 ∧ (joinT (lvT i) (lvQ i) (lvI i).rv (lvI i) 5 false).2 = ((([0, 0, 1, 2] : List Int)[i]?).getD 0, decide (i ≠ 1)) := by decide +kernel
def lvU : Tb := cmT (cmT (lvT 4) 0 7) 0 5
def lvV : Tb := ldT lvU 0
theorem lv_rest : plE (lvT 4) 0 = 0 ∧ cmE (lvT 4) 0 7 = 0 ∧ cmE (cmT (lvT 4) 0 7) 0 5 = 0 ∧ plE lvU 0 = 0 ∧ plE lvV 0 = 8 ∧ cmE (lvT 4) 1 (-1) = 4 := by decide +kernel
theorem lv_find : (findF (lvT 4) 0).cl = 0 ∧ (findF (lvT 4) 0).cs = 1 ∧ (findF (lvT 4) 0).si = 5 ∧ (findF lvU 0).ve = 2 ∧ (findF lvU 0).sp = 12 ∧ (findF lvU 0).is.length = 2 := by decide +kernel
theorem lv_ends : joinE lvV (qS 0) 1 ⟨3, 0, 1, 0, 1⟩ 5 true = 0 ∧ (joinT lvV (qS 0) 1 ⟨3, 0, 1, 0, 1⟩ 5 true).2 = (1, false) ∧ joinE (lvT 1) (qS 0) 1 (lvI 0) 4 false = 4 ∧ joinE (lvT 4) ⟨0, ((⟨#[]⟩, ⟨#[]⟩), ⟨#[]⟩), U0⟩ 1 (lvI 0) 5 false = 10 := by decide +kernel
end Go.V.L39
namespace Go.V.L39
open Go.Proofs Go.RowKit Go.V
abbrev tyP : TypeId := 74
attribute [local irreducible] V N X VO Par StepOK Has Ret RetL RetO RetT RetG Src
set_option maxRecDepth 20000 in
theorem growP_ret {n : Nat} (hn : n ≤ 100000) {w : World} {B : Heap} (hB : B.Le (hp w)) : RetO Try.prog 100 [.slice none 0 0, .int .i64 n] w B (SlR tyP 2 0 []) := by
  refine V_enterO Try.func100 rfl Try.ntmps100 (Nat.le_of_ble_eq_true rfl) hB ?_
  have hs : IntKind.i64.wrap ((n : Int) - 0) = (n : Int) := wrap_i64 (by omega) (by omega) |>.trans (by omega)
  by_cases h0 : 0 < n
  · refine ze ?_; refine zb (id := 0) ?_; refine Zs2 ?_; refine zd ?_; refine zf ?_; refine ze ?_; refine ze ?_; refine zb (id := 1) ?_; refine Zs1 ?_; refine Zs8 ?_; refine zd ?_; refine zf ?_; refine zm rfl ?_; refine zt ?_; refine zf ?_; refine ze ?_; refine ze ?_; refine zb (id := 3) ?_; refine Zs1 ?_; refine Zs1 ?_; refine Zs69 ?_; refine Zs1 ?_; refine Zs35 ?_; refine Zs68 ?_; refine Zs20 ?_; refine Zs2 ?_; refine zd ?_; refine zf ?_; refine ze ?_; refine zb (id := 4) ?_; refine Zs1 ?_; refine Zs23 ?_; refine zd ?_; refine zf ?_; refine zw rfl ?_; refine zb (id := 5) ?_; refine Zs1 ?_; refine Zs1 ?_; refine Zs69 ?_; refine z7 (ok_sliceN L 0 rfl rfl rfl rfl rfl rfl rfl) rfl ?_; refine Zs1 ?_; refine z7 (ok_appendM L rfl rfl rfl rfl rfl Try.underlying3 el74 h0 (by omega) (by omega)) rfl ?_; refine Zs1 ?_; refine Zs35 ?_; refine qh (ok_slice0 L 0 rfl h0 rfl rfl rfl rfl rfl rfl) ?_; refine qh (ok_moveO (.inr rfl) rfl rfl rfl rfl) ?_; refine zd ?_; refine zf ?_; refine ze ?_; refine zb (id := 6) ?_; refine qh (ok_moveO (.inl rfl) rfl rfl rfl rfl) ?_; refine qh (ok_moveO (.inr rfl) rfl rfl rfl rfl) ?_; refine zd ?_; refine zf ?_
    exact V_retO rfl (fun _ _ h => h) Since.refl rfl
  · obtain rfl : n = 0 := by omega
    refine ze ?_; refine zb (id := 0) ?_; refine Zs2 ?_; refine zd ?_; refine zf ?_; refine ze ?_; refine ze ?_; refine zb (id := 1) ?_; refine Zs1 ?_; refine Zs8 ?_; refine zd ?_; refine zf ?_; refine zm rfl ?_; refine zt ?_; refine zf ?_; refine ze ?_; refine ze ?_; refine zb (id := 3) ?_; refine Zs1 ?_; refine Zs1 ?_; refine Zs69 ?_; refine Zs1 ?_; refine Zs35 ?_; refine Zs20 ?_; refine Zs20 ?_; refine Zs2 ?_; refine zd ?_; refine zf ?_; refine ze ?_; refine zb (id := 4) ?_; refine Zs1 ?_; refine Zs16 ?_; refine zd ?_; refine zf ?_; refine zm rfl ?_; refine zt ?_; refine zf ?_; refine ze ?_
    refine V_nilR 0 tyP 2 rfl ?_
    refine zb (id := 6) ?_; refine qh (ok_moveO (.inl rfl) rfl rfl rfl rfl) ?_; refine qh (ok_moveO (.inr rfl) rfl rfl rfl rfl) ?_; refine zd ?_; refine zf ?_
    exact V_retO rfl (fun _ _ h => h) Since.refl rfl
set_option maxHeartbeats 2000000 in
theorem concatP_ret {avs : List Value} {Xs : List (List Value × Nat)} {B : Heap} (hX : Lsts tyP 2 B avs Xs) (hk : avs.length ≤ 1000) (hn : nXs Xs ≤ 50000) {v : Value} {w : World} (hB : B.Le (hp w)) (hv : SlB avs 70 avs.length v B) :
    Ret Try.prog 80 [v] w B (SlV tyP 2 (cXs Xs) (nXs Xs) false) := by
  obtain ⟨k, hkk⟩ : ∃ k, k = avs.length := ⟨_, rfl⟩
  rw [← hkk] at hk hv
  obtain ⟨sz, hsz⟩ : ∃ sz : Nat → Nat, sz = fun i => nXs (Xs.take i) := ⟨_, rfl⟩
  obtain ⟨ac, hac⟩ : ∃ ac : Nat → List Value, ac = fun i => cXs (Xs.take i) := ⟨_, rfl⟩
  have step : ∀ i, i < k → ∃ x p c f l m, avs[i * 1]? = some x ∧ x = .slice p m c ∧ SlV tyP 2 l m f x B ∧ sz (i + 1) = sz i + m ∧ ac (i + 1) = ac i ++ l ∧ sz (i + 1) ≤ 50000 ∧ l.all plainV = true ∧ l.length = m * 2 := fun i hi => by
    subst hkk hsz hac
    obtain ⟨x, p, c, f, l, m, h1, h2, h3, h4, h5⟩ := hX.at hi
    refine ⟨x, p, c, f, l, m, by rw [Nat.mul_one]; exact h1, h2, h3, nXs_take h4, cXs_take h4, Nat.le_trans (nXs_le _ _) hn, h5, h3.1⟩
  have h0 : sz 0 = 0 := by subst hsz; rfl
  have a0 : ac 0 = [] := by subst hac; rfl
  have a2 : ac k = cXs Xs := by subst hac; dsimp only; rw [List.take_of_length_le (by rw [hkk, hX.1]; omega)]
  have s2 : sz k = nXs Xs := by subst hsz; dsimp only; rw [List.take_of_length_le (by rw [hkk, hX.1]; omega)]
  have hal : ∀ i, (ac i).length = sz i * 2 ∧ sz i ≤ 50000 := fun i => by
    subst hsz hac
    exact ⟨hX.len i, Nat.le_trans (nXs_le _ _) hn⟩
  rw [← a2, ← s2]
  have s3 : sz k ≤ 100000 := by have := (hal k).2; omega
  clear hsz hac hX hn a2 s2 hkk
  refine ya Try.func80 rfl Try.ntmps80 (Nat.le_of_ble_eq_true rfl) hB ?_
  refine V_seen 0 (SlB avs 70 k) rfl SlB.mono hv ?_
  refine ze ?_; refine zb (id := 0) ?_; refine Zs2 ?_; refine zd ?_; refine zf ?_; refine ze ?_; refine zb (id := 1) ?_; refine Zs2 ?_; refine zd ?_; refine zf ?_; refine ze ?_; refine ze ?_; refine zb (id := 2) ?_; refine Zs37 ?_; refine Zs81 ?_; refine Zs1 ?_; refine zd ?_; refine zf ?_; refine zy ?_
  refine V_loop (fun i : Nat => [(0, .sat (SlB avs 70 k)), (3, .is (.int .i64 (sz i))), (9, .sat (SlB avs 70 k)), (10, .is (.int .i64 k)), (11, .is (.int .i64 i))]) (fun i => i ≤ k) (fun i => k - i) 0 (Nat.zero_le _) ⟨rfl, by rw [h0]; rfl, rfl, rfl, rfl, trivial⟩ ?_
  rintro i hi
  by_cases hlt : i < k
  · obtain ⟨x, p, c, f, l, m, hx, hxe, hk, hs, _, hb5, _, _⟩ := step i hlt
    subst hxe
    have had : IntKind.i64.wrap ((sz i : Int) + (m : Int)) = (sz (i + 1) : Int) := wrap_i64 (by omega) (by omega) |>.trans (by omega)
    refine ze ?_; refine zb (id := 3) ?_; refine Zs11 ?_; refine zd ?_; refine zf ?_; refine ze ?_; refine zw rfl ?_; refine zt ?_; refine zf ?_; refine ze ?_; refine zy ?_; refine ze ?_; refine zb (id := 4) ?_; refine z7 (ok_indexSl L _ rfl rfl rfl rfl rfl rfl rfl (by omega)) rfl ?_; refine Zs65 ?_; refine Zs2 ?_; refine zd ?_; refine zf ?_; refine ze ?_; refine zb (id := 5) ?_; refine Zs1 ?_; refine Zs1 ?_; refine Zs35 ?_; refine Zs18 ?_; refine Zs2 ?_; refine zd ?_; refine zf ?_; refine ze ?_; refine zb (id := 6) ?_; refine Zs1 ?_; refine Zs8 ?_; refine zd ?_; refine zf ?_; refine zm rfl ?_; refine zt ?_; refine qm ?_; refine zf ?_; refine zb (id := 8) ?_; refine Zs13 ?_; refine Zs1 ?_; refine zd ?_
    exact y1 (x := i) (i + 1) hlt (by omega) ⟨rfl, rfl, rfl, rfl, rfl, trivial⟩
  · obtain rfl : i = k := by omega
    refine ze ?_; refine zb (id := 3) ?_; refine Zs8 ?_; refine zd ?_; refine zf ?_; refine ze ?_; refine zm rfl ?_; refine y7 ?_; refine qg ?_; refine qg ?_; refine y6 ?_; refine zf ?_; refine ze ?_; refine zb (id := 9) ?_; refine Zs1 ?_; refine z7 (ok_callO L rfl rfl (zg rfl) rfl rfl rfl (fun u H hH _ _ => growP_ret s3 hH)) rfl ?_; refine qh (ok_moveO (.inr rfl) rfl rfl rfl rfl) ?_; refine zd ?_; refine zf ?_; refine ze ?_; refine ze ?_; refine zb (id := 10) ?_; refine Zs37 ?_; refine Zs81 ?_; refine Zs1 ?_; refine zd ?_; refine zf ?_; refine zy ?_
    refine V_loop (fun j : Nat => [(6, .own (SlR tyP 2 (sz j) (ac j))), (25, .sat (SlB avs 70 i)), (26, .is (.int .i64 i)), (27, .is (.int .i64 j))]) (fun j => j ≤ i) (fun j => i - j) 0 (Nat.zero_le _) ⟨by rw [a0, h0]; rfl, rfl, rfl, rfl, trivial⟩ ?_
    rintro j hj
    obtain ⟨hlj, hlj2⟩ := hal j
    by_cases hjl : j < i
    · obtain ⟨x, p, c, f, l, m, hx, _, hk, hs', ha', hb5, hpl, hlen⟩ := step j hjl
      refine ze ?_; refine zb (id := 11) ?_; refine Zs11 ?_; refine zd ?_; refine zf ?_; refine ze ?_; refine zw rfl ?_; refine zt ?_; refine zf ?_; refine ze ?_; refine zy ?_; refine ze ?_; refine zb (id := 12) ?_; refine z7 (ok_indexSl L _ rfl rfl rfl rfl rfl rfl rfl (by omega)) rfl ?_; refine Zs65 ?_; refine Zs2 ?_; refine zd ?_; refine zf ?_
      refine V_seen 8 (SlV tyP 2 l m f) rfl SlV.mono hk ?_
      refine zb (id := 13) ?_; refine qh (ok_moveO (.inl rfl) rfl rfl rfl rfl) ?_; refine Zs37 ?_; refine qh (ok_append L rfl rfl rfl (apd_V rfl) rfl el74 (by assumption) (by assumption) (by omega) (by omega)) ?_; refine qh (ok_moveO (.inr rfl) rfl rfl rfl rfl) ?_; refine zd ?_; refine qm ?_; refine zf ?_; refine zb (id := 14) ?_; refine Zs13 ?_; refine Zs1 ?_; refine zd ?_
      exact y1 (x := j) (j + 1) hjl (by omega) ⟨by rw [ha', hs']; rfl, rfl, rfl, rfl, trivial⟩
    · obtain rfl : j = i := by omega
      refine V_pubR 6 rfl ?_
      refine ze ?_; refine zb (id := 11) ?_; refine Zs8 ?_; refine zd ?_; refine zf ?_; refine ze ?_; refine zm rfl ?_; refine y7 ?_; refine qg ?_; refine qg ?_; refine y6 ?_; refine zf ?_; refine ze ?_; refine zb (id := 15) ?_; refine Zs37 ?_; refine Zs60 ?_; refine zd ?_; refine zf ?_
      refine qn L (rs := [.tmp 2]) rfl (fun _ _ h => h) Since.refl fun u H hH hle => ?_
      exact fun v hv => hv
theorem ownP_ret {avs : List Value} {Xs : List (List Value × Nat)} {B : Heap} (hX : Lsts tyP 2 B avs Xs) (hk : avs.length ≤ 1000) (hn : nXs Xs ≤ 50000) {v : Value} {w : World} (hB : B.Le (hp w)) (hv : SlB avs 70 avs.length v B) :
    RetO Try.prog 59 [v] w B (SlE tyP 2 (nXs Xs) (cXs Xs)) := by
  have hpl := hX.plain
  have hlen : (cXs Xs).length = nXs Xs * 2 := by have := hX.len Xs.length; rwa [List.take_length] at this
  have hc : ∀ {u : World} {H : Heap}, H.Le (hp u) → B.Le H → Ret Try.prog 80 [v] u H (SlV tyP 2 (cXs Xs) (nXs Xs) false) := fun hH hle => concatP_ret (hX.le hle) hk hn hH (SlB.mono _ _ _ hv hle)
  generalize cXs Xs = cs at *
  generalize nXs Xs = m at *
  clear hX
  refine V_enterO Try.func59 rfl Try.ntmps59 (Nat.le_of_ble_eq_true rfl) hB ?_
  by_cases h0 : m = 0
  · subst h0
    obtain rfl : cs = [] := List.eq_nil_of_length_eq_zero (by omega)
    refine ze ?_; refine zb (id := 0) ?_; refine Zs2 ?_; refine zd ?_; refine zf ?_; refine ze ?_; refine zb (id := 1) ?_; refine Zs1 ?_; refine z7 (ok_call L rfl rfl (zg rfl) rfl rfl rfl SlV.mono (fun u H hH hle _ => hc hH hle)) rfl ?_; refine Zs60 ?_; refine zd ?_; refine zf ?_; refine ze ?_; refine ze ?_; refine zb (id := 2) ?_; refine Zs37 ?_; refine Zs31 ?_; refine Zs15 ?_; refine zd ?_; refine zf ?_; refine zw rfl ?_; refine ze ?_; refine zb (id := 3) ?_; refine Zs2 ?_; refine zd ?_; refine zf ?_
    refine V_nilE 2 tyP 2 rfl ?_
    exact V_retO rfl (fun _ _ h => h) Since.refl rfl
  · refine ze ?_; refine zb (id := 0) ?_; refine Zs2 ?_; refine zd ?_; refine zf ?_; refine ze ?_; refine zb (id := 1) ?_; refine Zs1 ?_; refine z7 (ok_call L rfl rfl (zg rfl) rfl rfl rfl SlV.mono (fun u H hH hle _ => hc hH hle)) rfl ?_; refine Zs60 ?_; refine zd ?_; refine zf ?_; refine ze ?_; refine ze ?_; refine zb (id := 2) ?_; refine Zs37 ?_; refine Zs31 ?_; refine Zs9 ?_; refine zd ?_; refine zf ?_; refine zm rfl ?_; refine zt ?_; refine zf ?_; refine ze ?_; refine zb (id := 4) ?_; refine Zs37 ?_; refine Zs31 ?_; refine z7 (ok_makeN L m rfl rfl rfl el74 rfl rfl rfl rfl (by omega) (by unfold maxLen; omega)) rfl ?_; refine qh (ok_moveO (.inr rfl) rfl rfl rfl rfl) ?_; refine zd ?_; refine zf ?_; refine ze ?_
    refine V_holdE 4 901 (by omega) rfl fun b hzl => ?_
    refine zb (id := 5) ?_; refine Zs1 ?_; refine Zs37 ?_; refine qh (ok_copyH L (q := 901) (by omega) rfl rfl rfl rfl (apd_V rfl) rfl el74 hzl hlen hpl) ?_; refine zd ?_; refine zf ?_; refine ze ?_; refine zb (id := 6) ?_; refine Zs1 ?_; refine Zs2 ?_; refine zd ?_; refine zf ?_
    refine V_relE 2 901 rfl rfl hlen (by unfold maxLen; omega) ?_
    exact V_retO rfl (fun _ _ h => h) Since.refl rfl
end Go.V.L39
namespace Go.V
open Go.RowKit
def MiE {V : Type} (kd : IntKind) (vc : V → Value) (l : List (Int × V)) (es : List MapEntry) : Prop := es.map (fun e => (e.key, e.val)) = l.map fun p => (Value.int kd p.1, vc p.2)
section
variable {P : Program} {V : Type} {kd : IntKind} {vc : V → Value} {l : List (Int × V)} {t kt et : TypeId}
theorem mie_cons {p : Int × V} {l : List (Int × V)} {es : List MapEntry} (h : MiE kd vc (p :: l) es) : ∃ e r, es = e :: r ∧ e.key = .int kd p.1 ∧ e.val = vc p.2 ∧ MiE kd vc l r := by
  unfold MiE at h
  cases es with
  | nil => simp at h
  | cons e r =>
    simp at h
    exact ⟨e, r, rfl, h.1.1, h.1.2, h.2⟩
theorem findNow_I (k : Int) : ∀ (l : List (Int × V)) (es : List MapEntry) (i : Nat), MiE kd vc l es → Instr.findNow (.int kd) (.int kd k) es i = some ((mfind k l i).map fun p => (p.1, vc p.2))
  | [], es, i, h => by
    have : es = [] := by simpa [MiE] using h
    subst this; rfl
  | p :: l, es, i, h => by
    obtain ⟨e, r, rfl, h1, h2, h3⟩ := mie_cons h
    rw [Instr.findNow, mfind, h1]
    simp only [Instr.sameNow, if_true]
    by_cases hkp : k = p.1
    · rw [if_pos hkp, beq_iff_eq.2 hkp, h2]; rfl
    · rw [if_neg hkp, beq_false_of_ne hkp]
      exact findNow_I k l r (i + 1) h3
theorem run_findKeyI (hk : P.underlying kt = some (.int kd)) (k : Int) (w : World) (l : List (Int × V)) (es : List MapEntry) (h : MiE kd vc l es) :
    (Instr.findKey kt (.int kd k) es).run P w = .ok ((mfind k l 0).map fun p => (p.1, vc p.2)) w := by
  unfold Instr.findKey
  simp only [Sem.run_bind, run_underlying hk, Result.andThen_ok, findNow_I k l es 0 h, Sem.run_pure]
theorem run_checkKeyI (hk : P.underlying kt = some (.int kd)) (k : Int) (em : Bool) (w : World) : (Instr.checkKey em 10000 kt (.int kd k)).run P w = .ok () w := by
  rw [Instr.checkKey]
  simp only [Sem.run_bind, run_underlying hk, Result.andThen_ok]
  rfl
theorem run_lookupI (ht : P.underlying t = some (.map kt et)) (hk : P.underlying kt = some (.int kd)) {b : Nat} {es : Array MapEntry} {ck : Nat} {u : World} (hb : u.heap[b]? = some (.map es ck)) (he : MiE kd vc l es.toList) (k : Int) {z : Value}
    (hz : (zeroValue et).run P u = .ok z u) : (Instr.lookup t (.map (some b)) (.int kd k) false).run P u = .ok ((mget k l).elim z vc) u := by
  unfold Instr.lookup
  have hf := run_findKeyI hk k u l es.toList he
  simp only [Sem.run_bind, run_underlying ht, Result.andThen_ok, MapKept.run_getObj_map hb, Sem.run_pure, run_checkKeyI hk k, hf]
  unfold mget
  cases mfind k l 0 with
  | none => simp [hz]
  | some p => simp
theorem mi_modify (k : Int) (v : V) : ∀ (l : List (Int × V)) (es : List MapEntry) (i j : Nat) (x : V), MiE kd vc l es → mfind k l i = some (j, x) →
    MiE kd vc (mput k v l) (es.modify (j - i) fun e => { e with key := .int kd k, val := vc v })
  | [], _, _, _, _, _, h => by cases h
  | p :: l, es, i, j, x, he, h => by
    obtain ⟨e, r, rfl, h1, h2, h3⟩ := mie_cons he
    unfold mfind at h
    rw [mput]
    split at h
    · rename_i hk
      cases h
      rw [if_pos hk, Nat.sub_self]
      unfold MiE at h3 ⊢
      subst hk
      simpa using h3
    · rename_i hk
      rw [if_neg hk]
      obtain ⟨n, hn, _⟩ := mfind_get h
      have ih := mi_modify k v l r (i + 1) j x h3 h
      have e1 : j - i = (j - (i + 1)) + 1 := by omega
      rw [e1]
      unfold MiE at ih ⊢
      simp [h1, h2]
      exact ih
theorem run_mapUpdateI (ht : P.underlying t = some (.map kt et)) (hk : P.underlying kt = some (.int kd)) {b : Nat} {es : Array MapEntry} {ck : Nat} {u : World} (hb : u.heap[b]? = some (.map es ck)) (he : MiE kd vc l es.toList) (k : Int) (v : V) :
    ∃ es' ck', (Instr.mapUpdate t (.map (some b)) (.int kd k) (vc v)).run P u = .ok () (u.putObj b (.map es' ck')) ∧ MiE kd vc (mput k v l) es'.toList := by
  have hf := run_findKeyI hk k u l es.toList he
  cases hm : mfind k l 0 with
  | none =>
    refine ⟨es.push { key := .int kd k, val := vc v, born := ck }, ck + 1, ?_, ?_⟩
    · unfold Instr.mapUpdate
      rw [hm] at hf
      simp only [Sem.run_bind, run_underlying ht, Result.andThen_ok, MapKept.run_getObj_map hb, Sem.run_pure, run_checkKeyI hk k, hf, Option.map_none]
      simp [setObj, Sem.run, hb, World.putObj, Result.andThen]
    · rw [mput_none hm]
      unfold MiE at he ⊢
      simp [he]
  | some q =>
    obtain ⟨j, x⟩ := q
    refine ⟨es.modify j fun e => { e with key := .int kd k, val := vc v }, ck, ?_, ?_⟩
    · obtain ⟨n, hn, hx⟩ := mfind_get hm
      have hn' : j = n := by omega
      subst hn'
      have hkey : ((es[j]?).map (·.key)).getD (.int kd k) = .int kd k := by
        have h2 := congrArg (·[j]?) he
        simp only [List.getElem?_map, hx, Option.map_some] at h2
        rw [← Array.getElem?_toList]
        cases hz : es.toList[j]? with
        | none => rfl
        | some e =>
          rw [hz] at h2
          simp at h2
          simpa using h2.1
      unfold Instr.mapUpdate
      rw [hm] at hf
      simp only [Sem.run_bind, run_underlying ht, Result.andThen_ok, MapKept.run_getObj_map hb, Sem.run_pure, run_checkKeyI hk k, hf, Option.map_some, hkey]
      unfold Instr.keyThatStays
      rw [if_pos (show Instr.sameBits 10000 (.int kd k) (.int kd k) = true by simp [Instr.sameBits])]
      simp [setObj, Sem.run, hb, World.putObj, Result.andThen]
    · have := mi_modify k v l es.toList 0 j x he hm
      simpa using this
end
def MapRi {V : Type} (kd : IntKind) (vc : V → Value) (l : List (Int × V)) : Res where
  P x _ u C := ∃ b, x = .map (some b) ∧ (∃ es ck, u.heap[b]? = some (.map es ck) ∧ MiE kd vc l es.toList) ∧ ∀ k, C k ↔ k = b
  st := fun ⟨b, hx, ⟨es, ck, hb, he⟩, hC⟩ _ _ _ hk => ⟨b, hx, ⟨es, ck, (hk b ((hC b).2 rfl)).trans hb, he⟩, hC⟩
def MapHi {V : Type} (b : Nat) (kd : IntKind) (vc : V → Value) (l : List (Int × V)) : Res where
  P _ _ u C := (∃ es ck, u.heap[b]? = some (.map es ck) ∧ MiE kd vc l es.toList) ∧ ∀ k, C k ↔ k = b
  st := fun ⟨⟨es, ck, hb, he⟩, hC⟩ _ _ _ hk => ⟨⟨es, ck, (hk b ((hC b).2 rfl)).trans hb, he⟩, hC⟩
section
variable {P : Program} {F : Fr} {B : Heap} {O : Boxes} {n : Nat} {ops : Array Oper} {κ : Kap} {d : Nat} {ty : TypeId} {pos : String} {aft : Array Edge} {g : Option (Nat × Bool)} {a : Act} {u : World} {H : Heap} {os : List Oper} {Q : Exit → Act → World → Prop} {ex : Exs}
variable {Y : Type} {kd : IntKind} {vc : Y → Value} {l : List (Int × Y)}
theorem Has.holdMi {t q : Nat} (hk : κ t = some (.own (MapRi kd vc l))) (h : Has F B O n κ a u) : ∃ b, Has F B O n (upd (upd (upd κ t nilK) q (.own (MapHi b kd vc l))) t (.is (.map (some b)))) a u := by
  obtain ⟨H, fp, h⟩ := h
  obtain ⟨⟨b, hv, hb, hC⟩, hM⟩ := h.slot t _ hk
  have h2 := h.usePut (d := q) (a' := a) (r' := MapHi b kd vc l) (C := fp t) hk ⟨Keep.refl _ _, h.sub, Heap.Le.refl _, fun _ _ _ => rfl⟩ rfl rfl (fun _ _ => rfl) ⟨hb, hC⟩ fun k hk => ⟨.inl hk, (hM k hk).1, (hM k hk).2.1⟩
  have h3 := h2.name t
  rw [hv] at h3
  exact ⟨b, H, _, h3⟩
theorem V_holdMi (t q : Nat) {c : Code} (hk : κ t = some (.own (MapRi kd vc l))) (h : ∀ b, V P F B n O (upd (upd (upd κ t nilK) q (.own (MapHi b kd vc l))) t (.is (.map (some b)))) c Q) : V P F B n O κ c Q := fun a u hh => let ⟨b, h'⟩ := hh.holdMi (q := q) hk; h b a u h'
theorem ok_makeMapI (kd : IntKind) (vc : Y → Value) {t : TypeId} (hn : Nat.blt d n = true) (hg : gK ops κ ⟨some d, .makeMap t none, ty, pos, aft, g⟩ = some true) :
    StepOK P F B n ops O κ ⟨some d, .makeMap t none, ty, pos, aft, g⟩ d (.own (MapRi kd vc [])) := by
  rintro κ' a u hl ⟨H, fp, hh⟩
  have hn : d < n := by simpa using hn
  unfold After
  rw [if_pos (wanted_gK hh hl hg)]
  have hrun : (execOp a.eval ⟨some d, .makeMap t none, ty, pos, aft, g⟩).run P u = .ok (.value (.map (some u.heap.size))) (u.alloc (.map #[] 0)) := by
    simp [execOp, Instr.makeMap]
  rw [hrun]
  simp only [Upon]
  have hg2 := hh.grow (Grow.hid hh.sub (.map #[] 0))
  refine ⟨H, _, hg2.putR (C := fun k => k = u.heap.size) (by simp [Act.put]) rfl (fun t ht => eval_put_other ht) ⟨u.heap.size, eval_put_same (by rw [hh.size]; exact hn), ⟨_, _, heap_push_same _ _, rfl⟩, fun _ => Iff.rfl⟩ (fun k hk => ?_) fun t r' _ ht k hf hk => ?_⟩
  · subst hk
    exact ⟨size_of_heap (heap_push_same u _), none_of_ge hh.sub (Nat.le_refl _), .inl hh.keep.size, fun y hy e => by have := size_of_heap (hh.boxes y hy).1; omega⟩
  · have := ((hh.slot t _ ht).2 k hf).1
    omega
theorem ok_lookupI {x y : Operand} {q b : Nat} {t kt et : TypeId} (k : Int) {r z : Value} (ht : P.underlying t = some (.map kt et)) (hkt : P.underlying kt = some (.int kd)) (hz : ∀ w, (zeroValue et).run P w = .ok z w)
    (hx : evK κ x = some (.map (some b))) (hq : κ q = some (.own (MapHi b kd vc l))) (hy : evK κ y = some (.int kd k)) (hn : Nat.blt d n = true) (hg : gK ops κ ⟨some d, .lookup t x y false, ty, pos, aft, g⟩ = some true)
    (hr : (mget k l).elim z vc = r) :
    StepOKR P F B n ops O κ ⟨some d, .lookup t x y false, ty, pos, aft, g⟩ q d (.is r) := by
  rintro κ' a u hlk hqk ⟨H, fp, hh⟩
  subst hr
  unfold After
  rw [if_pos (wanted_gK hh hlk hg)]
  have e := hh.env hlk
  have h1 := e.is_ x _ (by simp [Op.operands]) hx
  have h2 := e.is_ y _ (by simp [Op.operands]) hy
  obtain ⟨⟨⟨es, ck, hb, he⟩, hC⟩, hM⟩ := hh.slot q _ (hqk.trans hq)
  have hrun : (execOp a.eval ⟨some d, .lookup t x y false, ty, pos, aft, g⟩).run P u = .ok (.value ((mget k l).elim z vc)) u := by
    simp only [execOp, h1, h2, Sem.run_bind, run_lookupI ht hkt hb he k (hz u), Result.andThen_ok]
    rfl
  rw [hrun]
  simp only [Upon]
  exact ⟨H, fp, hh.put (k := .is _) (zg hn) trivial rfl⟩
theorem ok_mapUpdI {x y z : Operand} {q b : Nat} {t kt et : TypeId} (k : Int) (v : Y) {zv : Value} {l' : List (Int × Y)} (ht : P.underlying t = some (.map kt et)) (hkt : P.underlying kt = some (.int kd))
    (hx : evK κ x = some (.map (some b))) (hq : κ q = some (.own (MapHi b kd vc l))) (hy : evK κ y = some (.int kd k)) (hz : evK κ z = some zv) (hzv : vc v = zv) (hg : gK ops κ ⟨none, .mapUpdate t x y z, ty, pos, aft, g⟩ = some true)
    (hl' : mput k v l = l') :
    StepOKS P F B n ops O κ ⟨none, .mapUpdate t x y z, ty, pos, aft, g⟩ q (.own (MapHi b kd vc l')) := by
  rintro κ' a u hlk hqk ⟨H, fp, hh⟩
  subst hl' hzv
  unfold After
  rw [if_pos (wanted_gK hh hlk hg)]
  have e := hh.env hlk
  have h1 := e.is_ x _ (by simp [Op.operands]) hx
  have h2 := e.is_ y _ (by simp [Op.operands]) hy
  have h3 := e.is_ z _ (by simp [Op.operands]) hz
  have hqs := hqk.trans hq
  obtain ⟨⟨⟨es, ck, hb, he⟩, hC⟩, hM⟩ := hh.slot q _ hqs
  obtain ⟨es', ck', hr, he'⟩ := run_mapUpdateI ht hkt hb he k v
  have hrun : (execOp a.eval ⟨none, .mapUpdate t x y z, ty, pos, aft, g⟩).run P u = .ok .skip (u.putObj b (.map es' ck')) := by
    simp only [execOp, h1, h2, h3, Sem.run_bind, hr, Result.andThen_ok]
    rfl
  rw [hrun]
  simp only [Upon, Act.put]
  have hbm := hM b ((hC b).2 rfl)
  have := hh.usePut (d := q) (a' := a) (r' := MapHi b kd vc (mput k v l)) (C := fun k => k = b) hqs (grow_putObj hh.sub ((hC b).2 rfl) hbm.2.1) rfl rfl (fun _ _ => rfl) ⟨⟨es', ck', World.putObj_heap_same hbm.1, he'⟩, fun _ => Iff.rfl⟩ (fun k hk => by
    subst hk; exact ⟨.inl ((hC k).2 rfl), by rw [World.putObj_size]; exact hbm.1, hbm.2.1⟩)
  rw [upd_upd] at this
  exact ⟨H, _, this⟩
end
end Go.V
namespace Go.V.So
open Go.Proofs Go.RowKit Go.V Go.Sort
abbrev lt : Int → Int → Bool := ltInt
abbrev tyU : TypeId := 31
attribute [local irreducible] V N X VO Par StepOK Has Ret RetL RetO RetG RetX Src
theorem isnanU (a : Int) {w : World} {B : Heap} (hB : B.Le (hp w)) : Ret Try.prog 110 [.int .u64 a] w B (fun v _ => v = .bool false) := by
  refine ya Try.func110 rfl Try.ntmps110 (Nat.le_of_ble_eq_true rfl) hB ?_
  refine ze ?_; refine zb (id := 0) ?_; refine Zs2 ?_; refine zd ?_; refine zf ?_; refine ze ?_; refine zb (id := 1) ?_; refine Zs1 ?_; refine Zs1 ?_; refine Zs10 ?_; refine Zs2 ?_; refine zd ?_; refine zf ?_
  refine qn L (rs := [.tmp 2]) rfl (fun _ _ h => h) Since.refl fun u H hH hle => ?_
  rfl
theorem lessU (a b : Int) {w : World} {B : Heap} (hB : B.Le (hp w)) : Ret Try.prog 95 [.int .u64 a, .int .u64 b] w B (fun v _ => v = .bool (lt a b)) := by
  unfold lt ltInt
  refine ya Try.func95 rfl Try.ntmps95 (Nat.le_of_ble_eq_true rfl) hB ?_
  by_cases h : a < b
  · rw [decide_eq_true h]
    refine ze ?_; refine zb (id := 0) ?_; refine Zs2 ?_; refine zd ?_; refine zf ?_; refine ze ?_; refine zb (id := 1) ?_; refine Zs1 ?_; refine z7 (zo L rfl rfl (zg rfl) rfl rfl rfl (fun u H hH _ _ => isnanU _ hH)) rfl ?_; refine Zs1 ?_; refine Zs3 ?_; refine Zs3 ?_; refine Zs3 ?_; refine Zs6 ?_; refine Zs1 ?_; refine Zs1 ?_; refine Zs1 ?_; refine Zs11 ?_; refine Zs6 ?_; refine Zs2 ?_; refine zd ?_; refine zf ?_
    refine qn L (rs := [.tmp 4]) rfl (fun _ _ h => h) Since.refl fun u H hH hle => ?_
    rfl
  · rw [decide_eq_false h]
    refine ze ?_; refine zb (id := 0) ?_; refine Zs2 ?_; refine zd ?_; refine zf ?_; refine ze ?_; refine zb (id := 1) ?_; refine Zs1 ?_; refine z7 (zo L rfl rfl (zg rfl) rfl rfl rfl (fun u H hH _ _ => isnanU _ hH)) rfl ?_; refine Zs1 ?_; refine Zs3 ?_; refine Zs3 ?_; refine Zs3 ?_; refine Zs6 ?_; refine Zs1 ?_; refine Zs1 ?_; refine Zs1 ?_; refine Zs8 ?_; refine Zs6 ?_; refine Zs2 ?_; refine zd ?_; refine zf ?_
    refine qn L (rs := [.tmp 4]) rfl (fun _ _ h => h) Since.refl fun u H hH hle => ?_
    rfl
theorem lessU' {a b : Int} {f : Bool} (h : lt a b = f) {w : World} {B : Heap} (hB : B.Le (hp w)) : Ret Try.prog 95 [.int .u64 a, .int .u64 b] w B (fun v _ => v = .bool f) := h ▸ lessU a b hB
set_option maxHeartbeats 1000000 in
set_option maxRecDepth 20000 in
theorem ins_ret {d : Array Int} {rest : List Value} {b m cap a e : Nat} (hab : a ≤ e) (he : e ≤ d.size) (hm : d.size = m) (hm1 : m ≤ 100000) {w : World} {B : Heap} {C : Nat → Prop} (hB : B.Le (hp w))
    (hr : (GHeld b (uC d ++ rest) tyU).P B w C) (hC : ∀ k, C k → k < w.heap.size ∧ B k = none) :
    RetG Try.prog 89 [.slice (some ⟨b, 0, none⟩) m cap, .int .i64 a, .int .i64 e] w B C (GHeld b (uC (insertionSort lt d a e) ++ rest) tyU) := by
  unfold RetG
  refine V_enterG 900 (GHeld b (uC d ++ rest) tyU) Try.func89 rfl Try.ntmps89 (Nat.le_of_ble_eq_true rfl) hB hr hC ?_
  rw [gheld_res]
  have hw0 : IntKind.i64.wrap ((a : Int) + 1) = ((a + 1 : Nat) : Int) := wrap_i64 (by omega) (by omega)
  refine ze ?_; refine zb (id := 0) ?_; refine Zs1 ?_; refine Zs18 ?_; refine Zs2 ?_; refine zd ?_; refine zf ?_; refine zy ?_
  refine V_loop (fun s : Nat × Array Int => [(0, .is (.slice (some ⟨b, 0, none⟩) m cap)), (1, .is (.int .i64 a)), (2, .is (.int .i64 e)), (6, .is (.int .i64 s.1)), (900, .own (HeldR b (uC s.2 ++ rest) tyU))]) (fun s => s.1 ≤ e + 1 ∧ a < s.1 ∧ s.2.size = m ∧ insOuter lt a e s.1 s.2 = insertionSort lt d a e) (fun s => e + 1 - s.1) (a + 1, d) ⟨by omega, by omega, hm, rfl⟩ ⟨rfl, rfl, rfl, rfl, rfl, trivial⟩ ?_
  rintro ⟨i, D⟩ ⟨hi, hai, hD, hO⟩
  dsimp only at hi hai hD hO ⊢
  by_cases hlt : i < e
  · rw [insOuter, if_pos hlt] at hO
    refine ze ?_; refine ze ?_; refine zb (id := 1) ?_; refine Zs1 ?_; refine Zs1 ?_; refine Zs11 ?_; refine zd ?_; refine zf ?_; refine zw rfl ?_; refine zt ?_; refine zf ?_; refine ze ?_; refine zy ?_; refine ze ?_; refine zb (id := 3) ?_; refine Zs1 ?_; refine Zs2 ?_; refine zd ?_; refine zf ?_; refine zy ?_
    refine V_loop (fun t : Nat × Array Int => [(0, .is (.slice (some ⟨b, 0, none⟩) m cap)), (1, .is (.int .i64 a)), (2, .is (.int .i64 e)), (6, .is (.int .i64 i)), (7, .is (.int .i64 t.1)), (900, .own (HeldR b (uC t.2 ++ rest) tyU))]) (fun t => t.1 ≤ i ∧ t.2.size = m ∧ insInner lt a t.1 t.2 = insInner lt a i D) (fun t => t.1) (i, D) ⟨Nat.le_refl _, hD, rfl⟩ ⟨rfl, rfl, rfl, rfl, rfl, rfl, trivial⟩ ?_
    rintro ⟨j, E⟩ ⟨hj, hE, hI⟩
    dsimp only at hj hE hI ⊢
    rcases j with _ | j
    · rw [insInner] at hI
      rw [hI]
      refine ze ?_; refine ze ?_; refine zz (id := 4) [] mixed (by kernel_rfl) ?_; refine Zs7 ?_; refine Zs7 ?_; refine Zs62 ?_; refine Zs7 ?_; refine Zs12 ?_; refine Zs12 ?_; refine Zs12 ?_; refine Zs12 ?_; refine Zs12 ?_; refine Zs12 ?_; refine Zs12 ?_; refine Zs12 ?_; refine Zs12 ?_; refine Zs12 ?_; refine Zs28 ?_; refine qk ?_; refine zf ?_; refine zm rfl ?_; refine y7 ?_; refine qg ?_; refine qg ?_; refine y6 ?_; refine qm ?_; refine zf ?_; refine zb (id := 2) ?_; refine Zs1 ?_; refine Zs13 ?_; refine Zs2 ?_; refine zd ?_
      exact y1 (x := (i, D)) (i + 1, insInner lt a i D) ⟨by dsimp only; omega, by dsimp only; omega, by dsimp only; rw [← hI]; exact hE, hO⟩ (by dsimp only; omega) ⟨rfl, rfl, rfl, rfl, rfl, trivial⟩
    · by_cases hja : a < j + 1
      · have hw1 : IntKind.i64.wrap (((j + 1 : Nat) : Int) - 1) = (j : Int) := wrap_i64 (by omega) (by omega) |>.trans (by omega)
        obtain ⟨r1, q1⟩ := u_at (rest := rest) (show j + 1 < E.size by omega) (0 + (j + 1) * 1) rfl
        obtain ⟨r2, q2⟩ := u_at (rest := rest) (show j < E.size by omega) (0 + j * 1) rfl
        cases hc : lt E[j + 1]! E[j]! with
        | true =>
          rw [insInner, if_pos (by rw [hc]; simp; omega)] at hI
          have s1 := u_set (rest := rest) E[j]! (show j + 1 < E.size by omega) (0 + (j + 1) * 1) rfl
          have b1 := u_ble (rest := rest) (show j + 1 < E.size by omega) (0 + (j + 1) * 1) rfl
          have hz : j < (E.setIfInBounds (j + 1) E[j]!).size := by rw [Array.size_setIfInBounds]; omega
          have s2 := u_set (rest := rest) E[j + 1]! hz (0 + j * 1) rfl
          have b2 := u_ble (rest := rest) hz (0 + j * 1) rfl
          rw [swp_eq] at s2
          refine ze ?_; refine ze ?_; refine zz (id := 4) [(200023, [900]), (200028, [900])] mixed (by kernel_rfl) ?_; refine Zs7 ?_; refine Zs7 ?_; refine Zs53 ?_; refine Zs7 ?_; refine Zs7 ?_; refine Zs7 ?_; refine z8 (zp L _ rfl rfl rfl rfl rfl rfl rfl (by omega)) rfl ?_; refine q8 (zx L (q := 900) rfl rfl rfl rfl rfl q1) rfl rfl ?_; refine Zs7 ?_; refine Zs7 ?_; refine Zs44 ?_; refine z8 (zp L _ rfl rfl rfl rfl rfl rfl rfl (by omega)) rfl ?_; refine q8 (zx L (q := 900) rfl rfl rfl rfl rfl q2) rfl rfl ?_; refine z8 (zo L rfl rfl (zg rfl) rfl rfl rfl (fun u H hH _ _ => lessU' hc hH)) rfl ?_; refine Zs28 ?_; refine qk ?_; refine zf ?_; refine zw rfl ?_; refine zt ?_; refine zf ?_; refine ze ?_; refine zy ?_; refine zz (id := 6) [(200042, [900]), (200046, [900]), (100047, [900]), (100048, [900])] mixed (by kernel_rfl) ?_; refine Zs7 ?_; refine Zs7 ?_; refine Zs7 ?_; refine Zs7 ?_; refine Zs44 ?_; refine Zs7 ?_; refine Zs7 ?_; refine Zs44 ?_; refine z8 (zp L _ rfl rfl rfl rfl rfl rfl rfl (by omega)) rfl ?_; refine q8 (zx L (q := 900) rfl rfl rfl rfl rfl q2) rfl rfl ?_; refine Zs7 ?_; refine Zs7 ?_; refine z8 (zp L _ rfl rfl rfl rfl rfl rfl rfl (by omega)) rfl ?_; refine q8 (zx L (q := 900) rfl rfl rfl rfl rfl q1) rfl rfl ?_; refine z8 (zp L _ rfl rfl rfl rfl rfl rfl rfl (by omega)) rfl ?_; refine y9 (y2 L (q := 900) rfl rfl rfl rfl rfl rfl b1 rfl s1) rfl ?_; refine z8 (zp L _ rfl rfl rfl rfl rfl rfl rfl (by omega)) rfl ?_; refine y9 (y2 L (q := 900) rfl rfl rfl rfl rfl rfl b2 rfl s2) rfl ?_; refine qk ?_; refine qm ?_; refine zf ?_; refine zb (id := 5) ?_; refine Zs1 ?_; refine Zs20 ?_; refine Zs2 ?_; refine zd ?_
          exact y1 (x := (j + 1, E)) (j, swp E (j + 1) j) ⟨by dsimp only; omega, by dsimp only; rw [swp_size]; exact hE, hI⟩ (by dsimp only; omega) ⟨rfl, rfl, rfl, rfl, rfl, rfl, trivial⟩
        | false =>
          rw [insInner, if_neg (by rw [hc]; simp)] at hI
          refine ze ?_; refine ze ?_; refine zz (id := 4) [(200023, [900]), (200028, [900])] mixed (by kernel_rfl) ?_; refine Zs7 ?_; refine Zs7 ?_; refine Zs53 ?_; refine Zs7 ?_; refine Zs7 ?_; refine Zs7 ?_; refine z8 (zp L _ rfl rfl rfl rfl rfl rfl rfl (by omega)) rfl ?_; refine q8 (zx L (q := 900) rfl rfl rfl rfl rfl q1) rfl rfl ?_; refine Zs7 ?_; refine Zs7 ?_; refine Zs44 ?_; refine z8 (zp L _ rfl rfl rfl rfl rfl rfl rfl (by omega)) rfl ?_; refine q8 (zx L (q := 900) rfl rfl rfl rfl rfl q2) rfl rfl ?_; refine z8 (zo L rfl rfl (zg rfl) rfl rfl rfl (fun u H hH _ _ => lessU' hc hH)) rfl ?_; refine Zs28 ?_; refine qk ?_; refine zf ?_; refine zm rfl ?_; refine y7 ?_; refine qg ?_; refine qg ?_; refine y6 ?_; refine qm ?_; refine zf ?_
          rw [hI]
          refine zb (id := 2) ?_; refine Zs1 ?_; refine Zs13 ?_; refine Zs2 ?_; refine zd ?_
          exact y1 (x := (i, D)) (i + 1, insInner lt a i D) ⟨by dsimp only; omega, by dsimp only; omega, by dsimp only; rw [← hI]; exact hE, hO⟩ (by dsimp only; omega) ⟨rfl, rfl, rfl, rfl, rfl, trivial⟩
      · rw [insInner, if_neg (by simp; omega)] at hI
        rw [hI]
        refine ze ?_; refine ze ?_; refine zz (id := 4) [] mixed (by kernel_rfl) ?_; refine Zs7 ?_; refine Zs7 ?_; refine Zs62 ?_; refine Zs7 ?_; refine Zs12 ?_; refine Zs12 ?_; refine Zs12 ?_; refine Zs12 ?_; refine Zs12 ?_; refine Zs12 ?_; refine Zs12 ?_; refine Zs12 ?_; refine Zs12 ?_; refine Zs12 ?_; refine Zs28 ?_; refine qk ?_; refine zf ?_; refine zm rfl ?_; refine y7 ?_; refine qg ?_; refine qg ?_; refine y6 ?_; refine qm ?_; refine zf ?_; refine zb (id := 2) ?_; refine Zs1 ?_; refine Zs13 ?_; refine Zs2 ?_; refine zd ?_
        exact y1 (x := (i, D)) (i + 1, insInner lt a i D) ⟨by dsimp only; omega, by dsimp only; omega, by dsimp only; rw [← hI]; exact hE, hO⟩ (by dsimp only; omega) ⟨rfl, rfl, rfl, rfl, rfl, trivial⟩
  · rw [insOuter, if_neg hlt] at hO
    subst hO
    refine ze ?_; refine ze ?_; refine zb (id := 1) ?_; refine Zs1 ?_; refine Zs1 ?_; refine Zs8 ?_; refine zd ?_; refine zf ?_; refine zm rfl ?_; refine y7 ?_; refine qg ?_; refine qg ?_; refine y6 ?_
    exact N_retGhost L 900 (r := GHeld b _ tyU) rfl (fun _ _ h => h) Since.refl rfl rfl
end Go.V.So
namespace Go.V.So
open Go.Proofs Go.RowKit Go.V Go.Sort
section
variable {P : Program} {F : Fr} {B : Heap} {n : Nat} {O : Boxes} {ops : Array Oper} {ex : Exs} {κ : Kap} {Q : Exit → Act → World → Prop} {o : Oper} {os : List Oper} {d : Nat} {k : Kn}
theorem _root_.Go.V.Zs36 (h : VO P F B n O ops (upd κ d k) os Q) (s : StepOK P F B n ops O κ o d k := by exact ok_mul rfl rfl rfl rfl (wrap_i64 (by omega) (by omega))) (v : vd o = some d := by rfl) : VO P F B n O ops κ (o :: os) Q := z7 s v h
end
attribute [local irreducible] V N X VO Par StepOK Has Ret RetL RetO RetG RetX Src
set_option maxHeartbeats 1000000 in
set_option maxRecDepth 20000 in
theorem rev_ret {d : Array Int} {rest : List Value} {b m cap a e : Nat} (hab : a < e) (he : e ≤ d.size) (hm : d.size = m) (hm1 : m ≤ 100000) {w : World} {B : Heap} {C : Nat → Prop} (hB : B.Le (hp w))
    (hr : (GHeld b (uC d ++ rest) tyU).P B w C) (hC : ∀ k, C k → k < w.heap.size ∧ B k = none) :
    RetG Try.prog 93 [.slice (some ⟨b, 0, none⟩) m cap, .int .i64 a, .int .i64 e] w B C (GHeld b (uC (reverseRange d a e) ++ rest) tyU) := by
  unfold RetG
  refine V_enterG 900 (GHeld b (uC d ++ rest) tyU) Try.func93 rfl Try.ntmps93 (Nat.le_of_ble_eq_true rfl) hB hr hC ?_
  rw [gheld_res]
  have hw0 : IntKind.i64.wrap ((e : Int) - 1) = ((e - 1 : Nat) : Int) := wrap_i64 (by omega) (by omega) |>.trans (by omega)
  refine ze ?_; refine zb (id := 0) ?_; refine Zs1 ?_; refine Zs2 ?_; refine zd ?_; refine zf ?_; refine ze ?_; refine zb (id := 1) ?_; refine Zs1 ?_; refine Zs20 ?_; refine Zs2 ?_; refine zd ?_; refine zf ?_; refine zy ?_
  refine V_loop (fun s : (Nat × Nat) × Array Int => [(0, .is (.slice (some ⟨b, 0, none⟩) m cap)), (6, .is (.int .i64 s.1.1)), (7, .is (.int .i64 s.1.2)), (900, .own (HeldR b (uC s.2 ++ rest) tyU))]) (fun s => s.1.1 ≤ m ∧ s.1.2 < m ∧ s.2.size = m ∧ reverseLoop s.1.1 s.1.2 s.2 = reverseRange d a e) (fun s => s.1.2 - s.1.1) ((a, e - 1), d) ⟨by dsimp only; omega, by dsimp only; omega, hm, rfl⟩ ⟨rfl, rfl, rfl, rfl, trivial⟩ ?_
  rintro ⟨⟨i, j⟩, E⟩ ⟨hi, hj, hE, hO⟩
  dsimp only at hi hj hE hO ⊢
  by_cases hlt : i < j
  · rw [reverseLoop, if_pos hlt] at hO
    have hw1 : IntKind.i64.wrap ((i : Int) + 1) = ((i + 1 : Nat) : Int) := wrap_i64 (by omega) (by omega)
    have hw2 : IntKind.i64.wrap ((j : Int) - 1) = ((j - 1 : Nat) : Int) := wrap_i64 (by omega) (by omega) |>.trans (by omega)
    obtain ⟨_, qj⟩ := u_at (rest := rest) (show j < E.size by omega) (0 + (j) * 1) rfl
    obtain ⟨_, qi⟩ := u_at (rest := rest) (show i < E.size by omega) (0 + (i) * 1) rfl
    have s1 := u_set (rest := rest) E[j]! (show i < E.size by omega) (0 + (i) * 1) rfl
    have b1 := u_ble (rest := rest) (show i < E.size by omega) (0 + (i) * 1) rfl
    have hz : j < (E.setIfInBounds (i) E[j]!).size := by rw [Array.size_setIfInBounds]; omega
    have s2 := u_set (rest := rest) E[i]! hz (0 + (j) * 1) rfl
    have b2 := u_ble (rest := rest) hz (0 + (j) * 1) rfl
    rw [swp_eq] at s2
    refine ze ?_; refine ze ?_; refine zb (id := 2) ?_; refine Zs1 ?_; refine Zs1 ?_; refine Zs11 ?_; refine zd ?_; refine zf ?_; refine zw rfl ?_; refine zt ?_; refine zf ?_; refine zy ?_; refine ze ?_; refine zz (id := 3) [(200021, [900]), (200025, [900]), (100026, [900]), (100027, [900])] mixed (by kernel_rfl) ?_; refine Zs7 ?_; refine Zs7 ?_; refine Zs7 ?_; refine Zs7 ?_; refine Zs7 ?_; refine Zs7 ?_; refine z8 (zp L _ rfl rfl rfl rfl rfl rfl rfl (by omega)) rfl ?_; refine q8 (zx L (q := 900) rfl rfl rfl rfl rfl qj) rfl rfl ?_; refine Zs7 ?_; refine Zs7 ?_; refine z8 (zp L _ rfl rfl rfl rfl rfl rfl rfl (by omega)) rfl ?_; refine q8 (zx L (q := 900) rfl rfl rfl rfl rfl qi) rfl rfl ?_; refine z8 (zp L _ rfl rfl rfl rfl rfl rfl rfl (by omega)) rfl ?_; refine y9 (y2 L (q := 900) rfl rfl rfl rfl rfl rfl b1 rfl s1) rfl ?_; refine z8 (zp L _ rfl rfl rfl rfl rfl rfl rfl (by omega)) rfl ?_; refine y9 (y2 L (q := 900) rfl rfl rfl rfl rfl rfl b2 rfl s2) rfl ?_; refine qk ?_; refine zf ?_; refine ze ?_; refine zb (id := 4) ?_; refine Zs1 ?_; refine Zs18 ?_; refine Zs2 ?_; refine zd ?_; refine zf ?_; refine zb (id := 5) ?_; refine Zs1 ?_; refine Zs20 ?_; refine Zs2 ?_; refine zd ?_; refine qm ?_
    exact y1 (x := ((i, j), E)) ((i + 1, j - 1), swp E i j) ⟨by dsimp only; omega, by dsimp only; omega, by dsimp only; rw [swp_size]; exact hE, hO⟩ (by dsimp only; omega) ⟨rfl, rfl, rfl, rfl, trivial⟩
  · rw [reverseLoop, if_neg hlt] at hO
    subst hO
    refine ze ?_; refine ze ?_; refine zb (id := 2) ?_; refine Zs1 ?_; refine Zs1 ?_; refine Zs8 ?_; refine zd ?_; refine zf ?_; refine zm rfl ?_; refine y7 ?_; refine qg ?_; refine qg ?_; refine y6 ?_
    exact N_retGhost L 900 (r := GHeld b _ tyU) rfl (fun _ _ h => h) Since.refl rfl rfl
set_option maxHeartbeats 1000000 in
set_option maxRecDepth 20000 in
theorem sift_ret {d : Array Int} {rest : List Value} {b m cap lo hi first : Nat} (hlo : lo ≤ hi) (hf : first + hi ≤ d.size) (hm : d.size = m) (hm1 : m ≤ 100000) {w : World} {B : Heap} {C : Nat → Prop} (hB : B.Le (hp w))
    (hr : (GHeld b (uC d ++ rest) tyU).P B w C) (hC : ∀ k, C k → k < w.heap.size ∧ B k = none) :
    RetG Try.prog 105 [.slice (some ⟨b, 0, none⟩) m cap, .int .i64 lo, .int .i64 hi, .int .i64 first] w B C (GHeld b (uC (siftDown lt hi first lo d) ++ rest) tyU) := by
  unfold RetG
  refine V_enterG 900 (GHeld b (uC d ++ rest) tyU) Try.func105 rfl Try.ntmps105 (Nat.le_of_ble_eq_true rfl) hB hr hC ?_
  rw [gheld_res]
  refine ze ?_; refine zb (id := 0) ?_; refine Zs1 ?_; refine Zs2 ?_; refine zd ?_; refine zf ?_; refine zy ?_
  refine V_loop (fun s : Nat × Array Int => [(0, .is (.slice (some ⟨b, 0, none⟩) m cap)), (2, .is (.int .i64 hi)), (3, .is (.int .i64 first)), (8, .is (.int .i64 s.1)), (900, .own (HeldR b (uC s.2 ++ rest) tyU))]) (fun s => s.1 ≤ hi ∧ s.2.size = m ∧ siftDown lt hi first s.1 s.2 = siftDown lt hi first lo d) (fun s => hi - s.1) (lo, d) ⟨hlo, hm, rfl⟩ ⟨rfl, rfl, rfl, rfl, rfl, trivial⟩ ?_
  rintro ⟨r, E⟩ ⟨hr0, hE, hO⟩
  dsimp only at hr0 hE hO ⊢
  have hw1 : IntKind.i64.wrap (2 * (r : Int)) = ((2 * r : Nat) : Int) := wrap_i64 (by omega) (by omega) |>.trans (by omega)
  have hw2 : IntKind.i64.wrap (((2 * r : Nat) : Int) + 1) = ((2 * r + 1 : Nat) : Int) := wrap_i64 (by omega) (by omega)
  by_cases hend : hi ≤ 2 * r + 1
  · rw [siftDown, dif_pos (by omega)] at hO
    subst hO
    refine zy ?_; refine ze ?_; refine zb (id := 1) ?_; refine Zs1 ?_; refine Zs36 ?_; refine Zs18 ?_; refine Zs2 ?_; refine zd ?_; refine zf ?_; refine ze ?_; refine ze ?_; refine zb (id := 2) ?_; refine Zs1 ?_; refine Zs1 ?_; refine Zs30 ?_; refine zd ?_; refine zf ?_; refine zw rfl ?_; refine y7 ?_; refine qg ?_; refine X_there rfl ?_; refine qg ?_; refine y6 ?_
    exact N_retGhost L 900 (r := GHeld b _ tyU) rfl (fun _ _ h => h) Since.refl rfl rfl
  · rw [siftDown, dif_neg (by omega)] at hO
    have hw3 : IntKind.i64.wrap (((2 * r + 1 : Nat) : Int) + 1) = ((2 * r + 2 : Nat) : Int) := wrap_i64 (by omega) (by omega)
    have hw4 : IntKind.i64.wrap ((first : Int) + ((2 * r + 1 : Nat) : Int)) = ((first + (2 * r + 1) : Nat) : Int) := wrap_i64 (by omega) (by omega)
    have hw5 : IntKind.i64.wrap (((first + (2 * r + 1) : Nat) : Int) + 1) = ((first + (2 * r + 2) : Nat) : Int) := wrap_i64 (by omega) (by omega)
    have hw6 : IntKind.i64.wrap ((first : Int) + (r : Int)) = ((first + r : Nat) : Int) := wrap_i64 (by omega) (by omega)
    have hw7 : IntKind.i64.wrap ((first : Int) + ((2 * r + 2 : Nat) : Int)) = ((first + (2 * r + 2) : Nat) : Int) := wrap_i64 (by omega) (by omega)
    obtain ⟨_, qr⟩ := u_at (rest := rest) (show first + r < E.size by omega) (0 + (first + r) * 1) rfl
    by_cases h2 : 2 * r + 2 < hi
    · obtain ⟨_, q1⟩ := u_at (rest := rest) (show first + (2 * r + 1) < E.size by omega) (0 + (first + (2 * r + 1)) * 1) rfl
      obtain ⟨_, q2⟩ := u_at (rest := rest) (show first + (2 * r + 2) < E.size by omega) (0 + (first + (2 * r + 2)) * 1) rfl
      have e2 : first + (2 * r + 1) + 1 = first + (2 * r + 2) := by omega
      rw [e2] at hO
      cases hc : lt E[first + (2 * r + 1)]! E[first + (2 * r + 2)]! with
      | true =>
        rw [if_pos (by rw [hc]; simp; omega)] at hO
        have qc := q2
        cases hc2 : lt E[first + r]! E[first + (2 * r + 2)]! with
        | false =>
          rw [hc2] at hO
          simp only [Bool.not_false, if_true] at hO
          subst hO
          refine zy ?_; refine ze ?_; refine zb (id := 1) ?_; refine Zs1 ?_; refine Zs36 ?_; refine Zs18 ?_; refine Zs2 ?_; refine zd ?_; refine zf ?_; refine ze ?_; refine ze ?_; refine zb (id := 2) ?_; refine Zs1 ?_; refine Zs1 ?_; refine Zs22 ?_; refine zd ?_; refine zf ?_; refine zm rfl ?_; refine zt ?_; refine zf ?_; refine ze ?_; refine ze ?_; refine zz (id := 3) [(200027, [900]), (200034, [900])] mixed (by kernel_rfl) ?_; refine Zs7 ?_; refine Zs34 ?_; refine Zs7 ?_; refine Zs67 ?_; refine Zs7 ?_; refine Zs7 ?_; refine Zs7 ?_; refine Zs7 ?_; refine Zs34 ?_; refine z8 (zp L _ rfl rfl rfl rfl rfl rfl rfl (by omega)) rfl ?_; refine q8 (zx L (q := 900) rfl rfl rfl rfl rfl q1) rfl rfl ?_; refine Zs7 ?_; refine Zs7 ?_; refine Zs7 ?_; refine Zs34 ?_; refine Zs34 ?_; refine z8 (zp L _ rfl rfl rfl rfl rfl rfl rfl (by omega)) rfl ?_; refine q8 (zx L (q := 900) rfl rfl rfl rfl rfl q2) rfl rfl ?_; refine z8 (zo L rfl rfl (zg rfl) rfl rfl rfl (fun u H hH _ _ => lessU' hc hH)) rfl ?_; refine Zs28 ?_; refine qk ?_; refine zf ?_; refine zw rfl ?_; refine zb (id := 4) ?_; refine Zs1 ?_; refine Zs18 ?_; refine Zs2 ?_; refine zd ?_; refine zf ?_; refine ze ?_; refine ze ?_; refine zz (id := 5) [(200044, [900]), (200050, [900])] mixed (by kernel_rfl) ?_; refine Zs7 ?_; refine Zs7 ?_; refine Zs7 ?_; refine Zs34 ?_; refine z8 (zp L _ rfl rfl rfl rfl rfl rfl rfl (by omega)) rfl ?_; refine q8 (zx L (q := 900) rfl rfl rfl rfl rfl qr) rfl rfl ?_; refine Zs7 ?_; refine Zs7 ?_; refine Zs7 ?_; refine Zs34 ?_; refine z8 (zp L _ rfl rfl rfl rfl rfl rfl rfl (by omega)) rfl ?_; refine q8 (zx L (q := 900) rfl rfl rfl rfl rfl qc) rfl rfl ?_; refine z8 (zo L rfl rfl (zg rfl) rfl rfl rfl (fun u H hH _ _ => lessU' hc2 hH)) rfl ?_; refine Zs47 ?_; refine qk ?_; refine zf ?_; refine zw rfl ?_
          exact V_retGhost L 900 (r := GHeld b _ tyU) rfl (fun _ _ h => h) Since.refl rfl rfl
        | true =>
          rw [hc2] at hO
          simp only [Bool.not_true, Bool.false_eq_true, if_false] at hO
          rw [dif_pos (by omega)] at hO
          obtain ⟨_, qj⟩ := u_at (rest := rest) (show first + (2 * r + 2) < E.size by omega) (0 + (first + (2 * r + 2)) * 1) rfl
          obtain ⟨_, qi⟩ := u_at (rest := rest) (show first + r < E.size by omega) (0 + (first + r) * 1) rfl
          have s1 := u_set (rest := rest) E[first + (2 * r + 2)]! (show first + r < E.size by omega) (0 + (first + r) * 1) rfl
          have b1 := u_ble (rest := rest) (show first + r < E.size by omega) (0 + (first + r) * 1) rfl
          have hz : first + (2 * r + 2) < (E.setIfInBounds (first + r) E[first + (2 * r + 2)]!).size := by rw [Array.size_setIfInBounds]; omega
          have s2 := u_set (rest := rest) E[first + r]! hz (0 + (first + (2 * r + 2)) * 1) rfl
          have b2 := u_ble (rest := rest) hz (0 + (first + (2 * r + 2)) * 1) rfl
          rw [swp_eq] at s2
          refine zy ?_; refine ze ?_; refine zb (id := 1) ?_; refine Zs1 ?_; refine Zs36 ?_; refine Zs18 ?_; refine Zs2 ?_; refine zd ?_; refine zf ?_; refine ze ?_; refine ze ?_; refine zb (id := 2) ?_; refine Zs1 ?_; refine Zs1 ?_; refine Zs22 ?_; refine zd ?_; refine zf ?_; refine zm rfl ?_; refine zt ?_; refine zf ?_; refine ze ?_; refine ze ?_; refine zz (id := 3) [(200027, [900]), (200034, [900])] mixed (by kernel_rfl) ?_; refine Zs7 ?_; refine Zs34 ?_; refine Zs7 ?_; refine Zs67 ?_; refine Zs7 ?_; refine Zs7 ?_; refine Zs7 ?_; refine Zs7 ?_; refine Zs34 ?_; refine z8 (zp L _ rfl rfl rfl rfl rfl rfl rfl (by omega)) rfl ?_; refine q8 (zx L (q := 900) rfl rfl rfl rfl rfl q1) rfl rfl ?_; refine Zs7 ?_; refine Zs7 ?_; refine Zs7 ?_; refine Zs34 ?_; refine Zs34 ?_; refine z8 (zp L _ rfl rfl rfl rfl rfl rfl rfl (by omega)) rfl ?_; refine q8 (zx L (q := 900) rfl rfl rfl rfl rfl q2) rfl rfl ?_; refine z8 (zo L rfl rfl (zg rfl) rfl rfl rfl (fun u H hH _ _ => lessU' hc hH)) rfl ?_; refine Zs28 ?_; refine qk ?_; refine zf ?_; refine zw rfl ?_; refine zb (id := 4) ?_; refine Zs1 ?_; refine Zs18 ?_; refine Zs2 ?_; refine zd ?_; refine zf ?_; refine ze ?_; refine ze ?_; refine zz (id := 5) [(200044, [900]), (200050, [900])] mixed (by kernel_rfl) ?_; refine Zs7 ?_; refine Zs7 ?_; refine Zs7 ?_; refine Zs34 ?_; refine z8 (zp L _ rfl rfl rfl rfl rfl rfl rfl (by omega)) rfl ?_; refine q8 (zx L (q := 900) rfl rfl rfl rfl rfl qr) rfl rfl ?_; refine Zs7 ?_; refine Zs7 ?_; refine Zs7 ?_; refine Zs34 ?_; refine z8 (zp L _ rfl rfl rfl rfl rfl rfl rfl (by omega)) rfl ?_; refine q8 (zx L (q := 900) rfl rfl rfl rfl rfl qc) rfl rfl ?_; refine z8 (zo L rfl rfl (zg rfl) rfl rfl rfl (fun u H hH _ _ => lessU' hc2 hH)) rfl ?_; refine Zs47 ?_; refine qk ?_; refine zf ?_; refine zm rfl ?_; refine zt ?_; refine zf ?_; refine ze ?_; refine zz (id := 6) [(200066, [900]), (200072, [900]), (100073, [900]), (100074, [900])] mixed (by kernel_rfl) ?_; refine Zs7 ?_; refine Zs7 ?_; refine Zs7 ?_; refine Zs34 ?_; refine Zs7 ?_; refine Zs7 ?_; refine Zs7 ?_; refine Zs34 ?_; refine Zs7 ?_; refine Zs7 ?_; refine Zs7 ?_; refine Zs34 ?_; refine z8 (zp L _ rfl rfl rfl rfl rfl rfl rfl (by omega)) rfl ?_; refine q8 (zx L (q := 900) rfl rfl rfl rfl rfl qj) rfl rfl ?_; refine Zs7 ?_; refine Zs7 ?_; refine Zs7 ?_; refine Zs34 ?_; refine z8 (zp L _ rfl rfl rfl rfl rfl rfl rfl (by omega)) rfl ?_; refine q8 (zx L (q := 900) rfl rfl rfl rfl rfl qi) rfl rfl ?_; refine z8 (zp L _ rfl rfl rfl rfl rfl rfl rfl (by omega)) rfl ?_; refine y9 (y2 L (q := 900) rfl rfl rfl rfl rfl rfl b1 rfl s1) rfl ?_; refine z8 (zp L _ rfl rfl rfl rfl rfl rfl rfl (by omega)) rfl ?_; refine y9 (y2 L (q := 900) rfl rfl rfl rfl rfl rfl b2 rfl s2) rfl ?_; refine qk ?_; refine zf ?_; refine zb (id := 7) ?_; refine Zs1 ?_; refine Zs2 ?_; refine zd ?_; refine qm ?_
          exact y1 (x := (r, E)) (2 * r + 2, swp E (first + r) (first + (2 * r + 2))) ⟨by dsimp only; omega, by dsimp only; rw [swp_size]; exact hE, hO⟩ (by dsimp only; omega) ⟨rfl, rfl, rfl, rfl, rfl, trivial⟩
      | false =>
        rw [if_neg (by rw [hc]; simp)] at hO
        have qc := q1
        cases hc2 : lt E[first + r]! E[first + (2 * r + 1)]! with
        | false =>
          rw [hc2] at hO
          simp only [Bool.not_false, if_true] at hO
          subst hO
          refine zy ?_; refine ze ?_; refine zb (id := 1) ?_; refine Zs1 ?_; refine Zs36 ?_; refine Zs18 ?_; refine Zs2 ?_; refine zd ?_; refine zf ?_; refine ze ?_; refine ze ?_; refine zb (id := 2) ?_; refine Zs1 ?_; refine Zs1 ?_; refine Zs22 ?_; refine zd ?_; refine zf ?_; refine zm rfl ?_; refine zt ?_; refine zf ?_; refine ze ?_; refine ze ?_; refine zz (id := 3) [(200027, [900]), (200034, [900])] mixed (by kernel_rfl) ?_; refine Zs7 ?_; refine Zs34 ?_; refine Zs7 ?_; refine Zs67 ?_; refine Zs7 ?_; refine Zs7 ?_; refine Zs7 ?_; refine Zs7 ?_; refine Zs34 ?_; refine z8 (zp L _ rfl rfl rfl rfl rfl rfl rfl (by omega)) rfl ?_; refine q8 (zx L (q := 900) rfl rfl rfl rfl rfl q1) rfl rfl ?_; refine Zs7 ?_; refine Zs7 ?_; refine Zs7 ?_; refine Zs34 ?_; refine Zs34 ?_; refine z8 (zp L _ rfl rfl rfl rfl rfl rfl rfl (by omega)) rfl ?_; refine q8 (zx L (q := 900) rfl rfl rfl rfl rfl q2) rfl rfl ?_; refine z8 (zo L rfl rfl (zg rfl) rfl rfl rfl (fun u H hH _ _ => lessU' hc hH)) rfl ?_; refine Zs28 ?_; refine qk ?_; refine zf ?_; refine zm rfl ?_; refine zt ?_; refine zf ?_; refine ze ?_; refine ze ?_; refine zz (id := 5) [(200044, [900]), (200050, [900])] mixed (by kernel_rfl) ?_; refine Zs7 ?_; refine Zs7 ?_; refine Zs7 ?_; refine Zs34 ?_; refine z8 (zp L _ rfl rfl rfl rfl rfl rfl rfl (by omega)) rfl ?_; refine q8 (zx L (q := 900) rfl rfl rfl rfl rfl qr) rfl rfl ?_; refine Zs7 ?_; refine Zs7 ?_; refine Zs7 ?_; refine Zs34 ?_; refine z8 (zp L _ rfl rfl rfl rfl rfl rfl rfl (by omega)) rfl ?_; refine q8 (zx L (q := 900) rfl rfl rfl rfl rfl qc) rfl rfl ?_; refine z8 (zo L rfl rfl (zg rfl) rfl rfl rfl (fun u H hH _ _ => lessU' hc2 hH)) rfl ?_; refine Zs47 ?_; refine qk ?_; refine zf ?_; refine zw rfl ?_
          exact V_retGhost L 900 (r := GHeld b _ tyU) rfl (fun _ _ h => h) Since.refl rfl rfl
        | true =>
          rw [hc2] at hO
          simp only [Bool.not_true, Bool.false_eq_true, if_false] at hO
          obtain ⟨_, qj⟩ := u_at (rest := rest) (show first + (2 * r + 1) < E.size by omega) (0 + (first + (2 * r + 1)) * 1) rfl
          obtain ⟨_, qi⟩ := u_at (rest := rest) (show first + r < E.size by omega) (0 + (first + r) * 1) rfl
          have s1 := u_set (rest := rest) E[first + (2 * r + 1)]! (show first + r < E.size by omega) (0 + (first + r) * 1) rfl
          have b1 := u_ble (rest := rest) (show first + r < E.size by omega) (0 + (first + r) * 1) rfl
          have hz : first + (2 * r + 1) < (E.setIfInBounds (first + r) E[first + (2 * r + 1)]!).size := by rw [Array.size_setIfInBounds]; omega
          have s2 := u_set (rest := rest) E[first + r]! hz (0 + (first + (2 * r + 1)) * 1) rfl
          have b2 := u_ble (rest := rest) hz (0 + (first + (2 * r + 1)) * 1) rfl
          rw [swp_eq] at s2
          refine zy ?_; refine ze ?_; refine zb (id := 1) ?_; refine Zs1 ?_; refine Zs36 ?_; refine Zs18 ?_; refine Zs2 ?_; refine zd ?_; refine zf ?_; refine ze ?_; refine ze ?_; refine zb (id := 2) ?_; refine Zs1 ?_; refine Zs1 ?_; refine Zs22 ?_; refine zd ?_; refine zf ?_; refine zm rfl ?_; refine zt ?_; refine zf ?_; refine ze ?_; refine ze ?_; refine zz (id := 3) [(200027, [900]), (200034, [900])] mixed (by kernel_rfl) ?_; refine Zs7 ?_; refine Zs34 ?_; refine Zs7 ?_; refine Zs67 ?_; refine Zs7 ?_; refine Zs7 ?_; refine Zs7 ?_; refine Zs7 ?_; refine Zs34 ?_; refine z8 (zp L _ rfl rfl rfl rfl rfl rfl rfl (by omega)) rfl ?_; refine q8 (zx L (q := 900) rfl rfl rfl rfl rfl q1) rfl rfl ?_; refine Zs7 ?_; refine Zs7 ?_; refine Zs7 ?_; refine Zs34 ?_; refine Zs34 ?_; refine z8 (zp L _ rfl rfl rfl rfl rfl rfl rfl (by omega)) rfl ?_; refine q8 (zx L (q := 900) rfl rfl rfl rfl rfl q2) rfl rfl ?_; refine z8 (zo L rfl rfl (zg rfl) rfl rfl rfl (fun u H hH _ _ => lessU' hc hH)) rfl ?_; refine Zs28 ?_; refine qk ?_; refine zf ?_; refine zm rfl ?_; refine zt ?_; refine zf ?_; refine ze ?_; refine ze ?_; refine zz (id := 5) [(200044, [900]), (200050, [900])] mixed (by kernel_rfl) ?_; refine Zs7 ?_; refine Zs7 ?_; refine Zs7 ?_; refine Zs34 ?_; refine z8 (zp L _ rfl rfl rfl rfl rfl rfl rfl (by omega)) rfl ?_; refine q8 (zx L (q := 900) rfl rfl rfl rfl rfl qr) rfl rfl ?_; refine Zs7 ?_; refine Zs7 ?_; refine Zs7 ?_; refine Zs34 ?_; refine z8 (zp L _ rfl rfl rfl rfl rfl rfl rfl (by omega)) rfl ?_; refine q8 (zx L (q := 900) rfl rfl rfl rfl rfl qc) rfl rfl ?_; refine z8 (zo L rfl rfl (zg rfl) rfl rfl rfl (fun u H hH _ _ => lessU' hc2 hH)) rfl ?_; refine Zs47 ?_; refine qk ?_; refine zf ?_; refine zm rfl ?_; refine zt ?_; refine zf ?_; refine ze ?_; refine zz (id := 6) [(200066, [900]), (200072, [900]), (100073, [900]), (100074, [900])] mixed (by kernel_rfl) ?_; refine Zs7 ?_; refine Zs7 ?_; refine Zs7 ?_; refine Zs34 ?_; refine Zs7 ?_; refine Zs7 ?_; refine Zs7 ?_; refine Zs34 ?_; refine Zs7 ?_; refine Zs7 ?_; refine Zs7 ?_; refine Zs34 ?_; refine z8 (zp L _ rfl rfl rfl rfl rfl rfl rfl (by omega)) rfl ?_; refine q8 (zx L (q := 900) rfl rfl rfl rfl rfl qj) rfl rfl ?_; refine Zs7 ?_; refine Zs7 ?_; refine Zs7 ?_; refine Zs34 ?_; refine z8 (zp L _ rfl rfl rfl rfl rfl rfl rfl (by omega)) rfl ?_; refine q8 (zx L (q := 900) rfl rfl rfl rfl rfl qi) rfl rfl ?_; refine z8 (zp L _ rfl rfl rfl rfl rfl rfl rfl (by omega)) rfl ?_; refine y9 (y2 L (q := 900) rfl rfl rfl rfl rfl rfl b1 rfl s1) rfl ?_; refine z8 (zp L _ rfl rfl rfl rfl rfl rfl rfl (by omega)) rfl ?_; refine y9 (y2 L (q := 900) rfl rfl rfl rfl rfl rfl b2 rfl s2) rfl ?_; refine qk ?_; refine zf ?_; refine zb (id := 7) ?_; refine Zs1 ?_; refine Zs2 ?_; refine zd ?_; refine qm ?_
          exact y1 (x := (r, E)) (2 * r + 1, swp E (first + r) (first + (2 * r + 1))) ⟨by dsimp only; omega, by dsimp only; rw [swp_size]; exact hE, hO⟩ (by dsimp only; omega) ⟨rfl, rfl, rfl, rfl, rfl, trivial⟩
    · rw [if_neg (by simp; omega)] at hO
      obtain ⟨_, qc⟩ := u_at (rest := rest) (show first + (2 * r + 1) < E.size by omega) (0 + (first + (2 * r + 1)) * 1) rfl
      cases hc2 : lt E[first + r]! E[first + (2 * r + 1)]! with
      | false =>
        rw [hc2] at hO
        simp only [Bool.not_false, if_true] at hO
        subst hO
        refine zy ?_; refine ze ?_; refine zb (id := 1) ?_; refine Zs1 ?_; refine Zs36 ?_; refine Zs18 ?_; refine Zs2 ?_; refine zd ?_; refine zf ?_; refine ze ?_; refine ze ?_; refine zb (id := 2) ?_; refine Zs1 ?_; refine Zs1 ?_; refine Zs22 ?_; refine zd ?_; refine zf ?_; refine zm rfl ?_; refine zt ?_; refine zf ?_; refine ze ?_; refine ze ?_; refine zz (id := 3) [] mixed (by kernel_rfl) ?_; refine Zs7 ?_; refine Zs34 ?_; refine Zs7 ?_; refine Zs78 ?_; refine Zs7 ?_; refine Zs12 ?_; refine Zs12 ?_; refine Zs12 ?_; refine Zs12 ?_; refine Zs12 ?_; refine Zs12 ?_; refine Zs12 ?_; refine Zs12 ?_; refine Zs12 ?_; refine Zs12 ?_; refine Zs12 ?_; refine Zs12 ?_; refine Zs12 ?_; refine Zs12 ?_; refine Zs28 ?_; refine qk ?_; refine zf ?_; refine zm rfl ?_; refine zt ?_; refine zf ?_; refine ze ?_; refine ze ?_; refine zz (id := 5) [(200044, [900]), (200050, [900])] mixed (by kernel_rfl) ?_; refine Zs7 ?_; refine Zs7 ?_; refine Zs7 ?_; refine Zs34 ?_; refine z8 (zp L _ rfl rfl rfl rfl rfl rfl rfl (by omega)) rfl ?_; refine q8 (zx L (q := 900) rfl rfl rfl rfl rfl qr) rfl rfl ?_; refine Zs7 ?_; refine Zs7 ?_; refine Zs7 ?_; refine Zs34 ?_; refine z8 (zp L _ rfl rfl rfl rfl rfl rfl rfl (by omega)) rfl ?_; refine q8 (zx L (q := 900) rfl rfl rfl rfl rfl qc) rfl rfl ?_; refine z8 (zo L rfl rfl (zg rfl) rfl rfl rfl (fun u H hH _ _ => lessU' hc2 hH)) rfl ?_; refine Zs47 ?_; refine qk ?_; refine zf ?_; refine zw rfl ?_
        exact V_retGhost L 900 (r := GHeld b _ tyU) rfl (fun _ _ h => h) Since.refl rfl rfl
      | true =>
        rw [hc2] at hO
        simp only [Bool.not_true, Bool.false_eq_true, if_false] at hO
        obtain ⟨_, qj⟩ := u_at (rest := rest) (show first + (2 * r + 1) < E.size by omega) (0 + (first + (2 * r + 1)) * 1) rfl
        obtain ⟨_, qi⟩ := u_at (rest := rest) (show first + r < E.size by omega) (0 + (first + r) * 1) rfl
        have s1 := u_set (rest := rest) E[first + (2 * r + 1)]! (show first + r < E.size by omega) (0 + (first + r) * 1) rfl
        have b1 := u_ble (rest := rest) (show first + r < E.size by omega) (0 + (first + r) * 1) rfl
        have hz : first + (2 * r + 1) < (E.setIfInBounds (first + r) E[first + (2 * r + 1)]!).size := by rw [Array.size_setIfInBounds]; omega
        have s2 := u_set (rest := rest) E[first + r]! hz (0 + (first + (2 * r + 1)) * 1) rfl
        have b2 := u_ble (rest := rest) hz (0 + (first + (2 * r + 1)) * 1) rfl
        rw [swp_eq] at s2
        refine zy ?_; refine ze ?_; refine zb (id := 1) ?_; refine Zs1 ?_; refine Zs36 ?_; refine Zs18 ?_; refine Zs2 ?_; refine zd ?_; refine zf ?_; refine ze ?_; refine ze ?_; refine zb (id := 2) ?_; refine Zs1 ?_; refine Zs1 ?_; refine Zs22 ?_; refine zd ?_; refine zf ?_; refine zm rfl ?_; refine zt ?_; refine zf ?_; refine ze ?_; refine ze ?_; refine zz (id := 3) [] mixed (by kernel_rfl) ?_; refine Zs7 ?_; refine Zs34 ?_; refine Zs7 ?_; refine Zs78 ?_; refine Zs7 ?_; refine Zs12 ?_; refine Zs12 ?_; refine Zs12 ?_; refine Zs12 ?_; refine Zs12 ?_; refine Zs12 ?_; refine Zs12 ?_; refine Zs12 ?_; refine Zs12 ?_; refine Zs12 ?_; refine Zs12 ?_; refine Zs12 ?_; refine Zs12 ?_; refine Zs12 ?_; refine Zs28 ?_; refine qk ?_; refine zf ?_; refine zm rfl ?_; refine zt ?_; refine zf ?_; refine ze ?_; refine ze ?_; refine zz (id := 5) [(200044, [900]), (200050, [900])] mixed (by kernel_rfl) ?_; refine Zs7 ?_; refine Zs7 ?_; refine Zs7 ?_; refine Zs34 ?_; refine z8 (zp L _ rfl rfl rfl rfl rfl rfl rfl (by omega)) rfl ?_; refine q8 (zx L (q := 900) rfl rfl rfl rfl rfl qr) rfl rfl ?_; refine Zs7 ?_; refine Zs7 ?_; refine Zs7 ?_; refine Zs34 ?_; refine z8 (zp L _ rfl rfl rfl rfl rfl rfl rfl (by omega)) rfl ?_; refine q8 (zx L (q := 900) rfl rfl rfl rfl rfl qc) rfl rfl ?_; refine z8 (zo L rfl rfl (zg rfl) rfl rfl rfl (fun u H hH _ _ => lessU' hc2 hH)) rfl ?_; refine Zs47 ?_; refine qk ?_; refine zf ?_; refine zm rfl ?_; refine zt ?_; refine zf ?_; refine ze ?_; refine zz (id := 6) [(200066, [900]), (200072, [900]), (100073, [900]), (100074, [900])] mixed (by kernel_rfl) ?_; refine Zs7 ?_; refine Zs7 ?_; refine Zs7 ?_; refine Zs34 ?_; refine Zs7 ?_; refine Zs7 ?_; refine Zs7 ?_; refine Zs34 ?_; refine Zs7 ?_; refine Zs7 ?_; refine Zs7 ?_; refine Zs34 ?_; refine z8 (zp L _ rfl rfl rfl rfl rfl rfl rfl (by omega)) rfl ?_; refine q8 (zx L (q := 900) rfl rfl rfl rfl rfl qj) rfl rfl ?_; refine Zs7 ?_; refine Zs7 ?_; refine Zs7 ?_; refine Zs34 ?_; refine z8 (zp L _ rfl rfl rfl rfl rfl rfl rfl (by omega)) rfl ?_; refine q8 (zx L (q := 900) rfl rfl rfl rfl rfl qi) rfl rfl ?_; refine z8 (zp L _ rfl rfl rfl rfl rfl rfl rfl (by omega)) rfl ?_; refine y9 (y2 L (q := 900) rfl rfl rfl rfl rfl rfl b1 rfl s1) rfl ?_; refine z8 (zp L _ rfl rfl rfl rfl rfl rfl rfl (by omega)) rfl ?_; refine y9 (y2 L (q := 900) rfl rfl rfl rfl rfl rfl b2 rfl s2) rfl ?_; refine qk ?_; refine zf ?_; refine zb (id := 7) ?_; refine Zs1 ?_; refine Zs2 ?_; refine zd ?_; refine qm ?_
        exact y1 (x := (r, E)) (2 * r + 1, swp E (first + r) (first + (2 * r + 1))) ⟨by dsimp only; omega, by dsimp only; rw [swp_size]; exact hE, hO⟩ (by dsimp only; omega) ⟨rfl, rfl, rfl, rfl, rfl, trivial⟩
theorem sift_size (hi first : Nat) : ∀ (n root : Nat) (d : Array Int), hi - root ≤ n → (siftDown lt hi first root d).size = d.size := by
  intro n
  induction n with
  | zero =>
    intro root d h
    rw [siftDown, dif_pos (by omega)]
  | succ n ih =>
    intro root d h
    rw [siftDown]
    split
    · rfl
    · split
      · split
        · rfl
        · split
          · rw [ih _ _ (by omega), swp_size]
          · rfl
      · split
        · rfl
        · rw [ih _ _ (by omega), swp_size]
set_option maxHeartbeats 1000000 in
set_option maxRecDepth 20000 in
theorem heap_ret {d : Array Int} {rest : List Value} {b m cap a e : Nat} (hab : a < e) (he : e ≤ d.size) (hm : d.size = m) (hm1 : m ≤ 100000) {w : World} {B : Heap} {C : Nat → Prop} (hB : B.Le (hp w))
    (hr : (GHeld b (uC d ++ rest) tyU).P B w C) (hC : ∀ k, C k → k < w.heap.size ∧ B k = none) :
    RetG Try.prog 90 [.slice (some ⟨b, 0, none⟩) m cap, .int .i64 a, .int .i64 e] w B C (GHeld b (uC (heapSort lt d a e) ++ rest) tyU) := by
  unfold RetG
  refine V_enterG 900 (GHeld b (uC d ++ rest) tyU) Try.func90 rfl Try.ntmps90 (Nat.le_of_ble_eq_true rfl) hB hr hC ?_
  rw [gheld_res]
  have hw0 : IntKind.i64.wrap ((e : Int) - (a : Int)) = ((e - a : Nat) : Int) := wrap_i64 (by omega) (by omega) |>.trans (by omega)
  have hw1 : IntKind.i64.wrap (((e - a : Nat) : Int) - 1) = ((e - a - 1 : Nat) : Int) := wrap_i64 (by omega) (by omega) |>.trans (by omega)
  have et : ((e - a - 1 : Nat) : Int).tdiv 2 = (((e - a - 1) / 2 + 1 : Nat) : Int) - 1 := by
    rw [Int.tdiv_eq_ediv_of_nonneg (by omega)]
    omega
  have hw2 : IntKind.i64.wrap (((e - a - 1 : Nat) : Int).tdiv 2) = (((e - a - 1) / 2 + 1 : Nat) : Int) - 1 := by rw [et]; exact wrap_i64 (by omega) (by omega)
  refine ze ?_; refine zb (id := 0) ?_; refine Zs1 ?_; refine Zs2 ?_; refine zd ?_; refine zf ?_; refine ze ?_; refine zb (id := 1) ?_; refine Zs2 ?_; refine zd ?_; refine zf ?_; refine ze ?_; refine zb (id := 2) ?_; refine Zs1 ?_; refine Zs1 ?_; refine Zs20 ?_; refine Zs2 ?_; refine zd ?_; refine zf ?_; refine ze ?_; refine ze ?_; refine zb (id := 3) ?_; refine Zs1 ?_; refine Zs20 ?_; refine Zs33 ?_; refine Zs2 ?_; refine zd ?_; refine zf ?_; refine zy ?_
  refine V_loop (fun s : Nat × Array Int => [(0, .is (.slice (some ⟨b, 0, none⟩) m cap)), (6, .is (.int .i64 a)), (7, .is (.int .i64 0)), (8, .is (.int .i64 (e - a : Nat))), (9, .is (.int .i64 ((s.1 : Int) - 1))), (900, .own (HeldR b (uC s.2 ++ rest) tyU))]) (fun s => s.1 ≤ (e - a - 1) / 2 + 1 ∧ s.2.size = m ∧ heapBuild lt (e - a) a s.1 s.2 = heapBuild lt (e - a) a ((e - a - 1) / 2 + 1) d) (fun s => s.1) ((e - a - 1) / 2 + 1, d) ⟨Nat.le_refl _, hm, rfl⟩ ⟨rfl, rfl, rfl, rfl, rfl, rfl, trivial⟩ ?_
  rintro ⟨k, E⟩ ⟨hk, hE, hO⟩
  dsimp only at hk hE hO ⊢
  rcases k with _ | k
  · have e9 : (((0 : Nat) : Int) - 1) = -1 := rfl
    rw [e9]
    refine ze ?_; refine ze ?_; refine zb (id := 4) ?_; refine Zs1 ?_; refine Zs22 ?_; refine zd ?_; refine zf ?_; refine zm rfl ?_; refine y7 ?_; refine qg ?_; refine qg ?_; refine y6 ?_; refine zf ?_; refine ze ?_
    rw [heapBuild] at hO
    have e10 : ((e - a - 1 : Nat) : Int) = ((e - a : Nat) : Int) - 1 := by omega
    rw [e10] at hw1
    refine zb (id := 7) ?_; refine Zs1 ?_; refine Zs20 ?_; refine Zs2 ?_; refine zd ?_; refine zf ?_; refine zy ?_
    refine V_loop (fun s : Nat × Array Int => [(0, .is (.slice (some ⟨b, 0, none⟩) m cap)), (6, .is (.int .i64 a)), (7, .is (.int .i64 0)), (10, .is (.int .i64 ((s.1 : Int) - 1))), (900, .own (HeldR b (uC s.2 ++ rest) tyU))]) (fun s => s.1 ≤ e - a ∧ s.2.size = m ∧ heapPop lt a s.1 s.2 = heapPop lt a (e - a) E) (fun s => s.1) (e - a, E) ⟨Nat.le_refl _, hE, rfl⟩ ⟨rfl, rfl, rfl, rfl, rfl, trivial⟩ ?_
    rintro ⟨j, G⟩ ⟨hj, hG, hP⟩
    dsimp only at hj hG hP ⊢
    rcases j with _ | j
    · rw [e9]
      rw [heapPop] at hP
      have : G = heapSort lt d a e := by unfold heapSort; rw [← hO, hP]
      subst this
      refine ze ?_; refine ze ?_; refine zb (id := 8) ?_; refine Zs1 ?_; refine Zs22 ?_; refine zd ?_; refine zf ?_; refine zm rfl ?_; refine y7 ?_; refine qg ?_; refine qg ?_; refine y6 ?_
      exact N_retGhost L 900 (r := GHeld b _ tyU) rfl (fun _ _ h => h) Since.refl rfl rfl
    · have e8 : (((j + 1 : Nat) : Int) - 1) = (j : Int) := by omega
      rw [heapPop] at hP
      rw [e8]
      have hw3 : IntKind.i64.wrap ((a : Int) + (j : Int)) = ((a + j : Nat) : Int) := wrap_i64 (by omega) (by omega)
      have hw4 : IntKind.i64.wrap ((j : Int) - 1) = (j : Int) - 1 := wrap_i64 (by omega) (by omega)
      have hsz := swp_size G a (a + j)
      have hss := sift_size j a j 0 (swp G a (a + j)) (by omega)
      obtain ⟨_, qj⟩ := u_at (rest := rest) (show a + j < G.size by omega) (0 + (a + j) * 1) rfl
      obtain ⟨_, qi⟩ := u_at (rest := rest) (show a < G.size by omega) (0 + (a) * 1) rfl
      have s1 := u_set (rest := rest) G[a + j]! (show a < G.size by omega) (0 + (a) * 1) rfl
      have b1 := u_ble (rest := rest) (show a < G.size by omega) (0 + (a) * 1) rfl
      have hz : a + j < (G.setIfInBounds (a) G[a + j]!).size := by rw [Array.size_setIfInBounds]; omega
      have s2 := u_set (rest := rest) G[a]! hz (0 + (a + j) * 1) rfl
      have b2 := u_ble (rest := rest) hz (0 + (a + j) * 1) rfl
      rw [swp_eq] at s2
      refine ze ?_; refine ze ?_; refine zb (id := 8) ?_; refine Zs1 ?_; refine Zs30 ?_; refine zd ?_; refine zf ?_; refine zw rfl ?_; refine zt ?_; refine zf ?_; refine ze ?_; refine zy ?_; refine ze ?_; refine zz (id := 10) [(200044, [900]), (200048, [900]), (100049, [900]), (100050, [900])] mixed (by kernel_rfl) ?_; refine Zs7 ?_; refine Zs7 ?_; refine Zs7 ?_; refine Zs7 ?_; refine Zs7 ?_; refine Zs34 ?_; refine Zs7 ?_; refine Zs7 ?_; refine Zs7 ?_; refine Zs34 ?_; refine z8 (zp L _ rfl rfl rfl rfl rfl rfl rfl (by omega)) rfl ?_; refine q8 (zx L (q := 900) rfl rfl rfl rfl rfl qj) rfl rfl ?_; refine Zs7 ?_; refine Zs7 ?_; refine z8 (zp L _ rfl rfl rfl rfl rfl rfl rfl (by omega)) rfl ?_; refine q8 (zx L (q := 900) rfl rfl rfl rfl rfl qi) rfl rfl ?_; refine z8 (zp L _ rfl rfl rfl rfl rfl rfl rfl (by omega)) rfl ?_; refine y9 (y2 L (q := 900) rfl rfl rfl rfl rfl rfl b1 rfl s1) rfl ?_; refine z8 (zp L _ rfl rfl rfl rfl rfl rfl rfl (by omega)) rfl ?_; refine y9 (y2 L (q := 900) rfl rfl rfl rfl rfl rfl b2 rfl s2) rfl ?_; refine qk ?_; refine zf ?_; refine zb (id := 11) ?_; refine Zs1 ?_; refine Zs1 ?_; refine Zs1 ?_; refine Zs1 ?_; refine qh (ok_callG L 900 (GHeld b (uC (siftDown lt j a 0 (swp G a (a + j))) ++ rest) tyU) (r := GHeld b (uC (swp G a (a + j)) ++ rest) tyU) rfl rfl rfl rfl rfl (fun u H C hH _ hr hC => sift_ret (Nat.zero_le _) (by omega) (by omega) hm1 hH hr hC)) ?_; refine zd ?_; refine qm ?_; refine zf ?_; refine zb (id := 9) ?_; refine Zs1 ?_; refine Zs20 ?_; refine Zs2 ?_; refine zd ?_
      exact y1 (x := (j + 1, G)) (j, siftDown lt j a 0 (swp G a (a + j))) ⟨by dsimp only; omega, by dsimp only; omega, hP⟩ (by dsimp only; omega) ⟨rfl, rfl, rfl, rfl, rfl, trivial⟩
  · have e8 : (((k + 1 : Nat) : Int) - 1) = (k : Int) := by omega
    rw [heapBuild] at hO
    rw [e8]
    have hw4 : IntKind.i64.wrap ((k : Int) - 1) = (k : Int) - 1 := wrap_i64 (by omega) (by omega)
    have hss := sift_size (e - a) a (e - a) k E (by omega)
    refine ze ?_; refine ze ?_; refine zb (id := 4) ?_; refine Zs1 ?_; refine Zs30 ?_; refine zd ?_; refine zf ?_; refine zw rfl ?_; refine zt ?_; refine zf ?_; refine ze ?_; refine zy ?_; refine zb (id := 6) ?_; refine Zs1 ?_; refine Zs1 ?_; refine Zs1 ?_; refine Zs1 ?_; refine qh (ok_callG L 900 (GHeld b (uC (siftDown lt (e - a) a k E) ++ rest) tyU) (r := GHeld b (uC E ++ rest) tyU) rfl rfl rfl rfl rfl (fun u H C hH _ hr hC => sift_ret (by omega) (by omega) (by omega) hm1 hH hr hC)) ?_; refine zd ?_; refine qm ?_; refine zf ?_; refine zb (id := 5) ?_; refine Zs1 ?_; refine Zs20 ?_; refine Zs2 ?_; refine zd ?_
    exact y1 (x := (k + 1, E)) (k, siftDown lt (e - a) a k E) ⟨by dsimp only; omega, by dsimp only; omega, hO⟩ (by dsimp only; omega) ⟨rfl, rfl, rfl, rfl, rfl, rfl, trivial⟩
end Go.V.So
namespace Go.V.So
open Go.Proofs Go.RowKit Go.V Go.Sort
attribute [local irreducible] V N X VO Par StepOK Has Ret RetL RetO RetG RetX Src
theorem scanUp_stop {p : Int → Bool} {d : Array Int} {j i : Nat} (h : ¬ (i ≤ j ∧ p d[i]! = true)) : scanUp p d j i = i := by
  rw [scanUp, if_neg]
  simpa using h
theorem scanUp_go {p : Int → Bool} {d : Array Int} {j i : Nat} (h1 : i ≤ j) (h2 : p d[i]! = true) : scanUp p d j i = scanUp p d j (i + 1) := by
  rw [scanUp, if_pos (by simp [h1, h2])]
theorem scanDown_stop {p : Int → Bool} {d : Array Int} {i j : Nat} (h : ¬ (i ≤ j ∧ p d[j]! = true)) : scanDown p d i j = j := by
  cases j with
  | zero => rfl
  | succ j => rw [scanDown, if_neg]; simpa using h
theorem scanDown_go {p : Int → Bool} {d : Array Int} {i j : Nat} (h1 : i ≤ j + 1) (h2 : p d[j + 1]! = true) : scanDown p d i (j + 1) = scanDown p d i j := by
  rw [scanDown, if_pos (by simp [h1, h2])]
set_option maxHeartbeats 2000000 in
set_option maxRecDepth 20000 in
theorem part_ret {d : Array Int} {rest : List Value} {b m cap a e p : Nat} (hap : a ≤ p) (hpe : p < e) (he : e ≤ d.size) (hm : d.size = m) (hm1 : m ≤ 100000) {w : World} {B : Heap} {C : Nat → Prop} (hB : B.Le (hp w))
    (hr : (GHeld b (uC d ++ rest) tyU).P B w C) (hC : ∀ k, C k → k < w.heap.size ∧ B k = none) :
    RetX Try.prog 97 [.slice (some ⟨b, 0, none⟩) m cap, .int .i64 a, .int .i64 e, .int .i64 p] w B C (GHeld b (uC (Go.Sort.partition lt d a e p).2.2 ++ rest) tyU) (.tuple #[.int .i64 (Go.Sort.partition lt d a e p).1, .bool (Go.Sort.partition lt d a e p).2.1]) := by
  unfold RetX
  refine V_enterG 900 (GHeld b (uC d ++ rest) tyU) Try.func97 rfl Try.ntmps97 (Nat.le_of_ble_eq_true rfl) hB hr hC ?_
  rw [gheld_res]
  obtain ⟨_, qj⟩ := u_at (rest := rest) (show p < d.size by omega) (0 + (p) * 1) rfl
  obtain ⟨_, qi⟩ := u_at (rest := rest) (show a < d.size by omega) (0 + (a) * 1) rfl
  have s1 := u_set (rest := rest) d[p]! (show a < d.size by omega) (0 + (a) * 1) rfl
  have b1 := u_ble (rest := rest) (show a < d.size by omega) (0 + (a) * 1) rfl
  have hz : p < (d.setIfInBounds (a) d[p]!).size := by rw [Array.size_setIfInBounds]; omega
  have s2 := u_set (rest := rest) d[a]! hz (0 + (p) * 1) rfl
  have b2 := u_ble (rest := rest) hz (0 + (p) * 1) rfl
  rw [swp_eq] at s2
  have hw1 : IntKind.i64.wrap ((a : Int) + 1) = ((a + 1 : Nat) : Int) := wrap_i64 (by omega) (by omega)
  obtain ⟨e1, rfl⟩ : ∃ e1, e = e1 + 1 := ⟨e - 1, by omega⟩
  have hw2 : IntKind.i64.wrap (((e1 + 1 : Nat) : Int) - 1) = (e1 : Int) := wrap_i64 (by omega) (by omega) |>.trans (by omega)
  obtain ⟨R, hR⟩ : ∃ R, R = Go.Sort.partition lt d a (e1 + 1) p := ⟨_, rfl⟩
  rw [← hR]
  have hR' := hR
  unfold Go.Sort.partition at hR'
  have hDs := swp_size d a p
  refine ze ?_; refine zb (id := 0) ?_; refine Zs2 ?_; refine Zs2 ?_; refine zd ?_; refine zf ?_; refine ze ?_; refine zz (id := 1) [(200019, [900]), (200023, [900]), (100024, [900]), (100025, [900])] mixed (by kernel_rfl) ?_; refine Zs7 ?_; refine Zs7 ?_; refine Zs7 ?_; refine Zs7 ?_; refine Zs7 ?_; refine Zs7 ?_; refine z8 (zp L _ rfl rfl rfl rfl rfl rfl rfl (by omega)) rfl ?_; refine q8 (zx L (q := 900) rfl rfl rfl rfl rfl qj) rfl rfl ?_; refine Zs7 ?_; refine Zs7 ?_; refine z8 (zp L _ rfl rfl rfl rfl rfl rfl rfl (by omega)) rfl ?_; refine q8 (zx L (q := 900) rfl rfl rfl rfl rfl qi) rfl rfl ?_; refine z8 (zp L _ rfl rfl rfl rfl rfl rfl rfl (by omega)) rfl ?_; refine y9 (y2 L (q := 900) rfl rfl rfl rfl rfl rfl b1 rfl s1) rfl ?_; refine z8 (zp L _ rfl rfl rfl rfl rfl rfl rfl (by omega)) rfl ?_; refine y9 (y2 L (q := 900) rfl rfl rfl rfl rfl rfl b2 rfl s2) rfl ?_; refine qk ?_; refine zf ?_; refine ze ?_; refine zb (id := 2) ?_; refine Zs1 ?_; refine Zs18 ?_; refine Zs1 ?_; refine Zs20 ?_; refine Zs2 ?_; refine Zs2 ?_; refine zd ?_; refine zf ?_; refine ze ?_; refine zy ?_
  generalize swp d a p = D at *
  rw [Nat.add_sub_cancel] at hR'
  dsimp only at hR'
  refine V_midB (mid_last (fun i : Nat => [(0, .is (.slice (some ⟨b, 0, none⟩) m cap)), (1, .is (.int .i64 a)), (10, .is (.int .i64 i)), (11, .is (.int .i64 e1)), (900, .own (HeldR b (uC D ++ rest) tyU))]) (fun i => (a + 1) ≤ i ∧ i ≤ max (a + 1) (e1 + 1) ∧ i = scanUp (fun x => lt x D[a]!) D e1 (a + 1)) (fun _ => []) ?_) ?_
  rotate_left
  · refine V_loop (fun i : Nat => [(0, .is (.slice (some ⟨b, 0, none⟩) m cap)), (1, .is (.int .i64 a)), (10, .is (.int .i64 i)), (11, .is (.int .i64 e1)), (900, .own (HeldR b (uC D ++ rest) tyU))]) (fun i => (a + 1) ≤ i ∧ i ≤ max (a + 1) (e1 + 1) ∧ scanUp (fun x => lt x D[a]!) D e1 i = scanUp (fun x => lt x D[a]!) D e1 (a + 1)) (fun i => e1 + 1 - i) (a + 1) ⟨Nat.le_refl _, by omega, rfl⟩ ⟨rfl, rfl, rfl, rfl, rfl, trivial⟩ ?_
    rintro i ⟨hi1, hi2, hi3⟩
    by_cases hle : i ≤ e1
    · obtain ⟨_, qx⟩ := u_at (rest := rest) (show i < D.size by omega) (0 + (i) * 1) rfl
      obtain ⟨_, qa⟩ := u_at (rest := rest) (show a < D.size by omega) (0 + (a) * 1) rfl
      cases hc : lt D[i]! D[a]! with
      | true =>
        have hw : IntKind.i64.wrap ((i : Int) + 1) = ((i + 1 : Nat) : Int) := wrap_i64 (by omega) (by omega)
        refine ze ?_; refine ze ?_; refine zz (id := 3) [(200037, [900]), (200041, [900])] mixed (by kernel_rfl) ?_; refine Zs7 ?_; refine Zs7 ?_; refine Zs52 ?_; refine Zs7 ?_; refine Zs7 ?_; refine Zs7 ?_; refine z8 (zp L _ rfl rfl rfl rfl rfl rfl rfl (by omega)) rfl ?_; refine q8 (zx L (q := 900) rfl rfl rfl rfl rfl qx) rfl rfl ?_; refine Zs7 ?_; refine Zs7 ?_; refine z8 (zp L _ rfl rfl rfl rfl rfl rfl rfl (by omega)) rfl ?_; refine q8 (zx L (q := 900) rfl rfl rfl rfl rfl qa) rfl rfl ?_; refine z8 (zo L rfl rfl (zg rfl) rfl rfl rfl (fun u H hH _ _ => lessU' hc hH)) rfl ?_; refine Zs28 ?_; refine qk ?_; refine zf ?_; refine zw rfl ?_; refine zt ?_; refine zf ?_; refine zy ?_; refine zb (id := 4) ?_; refine Zs1 ?_; refine Zs18 ?_; refine Zs2 ?_; refine zd ?_; refine qm ?_
        exact y1 (x := i) (i + 1) ⟨by omega, by omega, by rw [← hi3]; exact (scanUp_go hle (by simp [hc])).symm⟩ (by omega) ⟨rfl, rfl, rfl, rfl, rfl, trivial⟩
      | false =>
        refine ze ?_; refine ze ?_; refine zz (id := 3) [(200037, [900]), (200041, [900])] mixed (by kernel_rfl) ?_; refine Zs7 ?_; refine Zs7 ?_; refine Zs52 ?_; refine Zs7 ?_; refine Zs7 ?_; refine Zs7 ?_; refine z8 (zp L _ rfl rfl rfl rfl rfl rfl rfl (by omega)) rfl ?_; refine q8 (zx L (q := 900) rfl rfl rfl rfl rfl qx) rfl rfl ?_; refine Zs7 ?_; refine Zs7 ?_; refine z8 (zp L _ rfl rfl rfl rfl rfl rfl rfl (by omega)) rfl ?_; refine q8 (zx L (q := 900) rfl rfl rfl rfl rfl qa) rfl rfl ?_; refine z8 (zo L rfl rfl (zg rfl) rfl rfl rfl (fun u H hH _ _ => lessU' hc hH)) rfl ?_; refine Zs28 ?_; refine qk ?_; refine zf ?_; refine zm rfl ?_; refine y7 ?_; refine qg ?_; refine qg ?_; refine y6 ?_
        exact N_mids i Since.refl ⟨hi1, hi2, by rw [← hi3]; exact (scanUp_stop (by rintro ⟨_, h⟩; simp [hc] at h)).symm⟩ rfl ⟨rfl, rfl, rfl, rfl, rfl, trivial⟩
    · refine ze ?_; refine ze ?_; refine zz (id := 3) [] mixed (by kernel_rfl) ?_; refine Zs7 ?_; refine Zs7 ?_; refine Zs63 ?_; refine Zs7 ?_; refine Zs12 ?_; refine Zs12 ?_; refine Zs12 ?_; refine Zs12 ?_; refine Zs12 ?_; refine Zs12 ?_; refine Zs12 ?_; refine Zs12 ?_; refine Zs12 ?_; refine Zs28 ?_; refine qk ?_; refine zf ?_; refine zm rfl ?_; refine y7 ?_; refine qg ?_; refine qg ?_; refine y6 ?_
      exact N_mids i Since.refl ⟨hi1, hi2, by rw [← hi3]; exact (scanUp_stop (by rintro ⟨h, _⟩; exact hle h)).symm⟩ rfl ⟨rfl, rfl, rfl, rfl, rfl, trivial⟩
  rintro I ⟨hI1, hI2, hI3⟩
  refine ze (zy ?_)
  refine V_midB (mid_last (fun i : Nat => [(0, .is (.slice (some ⟨b, 0, none⟩) m cap)), (1, .is (.int .i64 a)), (10, .is (.int .i64 I)), (11, .is (.int .i64 i)), (900, .own (HeldR b (uC D ++ rest) tyU))]) (fun i => i ≤ e1 ∧ min (I - 1) e1 ≤ i ∧ i = scanDown (fun x => !lt x D[a]!) D I e1) (fun _ => []) ?_) ?_
  rotate_left
  · refine V_loop (fun i : Nat => [(0, .is (.slice (some ⟨b, 0, none⟩) m cap)), (1, .is (.int .i64 a)), (10, .is (.int .i64 I)), (11, .is (.int .i64 i)), (900, .own (HeldR b (uC D ++ rest) tyU))]) (fun i => i ≤ e1 ∧ min (I - 1) e1 ≤ i ∧ scanDown (fun x => !lt x D[a]!) D I i = scanDown (fun x => !lt x D[a]!) D I e1) (fun i => i) e1 ⟨Nat.le_refl _, by omega, rfl⟩ ⟨rfl, rfl, rfl, rfl, rfl, trivial⟩ ?_
    rintro i ⟨hi1, hi2, hi3⟩
    by_cases hle : I ≤ i
    · obtain ⟨_, qx⟩ := u_at (rest := rest) (show i < D.size by omega) (0 + (i) * 1) rfl
      obtain ⟨_, qa⟩ := u_at (rest := rest) (show a < D.size by omega) (0 + (a) * 1) rfl
      cases hc : lt D[i]! D[a]! with
      | false =>
        obtain ⟨i, rfl⟩ : ∃ k, i = k + 1 := ⟨i - 1, by omega⟩
        have hw : IntKind.i64.wrap (((i + 1 : Nat) : Int) - 1) = (i : Int) := wrap_i64 (by omega) (by omega) |>.trans (by omega)
        refine ze ?_; refine ze ?_; refine zz (id := 5) [(200053, [900]), (200057, [900])] mixed (by kernel_rfl) ?_; refine Zs7 ?_; refine Zs7 ?_; refine Zs52 ?_; refine Zs7 ?_; refine Zs7 ?_; refine Zs7 ?_; refine z8 (zp L _ rfl rfl rfl rfl rfl rfl rfl (by omega)) rfl ?_; refine q8 (zx L (q := 900) rfl rfl rfl rfl rfl qx) rfl rfl ?_; refine Zs7 ?_; refine Zs7 ?_; refine z8 (zp L _ rfl rfl rfl rfl rfl rfl rfl (by omega)) rfl ?_; refine q8 (zx L (q := 900) rfl rfl rfl rfl rfl qa) rfl rfl ?_; refine z8 (zo L rfl rfl (zg rfl) rfl rfl rfl (fun u H hH _ _ => lessU' hc hH)) rfl ?_; refine Zs47 ?_; refine Zs28 ?_; refine qk ?_; refine zf ?_; refine zw rfl ?_; refine zt ?_; refine zf ?_; refine zy ?_; refine zb (id := 6) ?_; refine Zs1 ?_; refine Zs20 ?_; refine Zs2 ?_; refine zd ?_; refine qm ?_
        exact y1 (x := i + 1) i ⟨by omega, by omega, by rw [← hi3]; exact (scanDown_go hle (by simp [hc])).symm⟩ (by omega) ⟨rfl, rfl, rfl, rfl, rfl, trivial⟩
      | true =>
        refine ze ?_; refine ze ?_; refine zz (id := 5) [(200053, [900]), (200057, [900])] mixed (by kernel_rfl) ?_; refine Zs7 ?_; refine Zs7 ?_; refine Zs52 ?_; refine Zs7 ?_; refine Zs7 ?_; refine Zs7 ?_; refine z8 (zp L _ rfl rfl rfl rfl rfl rfl rfl (by omega)) rfl ?_; refine q8 (zx L (q := 900) rfl rfl rfl rfl rfl qx) rfl rfl ?_; refine Zs7 ?_; refine Zs7 ?_; refine z8 (zp L _ rfl rfl rfl rfl rfl rfl rfl (by omega)) rfl ?_; refine q8 (zx L (q := 900) rfl rfl rfl rfl rfl qa) rfl rfl ?_; refine z8 (zo L rfl rfl (zg rfl) rfl rfl rfl (fun u H hH _ _ => lessU' hc hH)) rfl ?_; refine Zs47 ?_; refine Zs28 ?_; refine qk ?_; refine zf ?_; refine zm rfl ?_; refine y7 ?_; refine qg ?_; refine qg ?_; refine y6 ?_
        exact N_mids i Since.refl ⟨hi1, hi2, by rw [← hi3]; exact (scanDown_stop (by rintro ⟨_, h⟩; simp [hc] at h)).symm⟩ rfl ⟨rfl, rfl, rfl, rfl, rfl, trivial⟩
    · refine ze ?_; refine ze ?_; refine zz (id := 5) [] mixed (by kernel_rfl) ?_; refine Zs7 ?_; refine Zs7 ?_; refine Zs63 ?_; refine Zs7 ?_; refine Zs12 ?_; refine Zs12 ?_; refine Zs12 ?_; refine Zs12 ?_; refine Zs12 ?_; refine Zs12 ?_; refine Zs12 ?_; refine Zs12 ?_; refine Zs12 ?_; refine Zs12 ?_; refine Zs28 ?_; refine qk ?_; refine zf ?_; refine zm rfl ?_; refine y7 ?_; refine qg ?_; refine qg ?_; refine y6 ?_
      exact N_mids i Since.refl ⟨hi1, hi2, by rw [← hi3]; exact (scanDown_stop (by rintro ⟨h, _⟩; exact hle h)).symm⟩ rfl ⟨rfl, rfl, rfl, rfl, rfl, trivial⟩
  rintro J ⟨hJ1, hJ2, hJ3⟩
  rw [← hI3, ← hJ3] at hR'
  by_cases hIJ : J < I
  · rw [if_pos hIJ] at hR'
    subst hR'
    obtain ⟨_, qj⟩ := u_at (rest := rest) (show a < D.size by omega) (0 + (a) * 1) rfl
    obtain ⟨_, qi⟩ := u_at (rest := rest) (show J < D.size by omega) (0 + (J) * 1) rfl
    have s1 := u_set (rest := rest) D[a]! (show J < D.size by omega) (0 + (J) * 1) rfl
    have b1 := u_ble (rest := rest) (show J < D.size by omega) (0 + (J) * 1) rfl
    have hz : a < (D.setIfInBounds (J) D[a]!).size := by rw [Array.size_setIfInBounds]; omega
    have s2 := u_set (rest := rest) D[J]! hz (0 + (a) * 1) rfl
    have b2 := u_ble (rest := rest) hz (0 + (a) * 1) rfl
    rw [swp_eq] at s2
    refine ze ?_; refine ze ?_; refine zb (id := 7) ?_; refine Zs1 ?_; refine Zs1 ?_; refine Zs23 ?_; refine zd ?_; refine zf ?_; refine zw rfl ?_; refine ze ?_; refine zz (id := 8) [(200073, [900]), (200077, [900]), (100078, [900]), (100079, [900])] mixed (by kernel_rfl) ?_; refine Zs7 ?_; refine Zs7 ?_; refine Zs7 ?_; refine Zs7 ?_; refine Zs7 ?_; refine Zs7 ?_; refine z8 (zp L _ rfl rfl rfl rfl rfl rfl rfl (by omega)) rfl ?_; refine q8 (zx L (q := 900) rfl rfl rfl rfl rfl qj) rfl rfl ?_; refine Zs7 ?_; refine Zs7 ?_; refine z8 (zp L _ rfl rfl rfl rfl rfl rfl rfl (by omega)) rfl ?_; refine q8 (zx L (q := 900) rfl rfl rfl rfl rfl qi) rfl rfl ?_; refine z8 (zp L _ rfl rfl rfl rfl rfl rfl rfl (by omega)) rfl ?_; refine y9 (y2 L (q := 900) rfl rfl rfl rfl rfl rfl b1 rfl s1) rfl ?_; refine z8 (zp L _ rfl rfl rfl rfl rfl rfl rfl (by omega)) rfl ?_; refine y9 (y2 L (q := 900) rfl rfl rfl rfl rfl rfl b2 rfl s2) rfl ?_; refine qk ?_; refine zf ?_; refine ze ?_; refine zb (id := 9) ?_; refine Zs1 ?_; refine Zs2 ?_; refine Zs2 ?_; refine zd ?_; refine zf ?_
    exact V_retX L 900 (r := GHeld b _ tyU) (rs := [.tmp 8, .tmp 9]) rfl (fun _ _ h => h) Since.refl rfl rfl (fun _ => rfl)
  · rw [if_neg hIJ] at hR'
    have hw3 : IntKind.i64.wrap ((I : Int) + 1) = ((I + 1 : Nat) : Int) := wrap_i64 (by omega) (by omega)
    have hw4 : IntKind.i64.wrap ((J : Int) - 1) = ((J - 1 : Nat) : Int) := wrap_i64 (by omega) (by omega) |>.trans (by omega)
    obtain ⟨_, qj⟩ := u_at (rest := rest) (show J < D.size by omega) (0 + (J) * 1) rfl
    obtain ⟨_, qi⟩ := u_at (rest := rest) (show I < D.size by omega) (0 + (I) * 1) rfl
    have s1 := u_set (rest := rest) D[J]! (show I < D.size by omega) (0 + (I) * 1) rfl
    have b1 := u_ble (rest := rest) (show I < D.size by omega) (0 + (I) * 1) rfl
    have hz : J < (D.setIfInBounds (I) D[J]!).size := by rw [Array.size_setIfInBounds]; omega
    have s2 := u_set (rest := rest) D[I]! hz (0 + (J) * 1) rfl
    have b2 := u_ble (rest := rest) hz (0 + (J) * 1) rfl
    rw [swp_eq] at s2
    have hEs := swp_size D I J
    refine ze ?_; refine ze ?_; refine zb (id := 7) ?_; refine Zs1 ?_; refine Zs1 ?_; refine Zs16 ?_; refine zd ?_; refine zf ?_; refine zm rfl ?_; refine zt ?_; refine zf ?_; refine ze ?_; refine zz (id := 10) [(200088, [900]), (200092, [900]), (100093, [900]), (100094, [900])] mixed (by kernel_rfl) ?_; refine Zs7 ?_; refine Zs7 ?_; refine Zs7 ?_; refine Zs7 ?_; refine Zs7 ?_; refine Zs7 ?_; refine z8 (zp L _ rfl rfl rfl rfl rfl rfl rfl (by omega)) rfl ?_; refine q8 (zx L (q := 900) rfl rfl rfl rfl rfl qj) rfl rfl ?_; refine Zs7 ?_; refine Zs7 ?_; refine z8 (zp L _ rfl rfl rfl rfl rfl rfl rfl (by omega)) rfl ?_; refine q8 (zx L (q := 900) rfl rfl rfl rfl rfl qi) rfl rfl ?_; refine z8 (zp L _ rfl rfl rfl rfl rfl rfl rfl (by omega)) rfl ?_; refine y9 (y2 L (q := 900) rfl rfl rfl rfl rfl rfl b1 rfl s1) rfl ?_; refine z8 (zp L _ rfl rfl rfl rfl rfl rfl rfl (by omega)) rfl ?_; refine y9 (y2 L (q := 900) rfl rfl rfl rfl rfl rfl b2 rfl s2) rfl ?_; refine qk ?_; refine zf ?_; refine ze ?_; refine zb (id := 11) ?_; refine Zs1 ?_; refine Zs18 ?_; refine Zs2 ?_; refine zd ?_; refine zf ?_; refine ze ?_; refine zb (id := 12) ?_; refine Zs1 ?_; refine Zs20 ?_; refine Zs2 ?_; refine zd ?_; refine zf ?_; refine ze ?_; refine zy ?_
    generalize swp D I J = E at *
    obtain ⟨X, hX⟩ : ∃ X, X = partLoop lt a (I + 1) (J - 1) E := ⟨_, rfl⟩
    rw [← hX] at hR'
    refine V_midB (mid_last (fun s : Nat × Array Int => [(0, .is (.slice (some ⟨b, 0, none⟩) m cap)), (1, .is (.int .i64 a)), (11, .is (.int .i64 s.1)), (900, .own (HeldR b (uC s.2 ++ rest) tyU))]) (fun s => s.2.size = m ∧ a ≤ s.1 ∧ s.1 ≤ e1 ∧ s = X) (fun _ => []) ?_) ?_
    rotate_left
    · refine V_loop (fun s : (Nat × Nat) × Array Int => [(0, .is (.slice (some ⟨b, 0, none⟩) m cap)), (1, .is (.int .i64 a)), (10, .is (.int .i64 s.1.1)), (11, .is (.int .i64 s.1.2)), (900, .own (HeldR b (uC s.2 ++ rest) tyU))]) (fun s => s.2.size = m ∧ a + 1 ≤ s.1.1 ∧ s.1.1 ≤ e1 + 1 ∧ a ≤ s.1.2 ∧ s.1.2 ≤ e1 ∧ partLoop lt a s.1.1 s.1.2 s.2 = X) (fun s => s.1.2 + 1 - s.1.1) ((I + 1, J - 1), E) ⟨by dsimp only; omega, by dsimp only; omega, by dsimp only; omega, by dsimp only; omega, by dsimp only; omega, hX.symm⟩ ⟨rfl, rfl, rfl, rfl, rfl, trivial⟩ ?_
      rintro ⟨⟨i0, j0⟩, G⟩ ⟨hG, hi1, hi2, hj1, hj2, hL⟩
      dsimp only at hG hi1 hi2 hj1 hj2 hL ⊢
      rw [partLoop] at hL
      clear hX hR' hEs hIJ hI3 hJ3
      refine zy (ze (zy ?_))
      refine V_midB (mid_last (fun i : Nat => [(0, .is (.slice (some ⟨b, 0, none⟩) m cap)), (1, .is (.int .i64 a)), (10, .is (.int .i64 i)), (11, .is (.int .i64 j0)), (900, .own (HeldR b (uC G ++ rest) tyU))]) (fun i => i0 ≤ i ∧ i ≤ max i0 (j0 + 1) ∧ i = scanUp (fun x => lt x G[a]!) G j0 i0) (fun _ => []) ?_) ?_
      rotate_left
      · refine V_loop (fun i : Nat => [(0, .is (.slice (some ⟨b, 0, none⟩) m cap)), (1, .is (.int .i64 a)), (10, .is (.int .i64 i)), (11, .is (.int .i64 j0)), (900, .own (HeldR b (uC G ++ rest) tyU))]) (fun i => i0 ≤ i ∧ i ≤ max i0 (j0 + 1) ∧ scanUp (fun x => lt x G[a]!) G j0 i = scanUp (fun x => lt x G[a]!) G j0 i0) (fun i => j0 + 1 - i) i0 ⟨Nat.le_refl _, by omega, rfl⟩ ⟨rfl, rfl, rfl, rfl, rfl, trivial⟩ ?_
        rintro i ⟨hi1, hi2, hi3⟩
        by_cases hle : i ≤ j0
        · obtain ⟨_, qx⟩ := u_at (rest := rest) (show i < G.size by omega) (0 + (i) * 1) rfl
          obtain ⟨_, qa⟩ := u_at (rest := rest) (show a < G.size by omega) (0 + (a) * 1) rfl
          cases hc : lt G[i]! G[a]! with
          | true =>
            have hw : IntKind.i64.wrap ((i : Int) + 1) = ((i + 1 : Nat) : Int) := wrap_i64 (by omega) (by omega)
            refine ze ?_; refine ze ?_; refine zz (id := 13) [(200106, [900]), (200110, [900])] mixed (by kernel_rfl) ?_; refine Zs7 ?_; refine Zs7 ?_; refine Zs52 ?_; refine Zs7 ?_; refine Zs7 ?_; refine Zs7 ?_; refine z8 (zp L _ rfl rfl rfl rfl rfl rfl rfl (by omega)) rfl ?_; refine q8 (zx L (q := 900) rfl rfl rfl rfl rfl qx) rfl rfl ?_; refine Zs7 ?_; refine Zs7 ?_; refine z8 (zp L _ rfl rfl rfl rfl rfl rfl rfl (by omega)) rfl ?_; refine q8 (zx L (q := 900) rfl rfl rfl rfl rfl qa) rfl rfl ?_; refine z8 (zo L rfl rfl (zg rfl) rfl rfl rfl (fun u H hH _ _ => lessU' hc hH)) rfl ?_; refine Zs28 ?_; refine qk ?_; refine zf ?_; refine zw rfl ?_; refine zt ?_; refine zf ?_; refine zy ?_; refine zb (id := 14) ?_; refine Zs1 ?_; refine Zs18 ?_; refine Zs2 ?_; refine zd ?_; refine qm ?_
            exact y1 (x := i) (i + 1) ⟨by omega, by omega, by rw [← hi3]; exact (scanUp_go hle (by simp [hc])).symm⟩ (by omega) ⟨rfl, rfl, rfl, rfl, rfl, trivial⟩
          | false =>
            refine ze ?_; refine ze ?_; refine zz (id := 13) [(200106, [900]), (200110, [900])] mixed (by kernel_rfl) ?_; refine Zs7 ?_; refine Zs7 ?_; refine Zs52 ?_; refine Zs7 ?_; refine Zs7 ?_; refine Zs7 ?_; refine z8 (zp L _ rfl rfl rfl rfl rfl rfl rfl (by omega)) rfl ?_; refine q8 (zx L (q := 900) rfl rfl rfl rfl rfl qx) rfl rfl ?_; refine Zs7 ?_; refine Zs7 ?_; refine z8 (zp L _ rfl rfl rfl rfl rfl rfl rfl (by omega)) rfl ?_; refine q8 (zx L (q := 900) rfl rfl rfl rfl rfl qa) rfl rfl ?_; refine z8 (zo L rfl rfl (zg rfl) rfl rfl rfl (fun u H hH _ _ => lessU' hc hH)) rfl ?_; refine Zs28 ?_; refine qk ?_; refine zf ?_; refine zm rfl ?_; refine y7 ?_; refine qg ?_; refine qg ?_; refine y6 ?_
            exact N_mids i Since.refl ⟨hi1, hi2, by rw [← hi3]; exact (scanUp_stop (by rintro ⟨_, h⟩; simp [hc] at h)).symm⟩ rfl ⟨rfl, rfl, rfl, rfl, rfl, trivial⟩
        · refine ze ?_; refine ze ?_; refine zz (id := 13) [] mixed (by kernel_rfl) ?_; refine Zs7 ?_; refine Zs7 ?_; refine Zs63 ?_; refine Zs7 ?_; refine Zs12 ?_; refine Zs12 ?_; refine Zs12 ?_; refine Zs12 ?_; refine Zs12 ?_; refine Zs12 ?_; refine Zs12 ?_; refine Zs12 ?_; refine Zs12 ?_; refine Zs28 ?_; refine qk ?_; refine zf ?_; refine zm rfl ?_; refine y7 ?_; refine qg ?_; refine qg ?_; refine y6 ?_
          exact N_mids i Since.refl ⟨hi1, hi2, by rw [← hi3]; exact (scanUp_stop (by rintro ⟨h, _⟩; exact hle h)).symm⟩ rfl ⟨rfl, rfl, rfl, rfl, rfl, trivial⟩
      rintro K ⟨hK1, hK2, hK3⟩
      refine ze (zy ?_)
      refine V_midB (mid_last (fun i : Nat => [(0, .is (.slice (some ⟨b, 0, none⟩) m cap)), (1, .is (.int .i64 a)), (10, .is (.int .i64 K)), (11, .is (.int .i64 i)), (900, .own (HeldR b (uC G ++ rest) tyU))]) (fun i => i ≤ j0 ∧ min (K - 1) j0 ≤ i ∧ i = scanDown (fun x => !lt x G[a]!) G K j0) (fun _ => []) ?_) ?_
      rotate_left
      · refine V_loop (fun i : Nat => [(0, .is (.slice (some ⟨b, 0, none⟩) m cap)), (1, .is (.int .i64 a)), (10, .is (.int .i64 K)), (11, .is (.int .i64 i)), (900, .own (HeldR b (uC G ++ rest) tyU))]) (fun i => i ≤ j0 ∧ min (K - 1) j0 ≤ i ∧ scanDown (fun x => !lt x G[a]!) G K i = scanDown (fun x => !lt x G[a]!) G K j0) (fun i => i) j0 ⟨Nat.le_refl _, by omega, rfl⟩ ⟨rfl, rfl, rfl, rfl, rfl, trivial⟩ ?_
        rintro i ⟨hi1, hi2, hi3⟩
        by_cases hle : K ≤ i
        · obtain ⟨_, qx⟩ := u_at (rest := rest) (show i < G.size by omega) (0 + (i) * 1) rfl
          obtain ⟨_, qa⟩ := u_at (rest := rest) (show a < G.size by omega) (0 + (a) * 1) rfl
          cases hc : lt G[i]! G[a]! with
          | false =>
            obtain ⟨i, rfl⟩ : ∃ k, i = k + 1 := ⟨i - 1, by omega⟩
            have hw : IntKind.i64.wrap (((i + 1 : Nat) : Int) - 1) = (i : Int) := wrap_i64 (by omega) (by omega) |>.trans (by omega)
            refine ze ?_; refine ze ?_; refine zz (id := 15) [(200122, [900]), (200126, [900])] mixed (by kernel_rfl) ?_; refine Zs7 ?_; refine Zs7 ?_; refine Zs52 ?_; refine Zs7 ?_; refine Zs7 ?_; refine Zs7 ?_; refine z8 (zp L _ rfl rfl rfl rfl rfl rfl rfl (by omega)) rfl ?_; refine q8 (zx L (q := 900) rfl rfl rfl rfl rfl qx) rfl rfl ?_; refine Zs7 ?_; refine Zs7 ?_; refine z8 (zp L _ rfl rfl rfl rfl rfl rfl rfl (by omega)) rfl ?_; refine q8 (zx L (q := 900) rfl rfl rfl rfl rfl qa) rfl rfl ?_; refine z8 (zo L rfl rfl (zg rfl) rfl rfl rfl (fun u H hH _ _ => lessU' hc hH)) rfl ?_; refine Zs47 ?_; refine Zs28 ?_; refine qk ?_; refine zf ?_; refine zw rfl ?_; refine zt ?_; refine zf ?_; refine zy ?_; refine zb (id := 16) ?_; refine Zs1 ?_; refine Zs20 ?_; refine Zs2 ?_; refine zd ?_; refine qm ?_
            exact y1 (x := i + 1) i ⟨by omega, by omega, by rw [← hi3]; exact (scanDown_go hle (by simp [hc])).symm⟩ (by omega) ⟨rfl, rfl, rfl, rfl, rfl, trivial⟩
          | true =>
            refine ze ?_; refine ze ?_; refine zz (id := 15) [(200122, [900]), (200126, [900])] mixed (by kernel_rfl) ?_; refine Zs7 ?_; refine Zs7 ?_; refine Zs52 ?_; refine Zs7 ?_; refine Zs7 ?_; refine Zs7 ?_; refine z8 (zp L _ rfl rfl rfl rfl rfl rfl rfl (by omega)) rfl ?_; refine q8 (zx L (q := 900) rfl rfl rfl rfl rfl qx) rfl rfl ?_; refine Zs7 ?_; refine Zs7 ?_; refine z8 (zp L _ rfl rfl rfl rfl rfl rfl rfl (by omega)) rfl ?_; refine q8 (zx L (q := 900) rfl rfl rfl rfl rfl qa) rfl rfl ?_; refine z8 (zo L rfl rfl (zg rfl) rfl rfl rfl (fun u H hH _ _ => lessU' hc hH)) rfl ?_; refine Zs47 ?_; refine Zs28 ?_; refine qk ?_; refine zf ?_; refine zm rfl ?_; refine y7 ?_; refine qg ?_; refine qg ?_; refine y6 ?_
            exact N_mids i Since.refl ⟨hi1, hi2, by rw [← hi3]; exact (scanDown_stop (by rintro ⟨_, h⟩; simp [hc] at h)).symm⟩ rfl ⟨rfl, rfl, rfl, rfl, rfl, trivial⟩
        · refine ze ?_; refine ze ?_; refine zz (id := 15) [] mixed (by kernel_rfl) ?_; refine Zs7 ?_; refine Zs7 ?_; refine Zs63 ?_; refine Zs7 ?_; refine Zs12 ?_; refine Zs12 ?_; refine Zs12 ?_; refine Zs12 ?_; refine Zs12 ?_; refine Zs12 ?_; refine Zs12 ?_; refine Zs12 ?_; refine Zs12 ?_; refine Zs12 ?_; refine Zs28 ?_; refine qk ?_; refine zf ?_; refine zm rfl ?_; refine y7 ?_; refine qg ?_; refine qg ?_; refine y6 ?_
          exact N_mids i Since.refl ⟨hi1, hi2, by rw [← hi3]; exact (scanDown_stop (by rintro ⟨h, _⟩; exact hle h)).symm⟩ rfl ⟨rfl, rfl, rfl, rfl, rfl, trivial⟩
      rintro M ⟨hM1, hM2, hM3⟩
      rw [← hK3, ← hM3] at hL
      by_cases hKM : M < K
      · rw [if_pos hKM] at hL
        refine ze ?_; refine ze ?_; refine zb (id := 17) ?_; refine Zs1 ?_; refine Zs1 ?_; refine Zs23 ?_; refine zd ?_; refine zf ?_; refine zw rfl ?_; refine y7 ?_; refine qg ?_; refine X_there rfl ?_; refine qg ?_; refine y6 ?_
        exact N_mids (M, G) Since.refl ⟨hG, by dsimp only; omega, by dsimp only; omega, hL⟩ rfl ⟨rfl, rfl, rfl, rfl, trivial⟩
      · rw [if_neg hKM, dif_pos (by omega)] at hL
        have hw5 : IntKind.i64.wrap ((K : Int) + 1) = ((K + 1 : Nat) : Int) := wrap_i64 (by omega) (by omega)
        have hw6 : IntKind.i64.wrap ((M : Int) - 1) = ((M - 1 : Nat) : Int) := wrap_i64 (by omega) (by omega) |>.trans (by omega)
        have hGs := swp_size G K M
        obtain ⟨_, qj⟩ := u_at (rest := rest) (show M < G.size by omega) (0 + (M) * 1) rfl
        obtain ⟨_, qi⟩ := u_at (rest := rest) (show K < G.size by omega) (0 + (K) * 1) rfl
        have s1 := u_set (rest := rest) G[M]! (show K < G.size by omega) (0 + (K) * 1) rfl
        have b1 := u_ble (rest := rest) (show K < G.size by omega) (0 + (K) * 1) rfl
        have hz : M < (G.setIfInBounds (K) G[M]!).size := by rw [Array.size_setIfInBounds]; omega
        have s2 := u_set (rest := rest) G[K]! hz (0 + (M) * 1) rfl
        have b2 := u_ble (rest := rest) hz (0 + (M) * 1) rfl
        rw [swp_eq] at s2
        refine ze ?_; refine ze ?_; refine zb (id := 17) ?_; refine Zs1 ?_; refine Zs1 ?_; refine Zs16 ?_; refine zd ?_; refine zf ?_; refine zm rfl ?_; refine zt ?_; refine zf ?_; refine ze ?_; refine zz (id := 18) [(200142, [900]), (200146, [900]), (100147, [900]), (100148, [900])] mixed (by kernel_rfl) ?_; refine Zs7 ?_; refine Zs7 ?_; refine Zs7 ?_; refine Zs7 ?_; refine Zs7 ?_; refine Zs7 ?_; refine z8 (zp L _ rfl rfl rfl rfl rfl rfl rfl (by omega)) rfl ?_; refine q8 (zx L (q := 900) rfl rfl rfl rfl rfl qj) rfl rfl ?_; refine Zs7 ?_; refine Zs7 ?_; refine z8 (zp L _ rfl rfl rfl rfl rfl rfl rfl (by omega)) rfl ?_; refine q8 (zx L (q := 900) rfl rfl rfl rfl rfl qi) rfl rfl ?_; refine z8 (zp L _ rfl rfl rfl rfl rfl rfl rfl (by omega)) rfl ?_; refine y9 (y2 L (q := 900) rfl rfl rfl rfl rfl rfl b1 rfl s1) rfl ?_; refine z8 (zp L _ rfl rfl rfl rfl rfl rfl rfl (by omega)) rfl ?_; refine y9 (y2 L (q := 900) rfl rfl rfl rfl rfl rfl b2 rfl s2) rfl ?_; refine qk ?_; refine zf ?_; refine ze ?_; refine zb (id := 19) ?_; refine Zs1 ?_; refine Zs18 ?_; refine Zs2 ?_; refine zd ?_; refine zf ?_; refine zb (id := 20) ?_; refine Zs1 ?_; refine Zs20 ?_; refine Zs2 ?_; refine zd ?_; refine qm ?_
        exact y1 (x := ((i0, j0), G)) ((K + 1, M - 1), swp G K M) ⟨by dsimp only; omega, by dsimp only; omega, by dsimp only; omega, by dsimp only; omega, by dsimp only; omega, hL⟩ (by dsimp only; omega) ⟨rfl, rfl, rfl, rfl, rfl, trivial⟩
    · rintro ⟨J2, G⟩ ⟨hG, hj1, hj2, hL⟩
      dsimp only at hG hj1 hj2 ⊢
      rw [← hL] at hR'
      dsimp only at hR'
      subst hR'
      obtain ⟨_, qj⟩ := u_at (rest := rest) (show a < G.size by omega) (0 + (a) * 1) rfl
      obtain ⟨_, qi⟩ := u_at (rest := rest) (show J2 < G.size by omega) (0 + (J2) * 1) rfl
      have s1 := u_set (rest := rest) G[a]! (show J2 < G.size by omega) (0 + (J2) * 1) rfl
      have b1 := u_ble (rest := rest) (show J2 < G.size by omega) (0 + (J2) * 1) rfl
      have hz : a < (G.setIfInBounds (J2) G[a]!).size := by rw [Array.size_setIfInBounds]; omega
      have s2 := u_set (rest := rest) G[J2]! hz (0 + (a) * 1) rfl
      have b2 := u_ble (rest := rest) hz (0 + (a) * 1) rfl
      rw [swp_eq] at s2
      refine ze ?_; refine zz (id := 21) [(200160, [900]), (200164, [900]), (100165, [900]), (100166, [900])] mixed (by kernel_rfl) ?_; refine Zs7 ?_; refine Zs7 ?_; refine Zs7 ?_; refine Zs7 ?_; refine Zs7 ?_; refine Zs7 ?_; refine z8 (zp L _ rfl rfl rfl rfl rfl rfl rfl (by omega)) rfl ?_; refine q8 (zx L (q := 900) rfl rfl rfl rfl rfl qj) rfl rfl ?_; refine Zs7 ?_; refine Zs7 ?_; refine z8 (zp L _ rfl rfl rfl rfl rfl rfl rfl (by omega)) rfl ?_; refine q8 (zx L (q := 900) rfl rfl rfl rfl rfl qi) rfl rfl ?_; refine z8 (zp L _ rfl rfl rfl rfl rfl rfl rfl (by omega)) rfl ?_; refine y9 (y2 L (q := 900) rfl rfl rfl rfl rfl rfl b1 rfl s1) rfl ?_; refine z8 (zp L _ rfl rfl rfl rfl rfl rfl rfl (by omega)) rfl ?_; refine y9 (y2 L (q := 900) rfl rfl rfl rfl rfl rfl b2 rfl s2) rfl ?_; refine qk ?_; refine zf ?_; refine ze ?_; refine zb (id := 22) ?_; refine Zs1 ?_; refine Zs2 ?_; refine Zs2 ?_; refine zd ?_; refine zf ?_
      exact V_retX L 900 (r := GHeld b _ tyU) (rs := [.tmp 8, .tmp 9]) rfl (fun _ _ h => h) Since.refl rfl rfl (fun _ => rfl)
end Go.V.So
namespace Go.V.So
open Go.Proofs Go.RowKit Go.V Go.Sort
attribute [local irreducible] V N X VO Par StepOK Has Ret RetL RetO RetG RetX Src
set_option maxHeartbeats 2000000 in
set_option maxRecDepth 20000 in
theorem peq_ret {d : Array Int} {rest : List Value} {b m cap a e p : Nat} (hap : a ≤ p) (hpe : p < e) (he : e ≤ d.size) (hm : d.size = m) (hm1 : m ≤ 100000) {w : World} {B : Heap} {C : Nat → Prop} (hB : B.Le (hp w))
    (hr : (GHeld b (uC d ++ rest) tyU).P B w C) (hC : ∀ k, C k → k < w.heap.size ∧ B k = none) :
    RetX Try.prog 96 [.slice (some ⟨b, 0, none⟩) m cap, .int .i64 a, .int .i64 e, .int .i64 p] w B C (GHeld b (uC (partitionEqual lt d a e p).2 ++ rest) tyU) (.int .i64 (partitionEqual lt d a e p).1) := by
  unfold RetX
  refine V_enterG 900 (GHeld b (uC d ++ rest) tyU) Try.func96 rfl Try.ntmps96 (Nat.le_of_ble_eq_true rfl) hB hr hC ?_
  rw [gheld_res]
  obtain ⟨_, qj⟩ := u_at (rest := rest) (show p < d.size by omega) (0 + (p) * 1) rfl
  obtain ⟨_, qi⟩ := u_at (rest := rest) (show a < d.size by omega) (0 + (a) * 1) rfl
  have s1 := u_set (rest := rest) d[p]! (show a < d.size by omega) (0 + (a) * 1) rfl
  have b1 := u_ble (rest := rest) (show a < d.size by omega) (0 + (a) * 1) rfl
  have hz : p < (d.setIfInBounds (a) d[p]!).size := by rw [Array.size_setIfInBounds]; omega
  have s2 := u_set (rest := rest) d[a]! hz (0 + (p) * 1) rfl
  have b2 := u_ble (rest := rest) hz (0 + (p) * 1) rfl
  rw [swp_eq] at s2
  have hw1 : IntKind.i64.wrap ((a : Int) + 1) = ((a + 1 : Nat) : Int) := wrap_i64 (by omega) (by omega)
  obtain ⟨e1, rfl⟩ : ∃ e1, e = e1 + 1 := ⟨e - 1, by omega⟩
  have hw2 : IntKind.i64.wrap (((e1 + 1 : Nat) : Int) - 1) = (e1 : Int) := wrap_i64 (by omega) (by omega) |>.trans (by omega)
  obtain ⟨X, hX⟩ : ∃ X, X = partitionEqual lt d a (e1 + 1) p := ⟨_, rfl⟩
  rw [← hX]
  have hR' := hX
  unfold partitionEqual at hR'
  rw [Nat.add_sub_cancel] at hR'
  have hDs := swp_size d a p
  refine ze ?_; refine zb (id := 0) ?_; refine Zs2 ?_; refine zd ?_; refine zf ?_; refine ze ?_; refine zz (id := 1) [(200018, [900]), (200022, [900]), (100023, [900]), (100024, [900])] mixed (by kernel_rfl) ?_; refine Zs7 ?_; refine Zs7 ?_; refine Zs7 ?_; refine Zs7 ?_; refine Zs7 ?_; refine Zs7 ?_; refine z8 (zp L _ rfl rfl rfl rfl rfl rfl rfl (by omega)) rfl ?_; refine q8 (zx L (q := 900) rfl rfl rfl rfl rfl qj) rfl rfl ?_; refine Zs7 ?_; refine Zs7 ?_; refine z8 (zp L _ rfl rfl rfl rfl rfl rfl rfl (by omega)) rfl ?_; refine q8 (zx L (q := 900) rfl rfl rfl rfl rfl qi) rfl rfl ?_; refine z8 (zp L _ rfl rfl rfl rfl rfl rfl rfl (by omega)) rfl ?_; refine y9 (y2 L (q := 900) rfl rfl rfl rfl rfl rfl b1 rfl s1) rfl ?_; refine z8 (zp L _ rfl rfl rfl rfl rfl rfl rfl (by omega)) rfl ?_; refine y9 (y2 L (q := 900) rfl rfl rfl rfl rfl rfl b2 rfl s2) rfl ?_; refine qk ?_; refine zf ?_; refine ze ?_; refine zb (id := 2) ?_; refine Zs1 ?_; refine Zs18 ?_; refine Zs1 ?_; refine Zs20 ?_; refine Zs2 ?_; refine Zs2 ?_; refine zd ?_; refine zf ?_; refine ze ?_; refine zy ?_
  generalize swp d a p = D at *
  refine V_midB (mid_last (fun s : Nat × Array Int => [(9, .is (.int .i64 s.1)), (900, .own (HeldR b (uC s.2 ++ rest) tyU))]) (fun s => s.2.size = m ∧ s = X) (fun _ => []) ?_) ?_
  rotate_left
  · refine V_loop (fun s : (Nat × Nat) × Array Int => [(0, .is (.slice (some ⟨b, 0, none⟩) m cap)), (1, .is (.int .i64 a)), (9, .is (.int .i64 s.1.1)), (10, .is (.int .i64 s.1.2)), (900, .own (HeldR b (uC s.2 ++ rest) tyU))]) (fun s => s.2.size = m ∧ a + 1 ≤ s.1.1 ∧ s.1.1 ≤ e1 + 1 ∧ a ≤ s.1.2 ∧ s.1.2 ≤ e1 ∧ partEqLoop lt a s.1.1 s.1.2 s.2 = X) (fun s => s.1.2 + 1 - s.1.1) ((a + 1, e1), D) ⟨by dsimp only; omega, by dsimp only; omega, by dsimp only; omega, by dsimp only; omega, by dsimp only; omega, hR'.symm⟩ ⟨rfl, rfl, rfl, rfl, rfl, trivial⟩ ?_
    rintro ⟨⟨i0, j0⟩, G⟩ ⟨hG, hi1, hi2, hj1, hj2, hL⟩
    dsimp only at hG hi1 hi2 hj1 hj2 hL ⊢
    rw [partEqLoop] at hL
    clear hX hR' hDs
    refine zy (ze (zy ?_))
    refine V_midB (mid_last (fun i : Nat => [(0, .is (.slice (some ⟨b, 0, none⟩) m cap)), (1, .is (.int .i64 a)), (9, .is (.int .i64 i)), (10, .is (.int .i64 j0)), (900, .own (HeldR b (uC G ++ rest) tyU))]) (fun i => i0 ≤ i ∧ i ≤ max i0 (j0 + 1) ∧ i = scanUp (fun x => !lt G[a]! x) G j0 i0) (fun _ => []) ?_) ?_
    rotate_left
    · refine V_loop (fun i : Nat => [(0, .is (.slice (some ⟨b, 0, none⟩) m cap)), (1, .is (.int .i64 a)), (9, .is (.int .i64 i)), (10, .is (.int .i64 j0)), (900, .own (HeldR b (uC G ++ rest) tyU))]) (fun i => i0 ≤ i ∧ i ≤ max i0 (j0 + 1) ∧ scanUp (fun x => !lt G[a]! x) G j0 i = scanUp (fun x => !lt G[a]! x) G j0 i0) (fun i => j0 + 1 - i) i0 ⟨Nat.le_refl _, by omega, rfl⟩ ⟨rfl, rfl, rfl, rfl, rfl, trivial⟩ ?_
      rintro i ⟨hi1, hi2, hi3⟩
      by_cases hle : i ≤ j0
      · obtain ⟨_, qx⟩ := u_at (rest := rest) (show i < G.size by omega) (0 + (i) * 1) rfl
        obtain ⟨_, qa⟩ := u_at (rest := rest) (show a < G.size by omega) (0 + (a) * 1) rfl
        cases hc : lt G[a]! G[i]! with
        | false =>
          have hw : IntKind.i64.wrap ((i : Int) + 1) = ((i + 1 : Nat) : Int) := wrap_i64 (by omega) (by omega)
          refine ze ?_; refine ze ?_; refine zz (id := 3) [(200036, [900]), (200040, [900])] mixed (by kernel_rfl) ?_; refine Zs7 ?_; refine Zs7 ?_; refine Zs52 ?_; refine Zs7 ?_; refine Zs7 ?_; refine Zs7 ?_; refine z8 (zp L _ rfl rfl rfl rfl rfl rfl rfl (by omega)) rfl ?_; refine q8 (zx L (q := 900) rfl rfl rfl rfl rfl qa) rfl rfl ?_; refine Zs7 ?_; refine Zs7 ?_; refine z8 (zp L _ rfl rfl rfl rfl rfl rfl rfl (by omega)) rfl ?_; refine q8 (zx L (q := 900) rfl rfl rfl rfl rfl qx) rfl rfl ?_; refine z8 (zo L rfl rfl (zg rfl) rfl rfl rfl (fun u H hH _ _ => lessU' hc hH)) rfl ?_; refine Zs47 ?_; refine Zs28 ?_; refine qk ?_; refine zf ?_; refine zw rfl ?_; refine zt ?_; refine zf ?_; refine zy ?_; refine zb (id := 4) ?_; refine Zs1 ?_; refine Zs18 ?_; refine Zs2 ?_; refine zd ?_; refine qm ?_
          exact y1 (x := i) (i + 1) ⟨by omega, by omega, by rw [← hi3]; exact (scanUp_go hle (by simp [hc])).symm⟩ (by omega) ⟨rfl, rfl, rfl, rfl, rfl, trivial⟩
        | true =>
          refine ze ?_; refine ze ?_; refine zz (id := 3) [(200036, [900]), (200040, [900])] mixed (by kernel_rfl) ?_; refine Zs7 ?_; refine Zs7 ?_; refine Zs52 ?_; refine Zs7 ?_; refine Zs7 ?_; refine Zs7 ?_; refine z8 (zp L _ rfl rfl rfl rfl rfl rfl rfl (by omega)) rfl ?_; refine q8 (zx L (q := 900) rfl rfl rfl rfl rfl qa) rfl rfl ?_; refine Zs7 ?_; refine Zs7 ?_; refine z8 (zp L _ rfl rfl rfl rfl rfl rfl rfl (by omega)) rfl ?_; refine q8 (zx L (q := 900) rfl rfl rfl rfl rfl qx) rfl rfl ?_; refine z8 (zo L rfl rfl (zg rfl) rfl rfl rfl (fun u H hH _ _ => lessU' hc hH)) rfl ?_; refine Zs47 ?_; refine Zs28 ?_; refine qk ?_; refine zf ?_; refine zm rfl ?_; refine y7 ?_; refine qg ?_; refine qg ?_; refine y6 ?_
          exact N_mids i Since.refl ⟨hi1, hi2, by rw [← hi3]; exact (scanUp_stop (by rintro ⟨_, h⟩; simp [hc] at h)).symm⟩ rfl ⟨rfl, rfl, rfl, rfl, rfl, trivial⟩
      · refine ze ?_; refine ze ?_; refine zz (id := 3) [] mixed (by kernel_rfl) ?_; refine Zs7 ?_; refine Zs7 ?_; refine Zs63 ?_; refine Zs7 ?_; refine Zs12 ?_; refine Zs12 ?_; refine Zs12 ?_; refine Zs12 ?_; refine Zs12 ?_; refine Zs12 ?_; refine Zs12 ?_; refine Zs12 ?_; refine Zs12 ?_; refine Zs12 ?_; refine Zs28 ?_; refine qk ?_; refine zf ?_; refine zm rfl ?_; refine y7 ?_; refine qg ?_; refine qg ?_; refine y6 ?_
        exact N_mids i Since.refl ⟨hi1, hi2, by rw [← hi3]; exact (scanUp_stop (by rintro ⟨h, _⟩; exact hle h)).symm⟩ rfl ⟨rfl, rfl, rfl, rfl, rfl, trivial⟩
    rintro K ⟨hK1, hK2, hK3⟩
    refine ze (zy ?_)
    refine V_midB (mid_last (fun i : Nat => [(0, .is (.slice (some ⟨b, 0, none⟩) m cap)), (1, .is (.int .i64 a)), (9, .is (.int .i64 K)), (10, .is (.int .i64 i)), (900, .own (HeldR b (uC G ++ rest) tyU))]) (fun i => i ≤ j0 ∧ min (K - 1) j0 ≤ i ∧ i = scanDown (fun x => lt G[a]! x) G K j0) (fun _ => []) ?_) ?_
    rotate_left
    · refine V_loop (fun i : Nat => [(0, .is (.slice (some ⟨b, 0, none⟩) m cap)), (1, .is (.int .i64 a)), (9, .is (.int .i64 K)), (10, .is (.int .i64 i)), (900, .own (HeldR b (uC G ++ rest) tyU))]) (fun i => i ≤ j0 ∧ min (K - 1) j0 ≤ i ∧ scanDown (fun x => lt G[a]! x) G K i = scanDown (fun x => lt G[a]! x) G K j0) (fun i => i) j0 ⟨Nat.le_refl _, by omega, rfl⟩ ⟨rfl, rfl, rfl, rfl, rfl, trivial⟩ ?_
      rintro i ⟨hi1, hi2, hi3⟩
      by_cases hle : K ≤ i
      · obtain ⟨_, qx⟩ := u_at (rest := rest) (show i < G.size by omega) (0 + (i) * 1) rfl
        obtain ⟨_, qa⟩ := u_at (rest := rest) (show a < G.size by omega) (0 + (a) * 1) rfl
        cases hc : lt G[a]! G[i]! with
        | true =>
          obtain ⟨i, rfl⟩ : ∃ k, i = k + 1 := ⟨i - 1, by omega⟩
          have hw : IntKind.i64.wrap (((i + 1 : Nat) : Int) - 1) = (i : Int) := wrap_i64 (by omega) (by omega) |>.trans (by omega)
          refine ze ?_; refine ze ?_; refine zz (id := 5) [(200053, [900]), (200057, [900])] mixed (by kernel_rfl) ?_; refine Zs7 ?_; refine Zs7 ?_; refine Zs52 ?_; refine Zs7 ?_; refine Zs7 ?_; refine Zs7 ?_; refine z8 (zp L _ rfl rfl rfl rfl rfl rfl rfl (by omega)) rfl ?_; refine q8 (zx L (q := 900) rfl rfl rfl rfl rfl qa) rfl rfl ?_; refine Zs7 ?_; refine Zs7 ?_; refine z8 (zp L _ rfl rfl rfl rfl rfl rfl rfl (by omega)) rfl ?_; refine q8 (zx L (q := 900) rfl rfl rfl rfl rfl qx) rfl rfl ?_; refine z8 (zo L rfl rfl (zg rfl) rfl rfl rfl (fun u H hH _ _ => lessU' hc hH)) rfl ?_; refine Zs28 ?_; refine qk ?_; refine zf ?_; refine zw rfl ?_; refine zt ?_; refine zf ?_; refine zy ?_; refine zb (id := 6) ?_; refine Zs1 ?_; refine Zs20 ?_; refine Zs2 ?_; refine zd ?_; refine qm ?_
          exact y1 (x := i + 1) i ⟨by omega, by omega, by rw [← hi3]; exact (scanDown_go hle (by simp [hc])).symm⟩ (by omega) ⟨rfl, rfl, rfl, rfl, rfl, trivial⟩
        | false =>
          refine ze ?_; refine ze ?_; refine zz (id := 5) [(200053, [900]), (200057, [900])] mixed (by kernel_rfl) ?_; refine Zs7 ?_; refine Zs7 ?_; refine Zs52 ?_; refine Zs7 ?_; refine Zs7 ?_; refine Zs7 ?_; refine z8 (zp L _ rfl rfl rfl rfl rfl rfl rfl (by omega)) rfl ?_; refine q8 (zx L (q := 900) rfl rfl rfl rfl rfl qa) rfl rfl ?_; refine Zs7 ?_; refine Zs7 ?_; refine z8 (zp L _ rfl rfl rfl rfl rfl rfl rfl (by omega)) rfl ?_; refine q8 (zx L (q := 900) rfl rfl rfl rfl rfl qx) rfl rfl ?_; refine z8 (zo L rfl rfl (zg rfl) rfl rfl rfl (fun u H hH _ _ => lessU' hc hH)) rfl ?_; refine Zs28 ?_; refine qk ?_; refine zf ?_; refine zm rfl ?_; refine y7 ?_; refine qg ?_; refine qg ?_; refine y6 ?_
          exact N_mids i Since.refl ⟨hi1, hi2, by rw [← hi3]; exact (scanDown_stop (by rintro ⟨_, h⟩; simp [hc] at h)).symm⟩ rfl ⟨rfl, rfl, rfl, rfl, rfl, trivial⟩
      · refine ze ?_; refine ze ?_; refine zz (id := 5) [] mixed (by kernel_rfl) ?_; refine Zs7 ?_; refine Zs7 ?_; refine Zs63 ?_; refine Zs7 ?_; refine Zs12 ?_; refine Zs12 ?_; refine Zs12 ?_; refine Zs12 ?_; refine Zs12 ?_; refine Zs12 ?_; refine Zs12 ?_; refine Zs12 ?_; refine Zs12 ?_; refine Zs28 ?_; refine qk ?_; refine zf ?_; refine zm rfl ?_; refine y7 ?_; refine qg ?_; refine qg ?_; refine y6 ?_
        exact N_mids i Since.refl ⟨hi1, hi2, by rw [← hi3]; exact (scanDown_stop (by rintro ⟨h, _⟩; exact hle h)).symm⟩ rfl ⟨rfl, rfl, rfl, rfl, rfl, trivial⟩
    rintro M ⟨hM1, hM2, hM3⟩
    rw [← hK3, ← hM3] at hL
    by_cases hKM : M < K
    · rw [if_pos hKM] at hL
      refine ze ?_; refine ze ?_; refine zb (id := 7) ?_; refine Zs1 ?_; refine Zs1 ?_; refine Zs23 ?_; refine zd ?_; refine zf ?_; refine zw rfl ?_; refine y7 ?_; refine qg ?_; refine X_there rfl ?_; refine qg ?_; refine y6 ?_
      exact N_mids (K, G) Since.refl ⟨hG, hL⟩ rfl ⟨rfl, rfl, trivial⟩
    · rw [if_neg hKM, dif_pos (by omega)] at hL
      have hw5 : IntKind.i64.wrap ((K : Int) + 1) = ((K + 1 : Nat) : Int) := wrap_i64 (by omega) (by omega)
      have hw6 : IntKind.i64.wrap ((M : Int) - 1) = ((M - 1 : Nat) : Int) := wrap_i64 (by omega) (by omega) |>.trans (by omega)
      have hGs := swp_size G K M
      obtain ⟨_, qj⟩ := u_at (rest := rest) (show M < G.size by omega) (0 + (M) * 1) rfl
      obtain ⟨_, qi⟩ := u_at (rest := rest) (show K < G.size by omega) (0 + (K) * 1) rfl
      have s1 := u_set (rest := rest) G[M]! (show K < G.size by omega) (0 + (K) * 1) rfl
      have b1 := u_ble (rest := rest) (show K < G.size by omega) (0 + (K) * 1) rfl
      have hz : M < (G.setIfInBounds (K) G[M]!).size := by rw [Array.size_setIfInBounds]; omega
      have s2 := u_set (rest := rest) G[K]! hz (0 + (M) * 1) rfl
      have b2 := u_ble (rest := rest) hz (0 + (M) * 1) rfl
      rw [swp_eq] at s2
      refine ze ?_; refine ze ?_; refine zb (id := 7) ?_; refine Zs1 ?_; refine Zs1 ?_; refine Zs16 ?_; refine zd ?_; refine zf ?_; refine zm rfl ?_; refine zt ?_; refine zf ?_; refine ze ?_; refine zz (id := 8) [(200072, [900]), (200076, [900]), (100077, [900]), (100078, [900])] mixed (by kernel_rfl) ?_; refine Zs7 ?_; refine Zs7 ?_; refine Zs7 ?_; refine Zs7 ?_; refine Zs7 ?_; refine Zs7 ?_; refine z8 (zp L _ rfl rfl rfl rfl rfl rfl rfl (by omega)) rfl ?_; refine q8 (zx L (q := 900) rfl rfl rfl rfl rfl qj) rfl rfl ?_; refine Zs7 ?_; refine Zs7 ?_; refine z8 (zp L _ rfl rfl rfl rfl rfl rfl rfl (by omega)) rfl ?_; refine q8 (zx L (q := 900) rfl rfl rfl rfl rfl qi) rfl rfl ?_; refine z8 (zp L _ rfl rfl rfl rfl rfl rfl rfl (by omega)) rfl ?_; refine y9 (y2 L (q := 900) rfl rfl rfl rfl rfl rfl b1 rfl s1) rfl ?_; refine z8 (zp L _ rfl rfl rfl rfl rfl rfl rfl (by omega)) rfl ?_; refine y9 (y2 L (q := 900) rfl rfl rfl rfl rfl rfl b2 rfl s2) rfl ?_; refine qk ?_; refine zf ?_; refine ze ?_; refine zb (id := 9) ?_; refine Zs1 ?_; refine Zs18 ?_; refine Zs2 ?_; refine zd ?_; refine zf ?_; refine zb (id := 10) ?_; refine Zs1 ?_; refine Zs20 ?_; refine Zs2 ?_; refine zd ?_; refine qm ?_
      exact y1 (x := ((i0, j0), G)) ((K + 1, M - 1), swp G K M) ⟨by dsimp only; omega, by dsimp only; omega, by dsimp only; omega, by dsimp only; omega, by dsimp only; omega, hL⟩ (by dsimp only; omega) ⟨rfl, rfl, rfl, rfl, rfl, trivial⟩
  · rintro ⟨K, G⟩ ⟨hG, hL⟩
    dsimp only at hG ⊢
    rw [← hL]
    refine ze ?_; refine zb (id := 11) ?_; refine Zs1 ?_; refine Zs2 ?_; refine zd ?_; refine zf ?_
    exact V_retX L 900 (r := GHeld b _ tyU) (rs := [.tmp 8]) rfl (fun _ _ h => h) Since.refl rfl rfl (fun _ => rfl)
end Go.V.So
namespace Go.V.So
open Go.Proofs Go.RowKit Go.V Go.Sort
attribute [local irreducible] V N X VO Par StepOK Has Ret RetL RetO RetG RetX Src
theorem scanSorted_stop {d : Array Int} {e i : Nat} (h : ¬ (i < e ∧ lt d[i]! d[i - 1]! = false)) : scanSorted lt d e i = i := by
  rw [scanSorted, if_neg]
  simpa using h
theorem scanSorted_go {d : Array Int} {e i : Nat} (h1 : i < e) (h2 : lt d[i]! d[i - 1]! = false) : scanSorted lt d e i = scanSorted lt d e (i + 1) := by
  rw [scanSorted, if_pos (by simp [h1, h2])]
set_option maxHeartbeats 2000000 in
set_option maxRecDepth 20000 in
theorem pins_ret {d : Array Int} {rest : List Value} {b m cap a e : Nat} (hab : a < e) (he : e ≤ d.size) (hm : d.size = m) (hm1 : m ≤ 100000) {w : World} {B : Heap} {C : Nat → Prop} (hB : B.Le (hp w))
    (hr : (GHeld b (uC d ++ rest) tyU).P B w C) (hC : ∀ k, C k → k < w.heap.size ∧ B k = none) :
    RetX Try.prog 94 [.slice (some ⟨b, 0, none⟩) m cap, .int .i64 a, .int .i64 e] w B C (GHeld b (uC (partialInsertionSort lt d a e).1 ++ rest) tyU) (.bool (partialInsertionSort lt d a e).2) := by
  unfold RetX
  refine V_enterG 900 (GHeld b (uC d ++ rest) tyU) Try.func94 rfl Try.ntmps94 (Nat.le_of_ble_eq_true rfl) hB hr hC ?_
  rw [gheld_res]
  have hw1 : IntKind.i64.wrap ((a : Int) + 1) = ((a + 1 : Nat) : Int) := wrap_i64 (by omega) (by omega)
  have hw2 : IntKind.i64.wrap ((e : Int) - (a : Int)) = ((e - a : Nat) : Int) := wrap_i64 (by omega) (by omega) |>.trans (by omega)
  obtain ⟨X, hX⟩ : ∃ X, X = partialInsertionSort lt d a e := ⟨_, rfl⟩
  rw [← hX]
  unfold partialInsertionSort at hX
  refine ze ?_; refine zb (id := 0) ?_; refine Zs2 ?_; refine zd ?_; refine zf ?_; refine ze ?_; refine zb (id := 1) ?_; refine Zs1 ?_; refine Zs18 ?_; refine Zs2 ?_; refine zd ?_; refine zf ?_; refine ze ?_; refine ze ?_; refine zb (id := 2) ?_; refine Zs2 ?_; refine zd ?_; refine zf ?_; refine zy ?_
  refine V_loop (fun s : (Nat × Nat) × Array Int => [(0, .is (.slice (some ⟨b, 0, none⟩) m cap)), (1, .is (.int .i64 a)), (2, .is (.int .i64 e)), (7, .is (.int .i64 s.1.2)), (8, .is (.int .i64 s.1.1)), (900, .own (HeldR b (uC s.2 ++ rest) tyU))]) (fun s => s.1.1 ≤ 5 ∧ a + 1 ≤ s.1.2 ∧ s.1.2 ≤ e ∧ s.2.size = m ∧ partialIns lt a e (5 - s.1.1) s.1.2 s.2 = X) (fun s => 5 - s.1.1) ((0, a + 1), d) ⟨by dsimp only; omega, by dsimp only; omega, by dsimp only; omega, hm, hX.symm⟩ ⟨rfl, rfl, rfl, rfl, rfl, rfl, trivial⟩ ?_
  rintro ⟨⟨k, i0⟩, D⟩ ⟨hk, hi1, hi2, hD, hL⟩
  dsimp only at hk hi1 hi2 hD hL ⊢
  clear hX
  by_cases hk5 : k < 5
  · obtain ⟨s, hs⟩ : ∃ s, 5 - k = s + 1 := ⟨5 - k - 1, by omega⟩
    have hs' : 5 - (k + 1) = s := by omega
    rw [hs, partialIns] at hL
    dsimp only at hL
    refine ze ?_; refine ze ?_; refine zb (id := 3) ?_; refine Zs1 ?_; refine Zs11 ?_; refine zd ?_; refine zf ?_; refine zw rfl ?_; refine zt ?_; refine zf ?_; refine ze ?_; refine zy ?_; refine ze ?_; refine zy ?_
    refine V_midB (mid_last (fun i : Nat => [(0, .is (.slice (some ⟨b, 0, none⟩) m cap)), (1, .is (.int .i64 a)), (2, .is (.int .i64 e)), (7, .is (.int .i64 i)), (8, .is (.int .i64 k)), (900, .own (HeldR b (uC D ++ rest) tyU))]) (fun i => a + 1 ≤ i ∧ i ≤ e ∧ i = scanSorted lt D e i0) (fun _ => []) ?_) ?_
    rotate_left
    · refine V_loop (fun i : Nat => [(0, .is (.slice (some ⟨b, 0, none⟩) m cap)), (1, .is (.int .i64 a)), (2, .is (.int .i64 e)), (7, .is (.int .i64 i)), (8, .is (.int .i64 k)), (900, .own (HeldR b (uC D ++ rest) tyU))]) (fun i => a + 1 ≤ i ∧ i ≤ e ∧ scanSorted lt D e i = scanSorted lt D e i0) (fun i => e - i) i0 ⟨hi1, hi2, rfl⟩ ⟨rfl, rfl, rfl, rfl, rfl, rfl, trivial⟩ ?_
      rintro i ⟨h1, h2, h3⟩
      by_cases hle : i < e
      · obtain ⟨_, q1⟩ := u_at (rest := rest) (show i < D.size by omega) (0 + (i) * 1) rfl
        obtain ⟨_, q2⟩ := u_at (rest := rest) (show i - 1 < D.size by omega) (0 + (i - 1) * 1) rfl
        have hw3 : IntKind.i64.wrap ((i : Int) - 1) = ((i - 1 : Nat) : Int) := wrap_i64 (by omega) (by omega) |>.trans (by omega)
        cases hc : lt D[i]! D[i - 1]! with
        | false =>
          have hw4 : IntKind.i64.wrap ((i : Int) + 1) = ((i + 1 : Nat) : Int) := wrap_i64 (by omega) (by omega)
          refine ze ?_; refine ze ?_; refine zz (id := 5) [(200024, [900]), (200029, [900])] mixed (by kernel_rfl) ?_; refine Zs7 ?_; refine Zs7 ?_; refine Zs67 ?_; refine Zs7 ?_; refine Zs7 ?_; refine Zs7 ?_; refine z8 (zp L _ rfl rfl rfl rfl rfl rfl rfl (by omega)) rfl ?_; refine q8 (zx L (q := 900) rfl rfl rfl rfl rfl q1) rfl rfl ?_; refine Zs7 ?_; refine Zs7 ?_; refine Zs44 ?_; refine z8 (zp L _ rfl rfl rfl rfl rfl rfl rfl (by omega)) rfl ?_; refine q8 (zx L (q := 900) rfl rfl rfl rfl rfl q2) rfl rfl ?_; refine z8 (zo L rfl rfl (zg rfl) rfl rfl rfl (fun u H hH _ _ => lessU' hc hH)) rfl ?_; refine Zs47 ?_; refine Zs28 ?_; refine qk ?_; refine zf ?_; refine zw rfl ?_; refine zt ?_; refine zf ?_; refine zy ?_; refine zb (id := 6) ?_; refine Zs1 ?_; refine Zs18 ?_; refine Zs2 ?_; refine zd ?_; refine qm ?_
          exact y1 (x := i) (i + 1) ⟨by omega, by omega, by rw [← h3]; exact (scanSorted_go hle hc).symm⟩ (by omega) ⟨rfl, rfl, rfl, rfl, rfl, rfl, trivial⟩
        | true =>
          refine ze ?_; refine ze ?_; refine zz (id := 5) [(200024, [900]), (200029, [900])] mixed (by kernel_rfl) ?_; refine Zs7 ?_; refine Zs7 ?_; refine Zs67 ?_; refine Zs7 ?_; refine Zs7 ?_; refine Zs7 ?_; refine z8 (zp L _ rfl rfl rfl rfl rfl rfl rfl (by omega)) rfl ?_; refine q8 (zx L (q := 900) rfl rfl rfl rfl rfl q1) rfl rfl ?_; refine Zs7 ?_; refine Zs7 ?_; refine Zs44 ?_; refine z8 (zp L _ rfl rfl rfl rfl rfl rfl rfl (by omega)) rfl ?_; refine q8 (zx L (q := 900) rfl rfl rfl rfl rfl q2) rfl rfl ?_; refine z8 (zo L rfl rfl (zg rfl) rfl rfl rfl (fun u H hH _ _ => lessU' hc hH)) rfl ?_; refine Zs47 ?_; refine Zs28 ?_; refine qk ?_; refine zf ?_; refine zm rfl ?_; refine y7 ?_; refine qg ?_; refine qg ?_; refine y6 ?_
          exact N_mids i Since.refl ⟨h1, h2, by rw [← h3]; exact (scanSorted_stop (by rintro ⟨_, h⟩; simp [hc] at h)).symm⟩ rfl ⟨rfl, rfl, rfl, rfl, rfl, rfl, trivial⟩
      · refine ze ?_; refine ze ?_; refine zz (id := 5) [] mixed (by kernel_rfl) ?_; refine Zs7 ?_; refine Zs7 ?_; refine Zs78 ?_; refine Zs7 ?_; refine Zs12 ?_; refine Zs12 ?_; refine Zs12 ?_; refine Zs12 ?_; refine Zs12 ?_; refine Zs12 ?_; refine Zs12 ?_; refine Zs12 ?_; refine Zs12 ?_; refine Zs12 ?_; refine Zs12 ?_; refine Zs28 ?_; refine qk ?_; refine zf ?_; refine zm rfl ?_; refine y7 ?_; refine qg ?_; refine qg ?_; refine y6 ?_
        exact N_mids i Since.refl ⟨h1, h2, by rw [← h3]; exact (scanSorted_stop (by rintro ⟨h, _⟩; exact hle h)).symm⟩ rfl ⟨rfl, rfl, rfl, rfl, rfl, rfl, trivial⟩
    · rintro i ⟨h1, h2, h3⟩
      rw [← h3] at hL
      by_cases hie : i = e
      · rw [if_pos hie] at hL
        subst hie
        rw [← hL]
        refine ze ?_; refine ze ?_; refine zb (id := 7) ?_; refine Zs1 ?_; refine Zs1 ?_; refine Zs15 ?_; refine zd ?_; refine zf ?_; refine zw rfl ?_; refine ze ?_; refine zb (id := 8) ?_; refine Zs2 ?_; refine zd ?_; refine zf ?_
        exact V_retX L 900 (r := GHeld b _ tyU) (rs := [.tmp 6]) rfl (fun _ _ h => h) Since.refl rfl rfl (fun _ => rfl)
      · rw [if_neg hie] at hL
        by_cases h50 : e - a < 50
        · rw [if_pos h50] at hL
          rw [← hL]
          refine ze ?_; refine ze ?_; refine zb (id := 7) ?_; refine Zs1 ?_; refine Zs1 ?_; refine Zs9 ?_; refine zd ?_; refine zf ?_; refine zm rfl ?_; refine zt ?_; refine zf ?_; refine ze ?_; refine ze ?_; refine zb (id := 9) ?_; refine Zs1 ?_; refine Zs1 ?_; refine Zs20 ?_; refine Zs11 ?_; refine zd ?_; refine zf ?_; refine zw rfl ?_; refine ze ?_; refine zb (id := 10) ?_; refine Zs2 ?_; refine zd ?_; refine zf ?_
          exact V_retX L 900 (r := GHeld b _ tyU) (rs := [.tmp 6]) rfl (fun _ _ h => h) Since.refl rfl rfl (fun _ => rfl)
        · rw [if_neg h50] at hL
          have hw3 : IntKind.i64.wrap ((i : Int) - 1) = ((i - 1 : Nat) : Int) := wrap_i64 (by omega) (by omega) |>.trans (by omega)
          have hw4 : IntKind.i64.wrap ((i : Int) - (a : Int)) = ((i - a : Nat) : Int) := wrap_i64 (by omega) (by omega) |>.trans (by omega)
          have hw5 : IntKind.i64.wrap ((e : Int) - (i : Int)) = ((e - i : Nat) : Int) := wrap_i64 (by omega) (by omega) |>.trans (by omega)
          have hw6 : IntKind.i64.wrap ((i : Int) + 1) = ((i + 1 : Nat) : Int) := wrap_i64 (by omega) (by omega)
          have hw7 : IntKind.i64.wrap ((k : Int) + 1) = ((k + 1 : Nat) : Int) := wrap_i64 (by omega) (by omega)
          have hDs := swp_size D i (i - 1)
          obtain ⟨_, qj⟩ := u_at (rest := rest) (show i - 1 < D.size by omega) (0 + (i - 1) * 1) rfl
          obtain ⟨_, qi⟩ := u_at (rest := rest) (show i < D.size by omega) (0 + (i) * 1) rfl
          have s1 := u_set (rest := rest) D[i - 1]! (show i < D.size by omega) (0 + (i) * 1) rfl
          have b1 := u_ble (rest := rest) (show i < D.size by omega) (0 + (i) * 1) rfl
          have hz : i - 1 < (D.setIfInBounds (i) D[i - 1]!).size := by rw [Array.size_setIfInBounds]; omega
          have s2 := u_set (rest := rest) D[i]! hz (0 + (i - 1) * 1) rfl
          have b2 := u_ble (rest := rest) hz (0 + (i - 1) * 1) rfl
          rw [swp_eq] at s2
          refine ze ?_; refine ze ?_; refine zb (id := 7) ?_; refine Zs1 ?_; refine Zs1 ?_; refine Zs9 ?_; refine zd ?_; refine zf ?_; refine zm rfl ?_; refine zt ?_; refine zf ?_; refine ze ?_; refine ze ?_; refine zb (id := 9) ?_; refine Zs1 ?_; refine Zs1 ?_; refine Zs20 ?_; refine Zs8 ?_; refine zd ?_; refine zf ?_; refine zm rfl ?_; refine zt ?_; refine zf ?_; refine ze ?_; refine zz (id := 11) [(200051, [900]), (200055, [900]), (100056, [900]), (100057, [900])] mixed (by kernel_rfl) ?_; refine Zs7 ?_; refine Zs7 ?_; refine Zs7 ?_; refine Zs7 ?_; refine Zs44 ?_; refine Zs7 ?_; refine Zs7 ?_; refine Zs44 ?_; refine z8 (zp L _ rfl rfl rfl rfl rfl rfl rfl (by omega)) rfl ?_; refine q8 (zx L (q := 900) rfl rfl rfl rfl rfl qj) rfl rfl ?_; refine Zs7 ?_; refine Zs7 ?_; refine z8 (zp L _ rfl rfl rfl rfl rfl rfl rfl (by omega)) rfl ?_; refine q8 (zx L (q := 900) rfl rfl rfl rfl rfl qi) rfl rfl ?_; refine z8 (zp L _ rfl rfl rfl rfl rfl rfl rfl (by omega)) rfl ?_; refine y9 (y2 L (q := 900) rfl rfl rfl rfl rfl rfl b1 rfl s1) rfl ?_; refine z8 (zp L _ rfl rfl rfl rfl rfl rfl rfl (by omega)) rfl ?_; refine y9 (y2 L (q := 900) rfl rfl rfl rfl rfl rfl b2 rfl s2) rfl ?_; refine qk ?_; refine zf ?_; refine ze ?_; refine ze ?_
          generalize swp D i (i - 1) = D1 at *
          obtain ⟨D2, hD2⟩ : ∃ D2, D2 = (if i - a ≥ 2 then shiftDown lt (i - 1) D1 else D1) := ⟨_, rfl⟩
          rw [← hD2] at hL
          refine V_meetC (fun E : Array Int => [(0, .is (.slice (some ⟨b, 0, none⟩) m cap)), (1, .is (.int .i64 a)), (2, .is (.int .i64 e)), (7, .is (.int .i64 i)), (8, .is (.int .i64 k)), (900, .own (HeldR b (uC E ++ rest) tyU))]) (fun E => E.size = m ∧ E = D2) (fun _ => []) ?_ ?_
          rotate_left
          · by_cases h2a : i - a ≥ 2
            · rw [if_pos h2a] at hD2
              refine zb (id := 12) ?_; refine Zs1 ?_; refine Zs1 ?_; refine Zs20 ?_; refine Zs30 ?_; refine zd ?_; refine zf ?_; refine zw rfl ?_; refine ze ?_; refine zb (id := 13) ?_; refine Zs1 ?_; refine Zs20 ?_; refine Zs2 ?_; refine zd ?_; refine zf ?_; refine zy ?_
              refine V_loop (fun t : Nat × Array Int => [(0, .is (.slice (some ⟨b, 0, none⟩) m cap)), (1, .is (.int .i64 a)), (2, .is (.int .i64 e)), (7, .is (.int .i64 i)), (8, .is (.int .i64 k)), (9, .is (.int .i64 t.1)), (900, .own (HeldR b (uC t.2 ++ rest) tyU))]) (fun t => t.1 ≤ i - 1 ∧ t.2.size = m ∧ shiftDown lt t.1 t.2 = D2) (fun t => t.1) (i - 1, D1) ⟨Nat.le_refl _, by dsimp only; omega, hD2.symm⟩ ⟨rfl, rfl, rfl, rfl, rfl, rfl, rfl, trivial⟩ ?_
              rintro ⟨j, E⟩ ⟨hj, hE, hS⟩
              dsimp only at hj hE hS ⊢
              clear hD2
              rcases j with _ | j
              · rw [shiftDown] at hS
                refine ze ?_; refine ze ?_; refine zb (id := 14) ?_; refine Zs1 ?_; refine Zs22 ?_; refine zd ?_; refine zf ?_; refine zm rfl ?_; refine y7 ?_; refine qg ?_; refine qg ?_; refine y6 ?_
                exact N_mids E Since.refl ⟨hE, hS⟩ rfl ⟨rfl, rfl, rfl, rfl, rfl, rfl, trivial⟩
              · rw [shiftDown] at hS
                have hw8 : IntKind.i64.wrap (((j + 1 : Nat) : Int) - 1) = (j : Int) := wrap_i64 (by omega) (by omega) |>.trans (by omega)
                obtain ⟨_, q1⟩ := u_at (rest := rest) (show j + 1 < E.size by omega) (0 + (j + 1) * 1) rfl
                obtain ⟨_, q2⟩ := u_at (rest := rest) (show j < E.size by omega) (0 + (j) * 1) rfl
                cases hc : lt E[j + 1]! E[j]! with
                | false =>
                  rw [if_pos (by rw [hc]; rfl)] at hS
                  refine ze ?_; refine ze ?_; refine zb (id := 14) ?_; refine Zs1 ?_; refine Zs30 ?_; refine zd ?_; refine zf ?_; refine zw rfl ?_; refine zt ?_; refine zf ?_; refine ze ?_; refine zy ?_; refine ze ?_; refine ze ?_; refine zz (id := 16) [(200071, [900]), (200076, [900])] mixed (by kernel_rfl) ?_; refine Zs7 ?_; refine Zs7 ?_; refine z8 (zp L _ rfl rfl rfl rfl rfl rfl rfl (by omega)) rfl ?_; refine q8 (zx L (q := 900) rfl rfl rfl rfl rfl q1) rfl rfl ?_; refine Zs7 ?_; refine Zs7 ?_; refine Zs44 ?_; refine z8 (zp L _ rfl rfl rfl rfl rfl rfl rfl (by omega)) rfl ?_; refine q8 (zx L (q := 900) rfl rfl rfl rfl rfl q2) rfl rfl ?_; refine z8 (zo L rfl rfl (zg rfl) rfl rfl rfl (fun u H hH _ _ => lessU' hc hH)) rfl ?_; refine Zs47 ?_; refine qk ?_; refine zf ?_; refine zw rfl ?_; refine y7 ?_; refine qg ?_; refine X_there rfl ?_; refine qg ?_; refine qg ?_; refine y6 ?_
                  exact N_mids E Since.refl ⟨hE, hS⟩ rfl ⟨rfl, rfl, rfl, rfl, rfl, rfl, trivial⟩
                | true =>
                  rw [if_neg (by rw [hc]; simp)] at hS
                  obtain ⟨_, qj⟩ := u_at (rest := rest) (show j < E.size by omega) (0 + (j) * 1) rfl
                  obtain ⟨_, qi⟩ := u_at (rest := rest) (show j + 1 < E.size by omega) (0 + (j + 1) * 1) rfl
                  have s1 := u_set (rest := rest) E[j]! (show j + 1 < E.size by omega) (0 + (j + 1) * 1) rfl
                  have b1 := u_ble (rest := rest) (show j + 1 < E.size by omega) (0 + (j + 1) * 1) rfl
                  have hz : j < (E.setIfInBounds (j + 1) E[j]!).size := by rw [Array.size_setIfInBounds]; omega
                  have s2 := u_set (rest := rest) E[j + 1]! hz (0 + (j) * 1) rfl
                  have b2 := u_ble (rest := rest) hz (0 + (j) * 1) rfl
                  rw [swp_eq] at s2
                  refine ze ?_; refine ze ?_; refine zb (id := 14) ?_; refine Zs1 ?_; refine Zs30 ?_; refine zd ?_; refine zf ?_; refine zw rfl ?_; refine zt ?_; refine zf ?_; refine ze ?_; refine zy ?_; refine ze ?_; refine ze ?_; refine zz (id := 16) [(200071, [900]), (200076, [900])] mixed (by kernel_rfl) ?_; refine Zs7 ?_; refine Zs7 ?_; refine z8 (zp L _ rfl rfl rfl rfl rfl rfl rfl (by omega)) rfl ?_; refine q8 (zx L (q := 900) rfl rfl rfl rfl rfl q1) rfl rfl ?_; refine Zs7 ?_; refine Zs7 ?_; refine Zs44 ?_; refine z8 (zp L _ rfl rfl rfl rfl rfl rfl rfl (by omega)) rfl ?_; refine q8 (zx L (q := 900) rfl rfl rfl rfl rfl q2) rfl rfl ?_; refine z8 (zo L rfl rfl (zg rfl) rfl rfl rfl (fun u H hH _ _ => lessU' hc hH)) rfl ?_; refine Zs47 ?_; refine qk ?_; refine zf ?_; refine zm rfl ?_; refine zt ?_; refine zf ?_; refine zz (id := 17) [(200088, [900]), (200092, [900]), (100093, [900]), (100094, [900])] mixed (by kernel_rfl) ?_; refine Zs7 ?_; refine Zs7 ?_; refine Zs7 ?_; refine Zs7 ?_; refine Zs44 ?_; refine Zs7 ?_; refine Zs7 ?_; refine Zs44 ?_; refine z8 (zp L _ rfl rfl rfl rfl rfl rfl rfl (by omega)) rfl ?_; refine q8 (zx L (q := 900) rfl rfl rfl rfl rfl qj) rfl rfl ?_; refine Zs7 ?_; refine Zs7 ?_; refine z8 (zp L _ rfl rfl rfl rfl rfl rfl rfl (by omega)) rfl ?_; refine q8 (zx L (q := 900) rfl rfl rfl rfl rfl qi) rfl rfl ?_; refine z8 (zp L _ rfl rfl rfl rfl rfl rfl rfl (by omega)) rfl ?_; refine y9 (y2 L (q := 900) rfl rfl rfl rfl rfl rfl b1 rfl s1) rfl ?_; refine z8 (zp L _ rfl rfl rfl rfl rfl rfl rfl (by omega)) rfl ?_; refine y9 (y2 L (q := 900) rfl rfl rfl rfl rfl rfl b2 rfl s2) rfl ?_; refine qk ?_; refine qm ?_; refine zf ?_; refine zb (id := 15) ?_; refine Zs1 ?_; refine Zs20 ?_; refine Zs2 ?_; refine zd ?_
                  exact y1 (x := (j + 1, E)) (j, swp E (j + 1) j) ⟨by dsimp only; omega, by dsimp only; rw [swp_size]; exact hE, hS⟩ (by dsimp only; omega) ⟨rfl, rfl, rfl, rfl, rfl, rfl, rfl, trivial⟩
            · rw [if_neg h2a] at hD2
              refine zb (id := 12) ?_; refine Zs1 ?_; refine Zs1 ?_; refine Zs20 ?_; refine Zs22 ?_; refine zd ?_; refine zf ?_; refine zm rfl ?_; refine zt ?_
              exact N_mids D1 Since.refl ⟨by omega, hD2.symm⟩ rfl ⟨rfl, rfl, rfl, rfl, rfl, rfl, trivial⟩
          · rintro G ⟨hG, hGe⟩
            rw [← hGe] at hL
            clear hD2 hGe
            by_cases h2b : e - i ≥ 2
            · rw [if_pos h2b] at hL
              obtain ⟨D3, hD3⟩ : ∃ D3, D3 = shiftUp lt e (i + 1) G := ⟨_, rfl⟩
              rw [← hD3] at hL
              refine ze ?_; refine zb (id := 18) ?_; refine Zs1 ?_; refine Zs1 ?_; refine Zs20 ?_; refine Zs30 ?_; refine zd ?_; refine zf ?_; refine zw rfl ?_; refine ze ?_; refine zb (id := 19) ?_; refine Zs1 ?_; refine Zs18 ?_; refine Zs2 ?_; refine zd ?_; refine zf ?_; refine zy ?_
              · refine V_loop (fun t : Nat × Array Int => [(0, .is (.slice (some ⟨b, 0, none⟩) m cap)), (1, .is (.int .i64 a)), (2, .is (.int .i64 e)), (7, .is (.int .i64 i)), (8, .is (.int .i64 k)), (10, .is (.int .i64 t.1)), (900, .own (HeldR b (uC t.2 ++ rest) tyU))]) (fun t => i + 1 ≤ t.1 ∧ t.1 ≤ e ∧ t.2.size = m ∧ shiftUp lt e t.1 t.2 = D3) (fun t => e - t.1) (i + 1, G) ⟨Nat.le_refl _, by dsimp only; omega, hG, hD3.symm⟩ ⟨rfl, rfl, rfl, rfl, rfl, rfl, rfl, trivial⟩ ?_
                rintro ⟨j, E⟩ ⟨hj1, hj2, hE, hS⟩
                dsimp only at hj1 hj2 hE hS ⊢
                clear hD3
                rw [shiftUp] at hS
                by_cases hje : j < e
                · rw [if_pos hje] at hS
                  have hw8 : IntKind.i64.wrap ((j : Int) - 1) = ((j - 1 : Nat) : Int) := wrap_i64 (by omega) (by omega) |>.trans (by omega)
                  have hw9 : IntKind.i64.wrap ((j : Int) + 1) = ((j + 1 : Nat) : Int) := wrap_i64 (by omega) (by omega)
                  obtain ⟨_, q1⟩ := u_at (rest := rest) (show j < E.size by omega) (0 + (j) * 1) rfl
                  obtain ⟨_, q2⟩ := u_at (rest := rest) (show j - 1 < E.size by omega) (0 + (j - 1) * 1) rfl
                  cases hc : lt E[j]! E[j - 1]! with
                  | false =>
                    rw [if_pos (by rw [hc]; rfl)] at hS
                    refine ze ?_; refine ze ?_; refine zb (id := 20) ?_; refine Zs1 ?_; refine Zs1 ?_; refine Zs11 ?_; refine zd ?_; refine zf ?_; refine zw rfl ?_; refine zt ?_; refine zf ?_; refine ze ?_; refine zy ?_; refine ze ?_; refine ze ?_; refine zz (id := 22) [(200109, [900]), (200114, [900])] mixed (by kernel_rfl) ?_; refine Zs7 ?_; refine Zs7 ?_; refine z8 (zp L _ rfl rfl rfl rfl rfl rfl rfl (by omega)) rfl ?_; refine q8 (zx L (q := 900) rfl rfl rfl rfl rfl q1) rfl rfl ?_; refine Zs7 ?_; refine Zs7 ?_; refine Zs44 ?_; refine z8 (zp L _ rfl rfl rfl rfl rfl rfl rfl (by omega)) rfl ?_; refine q8 (zx L (q := 900) rfl rfl rfl rfl rfl q2) rfl rfl ?_; refine z8 (zo L rfl rfl (zg rfl) rfl rfl rfl (fun u H hH _ _ => lessU' hc hH)) rfl ?_; refine Zs47 ?_; refine qk ?_; refine zf ?_; refine zw rfl ?_; refine y7 ?_; refine qg ?_; refine X_there rfl ?_; refine qg ?_; refine qg ?_; refine y6 ?_; refine qm ?_; refine zf ?_; refine zb (id := 4) ?_; refine Zs1 ?_; refine Zs18 ?_; refine Zs2 ?_; refine zd ?_
                    exact y1 (x := ((k, i0), D)) ((k + 1, i), E) ⟨by dsimp only; omega, by dsimp only; omega, by dsimp only; omega, hE, by dsimp only; rw [hs', hS]; exact hL⟩ (by dsimp only; omega) ⟨rfl, rfl, rfl, rfl, rfl, rfl, trivial⟩
                  | true =>
                    rw [if_neg (by rw [hc]; simp)] at hS
                    obtain ⟨_, qj⟩ := u_at (rest := rest) (show j - 1 < E.size by omega) (0 + (j - 1) * 1) rfl
                    obtain ⟨_, qi⟩ := u_at (rest := rest) (show j < E.size by omega) (0 + (j) * 1) rfl
                    have s1 := u_set (rest := rest) E[j - 1]! (show j < E.size by omega) (0 + (j) * 1) rfl
                    have b1 := u_ble (rest := rest) (show j < E.size by omega) (0 + (j) * 1) rfl
                    have hz : j - 1 < (E.setIfInBounds (j) E[j - 1]!).size := by rw [Array.size_setIfInBounds]; omega
                    have s2 := u_set (rest := rest) E[j]! hz (0 + (j - 1) * 1) rfl
                    have b2 := u_ble (rest := rest) hz (0 + (j - 1) * 1) rfl
                    rw [swp_eq] at s2
                    refine ze ?_; refine ze ?_; refine zb (id := 20) ?_; refine Zs1 ?_; refine Zs1 ?_; refine Zs11 ?_; refine zd ?_; refine zf ?_; refine zw rfl ?_; refine zt ?_; refine zf ?_; refine ze ?_; refine zy ?_; refine ze ?_; refine ze ?_; refine zz (id := 22) [(200109, [900]), (200114, [900])] mixed (by kernel_rfl) ?_; refine Zs7 ?_; refine Zs7 ?_; refine z8 (zp L _ rfl rfl rfl rfl rfl rfl rfl (by omega)) rfl ?_; refine q8 (zx L (q := 900) rfl rfl rfl rfl rfl q1) rfl rfl ?_; refine Zs7 ?_; refine Zs7 ?_; refine Zs44 ?_; refine z8 (zp L _ rfl rfl rfl rfl rfl rfl rfl (by omega)) rfl ?_; refine q8 (zx L (q := 900) rfl rfl rfl rfl rfl q2) rfl rfl ?_; refine z8 (zo L rfl rfl (zg rfl) rfl rfl rfl (fun u H hH _ _ => lessU' hc hH)) rfl ?_; refine Zs47 ?_; refine qk ?_; refine zf ?_; refine zm rfl ?_; refine zt ?_; refine zf ?_; refine zz (id := 23) [(200126, [900]), (200130, [900]), (100131, [900]), (100132, [900])] mixed (by kernel_rfl) ?_; refine Zs7 ?_; refine Zs7 ?_; refine Zs7 ?_; refine Zs7 ?_; refine Zs44 ?_; refine Zs7 ?_; refine Zs7 ?_; refine Zs44 ?_; refine z8 (zp L _ rfl rfl rfl rfl rfl rfl rfl (by omega)) rfl ?_; refine q8 (zx L (q := 900) rfl rfl rfl rfl rfl qj) rfl rfl ?_; refine Zs7 ?_; refine Zs7 ?_; refine z8 (zp L _ rfl rfl rfl rfl rfl rfl rfl (by omega)) rfl ?_; refine q8 (zx L (q := 900) rfl rfl rfl rfl rfl qi) rfl rfl ?_; refine z8 (zp L _ rfl rfl rfl rfl rfl rfl rfl (by omega)) rfl ?_; refine y9 (y2 L (q := 900) rfl rfl rfl rfl rfl rfl b1 rfl s1) rfl ?_; refine z8 (zp L _ rfl rfl rfl rfl rfl rfl rfl (by omega)) rfl ?_; refine y9 (y2 L (q := 900) rfl rfl rfl rfl rfl rfl b2 rfl s2) rfl ?_; refine qk ?_; refine qm ?_; refine zf ?_; refine zb (id := 21) ?_; refine Zs1 ?_; refine Zs18 ?_; refine Zs2 ?_; refine zd ?_
                    exact y1 (x := (j, E)) (j + 1, swp E j (j - 1)) ⟨by dsimp only; omega, by dsimp only; omega, by dsimp only; rw [swp_size]; exact hE, hS⟩ (by dsimp only; omega) ⟨rfl, rfl, rfl, rfl, rfl, rfl, rfl, trivial⟩
                · rw [if_neg hje] at hS
                  refine ze ?_; refine ze ?_; refine zb (id := 20) ?_; refine Zs1 ?_; refine Zs1 ?_; refine Zs8 ?_; refine zd ?_; refine zf ?_; refine zm rfl ?_; refine y7 ?_; refine qg ?_; refine qg ?_; refine y6 ?_; refine qm ?_; refine zf ?_; refine zb (id := 4) ?_; refine Zs1 ?_; refine Zs18 ?_; refine Zs2 ?_; refine zd ?_
                  exact y1 (x := ((k, i0), D)) ((k + 1, i), E) ⟨by dsimp only; omega, by dsimp only; omega, by dsimp only; omega, hE, by dsimp only; rw [hs', hS]; exact hL⟩ (by dsimp only; omega) ⟨rfl, rfl, rfl, rfl, rfl, rfl, trivial⟩
            · rw [if_neg h2b] at hL
              refine ze ?_; refine zb (id := 18) ?_; refine Zs1 ?_; refine Zs1 ?_; refine Zs20 ?_; refine Zs22 ?_; refine zd ?_; refine zf ?_; refine zm rfl ?_; refine zt ?_; refine qm ?_; refine zf ?_; refine zb (id := 4) ?_; refine Zs1 ?_; refine Zs18 ?_; refine Zs2 ?_; refine zd ?_
              exact y1 (x := ((k, i0), D)) ((k + 1, i), G) ⟨by dsimp only; omega, by dsimp only; omega, by dsimp only; omega, hG, by dsimp only; rw [hs']; exact hL⟩ (by dsimp only; omega) ⟨rfl, rfl, rfl, rfl, rfl, rfl, trivial⟩
  · obtain rfl : k = 5 := by omega
    have hL' : (D, false) = X := hL
    rw [← hL']
    refine ze ?_; refine ze ?_; refine zb (id := 3) ?_; refine Zs1 ?_; refine Zs8 ?_; refine zd ?_; refine zf ?_; refine zm rfl ?_; refine y7 ?_; refine qg ?_; refine qg ?_; refine y6 ?_; refine zf ?_; refine ze ?_; refine zb (id := 24) ?_; refine Zs2 ?_; refine zd ?_; refine zf ?_
    exact V_retX L 900 (r := GHeld b _ tyU) (rs := [.tmp 6]) rfl (fun _ _ h => h) Since.refl rfl rfl (fun _ => rfl)
end Go.V.So
namespace Go.V.So
open Go.Proofs Go.RowKit Go.V Go.Sort
abbrev tyX : TypeId := 178
attribute [local irreducible] V N X VO Par StepOK Has Ret RetL RetO RetG RetX Src
set_option maxRecDepth 20000 in
theorem next_ret {x b : Nat} (hx : x < 18446744073709551616) {w : World} {B : Heap} {C : Nat → Prop} (hB : B.Le (hp w))
    (hr : (GHeld b [.int .u64 x] tyX).P B w C) (hC : ∀ k, C k → k < w.heap.size ∧ B k = none) :
    RetX Try.prog 107 [.pointer (some ⟨b, 0, none⟩)] w B C (GHeld b [.int .u64 (xorNextN x : Nat)] tyX) (.int .u64 (xorNextN x : Nat)) := by
  obtain ⟨X1, h1⟩ : ∃ X1 : Nat, X1 = x ^^^ (x * 8192 % 18446744073709551616) := ⟨_, rfl⟩
  obtain ⟨X2, h2⟩ : ∃ X2 : Nat, X2 = X1 ^^^ (X1 / 128) := ⟨_, rfl⟩
  obtain ⟨X3, h3⟩ : ∃ X3 : Nat, X3 = X2 ^^^ (X2 * 131072 % 18446744073709551616) := ⟨_, rfl⟩
  have l1 : X1 < 18446744073709551616 := by rw [h1]; exact Nat.xor_lt_two_pow (n := 64) (by omega) (by omega)
  have l2 : X2 < 18446744073709551616 := by rw [h2]; exact Nat.xor_lt_two_pow (n := 64) (by omega) (by omega)
  have l3 : X3 < 18446744073709551616 := by rw [h3]; exact Nat.xor_lt_two_pow (n := 64) (by omega) (by omega)
  have hv : xorNextN x = X3 := by unfold xorNextN; simp only []; rw [← h1, ← h2, ← h3]
  have s1 : IntKind.u64.wrap ((x : Int) * 2 ^ min (13 : Int).toNat IntKind.u64.bits) = ((x * 8192 % 18446744073709551616 : Nat) : Int) := by
    rw [IntKind.wrap_u64, show ((2 : Int) ^ min (13 : Int).toNat IntKind.u64.bits) = 8192 from by decide]; omega
  have s2 : (X1 : Int).fdiv (2 ^ min (7 : Int).toNat IntKind.u64.bits) = ((X1 / 128 : Nat) : Int) := by
    rw [show ((2 : Int) ^ min (7 : Int).toNat IntKind.u64.bits) = 128 from by decide, Int.fdiv_eq_ediv_of_nonneg _ (by omega)]; omega
  have s3 : IntKind.u64.wrap ((X2 : Int) * 2 ^ min (17 : Int).toNat IntKind.u64.bits) = ((X2 * 131072 % 18446744073709551616 : Nat) : Int) := by
    rw [IntKind.wrap_u64, show ((2 : Int) ^ min (17 : Int).toNat IntKind.u64.bits) = 131072 from by decide]; omega
  have x1 : bits .xor .u64 (x : Int) ((x * 8192 % 18446744073709551616 : Nat) : Int) = (X1 : Int) := by rw [bits_xor_u64_nat _ _ hx (by omega), h1]
  have x2 : bits .xor .u64 (X1 : Int) ((X1 / 128 : Nat) : Int) = (X2 : Int) := by rw [bits_xor_u64_nat _ _ l1 (by omega), h2]
  have x3 : bits .xor .u64 (X2 : Int) ((X2 * 131072 % 18446744073709551616 : Nat) : Int) = (X3 : Int) := by rw [bits_xor_u64_nat _ _ l2 (by omega), h3]
  rw [hv]
  clear hv h1 h2 h3
  unfold RetX
  refine V_enterG 900 (GHeld b [.int .u64 x] tyX) Try.func107 rfl Try.ntmps107 (Nat.le_of_ble_eq_true rfl) hB hr hC ?_
  rw [gheld_res]
  refine ze ?_; refine zb (id := 0) ?_; refine Zs2 ?_; refine zd ?_; refine zf ?_; refine ze ?_; refine zz (id := 1) [(200005, [900]), (200008, [900]), (100011, [900])] mixed (by kernel_rfl) ?_; refine Zs7 ?_; refine Zs75 ?_; refine q8 (zx L (q := 900) rfl rfl rfl rfl rfl rfl) rfl rfl ?_; refine Zs7 ?_; refine Zs75 ?_; refine q8 (zx L (q := 900) rfl rfl rfl rfl rfl rfl) rfl rfl ?_; refine z8 (ok_shl rfl rfl rfl rfl (by decide) s1) rfl ?_; refine z8 (ok_xor rfl rfl rfl rfl x1) rfl ?_; refine Zs75 ?_; refine y9 (y2 L (q := 900) rfl rfl rfl rfl rfl rfl rfl rfl rfl) rfl ?_; refine qk ?_; refine zf ?_; refine ze ?_; refine zz (id := 2) [(200014, [900]), (200017, [900]), (100020, [900])] mixed (by kernel_rfl) ?_; refine Zs7 ?_; refine Zs75 ?_; refine q8 (zx L (q := 900) rfl rfl rfl rfl rfl rfl) rfl rfl ?_; refine Zs7 ?_; refine Zs75 ?_; refine q8 (zx L (q := 900) rfl rfl rfl rfl rfl rfl) rfl rfl ?_; refine z8 (ok_shr rfl rfl rfl rfl (by decide) s2) rfl ?_; refine z8 (ok_xor rfl rfl rfl rfl x2) rfl ?_; refine Zs75 ?_; refine y9 (y2 L (q := 900) rfl rfl rfl rfl rfl rfl rfl rfl rfl) rfl ?_; refine qk ?_; refine zf ?_; refine ze ?_; refine zz (id := 3) [(200023, [900]), (200026, [900]), (100029, [900])] mixed (by kernel_rfl) ?_; refine Zs7 ?_; refine Zs75 ?_; refine q8 (zx L (q := 900) rfl rfl rfl rfl rfl rfl) rfl rfl ?_; refine Zs7 ?_; refine Zs75 ?_; refine q8 (zx L (q := 900) rfl rfl rfl rfl rfl rfl) rfl rfl ?_; refine z8 (ok_shl rfl rfl rfl rfl (by decide) s3) rfl ?_; refine z8 (ok_xor rfl rfl rfl rfl x3) rfl ?_; refine Zs75 ?_; refine y9 (y2 L (q := 900) rfl rfl rfl rfl rfl rfl rfl rfl rfl) rfl ?_; refine qk ?_; refine zf ?_; refine ze ?_; refine zb (id := 4) ?_; refine Zs1 ?_; refine z7 (ok_nil rfl rfl rfl) rfl ?_; refine vo_stepR (zx L (q := 900) rfl rfl rfl rfl rfl rfl) ?_; refine Zs2 ?_; refine zd ?_; refine zf ?_
  exact V_retX L 900 (r := GHeld b _ tyX) (rs := [.tmp 2]) rfl (fun _ _ h => h) Since.refl rfl rfl (fun _ => rfl)
end Go.V.So
namespace Go.V.So
open Go.Proofs Go.RowKit Go.V Go.Sort
attribute [local irreducible] V N X VO Par StepOK Has Ret RetL RetO RetG RetX Src
set_option maxRecDepth 20000 in
theorem bitslen_ret {n : Nat} (hn : n < 18446744073709551616) {w : World} {B : Heap} (hB : B.Le (hp w)) : Ret Try.prog 79 [.int .u64 n] w B (fun v _ => v = .int .i64 (bitsLen n)) := by
  refine ya Try.func79 rfl Try.ntmps79 (Nat.le_of_ble_eq_true rfl) hB ?_
  refine ze ?_; refine zb (id := 0) ?_; refine Zs2 ?_; refine zd ?_; refine zf ?_; refine ze ?_; refine zm rfl ?_; refine zt ?_; refine zf ?_; refine ze ?_; refine zb (id := 2) ?_; refine Zs1 ?_; refine z7 (zo L rfl rfl (zg rfl) rfl rfl rfl (fun u H hH _ _ => Ret.of_same hH (Try.bits_Len64 (n : Int) u (by omega) (by omega)))) rfl ?_; refine Zs2 ?_; refine zd ?_; refine zf ?_
  refine qn L (rs := [.tmp 2]) rfl (fun _ _ h => h) Since.refl fun u H hH hle => ?_
  rw [Int.toNat_natCast, bitLen_eq n hn]
  rfl
theorem npot_ret {n : Nat} (hn : n ≤ 100000) {w : World} {B : Heap} (hB : B.Le (hp w)) : Ret Try.prog 106 [.int .i64 n] w B (fun v _ => v = .int .u64 (1 <<< bitsLen n : Nat)) := by
  have hb : bitsLen n ≤ 17 := (bitsLen_le_iff n 17).2 (by omega)
  have hp2 : (2 : Nat) ^ bitsLen n ≤ 2 ^ 17 := Nat.pow_le_pow_right (by omega) hb
  have hmin : min ((bitsLen n : Nat) : Int).toNat IntKind.u64.bits = bitsLen n := by
    rw [Int.toNat_natCast]
    have : IntKind.u64.bits = 64 := by decide
    omega
  have s1 : IntKind.u64.wrap ((1 : Int) * 2 ^ min ((bitsLen n : Nat) : Int).toNat IntKind.u64.bits) = ((1 <<< bitsLen n : Nat) : Int) := by
    rw [hmin, Nat.shiftLeft_eq, Nat.one_mul, Int.one_mul, Int.natCast_pow]
    have e2 : ((2 : Nat) : Int) ^ bitsLen n = ((2 ^ bitsLen n : Nat) : Int) := (Int.natCast_pow 2 _).symm
    rw [show ((2 : Int) ^ bitsLen n) = ((2 : Nat) : Int) ^ bitsLen n from rfl, e2]
    have hp3 : 2 ^ bitsLen n ≤ 131072 := hp2
    clear hp2 hmin e2
    generalize 2 ^ bitsLen n = M at *
    exact wrap_u64 (by omega) (by omega)
  have hc : IntKind.u64.wrap (n : Int) = (n : Int) := wrap_u64 (by omega) (by omega)
  refine ya Try.func106 rfl Try.ntmps106 (Nat.le_of_ble_eq_true rfl) hB ?_
  refine ze ?_; refine zb (id := 0) ?_; refine Zs2 ?_; refine zd ?_; refine zf ?_; refine ze ?_; refine zb (id := 1) ?_; refine Zs1 ?_; refine z7 (ok_conv rfl rfl rfl cv3_148.1 cv3_148.2 (wrap_u64 (by omega) (by omega))) rfl ?_; refine z7 (zo L rfl rfl (zg rfl) rfl rfl rfl (fun u H hH _ _ => bitslen_ret (by omega) hH)) rfl ?_; refine z7 (ok_shl rfl rfl rfl rfl (by omega) s1) rfl ?_; refine Zs2 ?_; refine zd ?_; refine zf ?_
  refine qn L (rs := [.tmp 2]) rfl (fun _ _ h => h) Since.refl fun u H hH hle => ?_
  rfl
set_option maxHeartbeats 2000000 in
set_option maxRecDepth 20000 in
theorem brk_ret {d : Array Int} {rest : List Value} {b m cap a e : Nat} (hab : a ≤ e) (he : e ≤ d.size) (hm : d.size = m) (hm1 : m ≤ 100000) {w : World} {B : Heap} {C : Nat → Prop} (hB : B.Le (hp w))
    (hr : (GHeld b (uC d ++ rest) tyU).P B w C) (hC : ∀ k, C k → k < w.heap.size ∧ B k = none) :
    RetG Try.prog 91 [.slice (some ⟨b, 0, none⟩) m cap, .int .i64 a, .int .i64 e] w B C (GHeld b (uC (breakPatterns d a e) ++ rest) tyU) := by
  unfold RetG
  refine V_enterG 900 (GHeld b (uC d ++ rest) tyU) Try.func91 rfl Try.ntmps91 (Nat.le_of_ble_eq_true rfl) hB hr hC ?_
  rw [gheld_res]
  obtain ⟨Ln, rfl⟩ : ∃ Ln, e = a + Ln := ⟨e - a, by omega⟩
  have hw0 : IntKind.i64.wrap (((a + Ln : Nat) : Int) - (a : Int)) = (Ln : Int) := wrap_i64 (by omega) (by omega) |>.trans (by omega)
  by_cases h8 : 8 ≤ Ln
  · have hX := breakPatterns_eq d a Ln h8
    obtain ⟨M, hM⟩ : ∃ M, M = 1 <<< bitsLen Ln := ⟨_, rfl⟩
    have hb17 : bitsLen Ln ≤ 17 := (bitsLen_le_iff Ln 17).2 (by omega)
    have hMp : 1 ≤ M ∧ M ≤ 131072 := by
      rw [hM, Nat.shiftLeft_eq, Nat.one_mul]
      exact ⟨Nat.one_le_two_pow, Nat.pow_le_pow_right (by omega) hb17⟩
    have hM2 : M ≤ 2 * Ln := by
      rw [hM, Nat.shiftLeft_eq, Nat.one_mul]
      exact two_pow_bitsLen_le (by omega)
    obtain ⟨I0, hI0⟩ : ∃ I0, I0 = a + Ln / 4 * 2 - 1 := ⟨_, rfl⟩
    rw [← hM, ← hI0] at hX
    have hc1 : IntKind.u64.wrap (Ln : Int) = (Ln : Int) := wrap_u64 (by omega) (by omega)
    have et : ((Ln : Nat) : Int).tdiv 4 = ((Ln / 4 : Nat) : Int) := by
      rw [Int.tdiv_eq_ediv_of_nonneg (by omega)]
      omega
    have hq : IntKind.i64.wrap (((Ln : Nat) : Int).tdiv 4) = ((Ln / 4 : Nat) : Int) := by rw [et]; exact wrap_i64 (by omega) (by omega)
    have hw1 : IntKind.i64.wrap (((Ln / 4 : Nat) : Int) * 2) = ((Ln / 4 * 2 : Nat) : Int) := wrap_i64 (by omega) (by omega) |>.trans (by omega)
    have hw2 : IntKind.i64.wrap ((a : Int) + ((Ln / 4 * 2 : Nat) : Int)) = ((a + Ln / 4 * 2 : Nat) : Int) := wrap_i64 (by omega) (by omega) |>.trans (by omega)
    have hw3 : IntKind.i64.wrap (((a + Ln / 4 * 2 : Nat) : Int) - 1) = (I0 : Int) := wrap_i64 (by omega) (by omega) |>.trans (by omega)
    have hw4 : IntKind.i64.wrap (((a + Ln / 4 * 2 : Nat) : Int) + 1) = ((I0 + 2 : Nat) : Int) := wrap_i64 (by omega) (by omega) |>.trans (by omega)
    have hM1 : IntKind.u64.wrap ((M : Int) - 1) = ((M - 1 : Nat) : Int) := wrap_u64 (by omega) (by omega) |>.trans (by omega)
    have hln : (UInt64.ofNat Ln).toNat = Ln := by
      rw [UInt64.toNat_ofNat']
      exact Nat.mod_eq_of_lt (by omega)
    refine ze ?_; refine zb (id := 0) ?_; refine Zs1 ?_; refine Zs1 ?_; refine Zs20 ?_; refine Zs2 ?_; refine zd ?_; refine zf ?_; refine ze ?_; refine zb (id := 1) ?_; refine Zs1 ?_; refine Zs30 ?_; refine zd ?_; refine zf ?_; refine zw rfl ?_; refine ze ?_; refine zb (id := 2) ?_; refine Zs1 ?_; refine z7 (ok_conv rfl rfl rfl cv3_178.1 cv3_178.2 (wrap_u64 (by omega) (by omega))) rfl ?_; refine Zs24 ?_; refine Zs14 ?_; refine zd ?_; refine zf ?_; refine ze ?_
    refine V_hold 7 901 rfl fun br => ?_
    refine zb (id := 3) ?_; refine Zs1 ?_; refine z7 (zo L rfl rfl (zg rfl) rfl rfl rfl (fun u H hH _ _ => hM ▸ npot_ret (n := Ln) (by omega) hH)) rfl ?_; refine Zs2 ?_; refine zd ?_; refine zf ?_; refine ze ?_; refine zb (id := 4) ?_; refine Zs1 ?_; refine Zs1 ?_; refine Zs33 ?_; refine Zs36 ?_; refine Zs18 ?_; refine Zs20 ?_; refine Zs2 ?_; refine zd ?_; refine zf ?_; refine zy ?_
    refine V_loop (fun s : Nat × (UInt64 × Array Int) => [(0, .is (.slice (some ⟨b, 0, none⟩) m cap)), (1, .is (.int .i64 a)), (6, .is (.int .i64 Ln)), (7, .is (.pointer (some ⟨br, 0, none⟩))), (8, .is (.int .u64 M)), (9, .is (.int .i64 (I0 + s.1 : Nat))), (900, .own (HeldR b (uC s.2.2 ++ rest) tyU)), (901, .own (HeldR br [.int .u64 s.2.1.toNat] tyX))]) (fun s => s.1 ≤ 3 ∧ s.2.2.size = m ∧ bpRest a Ln M I0 (3 - s.1) s.1 s.2 = breakPatterns d a (a + Ln)) (fun s => 3 - s.1) (0, (UInt64.ofNat Ln, d)) ⟨by dsimp only; omega, hm, hX.symm⟩ ⟨rfl, rfl, rfl, rfl, rfl, rfl, rfl, by dsimp only; rw [hln]; rfl, trivial⟩ ?_
    rintro ⟨t, ⟨r, D⟩⟩ ⟨ht3, hD, hst⟩
    dsimp only at ht3 hD hst ⊢
    have hrl : r.toNat < 18446744073709551616 := UInt64.toNat_lt r
    by_cases ht : t < 3
    · obtain ⟨o1, ho1⟩ : ∃ o1, o1 = xorNextN r.toNat &&& (M - 1) := ⟨_, rfl⟩
      have ho1l : o1 ≤ M - 1 := by rw [ho1]; exact Nat.and_le_right
      have hand : bits .and .u64 ((xorNextN r.toNat : Nat) : Int) ((M - 1 : Nat) : Int) = (o1 : Int) := by rw [bits_and_u64_nat _ _ (xorNextN_lt _ hrl) (by omega), ho1]
      have hcv : IntKind.i64.wrap (o1 : Int) = (o1 : Int) := wrap_i64 (by omega) (by omega)
      have hwt : IntKind.i64.wrap (((I0 + t : Nat) : Int) + 1) = ((I0 + (t + 1) : Nat) : Int) := wrap_i64 (by omega) (by omega) |>.trans (by omega)
      by_cases hoL : Ln ≤ o1
      · have hw5 : IntKind.i64.wrap ((o1 : Int) - (Ln : Int)) = ((o1 - Ln : Nat) : Int) := wrap_i64 (by omega) (by omega) |>.trans (by omega)
        have hw6 : IntKind.i64.wrap ((a : Int) + ((o1 - Ln : Nat) : Int)) = ((a + (o1 - Ln) : Nat) : Int) := wrap_i64 (by omega) (by omega)
        have ho : (if (xorNext r).toNat &&& (M - 1) ≥ Ln then ((xorNext r).toNat &&& (M - 1)) - Ln else (xorNext r).toNat &&& (M - 1)) = o1 - Ln := by rw [xorNext_toNat, ← ho1, if_pos hoL]
        obtain ⟨_, qj⟩ := u_at (rest := rest) (show a + (o1 - Ln) < D.size by omega) (0 + (a + (o1 - Ln)) * 1) rfl
        obtain ⟨_, qi⟩ := u_at (rest := rest) (show I0 + t < D.size by omega) (0 + (I0 + t) * 1) rfl
        have s1 := u_set (rest := rest) D[a + (o1 - Ln)]! (show I0 + t < D.size by omega) (0 + (I0 + t) * 1) rfl
        have b1 := u_ble (rest := rest) (show I0 + t < D.size by omega) (0 + (I0 + t) * 1) rfl
        have hz : a + (o1 - Ln) < (D.setIfInBounds (I0 + t) D[a + (o1 - Ln)]!).size := by rw [Array.size_setIfInBounds]; omega
        have s2 := u_set (rest := rest) D[I0 + t]! hz (0 + (a + (o1 - Ln)) * 1) rfl
        have b2 := u_ble (rest := rest) hz (0 + (a + (o1 - Ln)) * 1) rfl
        rw [swp_eq] at s2
        refine ze ?_; refine ze ?_; refine zb (id := 5) ?_; refine Zs1 ?_; refine Zs1 ?_; refine Zs1 ?_; refine Zs33 ?_; refine Zs36 ?_; refine Zs18 ?_; refine Zs18 ?_; refine Zs57 ?_; refine zd ?_; refine zf ?_; refine zw rfl ?_; refine zt ?_; refine zf ?_; refine ze ?_; refine zy ?_; refine ze ?_; refine zb (id := 7) ?_; refine qh (ok_callXG L 901 (GHeld br [.int .u64 (xorNextN r.toNat : Nat)] tyX) (.int .u64 (xorNextN r.toNat : Nat)) (r := GHeld br [.int .u64 r.toNat] tyX) rfl rfl rfl rfl rfl (fun u H C hH _ hr hC => next_ret hrl hH hr hC)) ?_; refine Zs1 ?_; refine Zs20 ?_; refine z7 (ok_and rfl rfl rfl rfl hand) rfl ?_; refine z7 (ok_conv rfl rfl rfl cv148_3.1 cv148_3.2 (wrap_i64 (by omega) (by omega))) rfl ?_; refine Zs2 ?_; refine zd ?_; refine zf ?_; refine ze ?_; refine ze ?_; refine zb (id := 8) ?_; refine Zs1 ?_; refine Zs1 ?_; refine Zs30 ?_; refine zd ?_; refine zf ?_; refine zw rfl ?_; refine zb (id := 9) ?_; refine Zs1 ?_; refine Zs1 ?_; refine Zs20 ?_; refine Zs2 ?_; refine zd ?_; refine zf ?_; refine zz (id := 10) [(200058, [900]), (200062, [900]), (100063, [900]), (100064, [900])] mixed (by kernel_rfl) ?_; refine Zs7 ?_; refine Zs7 ?_; refine Zs7 ?_; refine Zs7 ?_; refine Zs7 ?_; refine Zs34 ?_; refine Zs7 ?_; refine Zs7 ?_; refine Zs7 ?_; refine Zs34 ?_; refine z8 (zp L _ rfl rfl rfl rfl rfl rfl rfl (by omega)) rfl ?_; refine q8 (zx L (q := 900) rfl rfl rfl rfl rfl qj) rfl rfl ?_; refine Zs7 ?_; refine Zs7 ?_; refine z8 (zp L _ rfl rfl rfl rfl rfl rfl rfl (by omega)) rfl ?_; refine q8 (zx L (q := 900) rfl rfl rfl rfl rfl qi) rfl rfl ?_; refine z8 (zp L _ rfl rfl rfl rfl rfl rfl rfl (by omega)) rfl ?_; refine y9 (y2 L (q := 900) rfl rfl rfl rfl rfl rfl b1 rfl s1) rfl ?_; refine z8 (zp L _ rfl rfl rfl rfl rfl rfl rfl (by omega)) rfl ?_; refine y9 (y2 L (q := 900) rfl rfl rfl rfl rfl rfl b2 rfl s2) rfl ?_; refine qk ?_; refine qm ?_; refine zf ?_; refine zb (id := 6) ?_; refine Zs1 ?_; refine Zs18 ?_; refine Zs2 ?_; refine zd ?_
        exact y1 (x := (t, (r, D))) (t + 1, (xorNext r, swp D (I0 + t) (a + (o1 - Ln)))) ⟨by dsimp only; omega, by dsimp only; rw [swp_size]; exact hD, by dsimp only; rw [← hst, bp_step a Ln M I0 t r D ((o1 - Ln)) ht ho]⟩ (by dsimp only; omega) ⟨rfl, rfl, rfl, rfl, rfl, rfl, rfl, by dsimp only; rw [xorNext_toNat]; rfl, trivial⟩
      · have hw6 : IntKind.i64.wrap ((a : Int) + (o1 : Int)) = ((a + o1 : Nat) : Int) := wrap_i64 (by omega) (by omega)
        have ho : (if (xorNext r).toNat &&& (M - 1) ≥ Ln then ((xorNext r).toNat &&& (M - 1)) - Ln else (xorNext r).toNat &&& (M - 1)) = o1 := by rw [xorNext_toNat, ← ho1, if_neg (by omega)]
        obtain ⟨_, qj⟩ := u_at (rest := rest) (show a + o1 < D.size by omega) (0 + (a + o1) * 1) rfl
        obtain ⟨_, qi⟩ := u_at (rest := rest) (show I0 + t < D.size by omega) (0 + (I0 + t) * 1) rfl
        have s1 := u_set (rest := rest) D[a + o1]! (show I0 + t < D.size by omega) (0 + (I0 + t) * 1) rfl
        have b1 := u_ble (rest := rest) (show I0 + t < D.size by omega) (0 + (I0 + t) * 1) rfl
        have hz : a + o1 < (D.setIfInBounds (I0 + t) D[a + o1]!).size := by rw [Array.size_setIfInBounds]; omega
        have s2 := u_set (rest := rest) D[I0 + t]! hz (0 + (a + o1) * 1) rfl
        have b2 := u_ble (rest := rest) hz (0 + (a + o1) * 1) rfl
        rw [swp_eq] at s2
        refine ze ?_; refine ze ?_; refine zb (id := 5) ?_; refine Zs1 ?_; refine Zs1 ?_; refine Zs1 ?_; refine Zs33 ?_; refine Zs36 ?_; refine Zs18 ?_; refine Zs18 ?_; refine Zs57 ?_; refine zd ?_; refine zf ?_; refine zw rfl ?_; refine zt ?_; refine zf ?_; refine ze ?_; refine zy ?_; refine ze ?_; refine zb (id := 7) ?_; refine qh (ok_callXG L 901 (GHeld br [.int .u64 (xorNextN r.toNat : Nat)] tyX) (.int .u64 (xorNextN r.toNat : Nat)) (r := GHeld br [.int .u64 r.toNat] tyX) rfl rfl rfl rfl rfl (fun u H C hH _ hr hC => next_ret hrl hH hr hC)) ?_; refine Zs1 ?_; refine Zs20 ?_; refine z7 (ok_and rfl rfl rfl rfl hand) rfl ?_; refine z7 (ok_conv rfl rfl rfl cv148_3.1 cv148_3.2 (wrap_i64 (by omega) (by omega))) rfl ?_; refine Zs2 ?_; refine zd ?_; refine zf ?_; refine ze ?_; refine ze ?_; refine zb (id := 8) ?_; refine Zs1 ?_; refine Zs1 ?_; refine Zs22 ?_; refine zd ?_; refine zf ?_; refine zm rfl ?_; refine zt ?_; refine zf ?_; refine zz (id := 10) [(200058, [900]), (200062, [900]), (100063, [900]), (100064, [900])] mixed (by kernel_rfl) ?_; refine Zs7 ?_; refine Zs7 ?_; refine Zs7 ?_; refine Zs7 ?_; refine Zs7 ?_; refine Zs34 ?_; refine Zs7 ?_; refine Zs7 ?_; refine Zs7 ?_; refine Zs34 ?_; refine z8 (zp L _ rfl rfl rfl rfl rfl rfl rfl (by omega)) rfl ?_; refine q8 (zx L (q := 900) rfl rfl rfl rfl rfl qj) rfl rfl ?_; refine Zs7 ?_; refine Zs7 ?_; refine z8 (zp L _ rfl rfl rfl rfl rfl rfl rfl (by omega)) rfl ?_; refine q8 (zx L (q := 900) rfl rfl rfl rfl rfl qi) rfl rfl ?_; refine z8 (zp L _ rfl rfl rfl rfl rfl rfl rfl (by omega)) rfl ?_; refine y9 (y2 L (q := 900) rfl rfl rfl rfl rfl rfl b1 rfl s1) rfl ?_; refine z8 (zp L _ rfl rfl rfl rfl rfl rfl rfl (by omega)) rfl ?_; refine y9 (y2 L (q := 900) rfl rfl rfl rfl rfl rfl b2 rfl s2) rfl ?_; refine qk ?_; refine qm ?_; refine zf ?_; refine zb (id := 6) ?_; refine Zs1 ?_; refine Zs18 ?_; refine Zs2 ?_; refine zd ?_
        exact y1 (x := (t, (r, D))) (t + 1, (xorNext r, swp D (I0 + t) (a + o1))) ⟨by dsimp only; omega, by dsimp only; rw [swp_size]; exact hD, by dsimp only; rw [← hst, bp_step a Ln M I0 t r D (o1) ht ho]⟩ (by dsimp only; omega) ⟨rfl, rfl, rfl, rfl, rfl, rfl, rfl, by dsimp only; rw [xorNext_toNat]; rfl, trivial⟩
    · obtain rfl : t = 3 := by omega
      have hst' : D = breakPatterns d a (a + Ln) := hst
      rw [hst']
      refine ze ?_; refine ze ?_; refine zb (id := 5) ?_; refine Zs1 ?_; refine Zs1 ?_; refine Zs1 ?_; refine Zs33 ?_; refine Zs36 ?_; refine Zs18 ?_; refine Zs18 ?_; refine Zs56 ?_; refine zd ?_; refine zf ?_; refine zm rfl ?_; refine y7 ?_; refine qg ?_; refine qg ?_; refine y6 ?_
      exact N_retGhost L 900 (r := GHeld b _ tyU) rfl (fun _ _ h => h) Since.refl rfl rfl
  · have : breakPatterns d a (a + Ln) = d := by unfold breakPatterns; simp only [Nat.add_sub_cancel_left]; rw [if_neg (by omega)]
    rw [this]
    refine ze ?_; refine zb (id := 0) ?_; refine Zs1 ?_; refine Zs1 ?_; refine Zs20 ?_; refine Zs2 ?_; refine zd ?_; refine zf ?_; refine ze ?_; refine zb (id := 1) ?_; refine Zs1 ?_; refine Zs22 ?_; refine zd ?_; refine zf ?_; refine zm rfl ?_; refine zt ?_
    exact N_retGhost L 900 (r := GHeld b _ tyU) rfl (fun _ _ h => h) Since.refl rfl rfl
end Go.V.So
namespace Go.V.So
open Go.Proofs Go.RowKit Go.V Go.Sort
section
variable {P : Program} {F : Fr} {B : Heap} {n : Nat} {O : Boxes} {ops : Array Oper} {ex : Exs} {κ : Kap} {Q : Exit → Act → World → Prop} {o : Oper} {os : List Oper} {d : Nat} {k : Kn}
theorem _root_.Go.V.Zs74 (h : Par P F B n O ops ex (upd κ d k) os Q) (s : StepOK P F B n ops O κ o d k := by exact ok_load1c L (qz rfl (by assumption)) rfl rfl rfl (by assumption)) (v : vd o = some d := by rfl) : Par P F B n O ops ex κ (o :: os) Q := z8 s v h
end
abbrev tyI : TypeId := 3
theorem u_get {d : Array Int} {rest : List Value} {j : Nat} (h : j < d.size) : (uC d ++ rest)[0 + j * 1]? = some (.int .u64 d[j]!) := by
  rw [Nat.zero_add, Nat.mul_one, List.getElem?_append_left (by rw [uC_len]; exact h)]
  exact uC_get h
attribute [local irreducible] V N X VO Par StepOK Has Ret RetL RetO RetG RetX Src
set_option maxRecDepth 20000 in
theorem ord2_ret {d : Array Int} {rest : List Value} {b m cap a e bs k : Nat} (ha : a < m) (he : e < m) (hm : d.size = m) (hm1 : m ≤ 100000) (hk : k ≤ 1000) {w : World} {B : Heap} {C : Nat → Prop} (hB : B.Le (hp w)) (hb : B b = some (.cells (uC d ++ rest).toArray tyU))
    (hr : (GHeld bs [.int .i64 k] tyI).P B w C) (hC : ∀ k, C k → k < w.heap.size ∧ B k = none) :
    RetX Try.prog 111 [.slice (some ⟨b, 0, none⟩) m cap, .int .i64 a, .int .i64 e, .pointer (some ⟨bs, 0, none⟩)] w B C (GHeld bs [.int .i64 (order2 lt d a e k).2.2] tyI) (.tuple #[.int .i64 (order2 lt d a e k).1, .int .i64 (order2 lt d a e k).2.1]) := by
  unfold RetX
  refine V_enterG 900 (GHeld bs [.int .i64 k] tyI) Try.func111 rfl Try.ntmps111 (Nat.le_of_ble_eq_true rfl) hB hr hC ?_
  rw [gheld_res]
  have g1 := u_get (rest := rest) (show a < d.size by omega)
  have g2 := u_get (rest := rest) (show e < d.size by omega)
  have hw : IntKind.i64.wrap ((k : Int) + 1) = ((k + 1 : Nat) : Int) := wrap_i64 (by omega) (by omega)
  unfold order2
  cases hc : lt d[e]! d[a]! with
  | true =>
    refine ze ?_; refine zb (id := 0) ?_; refine Zs2 ?_; refine Zs2 ?_; refine zd ?_; refine zf ?_; refine ze ?_; refine ze ?_; refine zz (id := 1) [] mixed (by kernel_rfl) ?_; refine Zs7 ?_; refine Zs7 ?_; refine z8 (zp L _ rfl rfl rfl rfl rfl rfl rfl (by omega)) rfl ?_; refine Zs74 ?_; refine Zs7 ?_; refine Zs7 ?_; refine z8 (zp L _ rfl rfl rfl rfl rfl rfl rfl (by omega)) rfl ?_; refine Zs74 ?_; refine z8 (zo L rfl rfl (zg rfl) rfl rfl rfl (fun u H hH _ _ => lessU' hc hH)) rfl ?_; refine qk ?_; refine zf ?_; refine zw rfl ?_; refine ze ?_; refine zb (id := 2) ?_; refine Zs1 ?_; refine z7 (ok_nil rfl rfl rfl) rfl ?_; refine vo_stepR (zx L (q := 900) rfl rfl rfl rfl rfl rfl) ?_; refine Zs18 ?_; refine z7 (ok_nil rfl rfl rfl) rfl ?_; refine vo_stepS (y2 L (q := 900) rfl rfl rfl rfl rfl rfl rfl rfl rfl) ?_; refine zd ?_; refine zf ?_; refine ze ?_; refine zb (id := 3) ?_; refine Zs1 ?_; refine Zs1 ?_; refine Zs2 ?_; refine Zs2 ?_; refine zd ?_; refine zf ?_
    exact V_retX L 900 (r := GHeld bs _ tyI) (rs := [.tmp 8, .tmp 9]) rfl (fun _ _ h => h) Since.refl rfl rfl (fun _ => rfl)
  | false =>
    refine ze ?_; refine zb (id := 0) ?_; refine Zs2 ?_; refine Zs2 ?_; refine zd ?_; refine zf ?_; refine ze ?_; refine ze ?_; refine zz (id := 1) [] mixed (by kernel_rfl) ?_; refine Zs7 ?_; refine Zs7 ?_; refine z8 (zp L _ rfl rfl rfl rfl rfl rfl rfl (by omega)) rfl ?_; refine Zs74 ?_; refine Zs7 ?_; refine Zs7 ?_; refine z8 (zp L _ rfl rfl rfl rfl rfl rfl rfl (by omega)) rfl ?_; refine Zs74 ?_; refine z8 (zo L rfl rfl (zg rfl) rfl rfl rfl (fun u H hH _ _ => lessU' hc hH)) rfl ?_; refine qk ?_; refine zf ?_; refine zm rfl ?_; refine zt ?_; refine zf ?_; refine ze ?_; refine zb (id := 4) ?_; refine Zs1 ?_; refine Zs1 ?_; refine Zs2 ?_; refine Zs2 ?_; refine zd ?_; refine zf ?_
    exact V_retX L 900 (r := GHeld bs _ tyI) (rs := [.tmp 8, .tmp 9]) rfl (fun _ _ h => h) Since.refl rfl rfl (fun _ => rfl)
theorem ord2_lt (d : Array Int) {a e m k : Nat} (ha : a < m) (he : e < m) : (order2 lt d a e k).1 < m ∧ (order2 lt d a e k).2.1 < m ∧ (order2 lt d a e k).2.2 ≤ k + 1 := by
  unfold order2
  split
  · exact ⟨he, ha, Nat.le_refl _⟩
  · exact ⟨ha, he, Nat.le_succ _⟩
set_option maxRecDepth 20000 in
theorem med_ret {d : Array Int} {rest : List Value} {b m cap x y z bs k : Nat} (hx : x < m) (hy : y < m) (hz : z < m) (hm : d.size = m) (hm1 : m ≤ 100000) (hk : k ≤ 900) {w : World} {B : Heap} {C : Nat → Prop} (hB : B.Le (hp w)) (hb : B b = some (.cells (uC d ++ rest).toArray tyU))
    (hr : (GHeld bs [.int .i64 k] tyI).P B w C) (hC : ∀ k, C k → k < w.heap.size ∧ B k = none) :
    RetX Try.prog 109 [.slice (some ⟨b, 0, none⟩) m cap, .int .i64 x, .int .i64 y, .int .i64 z, .pointer (some ⟨bs, 0, none⟩)] w B C (GHeld bs [.int .i64 (median lt d x y z k).2] tyI) (.int .i64 (median lt d x y z k).1) := by
  unfold RetX
  refine V_enterG 900 (GHeld bs [.int .i64 k] tyI) Try.func109 rfl Try.ntmps109 (Nat.le_of_ble_eq_true rfl) hB hr hC ?_
  rw [gheld_res]
  unfold median
  dsimp only
  obtain ⟨r1, hr1⟩ : ∃ r, r = order2 lt d x y k := ⟨_, rfl⟩
  rw [← hr1]
  obtain ⟨r2, hr2⟩ : ∃ r, r = order2 lt d r1.2.1 z r1.2.2 := ⟨_, rfl⟩
  rw [← hr2]
  obtain ⟨r3, hr3⟩ : ∃ r, r = order2 lt d r1.1 r2.1 r2.2.2 := ⟨_, rfl⟩
  rw [← hr3]
  obtain ⟨a1, a2, a3⟩ := hr1 ▸ ord2_lt d (k := k) hx hy
  obtain ⟨b1, b2, b3⟩ := hr2 ▸ ord2_lt d (k := r1.2.2) a2 hz
  refine ze ?_; refine zb (id := 0) ?_; refine Zs2 ?_; refine zd ?_; refine zf ?_; refine ze ?_; refine zb (id := 1) ?_; refine Zs1 ?_; refine Zs1 ?_; refine Zs1 ?_; refine Zs1 ?_; refine qh (ok_callXG L 900 (GHeld bs [.int .i64 r1.2.2] tyI) (.tuple #[.int .i64 r1.1, .int .i64 r1.2.1]) (r := GHeld bs [.int .i64 k] tyI) rfl rfl rfl rfl rfl (fun u H C hH hle hr hC => by have h := ord2_ret (rest := rest) (cap := cap) hx hy hm hm1 (k := k) (by omega) hH (hle _ _ hb) hr hC; rw [← hr1] at h; exact h)) ?_; refine Zs1 ?_; refine Zs50 ?_; refine Zs50 ?_; refine Zs2 ?_; refine Zs2 ?_; refine zd ?_; refine zf ?_; refine ze ?_; refine zb (id := 2) ?_; refine Zs1 ?_; refine Zs1 ?_; refine Zs1 ?_; refine Zs1 ?_; refine qh (ok_callXG L 900 (GHeld bs [.int .i64 r2.2.2] tyI) (.tuple #[.int .i64 r2.1, .int .i64 r2.2.1]) (r := GHeld bs [.int .i64 r1.2.2] tyI) rfl rfl rfl rfl rfl (fun u H C hH hle hr hC => by have h := ord2_ret (rest := rest) (cap := cap) a2 hz hm hm1 (k := r1.2.2) (by omega) hH (hle _ _ hb) hr hC; rw [← hr2] at h; exact h)) ?_; refine Zs1 ?_; refine Zs50 ?_; refine Zs50 ?_; refine Zs2 ?_; refine Zs2 ?_; refine zd ?_; refine zf ?_; refine ze ?_; refine zb (id := 3) ?_; refine Zs1 ?_; refine Zs1 ?_; refine Zs1 ?_; refine Zs1 ?_; refine qh (ok_callXG L 900 (GHeld bs [.int .i64 r3.2.2] tyI) (.tuple #[.int .i64 r3.1, .int .i64 r3.2.1]) (r := GHeld bs [.int .i64 r2.2.2] tyI) rfl rfl rfl rfl rfl (fun u H C hH hle hr hC => by have h := ord2_ret (rest := rest) (cap := cap) a1 b1 hm hm1 (k := r2.2.2) (by omega) hH (hle _ _ hb) hr hC; rw [← hr3] at h; exact h)) ?_; refine Zs1 ?_; refine Zs50 ?_; refine Zs50 ?_; refine Zs2 ?_; refine Zs2 ?_; refine zd ?_; refine zf ?_; refine ze ?_; refine zb (id := 4) ?_; refine Zs1 ?_; refine Zs2 ?_; refine zd ?_; refine zf ?_
  exact V_retX L 900 (r := GHeld bs _ tyI) (rs := [.tmp 10]) rfl (fun _ _ h => h) Since.refl rfl rfl (fun _ => rfl)
theorem med_lt (d : Array Int) {x y z m k : Nat} (hx : x < m) (hy : y < m) (hz : z < m) : (median lt d x y z k).1 < m ∧ (median lt d x y z k).2 ≤ k + 3 := by
  unfold median
  dsimp only
  obtain ⟨a1, a2, a3⟩ := ord2_lt d (k := k) hx hy
  obtain ⟨b1, b2, b3⟩ := ord2_lt d (k := (order2 lt d x y k).2.2) a2 hz
  obtain ⟨c1, c2, c3⟩ := ord2_lt d (k := (order2 lt d (order2 lt d x y k).2.1 z (order2 lt d x y k).2.2).2.2) a1 b1
  exact ⟨c2, by omega⟩
set_option maxRecDepth 20000 in
theorem madj_ret {d : Array Int} {rest : List Value} {b m cap x bs k : Nat} (h1 : 1 ≤ x) (hx : x + 1 < m) (hm : d.size = m) (hm1 : m ≤ 100000) (hk : k ≤ 900) {w : World} {B : Heap} {C : Nat → Prop} (hB : B.Le (hp w)) (hb : B b = some (.cells (uC d ++ rest).toArray tyU))
    (hr : (GHeld bs [.int .i64 k] tyI).P B w C) (hC : ∀ k, C k → k < w.heap.size ∧ B k = none) :
    RetX Try.prog 108 [.slice (some ⟨b, 0, none⟩) m cap, .int .i64 x, .pointer (some ⟨bs, 0, none⟩)] w B C (GHeld bs [.int .i64 (medianAdjacent lt d x k).2] tyI) (.int .i64 (medianAdjacent lt d x k).1) := by
  unfold RetX
  refine V_enterG 900 (GHeld bs [.int .i64 k] tyI) Try.func108 rfl Try.ntmps108 (Nat.le_of_ble_eq_true rfl) hB hr hC ?_
  rw [gheld_res]
  unfold medianAdjacent
  have hw1 : IntKind.i64.wrap ((x : Int) - 1) = ((x - 1 : Nat) : Int) := wrap_i64 (by omega) (by omega) |>.trans (by omega)
  have hw2 : IntKind.i64.wrap ((x : Int) + 1) = ((x + 1 : Nat) : Int) := wrap_i64 (by omega) (by omega)
  refine ze ?_; refine zb (id := 0) ?_; refine Zs2 ?_; refine zd ?_; refine zf ?_; refine ze ?_; refine zb (id := 1) ?_; refine Zs1 ?_; refine Zs1 ?_; refine Zs20 ?_; refine Zs1 ?_; refine Zs1 ?_; refine Zs18 ?_; refine Zs1 ?_; refine qh (ok_callXG L 900 (GHeld bs [.int .i64 (median lt d (x - 1) x (x + 1) k).2] tyI) (.int .i64 (median lt d (x - 1) x (x + 1) k).1) (r := GHeld bs [.int .i64 k] tyI) rfl rfl rfl rfl rfl (fun u H C hH hle hr hC => med_ret (rest := rest) (cap := cap) (by omega) (by omega) (by omega) hm hm1 hk hH (hle _ _ hb) hr hC)) ?_; refine Zs2 ?_; refine zd ?_; refine zf ?_
  exact V_retX L 900 (r := GHeld bs _ tyI) (rs := [.tmp 6]) rfl (fun _ _ h => h) Since.refl rfl rfl (fun _ => rfl)
end Go.V.So
