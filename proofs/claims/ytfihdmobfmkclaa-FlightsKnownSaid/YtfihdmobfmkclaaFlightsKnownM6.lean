/- Texts on the way to FlightsKnown, part 6: one behind another. -/
import Derived.Test.YtfihdmobfmkclaaFlightsKnownM5
import Derived.Sort.Walk13
set_option linter.unusedVariables false
set_option linter.unusedSimpArgs false
namespace Go.V.So
open Go.Proofs Go.RowKit Go.V Go.Sort
def hintZ : Hint → Int
  | .unknown => 0
  | .increasing => 1
  | .decreasing => 2
attribute [local irreducible] V N X VO Par StepOK Has Ret RetL RetO RetG RetX Src
set_option maxHeartbeats 1000000 in
set_option maxRecDepth 20000 in
theorem piv_ret {d : Array Int} {rest : List Value} {b m cap a e : Nat} (h12 : 12 < e - a) (he : e ≤ m) (hm : d.size = m) (hm1 : m ≤ 100000) {w : World} {B : Heap} (hB : B.Le (hp w)) (hb : B b = some (.cells (uC d ++ rest).toArray tyU)) :
    Ret Try.prog 92 [.slice (some ⟨b, 0, none⟩) m cap, .int .i64 a, .int .i64 e] w B (fun v _ => v = .tuple #[.int .i64 (choosePivot lt d a e).1, .int .i64 (hintZ (choosePivot lt d a e).2)]) := by
  obtain ⟨Ln, rfl⟩ : ∃ Ln, e = a + Ln := ⟨e - a, by omega⟩
  rw [Nat.add_sub_cancel_left] at h12
  unfold choosePivot
  rw [Nat.add_sub_cancel_left]
  dsimp only
  obtain ⟨q, hq⟩ : ∃ q, q = Ln / 4 := ⟨_, rfl⟩
  rw [← hq, if_pos (by omega)]
  have hw0 : IntKind.i64.wrap (((a + Ln : Nat) : Int) - (a : Int)) = (Ln : Int) := wrap_i64 (by omega) (by omega) |>.trans (by omega)
  have et : ((Ln : Nat) : Int).tdiv 4 = (q : Int) := by
    rw [Int.tdiv_eq_ediv_of_nonneg (by omega)]
    omega
  have hq1 : IntKind.i64.wrap (((Ln : Nat) : Int).tdiv 4) = (q : Int) := by rw [et]; exact wrap_i64 (by omega) (by omega)
  have m1 : IntKind.i64.wrap ((q : Int) * 1) = ((q * 1 : Nat) : Int) := wrap_i64 (by omega) (by omega) |>.trans (by omega)
  have m2 : IntKind.i64.wrap ((q : Int) * 2) = ((q * 2 : Nat) : Int) := wrap_i64 (by omega) (by omega) |>.trans (by omega)
  have m3 : IntKind.i64.wrap ((q : Int) * 3) = ((q * 3 : Nat) : Int) := wrap_i64 (by omega) (by omega) |>.trans (by omega)
  have p1 : IntKind.i64.wrap ((a : Int) + ((q * 1 : Nat) : Int)) = ((a + q * 1 : Nat) : Int) := wrap_i64 (by omega) (by omega) |>.trans (by omega)
  have p2 : IntKind.i64.wrap ((a : Int) + ((q * 2 : Nat) : Int)) = ((a + q * 2 : Nat) : Int) := wrap_i64 (by omega) (by omega) |>.trans (by omega)
  have p3 : IntKind.i64.wrap ((a : Int) + ((q * 3 : Nat) : Int)) = ((a + q * 3 : Nat) : Int) := wrap_i64 (by omega) (by omega) |>.trans (by omega)
  refine ya Try.func92 rfl Try.ntmps92 (Nat.le_of_ble_eq_true rfl) hB ?_
  refine ze ?_; refine zb (id := 0) ?_; refine Zs2 ?_; refine Zs2 ?_; refine zd ?_; refine zf ?_; refine ze ?_; refine zb (id := 1) ?_; refine Zs1 ?_; refine Zs1 ?_; refine Zs20 ?_; refine Zs2 ?_; refine zd ?_; refine zf ?_; refine ze ?_; refine zb (id := 2) ?_; refine Zs24 ?_; refine zd ?_; refine zf ?_; refine ze ?_
  refine V_hold 9 901 rfl fun bs => ?_
  by_cases h50 : Ln ≥ 50
  · rw [if_pos h50]
    obtain ⟨r1, hr1⟩ : ∃ r, r = medianAdjacent lt d (a + q * 1) 0 := ⟨_, rfl⟩
    rw [← hr1]
    obtain ⟨r2, hr2⟩ : ∃ r, r = medianAdjacent lt d (a + q * 2) r1.2 := ⟨_, rfl⟩
    rw [← hr2]
    obtain ⟨r3, hr3⟩ : ∃ r, r = medianAdjacent lt d (a + q * 3) r2.2 := ⟨_, rfl⟩
    rw [← hr3]
    obtain ⟨r4, hr4⟩ : ∃ r, r = median lt d r1.1 r2.1 r3.1 r3.2 := ⟨_, rfl⟩
    rw [← hr4]
    obtain ⟨l1, s1⟩ : r1.1 < m ∧ r1.2 ≤ 0 + 3 := hr1 ▸ med_lt d (by omega) (by omega) (by omega)
    obtain ⟨l2, s2⟩ : r2.1 < m ∧ r2.2 ≤ r1.2 + 3 := hr2 ▸ med_lt d (by omega) (by omega) (by omega)
    obtain ⟨l3, s3⟩ : r3.1 < m ∧ r3.2 ≤ r2.2 + 3 := hr3 ▸ med_lt d (by omega) (by omega) (by omega)
    by_cases z0 : r4.2 = 0
    · rw [if_pos z0]
      refine zb (id := 3) ?_; refine Zs1 ?_; refine Zs1 ?_; refine Zs33 ?_; refine Zs36 ?_; refine Zs18 ?_; refine Zs2 ?_; refine zd ?_; refine zf ?_; refine ze ?_; refine zb (id := 4) ?_; refine Zs1 ?_; refine Zs1 ?_; refine Zs33 ?_; refine Zs36 ?_; refine Zs18 ?_; refine Zs2 ?_; refine zd ?_; refine zf ?_; refine ze ?_; refine zb (id := 5) ?_; refine Zs1 ?_; refine Zs1 ?_; refine Zs33 ?_; refine Zs36 ?_; refine Zs18 ?_; refine Zs2 ?_; refine zd ?_; refine zf ?_; refine ze ?_; refine ze ?_; refine zb (id := 6) ?_; refine Zs1 ?_; refine Zs30 ?_; refine zd ?_; refine zf ?_; refine zw rfl ?_; refine ze ?_; refine ze ?_; refine zb (id := 7) ?_; refine Zs1 ?_; refine Zs30 ?_; refine zd ?_; refine zf ?_; refine zw rfl ?_; refine ze ?_; refine zb (id := 8) ?_; refine Zs1 ?_; refine Zs1 ?_; refine qh (ok_callXG L 901 (GHeld bs [.int .i64 r1.2] tyI) (.int .i64 r1.1) (r := GHeld bs [.int .i64 0] tyI) rfl rfl rfl rfl rfl (fun u H C hH hle hr hC => by have h := madj_ret (rest := rest) (cap := cap) (d := d) (x := a + q * 1) (k := 0) (by omega) (by omega) hm hm1 (by omega) hH (hle _ _ hb) hr hC; rw [← hr1] at h; exact h)) ?_; refine Zs2 ?_; refine zd ?_; refine zf ?_; refine ze ?_; refine zb (id := 9) ?_; refine Zs1 ?_; refine Zs1 ?_; refine qh (ok_callXG L 901 (GHeld bs [.int .i64 r2.2] tyI) (.int .i64 r2.1) (r := GHeld bs [.int .i64 r1.2] tyI) rfl rfl rfl rfl rfl (fun u H C hH hle hr hC => by have h := madj_ret (rest := rest) (cap := cap) (d := d) (x := a + q * 2) (k := r1.2) (by omega) (by omega) hm hm1 (by omega) hH (hle _ _ hb) hr hC; rw [← hr2] at h; exact h)) ?_; refine Zs2 ?_; refine zd ?_; refine zf ?_; refine zb (id := 10) ?_; refine Zs1 ?_; refine Zs1 ?_; refine qh (ok_callXG L 901 (GHeld bs [.int .i64 r3.2] tyI) (.int .i64 r3.1) (r := GHeld bs [.int .i64 r2.2] tyI) rfl rfl rfl rfl rfl (fun u H C hH hle hr hC => by have h := madj_ret (rest := rest) (cap := cap) (d := d) (x := a + q * 3) (k := r2.2) (by omega) (by omega) hm hm1 (by omega) hH (hle _ _ hb) hr hC; rw [← hr3] at h; exact h)) ?_; refine Zs2 ?_; refine zd ?_; refine zf ?_; refine zb (id := 11) ?_; refine Zs1 ?_; refine Zs1 ?_; refine Zs1 ?_; refine Zs1 ?_; refine qh (ok_callXG L 901 (GHeld bs [.int .i64 r4.2] tyI) (.int .i64 r4.1) (r := GHeld bs [.int .i64 r3.2] tyI) rfl rfl rfl rfl rfl (fun u H C hH hle hr hC => by have h := med_ret (rest := rest) (cap := cap) (d := d) (x := r1.1) (y := r2.1) (z := r3.1) (k := r3.2) (by omega) (by omega) (by omega) hm hm1 (by omega) hH (hle _ _ hb) hr hC; rw [← hr4] at h; exact h)) ?_; refine Zs2 ?_; refine zd ?_; refine zf ?_; refine ze ?_; refine zb (id := 12) ?_; refine vo_stepR (zx L (q := 901) rfl rfl rfl rfl rfl rfl) ?_; refine zd ?_; refine zf ?_; refine zy ?_; refine ze ?_; refine zb (id := 14) ?_; refine Zs15 ?_; refine Zs2 ?_; refine zd ?_; refine zf ?_; refine zw rfl ?_; refine ze ?_; refine zb (id := 15) ?_; refine Zs1 ?_; refine Zs2 ?_; refine Zs2 ?_; refine zd ?_; refine zf ?_
      refine qn L (rs := [.tmp 6, .tmp 7]) rfl (fun _ _ h => h) Since.refl fun u H hH hle => ?_
      rfl
    · rw [if_neg z0]
      by_cases z12 : r4.2 = 12
      · rw [if_pos z12]
        refine zb (id := 3) ?_; refine Zs1 ?_; refine Zs1 ?_; refine Zs33 ?_; refine Zs36 ?_; refine Zs18 ?_; refine Zs2 ?_; refine zd ?_; refine zf ?_; refine ze ?_; refine zb (id := 4) ?_; refine Zs1 ?_; refine Zs1 ?_; refine Zs33 ?_; refine Zs36 ?_; refine Zs18 ?_; refine Zs2 ?_; refine zd ?_; refine zf ?_; refine ze ?_; refine zb (id := 5) ?_; refine Zs1 ?_; refine Zs1 ?_; refine Zs33 ?_; refine Zs36 ?_; refine Zs18 ?_; refine Zs2 ?_; refine zd ?_; refine zf ?_; refine ze ?_; refine ze ?_; refine zb (id := 6) ?_; refine Zs1 ?_; refine Zs30 ?_; refine zd ?_; refine zf ?_; refine zw rfl ?_; refine ze ?_; refine ze ?_; refine zb (id := 7) ?_; refine Zs1 ?_; refine Zs30 ?_; refine zd ?_; refine zf ?_; refine zw rfl ?_; refine ze ?_; refine zb (id := 8) ?_; refine Zs1 ?_; refine Zs1 ?_; refine qh (ok_callXG L 901 (GHeld bs [.int .i64 r1.2] tyI) (.int .i64 r1.1) (r := GHeld bs [.int .i64 0] tyI) rfl rfl rfl rfl rfl (fun u H C hH hle hr hC => by have h := madj_ret (rest := rest) (cap := cap) (d := d) (x := a + q * 1) (k := 0) (by omega) (by omega) hm hm1 (by omega) hH (hle _ _ hb) hr hC; rw [← hr1] at h; exact h)) ?_; refine Zs2 ?_; refine zd ?_; refine zf ?_; refine ze ?_; refine zb (id := 9) ?_; refine Zs1 ?_; refine Zs1 ?_; refine qh (ok_callXG L 901 (GHeld bs [.int .i64 r2.2] tyI) (.int .i64 r2.1) (r := GHeld bs [.int .i64 r1.2] tyI) rfl rfl rfl rfl rfl (fun u H C hH hle hr hC => by have h := madj_ret (rest := rest) (cap := cap) (d := d) (x := a + q * 2) (k := r1.2) (by omega) (by omega) hm hm1 (by omega) hH (hle _ _ hb) hr hC; rw [← hr2] at h; exact h)) ?_; refine Zs2 ?_; refine zd ?_; refine zf ?_; refine zb (id := 10) ?_; refine Zs1 ?_; refine Zs1 ?_; refine qh (ok_callXG L 901 (GHeld bs [.int .i64 r3.2] tyI) (.int .i64 r3.1) (r := GHeld bs [.int .i64 r2.2] tyI) rfl rfl rfl rfl rfl (fun u H C hH hle hr hC => by have h := madj_ret (rest := rest) (cap := cap) (d := d) (x := a + q * 3) (k := r2.2) (by omega) (by omega) hm hm1 (by omega) hH (hle _ _ hb) hr hC; rw [← hr3] at h; exact h)) ?_; refine Zs2 ?_; refine zd ?_; refine zf ?_; refine zb (id := 11) ?_; refine Zs1 ?_; refine Zs1 ?_; refine Zs1 ?_; refine Zs1 ?_; refine qh (ok_callXG L 901 (GHeld bs [.int .i64 r4.2] tyI) (.int .i64 r4.1) (r := GHeld bs [.int .i64 r3.2] tyI) rfl rfl rfl rfl rfl (fun u H C hH hle hr hC => by have h := med_ret (rest := rest) (cap := cap) (d := d) (x := r1.1) (y := r2.1) (z := r3.1) (k := r3.2) (by omega) (by omega) (by omega) hm hm1 (by omega) hH (hle _ _ hb) hr hC; rw [← hr4] at h; exact h)) ?_; refine Zs2 ?_; refine zd ?_; refine zf ?_; refine ze ?_; refine zb (id := 12) ?_; refine vo_stepR (zx L (q := 901) rfl rfl rfl rfl rfl rfl) ?_; refine zd ?_; refine zf ?_; refine zy ?_; refine ze ?_; refine zb (id := 14) ?_; refine Zs9 ?_; refine Zs2 ?_; refine zd ?_; refine zf ?_; refine zm rfl ?_; refine ze ?_; refine zb (id := 16) ?_; refine Zs15 ?_; refine Zs2 ?_; refine zd ?_; refine zf ?_; refine zw rfl ?_; refine ze ?_; refine zb (id := 17) ?_; refine Zs1 ?_; refine Zs2 ?_; refine Zs2 ?_; refine zd ?_; refine zf ?_
        refine qn L (rs := [.tmp 6, .tmp 7]) rfl (fun _ _ h => h) Since.refl fun u H hH hle => ?_
        rfl
      · rw [if_neg z12]
        refine zb (id := 3) ?_; refine Zs1 ?_; refine Zs1 ?_; refine Zs33 ?_; refine Zs36 ?_; refine Zs18 ?_; refine Zs2 ?_; refine zd ?_; refine zf ?_; refine ze ?_; refine zb (id := 4) ?_; refine Zs1 ?_; refine Zs1 ?_; refine Zs33 ?_; refine Zs36 ?_; refine Zs18 ?_; refine Zs2 ?_; refine zd ?_; refine zf ?_; refine ze ?_; refine zb (id := 5) ?_; refine Zs1 ?_; refine Zs1 ?_; refine Zs33 ?_; refine Zs36 ?_; refine Zs18 ?_; refine Zs2 ?_; refine zd ?_; refine zf ?_; refine ze ?_; refine ze ?_; refine zb (id := 6) ?_; refine Zs1 ?_; refine Zs30 ?_; refine zd ?_; refine zf ?_; refine zw rfl ?_; refine ze ?_; refine ze ?_; refine zb (id := 7) ?_; refine Zs1 ?_; refine Zs30 ?_; refine zd ?_; refine zf ?_; refine zw rfl ?_; refine ze ?_; refine zb (id := 8) ?_; refine Zs1 ?_; refine Zs1 ?_; refine qh (ok_callXG L 901 (GHeld bs [.int .i64 r1.2] tyI) (.int .i64 r1.1) (r := GHeld bs [.int .i64 0] tyI) rfl rfl rfl rfl rfl (fun u H C hH hle hr hC => by have h := madj_ret (rest := rest) (cap := cap) (d := d) (x := a + q * 1) (k := 0) (by omega) (by omega) hm hm1 (by omega) hH (hle _ _ hb) hr hC; rw [← hr1] at h; exact h)) ?_; refine Zs2 ?_; refine zd ?_; refine zf ?_; refine ze ?_; refine zb (id := 9) ?_; refine Zs1 ?_; refine Zs1 ?_; refine qh (ok_callXG L 901 (GHeld bs [.int .i64 r2.2] tyI) (.int .i64 r2.1) (r := GHeld bs [.int .i64 r1.2] tyI) rfl rfl rfl rfl rfl (fun u H C hH hle hr hC => by have h := madj_ret (rest := rest) (cap := cap) (d := d) (x := a + q * 2) (k := r1.2) (by omega) (by omega) hm hm1 (by omega) hH (hle _ _ hb) hr hC; rw [← hr2] at h; exact h)) ?_; refine Zs2 ?_; refine zd ?_; refine zf ?_; refine zb (id := 10) ?_; refine Zs1 ?_; refine Zs1 ?_; refine qh (ok_callXG L 901 (GHeld bs [.int .i64 r3.2] tyI) (.int .i64 r3.1) (r := GHeld bs [.int .i64 r2.2] tyI) rfl rfl rfl rfl rfl (fun u H C hH hle hr hC => by have h := madj_ret (rest := rest) (cap := cap) (d := d) (x := a + q * 3) (k := r2.2) (by omega) (by omega) hm hm1 (by omega) hH (hle _ _ hb) hr hC; rw [← hr3] at h; exact h)) ?_; refine Zs2 ?_; refine zd ?_; refine zf ?_; refine zb (id := 11) ?_; refine Zs1 ?_; refine Zs1 ?_; refine Zs1 ?_; refine Zs1 ?_; refine qh (ok_callXG L 901 (GHeld bs [.int .i64 r4.2] tyI) (.int .i64 r4.1) (r := GHeld bs [.int .i64 r3.2] tyI) rfl rfl rfl rfl rfl (fun u H C hH hle hr hC => by have h := med_ret (rest := rest) (cap := cap) (d := d) (x := r1.1) (y := r2.1) (z := r3.1) (k := r3.2) (by omega) (by omega) (by omega) hm hm1 (by omega) hH (hle _ _ hb) hr hC; rw [← hr4] at h; exact h)) ?_; refine Zs2 ?_; refine zd ?_; refine zf ?_; refine ze ?_; refine zb (id := 12) ?_; refine vo_stepR (zx L (q := 901) rfl rfl rfl rfl rfl rfl) ?_; refine zd ?_; refine zf ?_; refine zy ?_; refine ze ?_; refine zb (id := 14) ?_; refine Zs9 ?_; refine Zs2 ?_; refine zd ?_; refine zf ?_; refine zm rfl ?_; refine ze ?_; refine zb (id := 16) ?_; refine Zs9 ?_; refine Zs2 ?_; refine zd ?_; refine zf ?_; refine zm rfl ?_; refine ze ?_; refine zb (id := 13) ?_; refine Zs1 ?_; refine Zs2 ?_; refine Zs2 ?_; refine zd ?_; refine zf ?_
        refine qn L (rs := [.tmp 6, .tmp 7]) rfl (fun _ _ h => h) Since.refl fun u H hH hle => ?_
        rfl
  · rw [if_neg h50]
    obtain ⟨r4, hr4⟩ : ∃ r, r = median lt d (a + q * 1) (a + q * 2) (a + q * 3) 0 := ⟨_, rfl⟩
    rw [← hr4]
    by_cases z0 : r4.2 = 0
    · rw [if_pos z0]
      refine zb (id := 3) ?_; refine Zs1 ?_; refine Zs1 ?_; refine Zs33 ?_; refine Zs36 ?_; refine Zs18 ?_; refine Zs2 ?_; refine zd ?_; refine zf ?_; refine ze ?_; refine zb (id := 4) ?_; refine Zs1 ?_; refine Zs1 ?_; refine Zs33 ?_; refine Zs36 ?_; refine Zs18 ?_; refine Zs2 ?_; refine zd ?_; refine zf ?_; refine ze ?_; refine zb (id := 5) ?_; refine Zs1 ?_; refine Zs1 ?_; refine Zs33 ?_; refine Zs36 ?_; refine Zs18 ?_; refine Zs2 ?_; refine zd ?_; refine zf ?_; refine ze ?_; refine ze ?_; refine zb (id := 6) ?_; refine Zs1 ?_; refine Zs30 ?_; refine zd ?_; refine zf ?_; refine zw rfl ?_; refine ze ?_; refine ze ?_; refine zb (id := 7) ?_; refine Zs1 ?_; refine Zs22 ?_; refine zd ?_; refine zf ?_; refine zm rfl ?_; refine zt ?_; refine zf ?_; refine zb (id := 11) ?_; refine Zs1 ?_; refine Zs1 ?_; refine Zs1 ?_; refine Zs1 ?_; refine qh (ok_callXG L 901 (GHeld bs [.int .i64 r4.2] tyI) (.int .i64 r4.1) (r := GHeld bs [.int .i64 0] tyI) rfl rfl rfl rfl rfl (fun u H C hH hle hr hC => by have h := med_ret (rest := rest) (cap := cap) (d := d) (x := a + q * 1) (y := a + q * 2) (z := a + q * 3) (k := 0) (by omega) (by omega) (by omega) hm hm1 (by omega) hH (hle _ _ hb) hr hC; rw [← hr4] at h; exact h)) ?_; refine Zs2 ?_; refine zd ?_; refine zf ?_; refine ze ?_; refine zb (id := 12) ?_; refine vo_stepR (zx L (q := 901) rfl rfl rfl rfl rfl rfl) ?_; refine zd ?_; refine zf ?_; refine zy ?_; refine ze ?_; refine zb (id := 14) ?_; refine Zs15 ?_; refine Zs2 ?_; refine zd ?_; refine zf ?_; refine zw rfl ?_; refine ze ?_; refine zb (id := 15) ?_; refine Zs1 ?_; refine Zs2 ?_; refine Zs2 ?_; refine zd ?_; refine zf ?_
      refine qn L (rs := [.tmp 6, .tmp 7]) rfl (fun _ _ h => h) Since.refl fun u H hH hle => ?_
      rfl
    · rw [if_neg z0]
      by_cases z12 : r4.2 = 12
      · rw [if_pos z12]
        refine zb (id := 3) ?_; refine Zs1 ?_; refine Zs1 ?_; refine Zs33 ?_; refine Zs36 ?_; refine Zs18 ?_; refine Zs2 ?_; refine zd ?_; refine zf ?_; refine ze ?_; refine zb (id := 4) ?_; refine Zs1 ?_; refine Zs1 ?_; refine Zs33 ?_; refine Zs36 ?_; refine Zs18 ?_; refine Zs2 ?_; refine zd ?_; refine zf ?_; refine ze ?_; refine zb (id := 5) ?_; refine Zs1 ?_; refine Zs1 ?_; refine Zs33 ?_; refine Zs36 ?_; refine Zs18 ?_; refine Zs2 ?_; refine zd ?_; refine zf ?_; refine ze ?_; refine ze ?_; refine zb (id := 6) ?_; refine Zs1 ?_; refine Zs30 ?_; refine zd ?_; refine zf ?_; refine zw rfl ?_; refine ze ?_; refine ze ?_; refine zb (id := 7) ?_; refine Zs1 ?_; refine Zs22 ?_; refine zd ?_; refine zf ?_; refine zm rfl ?_; refine zt ?_; refine zf ?_; refine zb (id := 11) ?_; refine Zs1 ?_; refine Zs1 ?_; refine Zs1 ?_; refine Zs1 ?_; refine qh (ok_callXG L 901 (GHeld bs [.int .i64 r4.2] tyI) (.int .i64 r4.1) (r := GHeld bs [.int .i64 0] tyI) rfl rfl rfl rfl rfl (fun u H C hH hle hr hC => by have h := med_ret (rest := rest) (cap := cap) (d := d) (x := a + q * 1) (y := a + q * 2) (z := a + q * 3) (k := 0) (by omega) (by omega) (by omega) hm hm1 (by omega) hH (hle _ _ hb) hr hC; rw [← hr4] at h; exact h)) ?_; refine Zs2 ?_; refine zd ?_; refine zf ?_; refine ze ?_; refine zb (id := 12) ?_; refine vo_stepR (zx L (q := 901) rfl rfl rfl rfl rfl rfl) ?_; refine zd ?_; refine zf ?_; refine zy ?_; refine ze ?_; refine zb (id := 14) ?_; refine Zs9 ?_; refine Zs2 ?_; refine zd ?_; refine zf ?_; refine zm rfl ?_; refine ze ?_; refine zb (id := 16) ?_; refine Zs15 ?_; refine Zs2 ?_; refine zd ?_; refine zf ?_; refine zw rfl ?_; refine ze ?_; refine zb (id := 17) ?_; refine Zs1 ?_; refine Zs2 ?_; refine Zs2 ?_; refine zd ?_; refine zf ?_
        refine qn L (rs := [.tmp 6, .tmp 7]) rfl (fun _ _ h => h) Since.refl fun u H hH hle => ?_
        rfl
      · rw [if_neg z12]
        refine zb (id := 3) ?_; refine Zs1 ?_; refine Zs1 ?_; refine Zs33 ?_; refine Zs36 ?_; refine Zs18 ?_; refine Zs2 ?_; refine zd ?_; refine zf ?_; refine ze ?_; refine zb (id := 4) ?_; refine Zs1 ?_; refine Zs1 ?_; refine Zs33 ?_; refine Zs36 ?_; refine Zs18 ?_; refine Zs2 ?_; refine zd ?_; refine zf ?_; refine ze ?_; refine zb (id := 5) ?_; refine Zs1 ?_; refine Zs1 ?_; refine Zs33 ?_; refine Zs36 ?_; refine Zs18 ?_; refine Zs2 ?_; refine zd ?_; refine zf ?_; refine ze ?_; refine ze ?_; refine zb (id := 6) ?_; refine Zs1 ?_; refine Zs30 ?_; refine zd ?_; refine zf ?_; refine zw rfl ?_; refine ze ?_; refine ze ?_; refine zb (id := 7) ?_; refine Zs1 ?_; refine Zs22 ?_; refine zd ?_; refine zf ?_; refine zm rfl ?_; refine zt ?_; refine zf ?_; refine zb (id := 11) ?_; refine Zs1 ?_; refine Zs1 ?_; refine Zs1 ?_; refine Zs1 ?_; refine qh (ok_callXG L 901 (GHeld bs [.int .i64 r4.2] tyI) (.int .i64 r4.1) (r := GHeld bs [.int .i64 0] tyI) rfl rfl rfl rfl rfl (fun u H C hH hle hr hC => by have h := med_ret (rest := rest) (cap := cap) (d := d) (x := a + q * 1) (y := a + q * 2) (z := a + q * 3) (k := 0) (by omega) (by omega) (by omega) hm hm1 (by omega) hH (hle _ _ hb) hr hC; rw [← hr4] at h; exact h)) ?_; refine Zs2 ?_; refine zd ?_; refine zf ?_; refine ze ?_; refine zb (id := 12) ?_; refine vo_stepR (zx L (q := 901) rfl rfl rfl rfl rfl rfl) ?_; refine zd ?_; refine zf ?_; refine zy ?_; refine ze ?_; refine zb (id := 14) ?_; refine Zs9 ?_; refine Zs2 ?_; refine zd ?_; refine zf ?_; refine zm rfl ?_; refine ze ?_; refine zb (id := 16) ?_; refine Zs9 ?_; refine Zs2 ?_; refine zd ?_; refine zf ?_; refine zm rfl ?_; refine ze ?_; refine zb (id := 13) ?_; refine Zs1 ?_; refine Zs2 ?_; refine Zs2 ?_; refine zd ?_; refine zf ?_
        refine qn L (rs := [.tmp 6, .tmp 7]) rfl (fun _ _ h => h) Since.refl fun u H hH hle => ?_
        rfl
end Go.V.So
namespace Go.V.So
open Go.Proofs Go.RowKit Go.V Go.Sort
theorem hintZ_two {h : Hint} : hintZ h = 2 ↔ h = .decreasing := by cases h <;> simp [hintZ]
theorem lend_uC {b : Nat} {cs : List Value} {ty : TypeId} : ∀ v H u C, (HeldR b cs ty).P v H u C → joinH H u C b = some (.cells cs.toArray ty) := fun _ _ _ _ ⟨hb, hC⟩ => (joinH_in ((hC b).2 rfl)).trans hb
attribute [local irreducible] V N X VO Par StepOK Has Ret RetL RetO RetG RetX Src
set_option maxHeartbeats 4000000 in
set_option maxRecDepth 20000 in
theorem pdq_ret : ∀ (N : Nat) {d : Array Int} {rest : List Value} {b m cap a e lim : Nat} (_ : e - a < N) (_ : a ≤ e) (_ : e ≤ m) (_ : d.size = m) (_ : m ≤ 100000) (_ : lim ≤ 1000) (_ : Below lt a e d) {w : World} {B : Heap} {C : Nat → Prop} (_ : B.Le (hp w))
    (_ : (GHeld b (uC d ++ rest) tyU).P B w C) (_ : ∀ k, C k → k < w.heap.size ∧ B k = none),
    RetG Try.prog 78 [.slice (some ⟨b, 0, none⟩) m cap, .int .i64 a, .int .i64 e, .int .i64 lim] w B C (GHeld b (uC (pdq lt d a e lim true true) ++ rest) tyU) := by
  intro N
  induction N with
  | zero => intro d rest b m cap a e lim h; omega
  | succ N ih =>
  intro d rest b m cap a e lim hN hab he hm hm1 hlim hBel w B C hB hr hC
  unfold RetG
  refine V_enterG 900 (GHeld b (uC d ++ rest) tyU) Try.func78 rfl Try.ntmps78 (Nat.le_of_ble_eq_true rfl) hB hr hC ?_
  rw [gheld_res]
  obtain ⟨X, hX⟩ : ∃ X, X = pdq lt d a e lim true true := ⟨_, rfl⟩
  rw [← hX]
  refine ze ?_; refine zb (id := 0) ?_; refine Zs2 ?_; refine zd ?_; refine zf ?_; refine ze ?_; refine zb (id := 1) ?_; refine Zs2 ?_; refine zd ?_; refine zf ?_; refine zy ?_
  refine V_loop (fun s : ((Nat × Nat) × Nat) × ((Bool × Bool) × Array Int) => [(0, .is (.slice (some ⟨b, 0, none⟩) m cap)), (1, .is (.int .i64 s.1.1.1)), (2, .is (.int .i64 s.1.1.2)), (3, .is (.int .i64 s.1.2)), (8, .is (.bool s.2.1.1)), (9, .is (.bool s.2.1.2)), (900, .own (HeldR b (uC s.2.2 ++ rest) tyU))])
    (fun s => s.1.1.1 ≤ s.1.1.2 ∧ s.1.1.2 ≤ m ∧ s.1.1.2 - s.1.1.1 ≤ e - a ∧ s.1.2 ≤ 1000 ∧ s.2.2.size = m ∧ Below lt s.1.1.1 s.1.1.2 s.2.2 ∧ pdq lt s.2.2 s.1.1.1 s.1.1.2 s.1.2 s.2.1.1 s.2.1.2 = X) (fun s => s.1.1.2 - s.1.1.1) (((a, e), lim), ((true, true), d)) ⟨hab, he, Nat.le_refl _, hlim, hm, hBel, hX.symm⟩ ⟨rfl, rfl, rfl, rfl, rfl, rfl, rfl, trivial⟩ ?_
  rintro ⟨⟨⟨x, y⟩, l⟩, ⟨⟨wb, wp⟩, D⟩⟩ ⟨hxy, hy, hL, hl, hD, hBl, hP⟩
  dsimp only at hxy hy hL hl hD hBl hP ⊢
  clear hX hBel hm
  have hw0 : IntKind.i64.wrap ((y : Int) - (x : Int)) = ((y - x : Nat) : Int) := wrap_i64 (by omega) (by omega) |>.trans (by omega)
  by_cases h12 : y - x ≤ 12
  · rw [pdq_small h12] at hP
    rw [← hP]
    refine zy ?_; refine ze ?_; refine zb (id := 2) ?_; refine Zs1 ?_; refine Zs1 ?_; refine Zs20 ?_; refine Zs2 ?_; refine zd ?_; refine zf ?_; refine ze ?_; refine ze ?_; refine zb (id := 3) ?_; refine Zs1 ?_; refine Zs57 ?_; refine zd ?_; refine zf ?_; refine zw rfl ?_; refine ze ?_; refine zb (id := 4) ?_; refine Zs1 ?_; refine Zs1 ?_; refine Zs1 ?_; refine qh (ok_callG L 900 (GHeld b (uC (insertionSort lt D x y) ++ rest) tyU) (r := GHeld b (uC D ++ rest) tyU) rfl rfl rfl rfl rfl (fun u H C hH _ hr hC => ins_ret hxy (by omega) hD hm1 hH hr hC)) ?_; refine zd ?_; refine zf ?_
    exact V_retGhost L 900 (r := GHeld b _ tyU) rfl (fun _ _ h => h) Since.refl rfl rfl
  · by_cases hl0 : l = 0
    · rw [pdq_heap h12 hl0] at hP
      rw [← hP]
      refine zy ?_; refine ze ?_; refine zb (id := 2) ?_; refine Zs1 ?_; refine Zs1 ?_; refine Zs20 ?_; refine Zs2 ?_; refine zd ?_; refine zf ?_; refine ze ?_; refine ze ?_; refine zb (id := 3) ?_; refine Zs1 ?_; refine Zs56 ?_; refine zd ?_; refine zf ?_; refine zm rfl ?_; refine zt ?_; refine zf ?_; refine ze ?_; refine ze ?_; refine zb (id := 5) ?_; refine Zs1 ?_; refine Zs15 ?_; refine zd ?_; refine zf ?_; refine zw rfl ?_; refine ze ?_; refine zb (id := 6) ?_; refine Zs1 ?_; refine Zs1 ?_; refine Zs1 ?_; refine qh (ok_callG L 900 (GHeld b (uC (heapSort lt D x y) ++ rest) tyU) (r := GHeld b (uC D ++ rest) tyU) rfl rfl rfl rfl rfl (fun u H C hH _ hr hC => heap_ret (by omega) (by omega) hD hm1 hH hr hC)) ?_; refine zd ?_; refine zf ?_
      exact V_retGhost L 900 (r := GHeld b _ tyU) rfl (fun _ _ h => h) Since.refl rfl rfl
    · obtain ⟨s1, B1, hc1, s2, B2, hpv, s3, B3⟩ := rd_facts (lt := lt) (limit := l) (wb := wb) (wp := wp) swo_ltInt partialInsertionSort_holds reverseRange_holds (show x < y by omega) (show y ≤ D.size by omega) hBl
      have hlle : (rd lt D x y l wb wp).lim ≤ 1000 := Nat.le_trans rd_lim_le hl
      have hdone := fun h => pdq_done (lt := lt) (d := D) (wb := wb) (wp := wp) h12 hl0 h
      have heq := fun h1 h2 h3 => pdq_eq (lt := lt) (d := D) (wb := wb) (wp := wp) h12 hl0 h1 h2 h3
      have hleft := fun h1 h2 h3 h4 => pdq_left (lt := lt) (d := D) (wb := wb) (wp := wp) h12 hl0 h1 h2 h3 h4
      have hright := fun h1 h2 h3 h4 => pdq_right (lt := lt) (d := D) (wb := wb) (wp := wp) h12 hl0 h1 h2 h3 h4
      have hrt : wb = true → (rd lt D x y l wb wp).d1 = D ∧ (rd lt D x y l wb wp).lim = l := fun e => by subst e; exact rd_true
      have hrf : wb = false → (rd lt D x y l wb wp).d1 = breakPatterns D x y ∧ (rd lt D x y l wb wp).lim = l - 1 := fun e => by subst e; exact rd_false
      have hrc := rd_c (lt := lt) (d := D) (a := x) (b := y) (limit := l) (wb := wb) (wp := wp)
      have hde := fun h => rd_dec (lt := lt) (d := D) (a := x) (b := y) (limit := l) (wb := wb) (wp := wp) h
      have hno := fun h => rd_not (lt := lt) (d := D) (a := x) (b := y) (limit := l) (wb := wb) (wp := wp) h
      have hpy := fun h => rd_pi_yes (lt := lt) (d := D) (a := x) (b := y) (limit := l) (wb := wb) (wp := wp) h
      have hpn := fun h => rd_pi_no (lt := lt) (d := D) (a := x) (b := y) (limit := l) (wb := wb) (wp := wp) h
      rw [hP] at hdone heq hleft hright
      generalize (rd lt D x y l wb wp) = R at *
      refine zy ?_; refine ze ?_; refine zb (id := 2) ?_; refine Zs1 ?_; refine Zs1 ?_; refine Zs20 ?_; refine Zs2 ?_; refine zd ?_; refine zf ?_; refine ze ?_; refine ze ?_; refine zb (id := 3) ?_; refine Zs1 ?_; refine Zs56 ?_; refine zd ?_; refine zf ?_; refine zm rfl ?_; refine zt ?_; refine zf ?_; refine ze ?_; refine ze ?_; refine zb (id := 5) ?_; refine Zs1 ?_; refine Zs9 ?_; refine zd ?_; refine zf ?_; refine zm rfl ?_; refine zt ?_; refine zf ?_; refine ze ?_; refine ze ?_
      refine V_meetC (fun _ : Unit => [(0, .is (.slice (some ⟨b, 0, none⟩) m cap)), (1, .is (.int .i64 x)), (2, .is (.int .i64 y)), (3, .is (.int .i64 R.lim)), (8, .is (.bool wb)), (9, .is (.bool wp)), (10, .is (.int .i64 (y - x : Nat))), (900, .own (HeldR b (uC R.d1 ++ rest) tyU))]) (fun _ => True) (fun _ => []) ?rest1 ?first1
      case first1 =>
        cases wb with
        | true =>
          obtain ⟨e1, e2⟩ := hrt rfl
          rw [e1, e2]
          refine zb (id := 7) ?_; refine Zs1 ?_; refine Zs49 ?_; refine zd ?_; refine zf ?_; refine zm rfl ?_; refine zt ?_
          exact N_mids () Since.refl trivial rfl ⟨rfl, rfl, rfl, rfl, rfl, rfl, rfl, rfl, trivial⟩
        | false =>
          obtain ⟨e1, e2⟩ := hrf rfl
          have hw1 : IntKind.i64.wrap ((l : Int) - 1) = ((l - 1 : Nat) : Int) := wrap_i64 (by omega) (by omega) |>.trans (by omega)
          rw [e1, e2]
          refine zb (id := 7) ?_; refine Zs1 ?_; refine Zs49 ?_; refine zd ?_; refine zf ?_; refine zw rfl ?_; refine ze ?_; refine zb (id := 8) ?_; refine Zs1 ?_; refine Zs1 ?_; refine Zs1 ?_; refine qh (ok_callG L 900 (GHeld b (uC (breakPatterns D x y) ++ rest) tyU) (r := GHeld b (uC D ++ rest) tyU) rfl rfl rfl rfl rfl (fun u H C hH _ hr hC => brk_ret (by omega) (by omega) hD hm1 hH hr hC)) ?_; refine zd ?_; refine zf ?_; refine zb (id := 9) ?_; refine Zs1 ?_; refine Zs20 ?_; refine Zs2 ?_; refine zd ?_
          exact N_mids () Since.refl trivial rfl ⟨rfl, rfl, rfl, rfl, rfl, rfl, rfl, rfl, trivial⟩
      intro _ _
      refine ze ?_; refine zb (id := 10) ?_; refine Zs1 ?_; refine Zs1 ?_; refine Zs1 ?_; refine vo_stepR (ok_callLendG L 900 (Φ := fun H => H b = some (.cells (uC R.d1 ++ rest).toArray tyU)) (c := .tuple #[.int .i64 R.c.1, .int .i64 (hintZ R.c.2)]) rfl rfl (zg rfl) rfl rfl rfl rfl rfl lend_uC (fun u H hH hle h1 => by rw [hrc]; exact piv_ret (by omega) hy (by omega) hm1 hH h1)) ?_; refine Zs1 ?_; refine Zs50 ?_; refine Zs50 ?_; refine Zs2 ?_; refine Zs2 ?_; refine zd ?_; refine zf ?_; refine ze ?_; refine ze ?_
      refine V_meetC (fun _ : Unit => [(0, .is (.slice (some ⟨b, 0, none⟩) m cap)), (1, .is (.int .i64 x)), (2, .is (.int .i64 y)), (3, .is (.int .i64 R.lim)), (8, .is (.bool wb)), (9, .is (.bool wp)), (10, .is (.int .i64 (y - x : Nat))), (11, .is (.int .i64 R.pivot)), (12, .is (.int .i64 (hintZ R.hint))), (900, .own (HeldR b (uC R.d2 ++ rest) tyU))]) (fun _ => True) (fun _ => []) ?rest2 ?first2
      case first2 =>
        by_cases hdec : R.c.2 = .decreasing
        · obtain ⟨e1, e2, e3⟩ := hde hdec
          have hz : hintZ R.c.2 = 2 := by rw [hdec]; rfl
          rw [e1, e2, e3]
          have w1 : IntKind.i64.wrap ((y : Int) - 1) = ((y - 1 : Nat) : Int) := wrap_i64 (by omega) (by omega) |>.trans (by omega)
          have w2 : IntKind.i64.wrap ((R.c.1 : Int) - (x : Int)) = ((R.c.1 - x : Nat) : Int) := wrap_i64 (by omega) (by omega) |>.trans (by omega)
          have w3 : IntKind.i64.wrap (((y - 1 : Nat) : Int) - ((R.c.1 - x : Nat) : Int)) = ((y - 1 - (R.c.1 - x) : Nat) : Int) := wrap_i64 (by omega) (by omega) |>.trans (by omega)
          refine zb (id := 11) ?_; refine Zs1 ?_; refine Zs15 ?_; refine zd ?_; refine zf ?_; refine zw rfl ?_; refine ze ?_; refine zb (id := 12) ?_; refine Zs1 ?_; refine Zs1 ?_; refine Zs1 ?_; refine qh (ok_callG L 900 (GHeld b (uC (reverseRange R.d1 x y) ++ rest) tyU) (r := GHeld b (uC R.d1 ++ rest) tyU) rfl rfl rfl rfl rfl (fun u H C hH _ hr hC => rev_ret (by omega) (by omega) (by omega) hm1 hH hr hC)) ?_; refine zd ?_; refine zf ?_; refine ze ?_; refine zb (id := 13) ?_; refine Zs1 ?_; refine Zs20 ?_; refine Zs1 ?_; refine Zs1 ?_; refine Zs20 ?_; refine Zs20 ?_; refine Zs2 ?_; refine zd ?_; refine zf ?_; refine zb (id := 14) ?_; refine Zs2 ?_; refine zd ?_
          exact N_mids () Since.refl trivial rfl ⟨rfl, rfl, rfl, rfl, rfl, rfl, rfl, rfl, rfl, rfl, trivial⟩
        · obtain ⟨e1, e2, e3⟩ := hno hdec
          have hz : hintZ R.c.2 ≠ 2 := fun h => hdec (hintZ_two.1 h)
          rw [e1, e2, e3]
          refine zb (id := 11) ?_; refine Zs1 ?_; refine Zs9 ?_; refine zd ?_; refine zf ?_; refine zm rfl ?_; refine zt ?_
          exact N_mids () Since.refl trivial rfl ⟨rfl, rfl, rfl, rfl, rfl, rfl, rfl, rfl, rfl, rfl, trivial⟩
      intro _ _
      refine ze (ze (V_meetC (fun _ : Unit => [(0, .is (.slice (some ⟨b, 0, none⟩) m cap)), (1, .is (.int .i64 x)), (2, .is (.int .i64 y)), (3, .is (.int .i64 R.lim)), (8, .is (.bool wb)), (9, .is (.bool wp)), (10, .is (.int .i64 (y - x : Nat))), (11, .is (.int .i64 R.pivot)), (900, .own (HeldR b (uC R.pi.1 ++ rest) tyU))]) (fun _ => R.pi.2 = false) (fun _ => []) ?rest3 ?first3))
      case first3 =>
        cases wb with
        | false =>
          have hpi := hpn rfl
          rw [hpi]
          refine zb (id := 15) ?_; refine Zs1 ?_; refine Zs1 ?_; refine Zs3 ?_; refine Zs6 ?_; refine Zs1 ?_; refine Zs3 ?_; refine Zs3 ?_; refine Zs6 ?_; refine zd ?_; refine zf ?_; refine zm rfl ?_; refine zt ?_
          exact N_mids () Since.refl rfl rfl ⟨rfl, rfl, rfl, rfl, rfl, rfl, rfl, rfl, rfl, trivial⟩
        | true =>
          cases wp with
          | false =>
            have hpi := hpn rfl
            rw [hpi]
            refine zb (id := 15) ?_; refine Zs1 ?_; refine Zs1 ?_; refine Zs1 ?_; refine Zs6 ?_; refine Zs1 ?_; refine Zs3 ?_; refine Zs3 ?_; refine Zs6 ?_; refine zd ?_; refine zf ?_; refine zm rfl ?_; refine zt ?_
            exact N_mids () Since.refl rfl rfl ⟨rfl, rfl, rfl, rfl, rfl, rfl, rfl, rfl, rfl, trivial⟩
          | true =>
            by_cases hi : R.hint = .increasing
            · have hz : hintZ R.hint = 1 := by rw [hi]; rfl
              have hpi := hpy (by rw [hi]; rfl)
              cases hb : (partialInsertionSort lt R.d2 x y).2 with
              | true =>
                rw [hdone (by rw [hpi]; exact hb)]
                refine zb (id := 15) ?_; refine Zs1 ?_; refine Zs1 ?_; refine Zs1 ?_; refine Zs6 ?_; refine Zs1 ?_; refine Zs1 ?_; refine Zs15 ?_; refine Zs6 ?_; refine zd ?_; refine zf ?_; refine zw rfl ?_; refine ze ?_; refine zb (id := 16) ?_; refine Zs1 ?_; refine Zs1 ?_; refine Zs1 ?_; refine qh (ok_callXG L 900 (GHeld b (uC R.pi.1 ++ rest) tyU) (.bool true) (r := GHeld b (uC R.d2 ++ rest) tyU) rfl rfl rfl rfl rfl (fun u H C hH hle hr hC => by have h := pins_ret (rest := rest) (cap := cap) (d := R.d2) (a := x) (e := y) (m := m) (by omega) (by omega) (by omega) hm1 hH hr hC; rw [hb, ← hpi] at h; exact h)) ?_; refine zd ?_; refine zf ?_; refine zw rfl ?_
                exact V_retGhost L 900 (r := GHeld b _ tyU) rfl (fun _ _ h => h) Since.refl rfl rfl
              | false =>
                refine zb (id := 15) ?_; refine Zs1 ?_; refine Zs1 ?_; refine Zs1 ?_; refine Zs6 ?_; refine Zs1 ?_; refine Zs1 ?_; refine Zs15 ?_; refine Zs6 ?_; refine zd ?_; refine zf ?_; refine zw rfl ?_; refine ze ?_; refine zb (id := 16) ?_; refine Zs1 ?_; refine Zs1 ?_; refine Zs1 ?_; refine qh (ok_callXG L 900 (GHeld b (uC R.pi.1 ++ rest) tyU) (.bool false) (r := GHeld b (uC R.d2 ++ rest) tyU) rfl rfl rfl rfl rfl (fun u H C hH hle hr hC => by have h := pins_ret (rest := rest) (cap := cap) (d := R.d2) (a := x) (e := y) (m := m) (by omega) (by omega) (by omega) hm1 hH hr hC; rw [hb, ← hpi] at h; exact h)) ?_; refine zd ?_; refine zf ?_; refine zm rfl ?_; refine zt ?_
                exact N_mids () Since.refl (by rw [hpi]; exact hb) rfl ⟨rfl, rfl, rfl, rfl, rfl, rfl, rfl, rfl, rfl, trivial⟩
            · have hz : hintZ R.hint ≠ 1 := fun h => by
                cases hh : R.hint with
                | unknown => rw [hh] at h; cases h
                | increasing => exact hi hh
                | decreasing => rw [hh] at h; cases h
              have hpi := hpn (by simp [hi])
              rw [hpi]
              refine zb (id := 15) ?_; refine Zs1 ?_; refine Zs1 ?_; refine Zs1 ?_; refine Zs6 ?_; refine Zs1 ?_; refine Zs1 ?_; refine Zs9 ?_; refine Zs6 ?_; refine zd ?_; refine zf ?_; refine zm rfl ?_; refine zt ?_
              exact N_mids () Since.refl rfl rfl ⟨rfl, rfl, rfl, rfl, rfl, rfl, rfl, rfl, rfl, trivial⟩
      intro _ h2
      obtain ⟨_, q2⟩ := u_at (rest := rest) (show R.pivot < R.pi.1.size by omega) (0 + (R.pivot) * 1) rfl
      by_cases hx0 : 0 < x
      · obtain ⟨_, q1⟩ := u_at (rest := rest) (show x - 1 < R.pi.1.size by omega) (0 + (x - 1) * 1) rfl
        have hw3 : IntKind.i64.wrap ((x : Int) - 1) = ((x - 1 : Nat) : Int) := wrap_i64 (by omega) (by omega) |>.trans (by omega)
        cases hc : lt R.pi.1[x - 1]! R.pi.1[R.pivot]! with
        | false =>
          obtain ⟨mid, d4, hx⟩ : ∃ mid d4, partitionEqual lt R.pi.1 x y R.pivot = (mid, d4) := ⟨_, _, rfl⟩
          obtain ⟨g1, g2, g3, g4, _⟩ := round_eq swo_ltInt (partitionEqual_holds lt) hx0 hpv.1 hpv.2 (by omega) B3 hc hx
          have hn := heq h2 (by simp [hx0, hc]) (by rw [hx]; exact ⟨g1, g2⟩)
          rw [hx] at hn
          refine ze ?_; refine ze ?_; refine zz (id := 17) [(200080, [900]), (200084, [900])] mixed (by kernel_rfl) ?_; refine Zs7 ?_; refine Zs53 ?_; refine Zs7 ?_; refine Zs7 ?_; refine Zs7 ?_; refine Zs44 ?_; refine z8 (zp L _ rfl rfl rfl rfl rfl rfl rfl (by omega)) rfl ?_; refine q8 (zx L (q := 900) rfl rfl rfl rfl rfl q1) rfl rfl ?_; refine Zs7 ?_; refine Zs7 ?_; refine z8 (zp L _ rfl rfl rfl rfl rfl rfl rfl (by omega)) rfl ?_; refine q8 (zx L (q := 900) rfl rfl rfl rfl rfl q2) rfl rfl ?_; refine z8 (zo L rfl rfl (zg rfl) rfl rfl rfl (fun u H hH _ _ => lessU' hc hH)) rfl ?_; refine Zs47 ?_; refine Zs28 ?_; refine qk ?_; refine zf ?_; refine zw rfl ?_; refine ze ?_; refine zb (id := 18) ?_; refine Zs1 ?_; refine Zs1 ?_; refine Zs1 ?_; refine Zs1 ?_; refine qh (ok_callXG L 900 (GHeld b (uC d4 ++ rest) tyU) (.int .i64 mid) (r := GHeld b (uC R.pi.1 ++ rest) tyU) rfl rfl rfl rfl rfl (fun u H C hH hle hr hC => by have h := peq_ret (rest := rest) (cap := cap) (d := R.pi.1) hpv.1 hpv.2 (by omega) (m := m) (by omega) hm1 hH hr hC; rw [hx] at h; exact h)) ?_; refine Zs2 ?_; refine zd ?_; refine zf ?_; refine ze ?_; refine zb (id := 19) ?_; refine Zs1 ?_; refine Zs2 ?_; refine zd ?_; refine zf ?_; refine y7 ?_; refine qg ?_; refine y6 ?_
          exact y1 (x := (((x, y), l), ((wb, wp), D))) (((mid, y), R.lim), ((wb, wp), d4)) ⟨by dsimp only; omega, hy, by dsimp only; omega, hlle, by dsimp only; omega, g4, hn.symm⟩ (by dsimp only; omega) ⟨rfl, rfl, rfl, rfl, rfl, rfl, rfl, trivial⟩
        | true =>
          have h2b : (decide (x > 0) && !lt R.pi.1[x - 1]! R.pi.1[R.pivot]!) = false := by simp [hc]
          obtain ⟨mid, ap, d4, hx⟩ : ∃ mid ap d4, Go.Sort.partition lt R.pi.1 x y R.pivot = (mid, ap, d4) := ⟨_, _, _, rfl⟩
          obtain ⟨g1, g2, g3, g4, g5, gL, gR⟩ := round_part swo_ltInt (partition_holds lt) hpv.1 hpv.2 (by omega) B3 hx
          have w1 : IntKind.i64.wrap ((mid : Int) - (x : Int)) = ((mid - x : Nat) : Int) := wrap_i64 (by omega) (by omega) |>.trans (by omega)
          have w2 : IntKind.i64.wrap ((y : Int) - (mid : Int)) = ((y - mid : Nat) : Int) := wrap_i64 (by omega) (by omega) |>.trans (by omega)
          have w4 : IntKind.i64.wrap ((mid : Int) + 1) = ((mid + 1 : Nat) : Int) := wrap_i64 (by omega) (by omega)
          have et : ((y - x : Nat) : Int).tdiv 8 = (((y - x) / 8 : Nat) : Int) := by
            rw [Int.tdiv_eq_ediv_of_nonneg (by omega)]
            omega
          have w3 : IntKind.i64.wrap (((y - x : Nat) : Int).tdiv 8) = (((y - x) / 8 : Nat) : Int) := by rw [et]; exact wrap_i64 (by omega) (by omega)
          by_cases hlr : mid - x < y - mid
          · have hn := hleft h2 h2b (by rw [hx]; exact ⟨g1, g2⟩) (by rw [hx]; exact hlr)
            rw [hx] at hn
            dsimp only at hn
            obtain ⟨pL, sL⟩ := pdq_sorts lt swo_ltInt d4 x mid R.lim true true g1 (by omega) g4
            obtain ⟨LL, hLL⟩ : ∃ LL, LL = pdq lt d4 x mid R.lim true true := ⟨_, rfl⟩
            rw [← hLL] at hn pL sL
            obtain ⟨gB, _⟩ := gL LL pL sL
            have hLs : LL.size = d4.size := pL.1
            by_cases h8 : mid - x ≥ (y - x) / 8
            · rw [decide_eq_true h8] at hn
              refine ze ?_; refine ze ?_; refine zz (id := 17) [(200080, [900]), (200084, [900])] mixed (by kernel_rfl) ?_; refine Zs7 ?_; refine Zs53 ?_; refine Zs7 ?_; refine Zs7 ?_; refine Zs7 ?_; refine Zs44 ?_; refine z8 (zp L _ rfl rfl rfl rfl rfl rfl rfl (by omega)) rfl ?_; refine q8 (zx L (q := 900) rfl rfl rfl rfl rfl q1) rfl rfl ?_; refine Zs7 ?_; refine Zs7 ?_; refine z8 (zp L _ rfl rfl rfl rfl rfl rfl rfl (by omega)) rfl ?_; refine q8 (zx L (q := 900) rfl rfl rfl rfl rfl q2) rfl rfl ?_; refine z8 (zo L rfl rfl (zg rfl) rfl rfl rfl (fun u H hH _ _ => lessU' hc hH)) rfl ?_; refine Zs47 ?_; refine Zs28 ?_; refine qk ?_; refine zf ?_; refine zm rfl ?_; refine zt ?_; refine zf ?_; refine ze ?_; refine zb (id := 20) ?_; refine Zs1 ?_; refine Zs1 ?_; refine Zs1 ?_; refine Zs1 ?_; refine qh (ok_callXG L 900 (GHeld b (uC d4 ++ rest) tyU) (.tuple #[.int .i64 mid, .bool ap]) (r := GHeld b (uC R.pi.1 ++ rest) tyU) rfl rfl rfl rfl rfl (fun u H C hH hle hr hC => by have h := part_ret (rest := rest) (cap := cap) (d := R.pi.1) hpv.1 hpv.2 (by omega) (m := m) (by omega) hm1 hH hr hC; rw [hx] at h; exact h)) ?_; refine Zs1 ?_; refine Zs50 ?_; refine Zs50 ?_; refine Zs2 ?_; refine Zs2 ?_; refine zd ?_; refine zf ?_; refine ze ?_; refine zb (id := 21) ?_; refine Zs1 ?_; refine Zs2 ?_; refine zd ?_; refine zf ?_; refine ze ?_; refine zb (id := 22) ?_; refine Zs1 ?_; refine Zs1 ?_; refine Zs20 ?_; refine Zs1 ?_; refine Zs1 ?_; refine Zs20 ?_; refine Zs2 ?_; refine Zs2 ?_; refine zd ?_; refine zf ?_; refine ze ?_; refine zb (id := 23) ?_; refine Zs1 ?_; refine Zs33 ?_; refine Zs2 ?_; refine zd ?_; refine zf ?_; refine ze ?_; refine zb (id := 24) ?_; refine Zs1 ?_; refine Zs1 ?_; refine Zs11 ?_; refine zd ?_; refine zf ?_; refine zw rfl ?_; refine ze ?_; refine zb (id := 25) ?_; refine Zs1 ?_; refine Zs1 ?_; refine Zs30 ?_; refine Zs2 ?_; refine zd ?_; refine zf ?_; refine ze ?_; refine zb (id := 26) ?_; refine Zs1 ?_; refine Zs1 ?_; refine Zs1 ?_; refine Zs1 ?_; refine qh (ok_callG L 900 (GHeld b (uC LL ++ rest) tyU) (r := GHeld b (uC d4 ++ rest) tyU) rfl rfl rfl rfl rfl (fun u H C hH _ hr hC => by rw [hLL]; exact ih (by omega) g1 (by omega) (by omega) hm1 hlle g4 hH hr hC)) ?_; refine zd ?_; refine zf ?_; refine zb (id := 27) ?_; refine Zs1 ?_; refine Zs18 ?_; refine Zs2 ?_; refine zd ?_; refine qm ?_
              exact y1 (x := (((x, y), l), ((wb, wp), D))) (((mid + 1, y), R.lim), ((true, ap), LL)) ⟨by dsimp only; omega, hy, by dsimp only; omega, hlle, by dsimp only; omega, gB, hn.symm⟩ (by dsimp only; omega) ⟨rfl, rfl, rfl, rfl, rfl, rfl, rfl, trivial⟩
            · rw [decide_eq_false h8] at hn
              refine ze ?_; refine ze ?_; refine zz (id := 17) [(200080, [900]), (200084, [900])] mixed (by kernel_rfl) ?_; refine Zs7 ?_; refine Zs53 ?_; refine Zs7 ?_; refine Zs7 ?_; refine Zs7 ?_; refine Zs44 ?_; refine z8 (zp L _ rfl rfl rfl rfl rfl rfl rfl (by omega)) rfl ?_; refine q8 (zx L (q := 900) rfl rfl rfl rfl rfl q1) rfl rfl ?_; refine Zs7 ?_; refine Zs7 ?_; refine z8 (zp L _ rfl rfl rfl rfl rfl rfl rfl (by omega)) rfl ?_; refine q8 (zx L (q := 900) rfl rfl rfl rfl rfl q2) rfl rfl ?_; refine z8 (zo L rfl rfl (zg rfl) rfl rfl rfl (fun u H hH _ _ => lessU' hc hH)) rfl ?_; refine Zs47 ?_; refine Zs28 ?_; refine qk ?_; refine zf ?_; refine zm rfl ?_; refine zt ?_; refine zf ?_; refine ze ?_; refine zb (id := 20) ?_; refine Zs1 ?_; refine Zs1 ?_; refine Zs1 ?_; refine Zs1 ?_; refine qh (ok_callXG L 900 (GHeld b (uC d4 ++ rest) tyU) (.tuple #[.int .i64 mid, .bool ap]) (r := GHeld b (uC R.pi.1 ++ rest) tyU) rfl rfl rfl rfl rfl (fun u H C hH hle hr hC => by have h := part_ret (rest := rest) (cap := cap) (d := R.pi.1) hpv.1 hpv.2 (by omega) (m := m) (by omega) hm1 hH hr hC; rw [hx] at h; exact h)) ?_; refine Zs1 ?_; refine Zs50 ?_; refine Zs50 ?_; refine Zs2 ?_; refine Zs2 ?_; refine zd ?_; refine zf ?_; refine ze ?_; refine zb (id := 21) ?_; refine Zs1 ?_; refine Zs2 ?_; refine zd ?_; refine zf ?_; refine ze ?_; refine zb (id := 22) ?_; refine Zs1 ?_; refine Zs1 ?_; refine Zs20 ?_; refine Zs1 ?_; refine Zs1 ?_; refine Zs20 ?_; refine Zs2 ?_; refine Zs2 ?_; refine zd ?_; refine zf ?_; refine ze ?_; refine zb (id := 23) ?_; refine Zs1 ?_; refine Zs33 ?_; refine Zs2 ?_; refine zd ?_; refine zf ?_; refine ze ?_; refine zb (id := 24) ?_; refine Zs1 ?_; refine Zs1 ?_; refine Zs11 ?_; refine zd ?_; refine zf ?_; refine zw rfl ?_; refine ze ?_; refine zb (id := 25) ?_; refine Zs1 ?_; refine Zs1 ?_; refine Zs22 ?_; refine Zs2 ?_; refine zd ?_; refine zf ?_; refine ze ?_; refine zb (id := 26) ?_; refine Zs1 ?_; refine Zs1 ?_; refine Zs1 ?_; refine Zs1 ?_; refine qh (ok_callG L 900 (GHeld b (uC LL ++ rest) tyU) (r := GHeld b (uC d4 ++ rest) tyU) rfl rfl rfl rfl rfl (fun u H C hH _ hr hC => by rw [hLL]; exact ih (by omega) g1 (by omega) (by omega) hm1 hlle g4 hH hr hC)) ?_; refine zd ?_; refine zf ?_; refine zb (id := 27) ?_; refine Zs1 ?_; refine Zs18 ?_; refine Zs2 ?_; refine zd ?_; refine qm ?_
              exact y1 (x := (((x, y), l), ((wb, wp), D))) (((mid + 1, y), R.lim), ((false, ap), LL)) ⟨by dsimp only; omega, hy, by dsimp only; omega, hlle, by dsimp only; omega, gB, hn.symm⟩ (by dsimp only; omega) ⟨rfl, rfl, rfl, rfl, rfl, rfl, rfl, trivial⟩
          · have hn := hright h2 h2b (by rw [hx]; exact ⟨g1, g2⟩) (by rw [hx]; exact hlr)
            rw [hx] at hn
            dsimp only at hn
            obtain ⟨pL, sL⟩ := pdq_sorts lt swo_ltInt d4 (mid + 1) y R.lim true true (by omega) (by omega) g5
            obtain ⟨LL, hLL⟩ : ∃ LL, LL = pdq lt d4 (mid + 1) y R.lim true true := ⟨_, rfl⟩
            rw [← hLL] at hn pL sL
            obtain ⟨gB, _⟩ := gR LL pL sL
            have hLs : LL.size = d4.size := pL.1
            by_cases h8 : y - mid ≥ (y - x) / 8
            · rw [decide_eq_true h8] at hn
              refine ze ?_; refine ze ?_; refine zz (id := 17) [(200080, [900]), (200084, [900])] mixed (by kernel_rfl) ?_; refine Zs7 ?_; refine Zs53 ?_; refine Zs7 ?_; refine Zs7 ?_; refine Zs7 ?_; refine Zs44 ?_; refine z8 (zp L _ rfl rfl rfl rfl rfl rfl rfl (by omega)) rfl ?_; refine q8 (zx L (q := 900) rfl rfl rfl rfl rfl q1) rfl rfl ?_; refine Zs7 ?_; refine Zs7 ?_; refine z8 (zp L _ rfl rfl rfl rfl rfl rfl rfl (by omega)) rfl ?_; refine q8 (zx L (q := 900) rfl rfl rfl rfl rfl q2) rfl rfl ?_; refine z8 (zo L rfl rfl (zg rfl) rfl rfl rfl (fun u H hH _ _ => lessU' hc hH)) rfl ?_; refine Zs47 ?_; refine Zs28 ?_; refine qk ?_; refine zf ?_; refine zm rfl ?_; refine zt ?_; refine zf ?_; refine ze ?_; refine zb (id := 20) ?_; refine Zs1 ?_; refine Zs1 ?_; refine Zs1 ?_; refine Zs1 ?_; refine qh (ok_callXG L 900 (GHeld b (uC d4 ++ rest) tyU) (.tuple #[.int .i64 mid, .bool ap]) (r := GHeld b (uC R.pi.1 ++ rest) tyU) rfl rfl rfl rfl rfl (fun u H C hH hle hr hC => by have h := part_ret (rest := rest) (cap := cap) (d := R.pi.1) hpv.1 hpv.2 (by omega) (m := m) (by omega) hm1 hH hr hC; rw [hx] at h; exact h)) ?_; refine Zs1 ?_; refine Zs50 ?_; refine Zs50 ?_; refine Zs2 ?_; refine Zs2 ?_; refine zd ?_; refine zf ?_; refine ze ?_; refine zb (id := 21) ?_; refine Zs1 ?_; refine Zs2 ?_; refine zd ?_; refine zf ?_; refine ze ?_; refine zb (id := 22) ?_; refine Zs1 ?_; refine Zs1 ?_; refine Zs20 ?_; refine Zs1 ?_; refine Zs1 ?_; refine Zs20 ?_; refine Zs2 ?_; refine Zs2 ?_; refine zd ?_; refine zf ?_; refine ze ?_; refine zb (id := 23) ?_; refine Zs1 ?_; refine Zs33 ?_; refine Zs2 ?_; refine zd ?_; refine zf ?_; refine ze ?_; refine zb (id := 24) ?_; refine Zs1 ?_; refine Zs1 ?_; refine Zs8 ?_; refine zd ?_; refine zf ?_; refine zm rfl ?_; refine ze ?_; refine zb (id := 28) ?_; refine Zs1 ?_; refine Zs1 ?_; refine Zs30 ?_; refine Zs2 ?_; refine zd ?_; refine zf ?_; refine ze ?_; refine zb (id := 29) ?_; refine Zs1 ?_; refine Zs1 ?_; refine Zs18 ?_; refine Zs1 ?_; refine Zs1 ?_; refine qh (ok_callG L 900 (GHeld b (uC LL ++ rest) tyU) (r := GHeld b (uC d4 ++ rest) tyU) rfl rfl rfl rfl rfl (fun u H C hH _ hr hC => by rw [hLL]; exact ih (by omega) (by omega) hy (by omega) hm1 hlle g5 hH hr hC)) ?_; refine zd ?_; refine zf ?_; refine zb (id := 30) ?_; refine Zs1 ?_; refine Zs2 ?_; refine zd ?_; refine qm ?_
              exact y1 (x := (((x, y), l), ((wb, wp), D))) (((x, mid), R.lim), ((true, ap), LL)) ⟨by dsimp only; omega, by dsimp only; omega, by dsimp only; omega, hlle, by dsimp only; omega, gB, hn.symm⟩ (by dsimp only; omega) ⟨rfl, rfl, rfl, rfl, rfl, rfl, rfl, trivial⟩
            · rw [decide_eq_false h8] at hn
              refine ze ?_; refine ze ?_; refine zz (id := 17) [(200080, [900]), (200084, [900])] mixed (by kernel_rfl) ?_; refine Zs7 ?_; refine Zs53 ?_; refine Zs7 ?_; refine Zs7 ?_; refine Zs7 ?_; refine Zs44 ?_; refine z8 (zp L _ rfl rfl rfl rfl rfl rfl rfl (by omega)) rfl ?_; refine q8 (zx L (q := 900) rfl rfl rfl rfl rfl q1) rfl rfl ?_; refine Zs7 ?_; refine Zs7 ?_; refine z8 (zp L _ rfl rfl rfl rfl rfl rfl rfl (by omega)) rfl ?_; refine q8 (zx L (q := 900) rfl rfl rfl rfl rfl q2) rfl rfl ?_; refine z8 (zo L rfl rfl (zg rfl) rfl rfl rfl (fun u H hH _ _ => lessU' hc hH)) rfl ?_; refine Zs47 ?_; refine Zs28 ?_; refine qk ?_; refine zf ?_; refine zm rfl ?_; refine zt ?_; refine zf ?_; refine ze ?_; refine zb (id := 20) ?_; refine Zs1 ?_; refine Zs1 ?_; refine Zs1 ?_; refine Zs1 ?_; refine qh (ok_callXG L 900 (GHeld b (uC d4 ++ rest) tyU) (.tuple #[.int .i64 mid, .bool ap]) (r := GHeld b (uC R.pi.1 ++ rest) tyU) rfl rfl rfl rfl rfl (fun u H C hH hle hr hC => by have h := part_ret (rest := rest) (cap := cap) (d := R.pi.1) hpv.1 hpv.2 (by omega) (m := m) (by omega) hm1 hH hr hC; rw [hx] at h; exact h)) ?_; refine Zs1 ?_; refine Zs50 ?_; refine Zs50 ?_; refine Zs2 ?_; refine Zs2 ?_; refine zd ?_; refine zf ?_; refine ze ?_; refine zb (id := 21) ?_; refine Zs1 ?_; refine Zs2 ?_; refine zd ?_; refine zf ?_; refine ze ?_; refine zb (id := 22) ?_; refine Zs1 ?_; refine Zs1 ?_; refine Zs20 ?_; refine Zs1 ?_; refine Zs1 ?_; refine Zs20 ?_; refine Zs2 ?_; refine Zs2 ?_; refine zd ?_; refine zf ?_; refine ze ?_; refine zb (id := 23) ?_; refine Zs1 ?_; refine Zs33 ?_; refine Zs2 ?_; refine zd ?_; refine zf ?_; refine ze ?_; refine zb (id := 24) ?_; refine Zs1 ?_; refine Zs1 ?_; refine Zs8 ?_; refine zd ?_; refine zf ?_; refine zm rfl ?_; refine ze ?_; refine zb (id := 28) ?_; refine Zs1 ?_; refine Zs1 ?_; refine Zs22 ?_; refine Zs2 ?_; refine zd ?_; refine zf ?_; refine ze ?_; refine zb (id := 29) ?_; refine Zs1 ?_; refine Zs1 ?_; refine Zs18 ?_; refine Zs1 ?_; refine Zs1 ?_; refine qh (ok_callG L 900 (GHeld b (uC LL ++ rest) tyU) (r := GHeld b (uC d4 ++ rest) tyU) rfl rfl rfl rfl rfl (fun u H C hH _ hr hC => by rw [hLL]; exact ih (by omega) (by omega) hy (by omega) hm1 hlle g5 hH hr hC)) ?_; refine zd ?_; refine zf ?_; refine zb (id := 30) ?_; refine Zs1 ?_; refine Zs2 ?_; refine zd ?_; refine qm ?_
              exact y1 (x := (((x, y), l), ((wb, wp), D))) (((x, mid), R.lim), ((false, ap), LL)) ⟨by dsimp only; omega, by dsimp only; omega, by dsimp only; omega, hlle, by dsimp only; omega, gB, hn.symm⟩ (by dsimp only; omega) ⟨rfl, rfl, rfl, rfl, rfl, rfl, rfl, trivial⟩
      · have h2b : (decide (x > 0) && !lt R.pi.1[x - 1]! R.pi.1[R.pivot]!) = false := by simp [hx0]
        obtain ⟨mid, ap, d4, hx⟩ : ∃ mid ap d4, Go.Sort.partition lt R.pi.1 x y R.pivot = (mid, ap, d4) := ⟨_, _, _, rfl⟩
        obtain ⟨g1, g2, g3, g4, g5, gL, gR⟩ := round_part swo_ltInt (partition_holds lt) hpv.1 hpv.2 (by omega) B3 hx
        have w1 : IntKind.i64.wrap ((mid : Int) - (x : Int)) = ((mid - x : Nat) : Int) := wrap_i64 (by omega) (by omega) |>.trans (by omega)
        have w2 : IntKind.i64.wrap ((y : Int) - (mid : Int)) = ((y - mid : Nat) : Int) := wrap_i64 (by omega) (by omega) |>.trans (by omega)
        have w4 : IntKind.i64.wrap ((mid : Int) + 1) = ((mid + 1 : Nat) : Int) := wrap_i64 (by omega) (by omega)
        have et : ((y - x : Nat) : Int).tdiv 8 = (((y - x) / 8 : Nat) : Int) := by
          rw [Int.tdiv_eq_ediv_of_nonneg (by omega)]
          omega
        have w3 : IntKind.i64.wrap (((y - x : Nat) : Int).tdiv 8) = (((y - x) / 8 : Nat) : Int) := by rw [et]; exact wrap_i64 (by omega) (by omega)
        by_cases hlr : mid - x < y - mid
        · have hn := hleft h2 h2b (by rw [hx]; exact ⟨g1, g2⟩) (by rw [hx]; exact hlr)
          rw [hx] at hn
          dsimp only at hn
          obtain ⟨pL, sL⟩ := pdq_sorts lt swo_ltInt d4 x mid R.lim true true g1 (by omega) g4
          obtain ⟨LL, hLL⟩ : ∃ LL, LL = pdq lt d4 x mid R.lim true true := ⟨_, rfl⟩
          rw [← hLL] at hn pL sL
          obtain ⟨gB, _⟩ := gL LL pL sL
          have hLs : LL.size = d4.size := pL.1
          by_cases h8 : mid - x ≥ (y - x) / 8
          · rw [decide_eq_true h8] at hn
            refine ze ?_; refine ze ?_; refine zz (id := 17) [(200080, [900]), (200084, [900])] mixed (by kernel_rfl) ?_; refine Zs7 ?_; refine Zs62 ?_; refine Zs7 ?_; refine Zs12 ?_; refine Zs12 ?_; refine Zs12 ?_; refine Zs12 ?_; refine Zs12 ?_; refine Zs12 ?_; refine Zs12 ?_; refine Zs12 ?_; refine Zs12 ?_; refine Zs12 ?_; refine Zs12 ?_; refine Zs28 ?_; refine qk ?_; refine zf ?_; refine zm rfl ?_; refine zt ?_; refine zf ?_; refine ze ?_; refine zb (id := 20) ?_; refine Zs1 ?_; refine Zs1 ?_; refine Zs1 ?_; refine Zs1 ?_; refine qh (ok_callXG L 900 (GHeld b (uC d4 ++ rest) tyU) (.tuple #[.int .i64 mid, .bool ap]) (r := GHeld b (uC R.pi.1 ++ rest) tyU) rfl rfl rfl rfl rfl (fun u H C hH hle hr hC => by have h := part_ret (rest := rest) (cap := cap) (d := R.pi.1) hpv.1 hpv.2 (by omega) (m := m) (by omega) hm1 hH hr hC; rw [hx] at h; exact h)) ?_; refine Zs1 ?_; refine Zs50 ?_; refine Zs50 ?_; refine Zs2 ?_; refine Zs2 ?_; refine zd ?_; refine zf ?_; refine ze ?_; refine zb (id := 21) ?_; refine Zs1 ?_; refine Zs2 ?_; refine zd ?_; refine zf ?_; refine ze ?_; refine zb (id := 22) ?_; refine Zs1 ?_; refine Zs1 ?_; refine Zs20 ?_; refine Zs1 ?_; refine Zs1 ?_; refine Zs20 ?_; refine Zs2 ?_; refine Zs2 ?_; refine zd ?_; refine zf ?_; refine ze ?_; refine zb (id := 23) ?_; refine Zs1 ?_; refine Zs33 ?_; refine Zs2 ?_; refine zd ?_; refine zf ?_; refine ze ?_; refine zb (id := 24) ?_; refine Zs1 ?_; refine Zs1 ?_; refine Zs11 ?_; refine zd ?_; refine zf ?_; refine zw rfl ?_; refine ze ?_; refine zb (id := 25) ?_; refine Zs1 ?_; refine Zs1 ?_; refine Zs30 ?_; refine Zs2 ?_; refine zd ?_; refine zf ?_; refine ze ?_; refine zb (id := 26) ?_; refine Zs1 ?_; refine Zs1 ?_; refine Zs1 ?_; refine Zs1 ?_; refine qh (ok_callG L 900 (GHeld b (uC LL ++ rest) tyU) (r := GHeld b (uC d4 ++ rest) tyU) rfl rfl rfl rfl rfl (fun u H C hH _ hr hC => by rw [hLL]; exact ih (by omega) g1 (by omega) (by omega) hm1 hlle g4 hH hr hC)) ?_; refine zd ?_; refine zf ?_; refine zb (id := 27) ?_; refine Zs1 ?_; refine Zs18 ?_; refine Zs2 ?_; refine zd ?_; refine qm ?_
            exact y1 (x := (((x, y), l), ((wb, wp), D))) (((mid + 1, y), R.lim), ((true, ap), LL)) ⟨by dsimp only; omega, hy, by dsimp only; omega, hlle, by dsimp only; omega, gB, hn.symm⟩ (by dsimp only; omega) ⟨rfl, rfl, rfl, rfl, rfl, rfl, rfl, trivial⟩
          · rw [decide_eq_false h8] at hn
            refine ze ?_; refine ze ?_; refine zz (id := 17) [(200080, [900]), (200084, [900])] mixed (by kernel_rfl) ?_; refine Zs7 ?_; refine Zs62 ?_; refine Zs7 ?_; refine Zs12 ?_; refine Zs12 ?_; refine Zs12 ?_; refine Zs12 ?_; refine Zs12 ?_; refine Zs12 ?_; refine Zs12 ?_; refine Zs12 ?_; refine Zs12 ?_; refine Zs12 ?_; refine Zs12 ?_; refine Zs28 ?_; refine qk ?_; refine zf ?_; refine zm rfl ?_; refine zt ?_; refine zf ?_; refine ze ?_; refine zb (id := 20) ?_; refine Zs1 ?_; refine Zs1 ?_; refine Zs1 ?_; refine Zs1 ?_; refine qh (ok_callXG L 900 (GHeld b (uC d4 ++ rest) tyU) (.tuple #[.int .i64 mid, .bool ap]) (r := GHeld b (uC R.pi.1 ++ rest) tyU) rfl rfl rfl rfl rfl (fun u H C hH hle hr hC => by have h := part_ret (rest := rest) (cap := cap) (d := R.pi.1) hpv.1 hpv.2 (by omega) (m := m) (by omega) hm1 hH hr hC; rw [hx] at h; exact h)) ?_; refine Zs1 ?_; refine Zs50 ?_; refine Zs50 ?_; refine Zs2 ?_; refine Zs2 ?_; refine zd ?_; refine zf ?_; refine ze ?_; refine zb (id := 21) ?_; refine Zs1 ?_; refine Zs2 ?_; refine zd ?_; refine zf ?_; refine ze ?_; refine zb (id := 22) ?_; refine Zs1 ?_; refine Zs1 ?_; refine Zs20 ?_; refine Zs1 ?_; refine Zs1 ?_; refine Zs20 ?_; refine Zs2 ?_; refine Zs2 ?_; refine zd ?_; refine zf ?_; refine ze ?_; refine zb (id := 23) ?_; refine Zs1 ?_; refine Zs33 ?_; refine Zs2 ?_; refine zd ?_; refine zf ?_; refine ze ?_; refine zb (id := 24) ?_; refine Zs1 ?_; refine Zs1 ?_; refine Zs11 ?_; refine zd ?_; refine zf ?_; refine zw rfl ?_; refine ze ?_; refine zb (id := 25) ?_; refine Zs1 ?_; refine Zs1 ?_; refine Zs22 ?_; refine Zs2 ?_; refine zd ?_; refine zf ?_; refine ze ?_; refine zb (id := 26) ?_; refine Zs1 ?_; refine Zs1 ?_; refine Zs1 ?_; refine Zs1 ?_; refine qh (ok_callG L 900 (GHeld b (uC LL ++ rest) tyU) (r := GHeld b (uC d4 ++ rest) tyU) rfl rfl rfl rfl rfl (fun u H C hH _ hr hC => by rw [hLL]; exact ih (by omega) g1 (by omega) (by omega) hm1 hlle g4 hH hr hC)) ?_; refine zd ?_; refine zf ?_; refine zb (id := 27) ?_; refine Zs1 ?_; refine Zs18 ?_; refine Zs2 ?_; refine zd ?_; refine qm ?_
            exact y1 (x := (((x, y), l), ((wb, wp), D))) (((mid + 1, y), R.lim), ((false, ap), LL)) ⟨by dsimp only; omega, hy, by dsimp only; omega, hlle, by dsimp only; omega, gB, hn.symm⟩ (by dsimp only; omega) ⟨rfl, rfl, rfl, rfl, rfl, rfl, rfl, trivial⟩
        · have hn := hright h2 h2b (by rw [hx]; exact ⟨g1, g2⟩) (by rw [hx]; exact hlr)
          rw [hx] at hn
          dsimp only at hn
          obtain ⟨pL, sL⟩ := pdq_sorts lt swo_ltInt d4 (mid + 1) y R.lim true true (by omega) (by omega) g5
          obtain ⟨LL, hLL⟩ : ∃ LL, LL = pdq lt d4 (mid + 1) y R.lim true true := ⟨_, rfl⟩
          rw [← hLL] at hn pL sL
          obtain ⟨gB, _⟩ := gR LL pL sL
          have hLs : LL.size = d4.size := pL.1
          by_cases h8 : y - mid ≥ (y - x) / 8
          · rw [decide_eq_true h8] at hn
            refine ze ?_; refine ze ?_; refine zz (id := 17) [(200080, [900]), (200084, [900])] mixed (by kernel_rfl) ?_; refine Zs7 ?_; refine Zs62 ?_; refine Zs7 ?_; refine Zs12 ?_; refine Zs12 ?_; refine Zs12 ?_; refine Zs12 ?_; refine Zs12 ?_; refine Zs12 ?_; refine Zs12 ?_; refine Zs12 ?_; refine Zs12 ?_; refine Zs12 ?_; refine Zs12 ?_; refine Zs28 ?_; refine qk ?_; refine zf ?_; refine zm rfl ?_; refine zt ?_; refine zf ?_; refine ze ?_; refine zb (id := 20) ?_; refine Zs1 ?_; refine Zs1 ?_; refine Zs1 ?_; refine Zs1 ?_; refine qh (ok_callXG L 900 (GHeld b (uC d4 ++ rest) tyU) (.tuple #[.int .i64 mid, .bool ap]) (r := GHeld b (uC R.pi.1 ++ rest) tyU) rfl rfl rfl rfl rfl (fun u H C hH hle hr hC => by have h := part_ret (rest := rest) (cap := cap) (d := R.pi.1) hpv.1 hpv.2 (by omega) (m := m) (by omega) hm1 hH hr hC; rw [hx] at h; exact h)) ?_; refine Zs1 ?_; refine Zs50 ?_; refine Zs50 ?_; refine Zs2 ?_; refine Zs2 ?_; refine zd ?_; refine zf ?_; refine ze ?_; refine zb (id := 21) ?_; refine Zs1 ?_; refine Zs2 ?_; refine zd ?_; refine zf ?_; refine ze ?_; refine zb (id := 22) ?_; refine Zs1 ?_; refine Zs1 ?_; refine Zs20 ?_; refine Zs1 ?_; refine Zs1 ?_; refine Zs20 ?_; refine Zs2 ?_; refine Zs2 ?_; refine zd ?_; refine zf ?_; refine ze ?_; refine zb (id := 23) ?_; refine Zs1 ?_; refine Zs33 ?_; refine Zs2 ?_; refine zd ?_; refine zf ?_; refine ze ?_; refine zb (id := 24) ?_; refine Zs1 ?_; refine Zs1 ?_; refine Zs8 ?_; refine zd ?_; refine zf ?_; refine zm rfl ?_; refine ze ?_; refine zb (id := 28) ?_; refine Zs1 ?_; refine Zs1 ?_; refine Zs30 ?_; refine Zs2 ?_; refine zd ?_; refine zf ?_; refine ze ?_; refine zb (id := 29) ?_; refine Zs1 ?_; refine Zs1 ?_; refine Zs18 ?_; refine Zs1 ?_; refine Zs1 ?_; refine qh (ok_callG L 900 (GHeld b (uC LL ++ rest) tyU) (r := GHeld b (uC d4 ++ rest) tyU) rfl rfl rfl rfl rfl (fun u H C hH _ hr hC => by rw [hLL]; exact ih (by omega) (by omega) hy (by omega) hm1 hlle g5 hH hr hC)) ?_; refine zd ?_; refine zf ?_; refine zb (id := 30) ?_; refine Zs1 ?_; refine Zs2 ?_; refine zd ?_; refine qm ?_
            exact y1 (x := (((x, y), l), ((wb, wp), D))) (((x, mid), R.lim), ((true, ap), LL)) ⟨by dsimp only; omega, by dsimp only; omega, by dsimp only; omega, hlle, by dsimp only; omega, gB, hn.symm⟩ (by dsimp only; omega) ⟨rfl, rfl, rfl, rfl, rfl, rfl, rfl, trivial⟩
          · rw [decide_eq_false h8] at hn
            refine ze ?_; refine ze ?_; refine zz (id := 17) [(200080, [900]), (200084, [900])] mixed (by kernel_rfl) ?_; refine Zs7 ?_; refine Zs62 ?_; refine Zs7 ?_; refine Zs12 ?_; refine Zs12 ?_; refine Zs12 ?_; refine Zs12 ?_; refine Zs12 ?_; refine Zs12 ?_; refine Zs12 ?_; refine Zs12 ?_; refine Zs12 ?_; refine Zs12 ?_; refine Zs12 ?_; refine Zs28 ?_; refine qk ?_; refine zf ?_; refine zm rfl ?_; refine zt ?_; refine zf ?_; refine ze ?_; refine zb (id := 20) ?_; refine Zs1 ?_; refine Zs1 ?_; refine Zs1 ?_; refine Zs1 ?_; refine qh (ok_callXG L 900 (GHeld b (uC d4 ++ rest) tyU) (.tuple #[.int .i64 mid, .bool ap]) (r := GHeld b (uC R.pi.1 ++ rest) tyU) rfl rfl rfl rfl rfl (fun u H C hH hle hr hC => by have h := part_ret (rest := rest) (cap := cap) (d := R.pi.1) hpv.1 hpv.2 (by omega) (m := m) (by omega) hm1 hH hr hC; rw [hx] at h; exact h)) ?_; refine Zs1 ?_; refine Zs50 ?_; refine Zs50 ?_; refine Zs2 ?_; refine Zs2 ?_; refine zd ?_; refine zf ?_; refine ze ?_; refine zb (id := 21) ?_; refine Zs1 ?_; refine Zs2 ?_; refine zd ?_; refine zf ?_; refine ze ?_; refine zb (id := 22) ?_; refine Zs1 ?_; refine Zs1 ?_; refine Zs20 ?_; refine Zs1 ?_; refine Zs1 ?_; refine Zs20 ?_; refine Zs2 ?_; refine Zs2 ?_; refine zd ?_; refine zf ?_; refine ze ?_; refine zb (id := 23) ?_; refine Zs1 ?_; refine Zs33 ?_; refine Zs2 ?_; refine zd ?_; refine zf ?_; refine ze ?_; refine zb (id := 24) ?_; refine Zs1 ?_; refine Zs1 ?_; refine Zs8 ?_; refine zd ?_; refine zf ?_; refine zm rfl ?_; refine ze ?_; refine zb (id := 28) ?_; refine Zs1 ?_; refine Zs1 ?_; refine Zs22 ?_; refine Zs2 ?_; refine zd ?_; refine zf ?_; refine ze ?_; refine zb (id := 29) ?_; refine Zs1 ?_; refine Zs1 ?_; refine Zs18 ?_; refine Zs1 ?_; refine Zs1 ?_; refine qh (ok_callG L 900 (GHeld b (uC LL ++ rest) tyU) (r := GHeld b (uC d4 ++ rest) tyU) rfl rfl rfl rfl rfl (fun u H C hH _ hr hC => by rw [hLL]; exact ih (by omega) (by omega) hy (by omega) hm1 hlle g5 hH hr hC)) ?_; refine zd ?_; refine zf ?_; refine zb (id := 30) ?_; refine Zs1 ?_; refine Zs2 ?_; refine zd ?_; refine qm ?_
            exact y1 (x := (((x, y), l), ((wb, wp), D))) (((x, mid), R.lim), ((false, ap), LL)) ⟨by dsimp only; omega, by dsimp only; omega, by dsimp only; omega, hlle, by dsimp only; omega, gB, hn.symm⟩ (by dsimp only; omega) ⟨rfl, rfl, rfl, rfl, rfl, rfl, rfl, trivial⟩
end Go.V.So
namespace Go.V.So
open Go.Proofs Go.RowKit Go.V Go.Sort
attribute [local irreducible] V N X VO Par StepOK Has Ret RetL RetO RetG RetX Src
set_option maxRecDepth 20000 in
theorem sortU_ret {d : Array Int} {rest : List Value} {b m cap : Nat} (hm : d.size = m) (hm1 : m ≤ 100000) {w : World} {B : Heap} {C : Nat → Prop} (hB : B.Le (hp w))
    (hr : (GHeld b (uC d ++ rest) tyU).P B w C) (hC : ∀ k, C k → k < w.heap.size ∧ B k = none) :
    RetG Try.prog 58 [.slice (some ⟨b, 0, none⟩) m cap] w B C (GHeld b (uC (Go.Sort.sort lt d) ++ rest) tyU) := by
  unfold RetG
  refine V_enterG 900 (GHeld b (uC d ++ rest) tyU) Try.func58 rfl Try.ntmps58 (Nat.le_of_ble_eq_true rfl) hB hr hC ?_
  rw [gheld_res]
  have hc : IntKind.u64.wrap (m : Int) = (m : Int) := wrap_u64 (by omega) (by omega)
  have hb17 : bitsLen m ≤ 17 := (bitsLen_le_iff m 17).2 (by omega)
  refine ze ?_; refine zb (id := 0) ?_; refine Zs1 ?_; refine Zs35 ?_; refine Zs2 ?_; refine zd ?_; refine zf ?_; refine zb (id := 1) ?_; refine Zs1 ?_; refine Zs1 ?_; refine Zs1 ?_; refine z7 (ok_conv rfl rfl rfl cv3_148.1 cv3_148.2 (wrap_u64 (by omega) (by omega))) rfl ?_; refine z7 (zo L rfl rfl (zg rfl) rfl rfl rfl (fun u H hH _ _ => bitslen_ret (by omega) hH)) rfl ?_; refine qh (ok_callG L 900 (GHeld b (uC (Go.Sort.sort lt d) ++ rest) tyU) (r := GHeld b (uC d ++ rest) tyU) rfl rfl rfl rfl rfl (fun u H C hH _ hr hC => by have h := pdq_ret (rest := rest) (cap := cap) (m := m) (d := d) (a := 0) (e := m) (lim := bitsLen m) (m + 1) (by omega) (by omega) (by omega) hm hm1 (by omega) (Or.inl rfl) hH hr hC; unfold Go.Sort.sort; rw [hm]; exact h)) ?_; refine zd ?_
  exact N_retGhost L 900 (r := GHeld b _ tyU) rfl (fun _ _ h => h) Since.refl rfl rfl
set_option maxRecDepth 20000 in
theorem insN_ret {w : World} {B : Heap} (hB : B.Le (hp w)) : Ret Try.prog 89 [.slice none 0 0, .int .i64 0, .int .i64 0] w B (fun _ _ => True) := by
  refine ya Try.func89 rfl Try.ntmps89 (Nat.le_of_ble_eq_true rfl) hB ?_
  refine ze ?_; refine zb (id := 0) ?_; refine Zs1 ?_; refine Zs13 ?_; refine Zs2 ?_; refine zd ?_; refine zf ?_; refine zy ?_
  refine V_loop (fun _ : Nat => [(2, .is (.int .i64 0)), (6, .is (.int .i64 1))]) (fun _ => True) (fun s => s) 0 trivial ⟨rfl, rfl, trivial⟩ ?_
  rintro s _
  refine ze ?_; refine ze ?_; refine zb (id := 1) ?_; refine Zs1 ?_; refine Zs1 ?_; refine Zs8 ?_; refine zd ?_; refine zf ?_; refine zm rfl ?_; refine y7 ?_; refine qg ?_; refine qg ?_; refine y6 ?_
  exact N_ret0 L rfl (fun _ _ h => h) Since.refl
set_option maxRecDepth 20000 in
theorem pdqN_ret {w : World} {B : Heap} (hB : B.Le (hp w)) : Ret Try.prog 78 [.slice none 0 0, .int .i64 0, .int .i64 0, .int .i64 0] w B (fun _ _ => True) := by
  refine ya Try.func78 rfl Try.ntmps78 (Nat.le_of_ble_eq_true rfl) hB ?_
  refine ze ?_; refine zb (id := 0) ?_; refine Zs2 ?_; refine zd ?_; refine zf ?_; refine ze ?_; refine zb (id := 1) ?_; refine Zs2 ?_; refine zd ?_; refine zf ?_; refine zy ?_
  refine V_loop (fun _ : Nat => [(0, .is (.slice none 0 0)), (1, .is (.int .i64 0)), (2, .is (.int .i64 0))]) (fun _ => True) (fun s => s) 0 trivial ⟨rfl, rfl, rfl, trivial⟩ ?_
  rintro s _
  refine zy ?_; refine ze ?_; refine zb (id := 2) ?_; refine Zs1 ?_; refine Zs1 ?_; refine Zs68 ?_; refine Zs2 ?_; refine zd ?_; refine zf ?_; refine ze ?_; refine ze ?_; refine zb (id := 3) ?_; refine Zs1 ?_; refine Zs57 ?_; refine zd ?_; refine zf ?_; refine zw rfl ?_; refine ze ?_; refine zb (id := 4) ?_; refine Zs1 ?_; refine Zs1 ?_; refine Zs1 ?_; refine z7 (ok_call (φ := fun _ _ => True) L rfl rfl (zg rfl) rfl rfl rfl (fun _ _ _ _ _ => trivial) (fun u H hH _ _ => insN_ret hH)) rfl ?_; refine zd ?_; refine zf ?_
  refine qn L (rs := []) rfl (fun _ _ h => h) Since.refl fun u H hH hle => ?_
  trivial
set_option maxRecDepth 20000 in
theorem sortN_ret {w : World} {B : Heap} (hB : B.Le (hp w)) : Ret Try.prog 58 [.slice none 0 0] w B (fun _ _ => True) := by
  have hc : IntKind.u64.wrap 0 = 0 := by decide
  refine ya Try.func58 rfl Try.ntmps58 (Nat.le_of_ble_eq_true rfl) hB ?_
  refine ze ?_; refine zb (id := 0) ?_; refine Zs1 ?_; refine Zs35 ?_; refine Zs2 ?_; refine zd ?_; refine zf ?_; refine zb (id := 1) ?_; refine Zs1 ?_; refine Zs1 ?_; refine Zs1 ?_; refine z7 (ok_conv rfl rfl rfl cv3_148.1 cv3_148.2 (wrap_u64 (by omega) (by omega))) rfl ?_; refine z7 (zo (r := .int .i64 0) L rfl rfl (zg rfl) rfl rfl rfl (fun u H hH _ _ => bitslen_ret (n := 0) (by omega) hH)) rfl ?_; refine z7 (ok_call (φ := fun _ _ => True) L rfl rfl (zg rfl) rfl rfl rfl (fun _ _ _ _ _ => trivial) (fun u H hH _ _ => pdqN_ret hH)) rfl ?_; refine zd ?_
  exact N_ret0 L rfl (fun _ _ h => h) Since.refl
end Go.V.So
namespace Go.V.L39
open Go.Proofs Go.RowKit Go.V
def cntR (v : Int) (l : List It) : Nat := l.countP fun x => decide (x.rv = v)
def revsF (acc : List Int) (l : List It) : List Int := l.foldl (fun acc x => if x.rv ∈ acc then acc else acc ++ [x.rv]) acc
def revs (l : List It) : List Int := revsF [] l
theorem revs_snoc (l : List It) (x : It) : revs (l ++ [x]) = if x.rv ∈ revs l then revs l else revs l ++ [x.rv] := by
  unfold revs revsF
  rw [List.foldl_append]
  rfl
theorem cntR_snoc (v : Int) (l : List It) (x : It) : cntR v (l ++ [x]) = cntR v l + if x.rv = v then 1 else 0 := by
  unfold cntR
  rw [List.countP_append, List.countP_cons, List.countP_nil, Nat.zero_add]
  by_cases h : x.rv = v
  · rw [if_pos h, if_pos (decide_eq_true h)]
  · rw [if_neg h, if_neg (by simpa using h)]
theorem mem_revs (l : List It) : ∀ v, v ∈ revs l ↔ 0 < cntR v l := by
  suffices ∀ (m : List It) (l : List It), (∀ v, v ∈ revs l ↔ 0 < cntR v l) → ∀ v, v ∈ revs (l ++ m) ↔ 0 < cntR v (l ++ m) by
    simpa using this l [] (fun v => by simp [revs, revsF, cntR])
  intro m
  induction m with
  | nil => intro l h; simpa using h
  | cons x m ih =>
    intro l h
    have := ih (l ++ [x]) fun v => by
      rw [revs_snoc, cntR_snoc]
      by_cases hx : x.rv ∈ revs l
      · rw [if_pos hx, h]
        have h2 := (h x.rv).1 hx
        by_cases hv : x.rv = v
        · subst hv; rw [if_pos rfl]; omega
        · rw [if_neg hv]; omega
      · rw [if_neg hx, List.mem_append, List.mem_singleton, h]
        by_cases hv : x.rv = v
        · subst hv; rw [if_pos rfl]; simp
        · rw [if_neg hv]
          constructor
          · rintro (h3 | h3)
            · omega
            · exact absurd h3.symm hv
          · intro h3; exact .inl (by omega)
    simpa using this
theorem revs_len (l : List It) : (revs l).length ≤ l.length := by
  suffices ∀ (m : List It) (acc : List Int), (revsF acc m).length ≤ acc.length + m.length by simpa [revs] using this l []
  intro m
  induction m with
  | nil => intro acc; exact Nat.le_refl _
  | cons x m ih =>
    intro acc
    refine Nat.le_trans (ih _) ?_
    dsimp only
    split <;> simp <;> omega
def SeenR (l : List It) (a : List (Int × Int)) : Prop := ∀ v, mget v a = if cntR v l = 0 then none else some (cntR v l : Int)
theorem seenr_nil : SeenR [] [] := fun _ => rfl
theorem seenr_get {l : List It} {a : List (Int × Int)} (h : SeenR l a) (v : Int) : (mget v a).elim (.int .i64 0) (Value.int .i64) = .int .i64 (cntR v l) := by
  rw [h]
  split
  · rename_i h1; rw [h1]; rfl
  · rfl
theorem seenr_put {l : List It} {a : List (Int × Int)} (h : SeenR l a) (x : It) : SeenR (l ++ [x]) (mput x.rv (cntR x.rv l + 1 : Nat) a) := fun v => by
  rw [mget_put, h, cntR_snoc]
  by_cases hv : v = x.rv
  · subst hv; rw [if_pos rfl, if_pos rfl, if_neg (by omega)]
  · rw [if_neg hv, show (if x.rv = v then 1 else 0) = 0 from if_neg (fun e => hv e.symm), Nat.add_zero]
def srtR (l : List It) : List Int := (Go.Sort.sort So.lt (revs l).toArray).toList
def pins (l : List It) : List (Int × Nat) := (srtR l).map fun v => (v, cntR v l)
def pnc (p : Int × Nat) : List Value := [.int .u64 p.1, .int .i64 (p.2 : Int)]
theorem pnc_len (p : Int × Nat) : (pnc p).length = 2 := rfl
theorem pnc_plain (l : List (Int × Nat)) : (l.flatMap pnc).all plainV = true := by
  rw [List.all_eq_true]
  intro v hv
  obtain ⟨x, _, hx⟩ := List.mem_flatMap.1 hv
  simp only [pnc, List.mem_cons, List.mem_nil_iff, or_false] at hx
  rcases hx with rfl | rfl <;> rfl
theorem allI_take {l : List Fl} {i : Nat} {f : Fl} (h : l[i]? = some f) : allI (l.take (i + 1)) = allI (l.take i) ++ f.is := by rw [take_snoc h]; simp [allI]
def PinsP (ps : List (Int × Nat)) (e : Int) : Value → Heap → Prop := fun v H => ∃ sv, v = .tuple #[sv, .int .i64 e] ∧ SlV tyP 2 (ps.flatMap pnc) ps.length true sv H
theorem PinsP.mono {l : List (Int × Nat)} {e : Int} : Kn.mono (.sat (PinsP l e)) := fun _ _ _ ⟨sv, h1, h2⟩ hle => ⟨sv, h1, h2.le hle⟩
theorem u64_und : Try.prog.underlying 31 = some (.int .u64) := by kernel_rfl
theorem mpu_und : Try.prog.underlying 123 = some (.map 31 3) := by kernel_rfl
theorem mpi_zero (w : World) : (zeroValue 3).run Try.prog w = .ok (.int .i64 0) w := Try.zeroValue3 w
theorem rev_snoc {κ : Kap} {s : Nat} {r : List Int} {x : Int} (h : κ s = some (.own (SlR So.tyU 1 (r.length + 1) (r.map (Value.int .u64) ++ [.int .u64 x])))) : κ s = some (.own (SlR So.tyU 1 (r ++ [x]).length ((r ++ [x]).map (Value.int .u64)))) := by
  rw [h, List.map_append, List.length_append]; rfl
theorem pin_snoc {κ : Kap} {s : Nat} {r : List (Int × Nat)} {x : Int} {c : Nat} (h : κ s = some (.own (SlR tyP 2 (r.length + 1) (r.flatMap pnc ++ [.int .u64 x, .int .i64 (c : Int)])))) : κ s = some (.own (SlR tyP 2 (r ++ [(x, c)]).length ((r ++ [(x, c)]).flatMap pnc))) := by
  rw [h, List.flatMap_append, List.length_append]; rfl
theorem rv_plain (l : List Int) : (l.map (Value.int .u64)).all plainV = true := by
  rw [List.all_eq_true]
  intro v hv
  obtain ⟨x, _, rfl⟩ := List.mem_map.1 hv
  rfl
theorem rv_at {l : List Int} {i : Nat} {x : Int} (h : l[i]? = some x) : ((l.map (Value.int .u64)).drop (i * 1)).take 1 = [.int .u64 x] := by
  rw [Nat.mul_one, List.drop_eq_getElem_cons (by rw [List.length_map]; exact get_lt h), List.take_succ_cons, List.take_zero, List.getElem_map]
  congr 2
  have hi := get_lt h
  rw [List.getElem?_eq_getElem hi] at h
  exact Option.some.inj h
attribute [local irreducible] V N X VO Par StepOK Has Ret RetL RetO RetT RetG RetX Src
theorem ownP1_ret {xs : List Value} {n : Nat} {fa : Bool} {a v : Value} {w : World} {B : Heap} (ha : SlV tyP 2 xs n fa a B) (px : xs.all plainV = true) (hl : n ≤ 50000) (hB : B.Le (hp w)) (hv : SlB [a] 70 1 v B) :
    Ret Try.prog 59 [v] w B (SlN B tyP 2 xs n true) := by
  have h := ownP_ret (lsts1 ha px) (by simp) (by simpa [nXs] using hl) hB hv
  have e1 : nXs [(xs, n)] = n := by simp [nXs]
  have e2 : cXs [(xs, n)] = xs := by simp [cXs]
  rw [e1, e2] at h
  exact h.toN hB
theorem sortR_ret {l : List Int} {rest : List Value} {b m cap : Nat} (hm : l.length = m) (hm1 : m ≤ 100000) {w : World} {B : Heap} {C : Nat → Prop} (hB : B.Le (hp w)) (hr : (GHeld b (l.map (Value.int .u64) ++ rest) So.tyU).P B w C) (hC : ∀ k, C k → k < w.heap.size ∧ B k = none) :
    RetG Try.prog 58 [.slice (some ⟨b, 0, none⟩) m cap] w B C (GHeld b ((Go.Sort.sort So.lt l.toArray).toList.map (Value.int .u64) ++ rest) So.tyU) :=
  So.sortU_ret (d := l.toArray) (rest := rest) hm hm1 hB hr hC
theorem srt_len (l : List It) : (srtR l).length = (revs l).length := by
  have := (Go.Sort.sort_sorts So.lt Go.Sort.swo_ltInt (revs l).toArray).1.1
  unfold srtR
  rw [Array.length_toList, this, List.size_toArray]
set_option maxHeartbeats 4000000 in
set_option maxRecDepth 20000 in
theorem pins_ret {t : Tb} {zs : List (Fl × Value)} (hz : zs.map Prod.fst = t.fl) {fu fi : Bool} {s : Value} {w : World} {B : Heap} (hs : FsB zs fu fi s B) (hZ : ∀ f ∈ t.fl, QuZ f.q) (hn : itsN t.fl ≤ 4611686018427387904) (hB : B.Le (hp w)) :
    Ret Try.prog 28 [tbv t.nx s] w B (PinsP (if chkE t = 0 then pins (allI t.fl) else []) (chkE t)) := by
  have hsl := hs.sl
  have hlen := fls_len hz
  have hzl := hs.ln
  obtain ⟨e, hc⟩ : ∃ e, chkE t = e := ⟨_, rfl⟩
  rw [hc]
  refine ya Try.func28 rfl Try.ntmps28 (Nat.le_of_ble_eq_true rfl) hB ?_
  by_cases h0 : e = 0
  · subst h0
    have h1024 := chk_its hc
    rw [if_pos rfl]
    refine ze ?_; refine zb (id := 0) ?_; refine Zs21 ?_; refine Zs2 ?_; refine Zs2 ?_; refine zd ?_; refine zf ?_; refine ze ?_; refine ze ?_; refine zb (id := 1) ?_; refine z7 (zn L (vs := [_, _]) (zl rfl) rfl rfl rfl rfl ⟨_, rfl⟩) rfl ?_; refine z7 (zo L rfl rfl (zg rfl) rfl rfl rfl (fun u H hH hle _ => check_ret hz (hs.le hle) hZ hn hc hH)) rfl ?_; refine Zs2 ?_; refine zd ?_; refine zf ?_; refine ze ?_; refine zb (id := 2) ?_; refine Zs1 ?_; refine Zs10 ?_; refine zd ?_; refine zf ?_; refine zm rfl ?_; refine zt ?_; refine zf ?_; refine ze ?_; refine zb (id := 4) ?_; refine z7 (ok_makeMapI (Y := Int) .u64 (Value.int .i64) rfl rfl) rfl ?_; refine qh (ok_moveO (.inr rfl) rfl rfl rfl rfl) ?_; refine zd ?_; refine zf ?_; refine ze ?_
    refine V_holdMi 5 900 rfl fun b => ?_
    refine zb (id := 5) ?_; refine Zs2 ?_; refine zd ?_; refine zf ?_; refine ze ?_; refine ze ?_; refine zb (id := 6) ?_; refine Zs5 ?_; refine Zs17 ?_; refine Zs31 ?_; refine Zs1 ?_; refine zd ?_; refine zf ?_; refine zy ?_
    refine V_nilR 6 So.tyU 1 rfl ?_
    refine V_loop (fun x : Nat × List (Int × Int) => [(5, .is (.map (some b))), (6, .own (SlR So.tyU 1 (revs (allI (t.fl.take x.1))).length ((revs (allI (t.fl.take x.1))).map (Value.int .u64)))), (21, .sat (SlV tyF 14 (zs.flatMap flc) zs.length fu)), (22, .is (.int .i64 zs.length)), (23, .is (.int .i64 x.1)), (900, .own (MapHi b .u64 (Value.int .i64) x.2))]) (fun x => x.1 ≤ zs.length ∧ SeenR (allI (t.fl.take x.1)) x.2) (fun x => zs.length - x.1) (0, []) ⟨Nat.zero_le _, seenr_nil⟩ ⟨rfl, rfl, rfl, rfl, rfl, rfl, trivial⟩ ?_
    rintro ⟨i, a⟩ ⟨hi, hsn⟩
    dsimp only at hi hsn ⊢
    by_cases hlt : i < zs.length
    · obtain ⟨f, pp, c, hzi, hli, hzv, hil, hc14⟩ := hs.at hz hlt
      have hat := allI_take hli
      have hfl : f.is.length ≤ itsN t.fl := is_le (fls_mem hli)
      have hal : (allI (t.fl.take i)).length + f.is.length ≤ itsN t.fl := by
        have h1 := itsN_take hli
        have h2 := itsN_le t.fl (i + 1)
        rw [itsN_allI]; omega
      generalize allI (t.fl.take i) = pre at *
      refine ze ?_; refine zb (id := 7) ?_; refine Zs11 ?_; refine zd ?_; refine zf ?_; refine ze ?_; refine zw rfl ?_; refine zt ?_; refine zf ?_; refine ze ?_; refine zy ?_; refine ze ?_; refine zb (id := 8) ?_; refine z7 (qb L _ rfl rfl rfl rfl rfl rfl rfl (by first | omega | decide) (by assumption)) rfl ?_; refine z7 (y5 L (vs := [_, _, _, _, _, _, _, _, _, _, _, _, _, _]) rfl rfl rfl rfl rfl ⟨_, rfl⟩) rfl ?_; refine Zs24 ?_; refine Zs14 ?_; refine zd ?_; refine zf ?_; refine ze ?_
      refine V_pub 8 rfl ?_
      refine zb (id := 9) ?_; refine Zs5 ?_; refine Zs17 ?_; refine Zs31 ?_; refine Zs1 ?_; refine zd ?_; refine zf ?_; refine zy ?_
      refine V_loop (fun y : Nat × List (Int × Int) => [(5, .is (.map (some b))), (6, .own (SlR So.tyU 1 (revs (pre ++ f.is.take y.1)).length ((revs (pre ++ f.is.take y.1)).map (Value.int .u64)))), (21, .sat (SlV tyF 14 (zs.flatMap flc) zs.length fu)), (22, .is (.int .i64 zs.length)), (23, .is (.int .i64 i)), (28, .sat (IsV f.is fi)), (29, .is (.int .i64 f.is.length)), (30, .is (.int .i64 y.1)), (900, .own (MapHi b .u64 (Value.int .i64) y.2))]) (fun y => y.1 ≤ f.is.length ∧ SeenR (pre ++ f.is.take y.1) y.2) (fun y => f.is.length - y.1) (0, a) ⟨Nat.zero_le _, by simpa using hsn⟩ ⟨rfl, by rw [List.take_zero, List.append_nil]; rfl, rfl, rfl, rfl, rfl, rfl, rfl, rfl, trivial⟩ ?_
      rintro ⟨k, a2⟩ ⟨hk, hsk⟩
      dsimp only at hk hsk ⊢
      by_cases hkl : k < f.is.length
      · obtain ⟨x, hx⟩ := get_some hkl
        have hc := it_at hx
        have hst : pre ++ f.is.take (k + 1) = (pre ++ f.is.take k) ++ [x] := by rw [take_snoc hx, List.append_assoc]
        have hrl := revs_len (pre ++ f.is.take k)
        have hmr := mem_revs (pre ++ f.is.take k) x.rv
        have hcl : cntR x.rv (pre ++ f.is.take k) ≤ (pre ++ f.is.take k).length := List.countP_le_length
        have hpl2 : (pre ++ f.is.take k).length ≤ itsN t.fl := by rw [List.length_append, List.length_take]; omega
        have hgr := seenr_get hsk x.rv
        have hpt := seenr_put hsk x
        have hrs := revs_snoc (pre ++ f.is.take k) x
        rw [← hst] at hpt hrs
        have hpln := rv_plain (revs (pre ++ f.is.take k))
        have hrl2 : ((revs (pre ++ f.is.take k)).map (Value.int .u64)).length = (revs (pre ++ f.is.take k)).length * 1 := by rw [List.length_map, Nat.mul_one]
        have had : IntKind.i64.wrap ((cntR x.rv (pre ++ f.is.take k) : Int) + 1) = ((cntR x.rv (pre ++ f.is.take k) + 1 : Nat) : Int) := wrap_i64 (by omega) (by omega) |>.trans (by omega)
        by_cases h0 : cntR x.rv (pre ++ f.is.take k) = 0
        · rw [if_neg (fun h => by have := hmr.1 h; omega)] at hrs
          refine ze ?_; refine zb (id := 10) ?_; refine Zs11 ?_; refine zd ?_; refine zf ?_; refine ze ?_; refine zw rfl ?_; refine zt ?_; refine zf ?_; refine ze ?_; refine zy ?_; refine ze ?_; refine zb (id := 11) ?_; refine z7 (qb L _ rfl rfl rfl rfl rfl rfl rfl (by first | omega | decide) (by assumption)) rfl ?_; refine z7 (y5 L (vs := [_, _, _, _, _]) rfl rfl rfl rfl rfl ⟨_, rfl⟩) rfl ?_; refine Zs24 ?_; refine Zs14 ?_; refine zd ?_; refine zf ?_; refine ze ?_; refine ze ?_
          refine V_pub 10 rfl ?_
          refine zb (id := 12) ?_; refine Zs1 ?_; refine Zs5 ?_; refine Zs4 ?_; refine vo_stepR (ok_lookupI (q := 900) x.rv mpu_und u64_und mpi_zero rfl rfl rfl rfl rfl hgr) ?_; refine Zs15 ?_; refine zd ?_; refine zf ?_; refine zw rfl ?_; refine zb (id := 13) ?_; refine qh (ok_moveO (.inl rfl) rfl rfl rfl rfl) ?_; refine Zs5 ?_; refine Zs4 ?_; refine Zs25 ?_; refine qh (ok_append L rfl rfl rfl (apd_B rfl) rfl el31 rfl rfl (by omega) (by omega)) ?_; refine qh (ok_moveO (.inr rfl) rfl rfl rfl rfl) ?_; refine zd ?_; refine zf ?_; refine zb (id := 14) ?_; refine Zs1 ?_; refine Zs5 ?_; refine Zs4 ?_; refine vo_stepR (ok_lookupI (q := 900) x.rv mpu_und u64_und mpi_zero rfl rfl rfl rfl rfl hgr) ?_; refine Zs18 ?_; refine vo_stepS (ok_mapUpdI (q := 900) x.rv ((cntR x.rv (pre ++ f.is.take k) + 1 : Nat) : Int) mpu_und u64_und rfl rfl rfl rfl rfl rfl rfl) ?_; refine zd ?_; refine qm ?_; refine zf ?_; refine zb (id := 15) ?_; refine Zs13 ?_; refine Zs1 ?_; refine zd ?_
          exact y1 (x := (k, a2)) (k + 1, mput x.rv ((cntR x.rv (pre ++ f.is.take k) + 1 : Nat) : Int) a2) ⟨hkl, hpt⟩ (by dsimp only; omega) ⟨rfl, by rw [hrs]; exact rev_snoc rfl, rfl, rfl, rfl, rfl, rfl, rfl, rfl, trivial⟩
        · rw [if_pos (hmr.2 (by omega))] at hrs
          refine ze ?_; refine zb (id := 10) ?_; refine Zs11 ?_; refine zd ?_; refine zf ?_; refine ze ?_; refine zw rfl ?_; refine zt ?_; refine zf ?_; refine ze ?_; refine zy ?_; refine ze ?_; refine zb (id := 11) ?_; refine z7 (qb L _ rfl rfl rfl rfl rfl rfl rfl (by first | omega | decide) (by assumption)) rfl ?_; refine z7 (y5 L (vs := [_, _, _, _, _]) rfl rfl rfl rfl rfl ⟨_, rfl⟩) rfl ?_; refine Zs24 ?_; refine Zs14 ?_; refine zd ?_; refine zf ?_; refine ze ?_; refine ze ?_
          refine V_pub 10 rfl ?_
          refine zb (id := 12) ?_; refine Zs1 ?_; refine Zs5 ?_; refine Zs4 ?_; refine vo_stepR (ok_lookupI (q := 900) x.rv mpu_und u64_und mpi_zero rfl rfl rfl rfl rfl hgr) ?_; refine Zs9 ?_; refine zd ?_; refine zf ?_; refine zm rfl ?_; refine zt ?_; refine zf ?_; refine zb (id := 14) ?_; refine Zs1 ?_; refine Zs5 ?_; refine Zs4 ?_; refine vo_stepR (ok_lookupI (q := 900) x.rv mpu_und u64_und mpi_zero rfl rfl rfl rfl rfl hgr) ?_; refine Zs18 ?_; refine vo_stepS (ok_mapUpdI (q := 900) x.rv ((cntR x.rv (pre ++ f.is.take k) + 1 : Nat) : Int) mpu_und u64_und rfl rfl rfl rfl rfl rfl rfl) ?_; refine zd ?_; refine qm ?_; refine zf ?_; refine zb (id := 15) ?_; refine Zs13 ?_; refine Zs1 ?_; refine zd ?_
          exact y1 (x := (k, a2)) (k + 1, mput x.rv ((cntR x.rv (pre ++ f.is.take k) + 1 : Nat) : Int) a2) ⟨hkl, hpt⟩ (by dsimp only; omega) ⟨rfl, by rw [hrs]; rfl, rfl, rfl, rfl, rfl, rfl, rfl, rfl, trivial⟩
      · obtain rfl : k = f.is.length := by omega
        rw [List.take_length] at hsk ⊢
        refine ze ?_; refine zb (id := 10) ?_; refine Zs8 ?_; refine zd ?_; refine zf ?_; refine ze ?_; refine zm rfl ?_; refine y7 ?_; refine qg ?_; refine qg ?_; refine y6 ?_; refine qm ?_; refine zf ?_; refine zb (id := 16) ?_; refine Zs13 ?_; refine Zs1 ?_; refine zd ?_
        exact y1 (x := (i, a)) (i + 1, a2) ⟨hlt, by dsimp only; rw [hat]; exact hsk⟩ (by dsimp only; omega) ⟨rfl, by rw [hat]; rfl, rfl, rfl, rfl, rfl, trivial⟩
    · obtain rfl : i = zs.length := by omega
      rw [hlen, List.take_length] at hsn ⊢
      have hal : (allI t.fl).length ≤ 1024 := by rw [itsN_allI]; exact h1024
      have hrl := revs_len (allI t.fl)
      have hsl2 := srt_len (allI t.fl)
      refine ze ?_; refine zb (id := 7) ?_; refine Zs8 ?_; refine zd ?_; refine zf ?_; refine ze ?_; refine zm rfl ?_; refine y7 ?_; refine qg ?_; refine qg ?_; refine y6 ?_; refine zf ?_; refine ze ?_
      refine V_holdR 6 901 rfl (fun hm0 _ => ?_) fun br cap rest hrl2 hmc hcm hcl => ?_
      · have hp0 : pins (allI t.fl) = [] := by
          unfold pins
          rw [List.eq_nil_of_length_eq_zero (hsl2.trans hm0)]; rfl
        rw [hp0]
        refine zb (id := 17) ?_; refine Zs1 ?_; refine z7 (ok_call (φ := fun _ _ => True) L rfl rfl (zg rfl) rfl rfl rfl (fun _ _ _ _ _ => trivial) (fun u H hH _ _ => So.sortN_ret hH)) rfl ?_; refine zd ?_; refine zf ?_; refine ze ?_; refine zb (id := 18) ?_; refine Zs2 ?_; refine zd ?_; refine zf ?_; refine ze ?_; refine ze ?_; refine zb (id := 19) ?_; refine Zs1 ?_; refine Zs35 ?_; refine Zs1 ?_; refine zd ?_; refine zf ?_; refine zy ?_
        refine V_loop (fun _ : Nat => [(11, .is (.slice none 0 0)), (54, .is (.int .i64 0)), (55, .is (.int .i64 0))]) (fun _ => True) (fun _ => 0) 0 trivial ⟨rfl, rfl, rfl, trivial⟩ ?_
        rintro _ _
        refine V_nilR 11 tyP 2 rfl ?_
        refine V_pubR 11 rfl ?_
        refine ze ?_; refine zb (id := 20) ?_; refine Zs8 ?_; refine zd ?_; refine zf ?_; refine ze ?_; refine zm rfl ?_; refine y7 ?_; refine qg ?_; refine qg ?_; refine y6 ?_; refine zf ?_; refine ze ?_; refine zb (id := 24) ?_; refine Zs37 ?_; refine z7 (ok_buildSliceS L (OneL tyP 2 [] 0 70) rfl rfl rfl rfl rfl rfl rfl OneL.mono (fun H hle v hv => by obtain ⟨p', c', rfl⟩ := slv_sh hv; exact ⟨rfl, fun v2 H2 hle2 h2 => ⟨_, _, h2, hv.le hle2⟩⟩)) rfl ?_; refine z7 (ok_call (φ := SlV tyP 2 [] 0 true) L rfl rfl (zg rfl) rfl rfl rfl SlV.mono (fun u H hH hle _ v hv => by obtain ⟨sl, fa, h1, h2⟩ := hv; exact Ret.mono (ownP1_ret h2 rfl (by omega) hH h1) fun v H' _ h => h.1)) rfl ?_; refine Zs60 ?_; refine Zs2 ?_; refine zd ?_; refine zf ?_
        refine qn L (rs := [.tmp 2, .tmp 3]) rfl (fun _ _ h => h) Since.refl fun u H hH hle => ?_
        exact fun v hv => ⟨_, rfl, hv⟩
      · refine zb (id := 17) ?_; refine Zs1 ?_; refine qh (ok_callG L 901 (GHeld br ((srtR (allI t.fl)).map (Value.int .u64) ++ rest) So.tyU) (r := GHeld br ((revs (allI t.fl)).map (Value.int .u64) ++ rest) So.tyU) rfl rfl rfl rfl rfl (fun u H C hH _ hr hC => sortR_ret rfl (by omega) hH hr hC)) ?_; refine zd ?_; refine zf ?_; refine ze ?_
        refine V_pubH 901 rfl fun H6 s6 hnb hb6 => ?_
        have hsv : SlV So.tyU 1 ((srtR (allI t.fl)).map (Value.int .u64)) (revs (allI t.fl)).length false (.slice (some ⟨br, 0, none⟩) (revs (allI t.fl)).length cap) H6 := ⟨by rw [List.length_map, hsl2, Nat.mul_one], .inr ⟨br, 0, cap, _, _, (0, 0), rfl, hb6, by show (((srtR (allI t.fl)).map (Value.int .u64) ++ rest).drop 0).take ((srtR (allI t.fl)).map (Value.int .u64)).length = _; rw [List.drop_zero, List.take_left], hmc, fun h => by cases h⟩⟩
        refine V_seen 6 (SlV So.tyU 1 ((srtR (allI t.fl)).map (Value.int .u64)) (revs (allI t.fl)).length false) rfl SlV.mono hsv ?_
        refine zb (id := 18) ?_; refine Zs2 ?_; refine zd ?_; refine zf ?_; refine ze ?_; refine ze ?_
        refine V_nilR 11 tyP 2 rfl ?_
        refine zb (id := 19) ?_; refine Zs37 ?_; refine Zs31 ?_; refine Zs1 ?_; refine zd ?_; refine zf ?_; refine zy ?_
        obtain ⟨m, hm⟩ : ∃ m, m = (revs (allI t.fl)).length := ⟨_, rfl⟩
        rw [← hm] at hsl2 hrl ⊢
        refine V_loop (fun i : Nat => [(5, .is (.map (some b))), (11, .own (SlR tyP 2 ((pins (allI t.fl)).take i).length (((pins (allI t.fl)).take i).flatMap pnc))), (53, .sat (SlV So.tyU 1 ((srtR (allI t.fl)).map (Value.int .u64)) m false)), (54, .is (.int .i64 m)), (55, .is (.int .i64 i)), (900, .own (MapHi b .u64 (Value.int .i64) a))]) (fun i => i ≤ m) (fun i => m - i) 0 (Nat.zero_le _) ⟨rfl, rfl, rfl, rfl, rfl, rfl, trivial⟩ ?_
        rintro i hi
        have hpl : (pins (allI t.fl)).length = m := by unfold pins; rw [List.length_map]; exact hsl2
        have hti : ((pins (allI t.fl)).take i).length = i := by rw [List.length_take]; omega
        by_cases hlt : i < m
        · obtain ⟨x, hx⟩ := get_some (show i < (srtR (allI t.fl)).length by omega)
          have hc := rv_at hx
          have hgr := seenr_get hsn x
          have hpx : (pins (allI t.fl))[i]? = some (x, cntR x (allI t.fl)) := by unfold pins; rw [List.getElem?_map, hx]; rfl
          have hts := take_snoc hpx
          have hpp := pnc_plain ((pins (allI t.fl)).take i)
          have hfl2 := flatMap_len pnc_len ((pins (allI t.fl)).take i)
          refine ze ?_; refine zb (id := 20) ?_; refine Zs11 ?_; refine zd ?_; refine zf ?_; refine ze ?_; refine zw rfl ?_; refine zt ?_; refine zf ?_; refine ze ?_; refine zy ?_; refine ze ?_; refine zb (id := 21) ?_; refine z7 (qb L _ rfl rfl rfl rfl rfl rfl rfl (by first | omega | decide) (by assumption)) rfl ?_; refine Zs43 ?_; refine Zs2 ?_; refine zd ?_; refine zf ?_; refine zb (id := 22) ?_; refine qh (ok_moveO (.inl rfl) rfl rfl rfl rfl) ?_; refine Zs1 ?_; refine Zs1 ?_; refine Zs1 ?_; refine vo_stepR (ok_lookupI (q := 900) x mpu_und u64_und mpi_zero rfl rfl rfl rfl rfl hgr) ?_; refine z7 (qt (cs := [_, _]) rfl rfl pl74 rfl rfl) rfl ?_; refine Zs25 ?_; refine qh (ok_append L rfl rfl rfl (apd_B rfl) rfl el74 rfl rfl (by omega) (by omega)) ?_; refine qh (ok_moveO (.inr rfl) rfl rfl rfl rfl) ?_; refine zd ?_; refine qm ?_; refine zf ?_; refine zb (id := 23) ?_; refine Zs13 ?_; refine Zs1 ?_; refine zd ?_
          exact N_roundS (x := i) (i + 1) Since.refl hlt (by omega) ⟨rfl, by rw [hts]; exact pin_snoc rfl, rfl, rfl, rfl, rfl, trivial⟩
        · obtain rfl : i = m := by omega
          rw [List.take_of_length_le (by omega)]
          have hpp := pnc_plain (pins (allI t.fl))
          refine V_pubR 11 rfl ?_
          refine ze ?_; refine zb (id := 20) ?_; refine Zs8 ?_; refine zd ?_; refine zf ?_; refine ze ?_; refine zm rfl ?_; refine y7 ?_; refine qg ?_; refine qg ?_; refine y6 ?_; refine zf ?_; refine ze ?_; refine zb (id := 24) ?_; refine Zs37 ?_; refine z7 (ok_buildSliceS L (OneL tyP 2 ((pins (allI t.fl)).flatMap pnc) (pins (allI t.fl)).length 70) rfl rfl rfl rfl rfl rfl rfl OneL.mono (fun H hle v hv => by obtain ⟨p', c', rfl⟩ := slv_sh hv; exact ⟨rfl, fun v2 H2 hle2 h2 => ⟨_, _, h2, hv.le hle2⟩⟩)) rfl ?_; refine z7 (ok_call (φ := SlV tyP 2 ((pins (allI t.fl)).flatMap pnc) (pins (allI t.fl)).length true) L rfl rfl (zg rfl) rfl rfl rfl SlV.mono (fun u H hH hle _ v hv => by obtain ⟨sl, fa, h1, h2⟩ := hv; exact Ret.mono (ownP1_ret h2 hpp (by omega) hH h1) fun v H' _ h => h.1)) rfl ?_; refine Zs60 ?_; refine Zs2 ?_; refine zd ?_; refine zf ?_
          refine qn L (rs := [.tmp 2, .tmp 3]) rfl (fun _ _ h => h) s6 fun u H hH hle => ?_
          exact fun v hv => ⟨_, rfl, hv⟩
  · rw [if_neg h0]
    refine ze ?_; refine zb (id := 0) ?_; refine Zs21 ?_; refine Zs2 ?_; refine Zs2 ?_; refine zd ?_; refine zf ?_; refine ze ?_; refine ze ?_; refine zb (id := 1) ?_; refine z7 (zn L (vs := [_, _]) (zl rfl) rfl rfl rfl rfl ⟨_, rfl⟩) rfl ?_; refine z7 (zo L rfl rfl (zg rfl) rfl rfl rfl (fun u H hH hle _ => check_ret hz (hs.le hle) hZ hn hc hH)) rfl ?_; refine Zs2 ?_; refine zd ?_; refine zf ?_; refine ze ?_; refine zb (id := 2) ?_; refine Zs1 ?_; refine Zs27 ?_; refine zd ?_; refine zf ?_; refine zw rfl ?_; refine ze ?_; refine zb (id := 3) ?_; refine Zs1 ?_; refine Zs2 ?_; refine Zs2 ?_; refine zd ?_; refine zf ?_
    refine qn L (rs := [.tmp 2, .tmp 3]) rfl (fun _ _ h => h) Since.refl fun u H hH hle => ?_
    exact ⟨_, rfl, rfl, .inl ⟨rfl, _, rfl⟩⟩
end Go.V.L39
namespace Go.V.L39
open Go.Proofs Go.RowKit Go.V
theorem tup3 {φ1 φ2 φ3 : Value → Heap → Prop} {a b c : Value} {H : Heap} (h1 : φ1 a H) (h2 : φ2 b H) (h3 : φ3 c H) : TupS [φ1, φ2, φ3] (.tuple #[a, b, c]) H := ⟨[a, b, c], rfl, rfl, fun i φ x hi hx => by
  match i with
  | 0 => cases hi; cases hx; exact h1
  | 1 => cases hi; cases hx; exact h2
  | 2 => cases hi; cases hx; exact h3
  | i + 3 => cases hi⟩
theorem TbN.r {B : Heap} {t : Tb} {v : Value} {H : Heap} (h : TbN B t v H) : TbR t v H := let ⟨zs, s, h1, h2, h3, _, _⟩ := h; ⟨zs, s, h1, h2, h3.nofu⟩
theorem TabP.tup {B : Heap} {t : Tb} {e : Int} {v : Value} {H : Heap} (h : TabP B t e v H) : RTabS t e v H := by
  obtain ⟨tv, rfl, h⟩ := h
  exact tup2 h.r rfl
abbrev JoinS (r : Tb × Int × Bool) (e : Int) : Value → Heap → Prop := TupS [TbR r.1, fun v _ => v = .int .i64 r.2.1, fun v _ => v = .bool r.2.2, fun v _ => v = .int .i64 e]
theorem JoinS.mono {r : Tb × Int × Bool} {e : Int} : Kn.mono (.sat (JoinS r e)) := TupS.mono fun φ h => by
  simp only [List.mem_cons, List.mem_nil_iff, or_false] at h
  rcases h with rfl | rfl | rfl | rfl
  · exact TbR.mn
  · exact eqv_mono
  · exact eqv_mono
  · exact eqv_mono
theorem JoinP.tup {B : Heap} {r : Tb × Int × Bool} {e : Int} {v : Value} {H : Heap} (h : JoinP B r e v H) : JoinS r e v H := by
  obtain ⟨tv, rfl, h⟩ := h
  exact tup4 h.r rfl rfl rfl
def FlR (f : Fl) (v : Value) (H : Heap) : Prop := ∃ sv, v = flv f sv ∧ IsV f.is true sv H
theorem FlR.mn {f : Fl} : Kn.mono (.sat (FlR f)) := fun _ _ _ ⟨sv, h1, h2⟩ hle => ⟨sv, h1, h2.le hle⟩
abbrev FindS (f : Fl) (e : Int) : Value → Heap → Prop := TupS [FlR f, fun v _ => v = .int .i64 e]
theorem FindS.mono {f : Fl} {e : Int} : Kn.mono (.sat (FindS f e)) := TupS.mono fun φ h => by
  simp only [List.mem_cons, List.mem_nil_iff, or_false] at h
  rcases h with rfl | rfl
  · exact FlR.mn
  · exact eqv_mono
theorem FindP.tup {B : Heap} {f : Fl} {e : Int} {v : Value} {H : Heap} (h : FindP B f e v H) : FindS f e v H := by
  obtain ⟨sv, rfl, h⟩ := h
  exact tup2 ⟨sv, rfl, h.1⟩ rfl
abbrev LandS (t : Tb) (f : Fl) (e : Int) : Value → Heap → Prop := TupS [TbR t, FlR f, fun v _ => v = .int .i64 e]
theorem LandS.mono {t : Tb} {f : Fl} {e : Int} : Kn.mono (.sat (LandS t f e)) := TupS.mono fun φ h => by
  simp only [List.mem_cons, List.mem_nil_iff, or_false] at h
  rcases h with rfl | rfl | rfl
  · exact TbR.mn
  · exact FlR.mn
  · exact eqv_mono
theorem LandP.tup {B : Heap} {t : Tb} {f : Fl} {e : Int} {v : Value} {H : Heap} (h : LandP B t f e v H) : LandS t f e v H := by
  obtain ⟨tv, sv, rfl, h1, h2⟩ := h
  exact tup3 h1.r ⟨sv, rfl, h2.1⟩ rfl
abbrev PinsS (ps : List (Int × Nat)) (e : Int) : Value → Heap → Prop := TupS [SlV tyP 2 (ps.flatMap pnc) ps.length true, fun v _ => v = .int .i64 e]
theorem PinsS.mono {ps : List (Int × Nat)} {e : Int} : Kn.mono (.sat (PinsS ps e)) := TupS.mono fun φ h => by
  simp only [List.mem_cons, List.mem_nil_iff, or_false] at h
  rcases h with rfl | rfl
  · exact SlV.mono
  · exact eqv_mono
theorem PinsP.tup {ps : List (Int × Nat)} {e : Int} {v : Value} {H : Heap} (h : PinsP ps e v H) : PinsS ps e v H := by
  obtain ⟨sv, rfl, h⟩ := h
  exact tup2 h rfl
def flxC (f : Fl) (x : SlX) : List Value := flc (f, .slice x.1 x.2.1 x.2.2)
def FlX (f : Fl) (x : SlX) (H : Heap) : Prop := IsV f.is true (.slice x.1 x.2.1 x.2.2) H
theorem FlX.mono {f : Fl} : MonoX (FlX f) := fun _ _ _ h hle => by
  unfold FlX IsV at *
  exact SlV.le h hle
theorem flx_st {f : Fl} : ∀ v H, FlR f v H → ∃ x, FlX f x H ∧ cellsL v = flxC f x := fun v H ⟨sv, h1, h2⟩ => by
  obtain ⟨p, c, hsv⟩ := slv_sh h2
  subst h1 hsv
  exact ⟨(p, f.is.length, c), h2, rfl⟩
theorem flx_pl {f : Fl} (x : SlX) : (flxC f x).length = 14 ∧ (flxC f x).all plainV = true := ⟨rfl, rfl⟩
end Go.V.L39
namespace Go.V.L39
open Go.Proofs Go.RowKit Go.V
structure TZ39 (t : Tb) : Prop where
  q : ∀ f ∈ t.fl, QuZ f.q
  x : ∀ f ∈ t.fl, ∀ x ∈ f.is, 0 ≤ x.rv
theorem tz_zero : TZ39 T0 := ⟨fun f h => (by cases h), fun f h => (by cases h)⟩
theorem tz_join {t : Tb} (h : TZ39 t) {q : Qu} (hq : QuZ q) {rv : Int} {x : It} (hx : 0 ≤ x.rv) {rd : Int} {lo : Bool} : TZ39 (joinT t q rv x rd lo).1 := by
  by_cases he : joinE t q rv x rd lo = 0
  · cases hi : t.fl.findIdx? (hitB q rv lo) with
    | none =>
      rw [jTn he hi]
      refine ⟨fun f hf => ?_, fun f hf y hy => ?_⟩
      · rcases List.mem_append.1 hf with h1 | h1
        · exact h.q f h1
        · rw [List.mem_singleton.1 h1]; exact hq
      · rcases List.mem_append.1 hf with h1 | h1
        · exact h.x f h1 y hy
        · rw [List.mem_singleton.1 h1] at hy
          rw [List.mem_singleton.1 hy]; exact hx
    | some i =>
      obtain ⟨f0, hf0⟩ := get_some (List.findIdx?_eq_some_iff_getElem.1 hi).1
      rw [jTh he hi hf0]
      have key : ∀ f ∈ t.fl.modify i (addI x), ∃ g ∈ t.fl, f = g ∨ f = addI x g := fun f hf => by
        obtain ⟨j, hj⟩ := List.getElem?_of_mem hf
        rw [List.getElem?_modify] at hj
        cases hl : t.fl[j]? with
        | none => rw [hl] at hj; cases hj
        | some g =>
          rw [hl] at hj
          refine ⟨g, fls_mem hl, ?_⟩
          by_cases hij : i = j
          · right; simpa [hij] using hj.symm
          · left; simpa [hij] using hj.symm
      refine ⟨fun f hf => ?_, fun f hf y hy => ?_⟩
      · obtain ⟨g, hg, rfl | rfl⟩ := key f hf
        · exact h.q _ hg
        · exact h.q g hg
      · obtain ⟨g, hg, rfl | rfl⟩ := key f hf
        · exact h.x _ hg y hy
        · rcases List.mem_append.1 hy with h1 | h1
          · exact h.x g hg y h1
          · rw [List.mem_singleton.1 h1]; exact hx
  · rw [jT0 he]; exact tz_zero
theorem tz_cm {t : Tb} (h : TZ39 t) {id st : Int} : TZ39 (cmT t id st) := by
  unfold cmT
  split
  · exact tz_zero
  · refine ⟨fun f hf => ?_, fun f hf y hy => ?_⟩
    · obtain ⟨g, hg, rfl⟩ := List.mem_map.1 hf
      split
      · exact h.q g hg
      · exact h.q g hg
    · obtain ⟨g, hg, rfl⟩ := List.mem_map.1 hf
      split at hy
      · exact h.x g hg y hy
      · exact h.x g hg y hy
theorem tz_ld {t : Tb} (h : TZ39 t) {id : Int} : TZ39 (ldT t id) := by
  unfold ldT
  split
  · exact tz_zero
  · exact ⟨fun f hf => h.q f (List.mem_filter.1 hf).1, fun f hf => h.x f (List.mem_filter.1 hf).1⟩
theorem tz_stp {t : Tb} (h : TZ39 t) (o : Op6) (i : Nat) : TZ39 (stp t o i) := by
  unfold stp jS
  repeat' split
  · exact tz_join h (qS_z _) (itS_rv _ _)
  · exact h
  · exact h
  · exact tz_cm h
  · exact h
  · exact tz_ld h
  · exact h
theorem lv_tz : ∀ i, TZ39 (lvT i)
  | 0 => tz_zero
  | i + 1 => tz_join (lv_tz i) (by unfold lvQ; split <;> exact qS_z _) (by
    rcases i with _ | _ | _ | i
    · exact (by decide : (0 : Int) ≤ 1)
    · exact (by decide : (0 : Int) ≤ 1)
    · exact (by decide : (0 : Int) ≤ 2)
    · exact (by decide : (0 : Int) ≤ 1))
end Go.V.L39
namespace Go.V.L39
open Go.Proofs Go.RowKit Go.V
section
variable {P : Program} {F : Fr} {B : Heap} {n : Nat} {O : Boxes} {ops : Array Oper} {ex : Exs} {κ : Kap} {Q : Exit → Act → World → Prop} {o : Oper} {os : List Oper} {d : Nat} {k : Kn}
theorem _root_.Go.V.Zs46 (h : VO P F B n O ops (upd κ d k) os Q) (s : StepOK P F B n ops O κ o d k := by exact yb rfl rfl rfl rfl (by assumption)) (v : vd o = some d := by rfl) : VO P F B n O ops κ (o :: os) Q := z7 s v h
theorem _root_.Go.V.Zs48 (h : VO P F B n O ops (upd κ d k) os Q) (s : StepOK P F B n ops O κ o d k := by exact qp rfl rfl rfl rfl) (v : vd o = some d := by rfl) : VO P F B n O ops κ (o :: os) Q := z7 s v h
theorem _root_.Go.V.Zs73 (h : Par P F B n O ops ex (upd κ d k) os Q) (s : StepOK P F B n ops O κ o d k := by exact ok_indexSl L 0 rfl rfl rfl rfl rfl rfl rfl (by omega)) (v : vd o = some d := by rfl) : Par P F B n O ops ex κ (o :: os) Q := z8 s v h
end
theorem lv_n : ∀ i, i < 5 → itsN (lvT i).fl ≤ 4 ∧ (lvT i).fl.length ≤ 3 := by decide +kernel
theorem lv_cnt : ckE (lvT 4) 0 = 0 ∧ cntB (fun x => decide (x.cl = 0)) (lvT 4).fl = 3 ∧ chkE (lvT 4) = 0 ∧ pins (allI (lvT 4).fl) = [(1, 3), (2, 1)] := by decide +kernel
theorem lv_n2 : itsN (cmT (lvT 4) 0 7).fl ≤ 4 ∧ (cmT (lvT 4) 0 7).fl.length ≤ 3 ∧ itsN lvU.fl ≤ 4 ∧ lvU.fl.length ≤ 3 := by decide +kernel
theorem lv_n3 : itsN lvV.fl ≤ 4 ∧ lvV.fl.length ≤ 3 := by decide +kernel
def lvW : Tb := (joinT lvV (qS 0) 1 ⟨3, 0, 1, 0, 1⟩ 5 true).1
abbrev LvK (t : Tb) (id : Int) (md : Bool) (e : Int) : Value → Heap → Prop := TupS [TbR t, fun v _ => v = .int .i64 id, fun v _ => v = .bool md, fun v _ => v = .int .i64 e]
theorem LvK.mono {t : Tb} {id : Int} {md : Bool} {e : Int} : Kn.mono (.sat (LvK t id md e)) := TupS.mono fun φ h => by
  simp only [List.mem_cons, List.mem_nil_iff, or_false] at h
  rcases h with rfl | rfl | rfl | rfl
  · exact TbR.mn
  · exact eqv_mono
  · exact eqv_mono
  · exact eqv_mono
theorem lv_qz (i : Nat) : QuZ (lvQ i) := by unfold lvQ; split <;> exact qS_z _
abbrev LvJ (t : Tb) (id : Int) (md : Bool) : Value → Heap → Prop := TupS [TbR t, fun v _ => v = .int .i64 id, fun v _ => v = .bool md, fun v _ => v = .int .i64 0]
theorem LvJ.mono {t : Tb} {id : Int} {md : Bool} : Kn.mono (.sat (LvJ t id md)) := TupS.mono fun φ h => by
  simp only [List.mem_cons, List.mem_nil_iff, or_false] at h
  rcases h with rfl | rfl | rfl | rfl
  · exact TbR.mn
  · exact eqv_mono
  · exact eqv_mono
  · exact eqv_mono
theorem lv_tup {B H : Heap} {i : Nat} {v : Value} (hi : i < 4) (h : JoinP B (joinT (lvT i) (lvQ i) (lvI i).rv (lvI i) 5 false) (joinE (lvT i) (lvQ i) (lvI i).rv (lvI i) 5 false) v H) : LvJ (lvT (i + 1)) (([0, 0, 1, 2] : List Int)[i]?.getD 0) (decide (i ≠ 1)) v H := by
  obtain ⟨e1, e2⟩ := lv_join i hi
  have h3 := JoinP.tup h
  unfold JoinS at h3
  rw [e1, e2] at h3
  exact h3
attribute [local irreducible] V N X VO Par StepOK Has Ret RetL RetO RetT RetG Src
set_option maxHeartbeats 8000000 in
set_option maxRecDepth 20000 in
theorem lives_law {w : World} {B : Heap} (hB : B.Le (hp w)) : Ret Try.prog 10 [] w B (fun v _ => v = .bool true) := by
  refine ya Try.func10 rfl Try.ntmps10 (Nat.le_of_ble_eq_true rfl) hB ?_
  refine ze ?_; refine zb (id := 0) ?_; refine Zs2 ?_; refine zd ?_; refine zf ?_; refine ze ?_; refine zb (id := 1) ?_; refine z7 (zo L rfl rfl (zg rfl) rfl rfl rfl (fun u H hH _ _ => pair_law hH)) rfl ?_; refine Zs1 ?_; refine Zs50 ?_; refine Zs50 ?_; refine Zs24 ?_; refine Zs24 ?_; refine Zs14 ?_; refine Zs14 ?_; refine zd ?_; refine zf ?_; refine ze ?_; refine zb (id := 2) ?_; refine Zs24 ?_; refine zd ?_; refine zf ?_; refine ze ?_; refine zb (id := 3) ?_; refine z7 (zn L (vs := [_, _, _, _, _, _]) (qe rfl) rfl rfl rfl rfl ⟨_, rfl⟩) rfl ?_; refine z7 (zn L (vs := [_, _, _, _, _, _]) (qe rfl) rfl rfl rfl rfl ⟨_, rfl⟩) rfl ?_; refine z7 (zn L (vs := [_, _, _, _, _, _]) (qe rfl) rfl rfl rfl rfl ⟨_, rfl⟩) rfl ?_; refine z7 (zn L (vs := [_, _, _, _, _, _]) (qe rfl) rfl rfl rfl rfl ⟨_, rfl⟩) rfl ?_; refine Zs25 ?_; refine Zs60 ?_; refine zd ?_; refine zf ?_; refine ze ?_; refine zb (id := 4) ?_; refine z7 (qt (cs := [_, _, _, _, _]) rfl rfl pl33 rfl rfl) rfl ?_; refine z7 (qt (cs := [_, _, _, _, _]) rfl rfl pl33 rfl rfl) rfl ?_; refine z7 (qt (cs := [_, _, _, _, _]) rfl rfl pl33 rfl rfl) rfl ?_; refine z7 (qt (cs := [_, _, _, _, _]) rfl rfl pl33 rfl rfl) rfl ?_; refine Zs25 ?_; refine Zs60 ?_; refine zd ?_; refine zf ?_; refine ze ?_; refine zb (id := 5) ?_; refine z7 (zn L (vs := [_, _]) (qe rfl) rfl rfl rfl rfl ⟨_, rfl⟩) rfl ?_; refine Zs24 ?_; refine Zs14 ?_; refine zd ?_; refine zf ?_; refine ze ?_; refine ze ?_; refine zb (id := 6) ?_; refine Zs2 ?_; refine zd ?_; refine zf ?_; refine zy ?_
  refine V_clsX 3 TbX.mono ((none, 0, 0) : SlX) (show TbX (lvT 0) (none, 0, 0) B from ⟨[], rfl, fsb_nil rfl⟩) (r := fun x : SlX => Cell (tbxC (lvT 0) x) tyT) rfl ?_
  refine V_clsX 6 TbX.mono ((none, 0, 0) : SlX) (show TbX (lvT 0) (none, 0, 0) B from ⟨[], rfl, fsb_nil rfl⟩) (r := fun x : SlX => Cell (tbxC (lvT 0) x) tyT) rfl ?_
  refine V_loop (fun i : Nat => [(0, .is (.bool false)), (1, .own (Cell [.int .u8 (qS 0).kd, .string (qS 0).g.1.1, .string (qS 0).g.1.2, .string (qS 0).g.2, .string (qS 0).u.1, .string (qS 0).u.2] tyQ)), (2, .own (Cell [.int .u8 (qS 1).kd, .string (qS 1).g.1.1, .string (qS 1).g.1.2, .string (qS 1).g.2, .string (qS 1).u.1, .string (qS 1).u.2] tyQ)), (3, .own (ExR (fun x : SlX => Cell (tbxC (lvT i) x) tyT) (TbX (lvT i)) TbX.mono)), (4, .sat (SlB [.int .u8 (qS 0).kd, .string (qS 0).g.1.1, .string (qS 0).g.1.2, .string (qS 0).g.2, .string (qS 0).u.1, .string (qS 0).u.2, .int .u8 (qS 0).kd, .string (qS 0).g.1.1, .string (qS 0).g.1.2, .string (qS 0).g.2, .string (qS 0).u.1, .string (qS 0).u.2, .int .u8 (qS 0).kd, .string (qS 0).g.1.1, .string (qS 0).g.1.2, .string (qS 0).g.2, .string (qS 0).u.1, .string (qS 0).u.2, .int .u8 (qS 1).kd, .string (qS 1).g.1.1, .string (qS 1).g.1.2, .string (qS 1).g.2, .string (qS 1).u.1, .string (qS 1).u.2] tyQ 4)), (5, .sat (SlB [.int .i64 0, .int .i64 0, .int .i64 0, .int .i64 2, .int .u64 1, .int .i64 1, .int .i64 0, .int .i64 3, .int .i64 1, .int .u64 1, .int .i64 2, .int .i64 0, .int .i64 0, .int .i64 0, .int .u64 2, .int .i64 2, .int .i64 1, .int .i64 0, .int .i64 0, .int .u64 1] tyI 4)), (6, .own (ExR (fun x : SlX => Cell (tbxC (lvT (min i 1)) x) tyT) (TbX (lvT (min i 1))) TbX.mono)), (7, .is (.int .i64 i))]) (fun i => i ≤ 4) (fun i => 4 - i) 0 (Nat.zero_le _) ⟨rfl, rfl, rfl, rfl, rfl, rfl, rfl, rfl, trivial⟩ ?_
  rintro i hi
  by_cases hlt : i < 4
  · refine V_opnX 3 rfl fun ⟨p1, n1, c1⟩ H1 s1 ⟨zs, hz, hs⟩ => ?_
    dsimp only [tbxC] at hs ⊢
    obtain ⟨hn4, hl3⟩ := lv_n i (by omega)
    have hlen := fls_len hz
    have hn : itsN (lvT i).fl ≤ 4611686018427387904 := by omega
    rcases (by omega : i = 0 ∨ i = 1 ∨ i = 2 ∨ i = 3) with rfl | rfl | rfl | rfl
    · have hm := TbR.mn (t := lvT 1)
      refine ze ?_; refine ze ?_; refine zb (id := 7) ?_; refine Zs1 ?_; refine Zs11 ?_; refine zd ?_; refine zf ?_; refine zw rfl ?_; refine zt ?_; refine zf ?_; refine ze ?_; refine zy ?_; refine ze ?_; refine zz (id := 9) [] mixed (by kernel_rfl) ?_; refine z8 (zn L (vs := [_, _]) (qe rfl) rfl rfl rfl rfl ⟨_, rfl⟩) rfl ?_; refine Zs58 ?_; refine Zs7 ?_; refine Zs73 ?_; refine z8 (zn L (vs := [_, _, _, _, _, _]) (zl rfl) rfl rfl rfl rfl ⟨_, rfl⟩) rfl ?_; refine Zs58 ?_; refine Zs7 ?_; refine Zs73 ?_; refine Zs32 ?_; refine Zs39 ?_; refine Zs58 ?_; refine Zs7 ?_; refine Zs73 ?_; refine z8 (zn L (vs := [_, _, _, _, _]) (zl rfl) rfl rfl rfl rfl ⟨_, rfl⟩) rfl ?_; refine z8 (ok_call (φ := LvJ (lvT 1) 0 true) L rfl rfl (zg rfl) rfl rfl rfl LvJ.mono (fun u H hH hle _ => Ret.mono (join_ret (q := lvQ 0) (x := lvI 0) hz (hs.le hle) (lv_tz 0).q (lv_qz _) hn (by omega) hH) fun v H' _ h => lv_tup (i := 0) (by decide) h)) rfl ?_; refine Zs58 ?_; refine Zs64 ?_; refine Zs61 ?_; refine Zs61 ?_; refine Zs61 ?_; refine z8 (qo L rfl rfl rfl rfl) rfl ?_; refine z8 (ok_storeX L (X := SlX) (tbxC (lvT 1)) (TbX (lvT 1)) TbX.mono tbx_st (fun _ => ⟨rfl, rfl⟩) rfl rfl rfl rfl rfl) rfl ?_; refine Zs54 ?_; refine Zs54 ?_; refine Zs54 ?_; refine qk ?_; refine zf ?_; refine ze ?_; refine ze ?_
      refine V_opnX 8 rfl fun ⟨p2, n2, c2⟩ H2 s2 h2 => ?_
      refine V_opnX 6 rfl fun ⟨p6, n6, c6⟩ H6 s6 _ => ?_
      replace h2 := TbX.mono _ _ _ h2 s6.le
      dsimp only [tbxC]
      refine zb (id := 10) ?_; refine Zs1 ?_; refine Zs10 ?_; refine Zs1 ?_; refine Zs1 ?_; refine Zs25 ?_; refine Zs1 ?_; refine z7 (ok_indexSl L 0 rfl rfl rfl rfl rfl rfl rfl (by omega)) rfl ?_; refine Zs4 ?_; refine Zs10 ?_; refine Zs6 ?_; refine Zs1 ?_; refine Zs1 ?_; refine Zs1 ?_; refine Zs27 ?_; refine z7 (ok_bneq rfl rfl rfl rfl bt4 rfl) rfl ?_; refine Zs6 ?_; refine zd ?_; refine zf ?_; refine zm rfl ?_; refine zt ?_; refine zf ?_; refine ze ?_; refine zb (id := 12) ?_; refine z7 (zn L (vs := [_, _]) (qe rfl) rfl rfl rfl rfl ⟨_, rfl⟩) rfl ?_; refine Zs14 ?_; refine zd ?_; refine zf ?_; refine ze ?_; refine zb (id := 13) ?_; refine Zs1 ?_; refine Zs15 ?_; refine zd ?_; refine zf ?_; refine zw rfl ?_; refine zb (id := 14) ?_; refine z7 (zn L (vs := [_, _]) (qe rfl) rfl rfl rfl rfl ⟨_, rfl⟩) rfl ?_; refine Zs14 ?_; refine zd ?_; refine qm ?_; refine zf ?_; refine zb (id := 8) ?_; refine Zs1 ?_; refine Zs13 ?_; refine Zs2 ?_; refine zd ?_
      refine N_clsX 3 TbX.mono ((p2, n2, c2) : SlX) h2 (r := fun x : SlX => Cell (tbxC (lvT 1) x) tyT) rfl ?_
      refine N_clsX 6 TbX.mono ((p2, n2, c2) : SlX) h2 (r := fun x : SlX => Cell (tbxC (lvT 1) x) tyT) rfl ?_
      exact N_roundS (x := 0) 1 ((s1.trans s2).trans s6) (by decide) (by decide) ⟨rfl, rfl, rfl, rfl, rfl, rfl, rfl, rfl, trivial⟩
    · have hm := TbR.mn (t := lvT 2)
      refine ze ?_; refine ze ?_; refine zb (id := 7) ?_; refine Zs1 ?_; refine Zs11 ?_; refine zd ?_; refine zf ?_; refine zw rfl ?_; refine zt ?_; refine zf ?_; refine ze ?_; refine zy ?_; refine ze ?_; refine zz (id := 9) [] mixed (by kernel_rfl) ?_; refine z8 (zn L (vs := [_, _]) (qe rfl) rfl rfl rfl rfl ⟨_, rfl⟩) rfl ?_; refine Zs58 ?_; refine Zs7 ?_; refine z8 (ok_indexSl L _ rfl rfl rfl rfl rfl rfl rfl (by omega)) rfl ?_; refine z8 (zn L (vs := [_, _, _, _, _, _]) (zl rfl) rfl rfl rfl rfl ⟨_, rfl⟩) rfl ?_; refine Zs58 ?_; refine Zs7 ?_; refine z8 (ok_indexSl L _ rfl rfl rfl rfl rfl rfl rfl (by omega)) rfl ?_; refine Zs32 ?_; refine Zs39 ?_; refine Zs58 ?_; refine Zs7 ?_; refine z8 (ok_indexSl L _ rfl rfl rfl rfl rfl rfl rfl (by omega)) rfl ?_; refine z8 (zn L (vs := [_, _, _, _, _]) (zl rfl) rfl rfl rfl rfl ⟨_, rfl⟩) rfl ?_; refine z8 (ok_call (φ := LvJ (lvT 2) 0 false) L rfl rfl (zg rfl) rfl rfl rfl LvJ.mono (fun u H hH hle _ => Ret.mono (join_ret (q := lvQ 1) (x := lvI 1) hz (hs.le hle) (lv_tz 1).q (lv_qz _) hn (by omega) hH) fun v H' _ h => lv_tup (i := 1) (by decide) h)) rfl ?_; refine Zs58 ?_; refine Zs64 ?_; refine Zs61 ?_; refine Zs61 ?_; refine Zs61 ?_; refine z8 (qo L rfl rfl rfl rfl) rfl ?_; refine z8 (ok_storeX L (X := SlX) (tbxC (lvT 2)) (TbX (lvT 2)) TbX.mono tbx_st (fun _ => ⟨rfl, rfl⟩) rfl rfl rfl rfl rfl) rfl ?_; refine Zs54 ?_; refine Zs54 ?_; refine Zs54 ?_; refine qk ?_; refine zf ?_; refine ze ?_; refine ze ?_
      refine V_opnX 8 rfl fun ⟨p2, n2, c2⟩ H2 s2 h2 => ?_
      dsimp only [tbxC]
      refine zb (id := 10) ?_; refine Zs1 ?_; refine Zs10 ?_; refine Zs1 ?_; refine Zs1 ?_; refine Zs25 ?_; refine Zs1 ?_; refine z7 (ok_indexSl L _ rfl rfl rfl rfl rfl rfl rfl (by omega)) rfl ?_; refine Zs4 ?_; refine Zs10 ?_; refine Zs6 ?_; refine Zs1 ?_; refine Zs1 ?_; refine Zs1 ?_; refine Zs10 ?_; refine z7 (ok_bneq rfl rfl rfl rfl bt4 rfl) rfl ?_; refine Zs6 ?_; refine zd ?_; refine zf ?_; refine zm rfl ?_; refine zt ?_; refine zf ?_; refine ze ?_; refine zb (id := 12) ?_; refine z7 (zn L (vs := [_, _]) (qe rfl) rfl rfl rfl rfl ⟨_, rfl⟩) rfl ?_; refine Zs14 ?_; refine zd ?_; refine zf ?_; refine ze ?_; refine zb (id := 13) ?_; refine Zs1 ?_; refine Zs9 ?_; refine zd ?_; refine zf ?_; refine zm rfl ?_; refine zt ?_; refine qm ?_; refine zf ?_; refine zb (id := 8) ?_; refine Zs1 ?_; refine Zs13 ?_; refine Zs2 ?_; refine zd ?_
      refine N_clsX 3 TbX.mono ((p2, n2, c2) : SlX) h2 (r := fun x : SlX => Cell (tbxC (lvT 2) x) tyT) rfl ?_
      exact N_roundS (x := 1) 2 (s1.trans s2) (by decide) (by decide) ⟨rfl, rfl, rfl, rfl, rfl, rfl, rfl, rfl, trivial⟩
    · have hm := TbR.mn (t := lvT 3)
      refine ze ?_; refine ze ?_; refine zb (id := 7) ?_; refine Zs1 ?_; refine Zs11 ?_; refine zd ?_; refine zf ?_; refine zw rfl ?_; refine zt ?_; refine zf ?_; refine ze ?_; refine zy ?_; refine ze ?_; refine zz (id := 9) [] mixed (by kernel_rfl) ?_; refine z8 (zn L (vs := [_, _]) (qe rfl) rfl rfl rfl rfl ⟨_, rfl⟩) rfl ?_; refine Zs58 ?_; refine Zs7 ?_; refine z8 (ok_indexSl L _ rfl rfl rfl rfl rfl rfl rfl (by omega)) rfl ?_; refine z8 (zn L (vs := [_, _, _, _, _, _]) (zl rfl) rfl rfl rfl rfl ⟨_, rfl⟩) rfl ?_; refine Zs58 ?_; refine Zs7 ?_; refine z8 (ok_indexSl L _ rfl rfl rfl rfl rfl rfl rfl (by omega)) rfl ?_; refine Zs32 ?_; refine Zs39 ?_; refine Zs58 ?_; refine Zs7 ?_; refine z8 (ok_indexSl L _ rfl rfl rfl rfl rfl rfl rfl (by omega)) rfl ?_; refine z8 (zn L (vs := [_, _, _, _, _]) (zl rfl) rfl rfl rfl rfl ⟨_, rfl⟩) rfl ?_; refine z8 (ok_call (φ := LvJ (lvT 3) 1 true) L rfl rfl (zg rfl) rfl rfl rfl LvJ.mono (fun u H hH hle _ => Ret.mono (join_ret (q := lvQ 2) (x := lvI 2) hz (hs.le hle) (lv_tz 2).q (lv_qz _) hn (by omega) hH) fun v H' _ h => lv_tup (i := 2) (by decide) h)) rfl ?_; refine Zs58 ?_; refine Zs64 ?_; refine Zs61 ?_; refine Zs61 ?_; refine Zs61 ?_; refine z8 (qo L rfl rfl rfl rfl) rfl ?_; refine z8 (ok_storeX L (X := SlX) (tbxC (lvT 3)) (TbX (lvT 3)) TbX.mono tbx_st (fun _ => ⟨rfl, rfl⟩) rfl rfl rfl rfl rfl) rfl ?_; refine Zs54 ?_; refine Zs54 ?_; refine Zs54 ?_; refine qk ?_; refine zf ?_; refine ze ?_; refine ze ?_
      refine V_opnX 8 rfl fun ⟨p2, n2, c2⟩ H2 s2 h2 => ?_
      dsimp only [tbxC]
      refine zb (id := 10) ?_; refine Zs1 ?_; refine Zs10 ?_; refine Zs1 ?_; refine Zs1 ?_; refine Zs25 ?_; refine Zs1 ?_; refine z7 (ok_indexSl L _ rfl rfl rfl rfl rfl rfl rfl (by omega)) rfl ?_; refine Zs4 ?_; refine Zs10 ?_; refine Zs6 ?_; refine Zs1 ?_; refine Zs1 ?_; refine Zs1 ?_; refine Zs27 ?_; refine z7 (ok_bneq rfl rfl rfl rfl bt4 rfl) rfl ?_; refine Zs6 ?_; refine zd ?_; refine zf ?_; refine zm rfl ?_; refine zt ?_; refine zf ?_; refine ze ?_; refine zb (id := 12) ?_; refine z7 (zn L (vs := [_, _]) (qe rfl) rfl rfl rfl rfl ⟨_, rfl⟩) rfl ?_; refine Zs14 ?_; refine zd ?_; refine zf ?_; refine ze ?_; refine zb (id := 13) ?_; refine Zs1 ?_; refine Zs9 ?_; refine zd ?_; refine zf ?_; refine zm rfl ?_; refine zt ?_; refine qm ?_; refine zf ?_; refine zb (id := 8) ?_; refine Zs1 ?_; refine Zs13 ?_; refine Zs2 ?_; refine zd ?_
      refine N_clsX 3 TbX.mono ((p2, n2, c2) : SlX) h2 (r := fun x : SlX => Cell (tbxC (lvT 3) x) tyT) rfl ?_
      exact N_roundS (x := 2) 3 (s1.trans s2) (by decide) (by decide) ⟨rfl, rfl, rfl, rfl, rfl, rfl, rfl, rfl, trivial⟩
    · have hm := TbR.mn (t := lvT 4)
      refine ze ?_; refine ze ?_; refine zb (id := 7) ?_; refine Zs1 ?_; refine Zs11 ?_; refine zd ?_; refine zf ?_; refine zw rfl ?_; refine zt ?_; refine zf ?_; refine ze ?_; refine zy ?_; refine ze ?_; refine zz (id := 9) [] mixed (by kernel_rfl) ?_; refine z8 (zn L (vs := [_, _]) (qe rfl) rfl rfl rfl rfl ⟨_, rfl⟩) rfl ?_; refine Zs58 ?_; refine Zs7 ?_; refine z8 (ok_indexSl L _ rfl rfl rfl rfl rfl rfl rfl (by omega)) rfl ?_; refine z8 (zn L (vs := [_, _, _, _, _, _]) (zl rfl) rfl rfl rfl rfl ⟨_, rfl⟩) rfl ?_; refine Zs58 ?_; refine Zs7 ?_; refine z8 (ok_indexSl L _ rfl rfl rfl rfl rfl rfl rfl (by omega)) rfl ?_; refine Zs32 ?_; refine Zs39 ?_; refine Zs58 ?_; refine Zs7 ?_; refine z8 (ok_indexSl L _ rfl rfl rfl rfl rfl rfl rfl (by omega)) rfl ?_; refine z8 (zn L (vs := [_, _, _, _, _]) (zl rfl) rfl rfl rfl rfl ⟨_, rfl⟩) rfl ?_; refine z8 (ok_call (φ := LvJ (lvT 4) 2 true) L rfl rfl (zg rfl) rfl rfl rfl LvJ.mono (fun u H hH hle _ => Ret.mono (join_ret (q := lvQ 3) (x := lvI 3) hz (hs.le hle) (lv_tz 3).q (lv_qz _) hn (by omega) hH) fun v H' _ h => lv_tup (i := 3) (by decide) h)) rfl ?_; refine Zs58 ?_; refine Zs64 ?_; refine Zs61 ?_; refine Zs61 ?_; refine Zs61 ?_; refine z8 (qo L rfl rfl rfl rfl) rfl ?_; refine z8 (ok_storeX L (X := SlX) (tbxC (lvT 4)) (TbX (lvT 4)) TbX.mono tbx_st (fun _ => ⟨rfl, rfl⟩) rfl rfl rfl rfl rfl) rfl ?_; refine Zs54 ?_; refine Zs54 ?_; refine Zs54 ?_; refine qk ?_; refine zf ?_; refine ze ?_; refine ze ?_
      refine V_opnX 8 rfl fun ⟨p2, n2, c2⟩ H2 s2 h2 => ?_
      dsimp only [tbxC]
      refine zb (id := 10) ?_; refine Zs1 ?_; refine Zs10 ?_; refine Zs1 ?_; refine Zs1 ?_; refine Zs25 ?_; refine Zs1 ?_; refine z7 (ok_indexSl L _ rfl rfl rfl rfl rfl rfl rfl (by omega)) rfl ?_; refine Zs4 ?_; refine Zs10 ?_; refine Zs6 ?_; refine Zs1 ?_; refine Zs1 ?_; refine Zs1 ?_; refine Zs27 ?_; refine z7 (ok_bneq rfl rfl rfl rfl bt4 rfl) rfl ?_; refine Zs6 ?_; refine zd ?_; refine zf ?_; refine zm rfl ?_; refine zt ?_; refine zf ?_; refine ze ?_; refine zb (id := 12) ?_; refine z7 (zn L (vs := [_, _]) (qe rfl) rfl rfl rfl rfl ⟨_, rfl⟩) rfl ?_; refine Zs14 ?_; refine zd ?_; refine zf ?_; refine ze ?_; refine zb (id := 13) ?_; refine Zs1 ?_; refine Zs9 ?_; refine zd ?_; refine zf ?_; refine zm rfl ?_; refine zt ?_; refine qm ?_; refine zf ?_; refine zb (id := 8) ?_; refine Zs1 ?_; refine Zs13 ?_; refine Zs2 ?_; refine zd ?_
      refine N_clsX 3 TbX.mono ((p2, n2, c2) : SlX) h2 (r := fun x : SlX => Cell (tbxC (lvT 4) x) tyT) rfl ?_
      exact N_roundS (x := 3) 4 (s1.trans s2) (by decide) (by decide) ⟨rfl, rfl, rfl, rfl, rfl, rfl, rfl, rfl, trivial⟩
  · obtain rfl : i = 4 := by omega
    refine V_opnX 3 rfl fun ⟨p1, n1, c1⟩ H1 s1 ⟨zs, hz, hs⟩ => ?_
    dsimp only [tbxC] at hs ⊢
    obtain ⟨hn4, hl3⟩ := lv_n 4 (by decide)
    have hlen := fls_len hz
    have hn : itsN (lvT 4).fl ≤ 4611686018427387904 := by omega
    obtain ⟨r1, r2, r3, r4, r5, r6⟩ := lv_rest
    obtain ⟨k1, k2, k3, k4⟩ := lv_cnt
    have hmf := FlR.mn (f := findF (lvT 4) 0)
    refine ze ?_; refine ze ?_; refine zb (id := 7) ?_; refine Zs1 ?_; refine Zs8 ?_; refine zd ?_; refine zf ?_; refine zm rfl ?_; refine y7 ?_; refine qg ?_; refine qg ?_; refine y6 ?_; refine zf ?_; refine ze ?_; refine zb (id := 15) ?_; refine z7 (zn L (vs := [_, _]) (qe rfl) rfl rfl rfl rfl ⟨_, rfl⟩) rfl ?_; refine z7 (ok_call (φ := FindS (findF (lvT 4) 0) 0) L rfl rfl (zg rfl) rfl rfl rfl FindS.mono (fun u H hH hle _ => Ret.mono (find_ret hz (hs.le hle) (lv_tz 4).q hn hH) fun v H' _ h => (by have h2 := FindP.tup h; rw [r1] at h2; exact h2))) rfl ?_; refine Zs37 ?_; refine Zs46 ?_; refine Zs48 ?_; refine Zs24 ?_; refine z7 (ok_storeX L (X := SlX) (flxC (findF (lvT 4) 0)) (FlX (findF (lvT 4) 0)) FlX.mono flx_st flx_pl rfl rfl rfl rfl rfl) rfl ?_; refine Zs2 ?_; refine zd ?_; refine zf ?_; refine ze ?_
    refine zb (id := 16) ?_; refine z7 (zn L (vs := [_, _]) (qe rfl) rfl rfl rfl rfl ⟨_, rfl⟩) rfl ?_; refine z7 (zo (r := .tuple #[.int .i64 3, .int .i64 0]) L rfl rfl (zg rfl) rfl rfl rfl (fun u H hH hle _ => Ret.mono (waiting_ret hz (hs.le hle) (lv_tz 4).q hn hH) fun v H' _ h => (by rw [h, k1, if_pos rfl, k2]; rfl))) rfl ?_; refine Zs1 ?_; refine Zs50 ?_; refine Zs50 ?_; refine Zs2 ?_; refine Zs2 ?_; refine zd ?_; refine zf ?_; refine ze ?_
    have hmp := @SlV.mono tyP 2 ([(1, 3), (2, 1)] : List (Int × Nat)).length (([(1, 3), (2, 1)] : List (Int × Nat)).flatMap pnc) true
    refine zb (id := 17) ?_; refine z7 (zn L (vs := [_, _]) (qe rfl) rfl rfl rfl rfl ⟨_, rfl⟩) rfl ?_; refine z7 (ok_call (φ := PinsS [(1, 3), (2, 1)] 0) L rfl rfl (zg rfl) rfl rfl rfl PinsS.mono (fun u H hH hle _ => Ret.mono (pins_ret hz (hs.le hle) (lv_tz 4).q hn hH) fun v H' _ h => (by have h2 := PinsP.tup h; rw [k3, if_pos rfl, k4] at h2; exact h2))) rfl ?_; refine Zs37 ?_; refine Zs46 ?_; refine Zs48 ?_; refine Zs60 ?_; refine Zs2 ?_; refine zd ?_; refine zf ?_; refine ze ?_; refine ze ?_
    refine V_opnX 12 rfl fun ⟨p2, n2, c2⟩ H2 s2 h2 => ?_
    dsimp only [flxC]
    refine V_box 12 rfl fun b12 hb12 => ?_
    obtain ⟨f1, f2, f3, f4, f5, f6⟩ := lv_find
    have hc1 : ((([(1, 3), (2, 1)] : List (Int × Nat)).flatMap pnc).drop (0 * 2)).take 2 = [.int .u64 1, .int .i64 3] := rfl
    have hc2 : ((([(1, 3), (2, 1)] : List (Int × Nat)).flatMap pnc).drop (1 * 2)).take 2 = [.int .u64 2, .int .i64 1] := rfl
    refine zb (id := 18) ?_; refine Zs1 ?_; refine Zs10 ?_; refine Zs1 ?_; refine Zs1 ?_; refine Zs10 ?_; refine Zs6 ?_; refine Zs1 ?_; refine Zs1 ?_; refine Zs10 ?_; refine Zs6 ?_; refine Zs1 ?_; refine Zs19 ?_; refine z7 (zj L (qy rfl (List.Mem.head _)) rfl rfl rfl rfl) rfl ?_; refine z7 (qf rfl rfl rfl rfl rfl) rfl ?_; refine Zs6 ?_; refine Zs1 ?_; refine Zs19 ?_; refine z7 (zj L (qy rfl (List.Mem.head _)) rfl rfl rfl rfl) rfl ?_; refine z7 (qf rfl rfl rfl rfl rfl) rfl ?_; refine Zs6 ?_; refine Zs1 ?_; refine Zs19 ?_; refine z7 (zj L (qy rfl (List.Mem.head _)) rfl rfl rfl rfl) rfl ?_; refine z7 (qf rfl rfl rfl rfl rfl) rfl ?_; refine Zs6 ?_; refine Zs1 ?_; refine Zs1 ?_; refine Zs10 ?_; refine Zs6 ?_; refine Zs1 ?_; refine Zs37 ?_; refine Zs31 ?_; refine z7 (qf rfl rfl rfl rfl rfl) rfl ?_; refine Zs6 ?_; refine Zs1 ?_; refine Zs37 ?_; refine z7 (qb L _ rfl rfl rfl rfl rfl rfl rfl (by first | omega | decide) (by assumption)) rfl ?_; refine z7 (y5 L (vs := [_, _]) rfl rfl rfl rfl rfl ⟨_, rfl⟩) rfl ?_; refine z7 (qt (cs := [_, _]) rfl rfl pl74 rfl rfl) rfl ?_; refine z7 (ok_aneq rfl rfl rfl rfl eq74 rfl rfl) rfl ?_; refine Zs6 ?_; refine Zs1 ?_; refine Zs37 ?_; refine z7 (qb L _ rfl rfl rfl rfl rfl rfl rfl (by first | omega | decide) (by assumption)) rfl ?_; refine z7 (y5 L (vs := [_, _]) rfl rfl rfl rfl rfl ⟨_, rfl⟩) rfl ?_; refine z7 (qt (cs := [_, _]) rfl rfl pl74 rfl rfl) rfl ?_; refine z7 (ok_aneq rfl rfl rfl rfl eq74 rfl rfl) rfl ?_; refine Zs6 ?_; refine zd ?_; refine zf ?_; refine zm rfl ?_; refine zt ?_; refine zf ?_; refine ze ?_
    have hmc := TbR.mn (t := cmT (lvT 4) 0 7)
    have hs2 := hs.le s2.le
    refine zb (id := 20) ?_; refine z7 (zn L (vs := [_, _]) (qe rfl) rfl rfl rfl rfl ⟨_, rfl⟩) rfl ?_; refine z7 (ok_call (φ := RTabS (cmT (lvT 4) 0 7) 0) L rfl rfl (zg rfl) rfl rfl rfl RTabS.mono (fun u H hH hle _ => Ret.mono (commit_ret hz (hs2.le hle) (lv_tz 4).q hn (by omega) ⟨by decide, by decide⟩ hH) fun v H' _ h => (by have h2 := TabP.tup h; rw [r2] at h2; exact h2))) rfl ?_; refine Zs37 ?_; refine Zs46 ?_; refine Zs48 ?_; refine Zs24 ?_; refine z7 (ok_storeX L (X := SlX) (tbxC (cmT (lvT 4) 0 7)) (TbX (cmT (lvT 4) 0 7)) TbX.mono tbx_st (fun _ => ⟨rfl, rfl⟩) rfl rfl rfl rfl rfl) rfl ?_; refine Zs2 ?_; refine zd ?_; refine zf ?_; refine ze ?_
    refine V_opnX 18 rfl fun ⟨p3, n3, c3⟩ H3 s3 ⟨zs3, hz3, hs3⟩ => ?_
    dsimp only [tbxC] at hs3 ⊢
    obtain ⟨m1, m2, m3, m4⟩ := lv_n2
    have hl3 := fls_len hz3
    have hmu := TbR.mn (t := lvU)
    refine zb (id := 21) ?_; refine z7 (zn L (vs := [_, _]) (qe rfl) rfl rfl rfl rfl ⟨_, rfl⟩) rfl ?_; refine z7 (ok_call (φ := RTabS lvU 0) L rfl rfl (zg rfl) rfl rfl rfl RTabS.mono (fun u H hH hle _ => Ret.mono (commit_ret hz3 (hs3.le hle) (tz_cm (lv_tz 4)).q (by omega) (by omega) ⟨by decide, by decide⟩ hH) fun v H' _ h => (by have h2 := TabP.tup h; rw [r3] at h2; exact h2))) rfl ?_; refine Zs37 ?_; refine Zs46 ?_; refine Zs48 ?_; refine z7 (ok_storeX L (X := SlX) (tbxC lvU) (TbX lvU) TbX.mono tbx_st (fun _ => ⟨rfl, rfl⟩) rfl rfl rfl rfl rfl) rfl ?_; refine Zs2 ?_; refine zd ?_; refine zf ?_; refine ze ?_
    refine V_opnX 18 rfl fun ⟨p4, n4, c4⟩ H4 s4 ⟨zs4, hz4, hs4⟩ => ?_
    dsimp only [tbxC] at hs4 ⊢
    have hl4 := fls_len hz4
    have hmv := TbR.mn (t := lvV)
    have hmg := FlR.mn (f := findF lvU 0)
    refine zb (id := 22) ?_; refine z7 (zn L (vs := [_, _]) (qe rfl) rfl rfl rfl rfl ⟨_, rfl⟩) rfl ?_; refine z7 (ok_call (φ := LandS lvV (findF lvU 0) 0) L rfl rfl (zg rfl) rfl rfl rfl LandS.mono (fun u H hH hle _ => Ret.mono (land_ret hz4 (hs4.le hle) (tz_cm (tz_cm (lv_tz 4))).q (by omega) (by omega) hH) fun v H' _ h => (by have h2 := LandP.tup h; rw [r4] at h2; exact h2))) rfl ?_; refine Zs37 ?_; refine Zs46 ?_; refine Zs46 ?_; refine vo_opn 161 rfl fun fv H5 s5 ⟨sv5, e5, h5⟩ => ?_; subst e5; obtain ⟨p5, c5, e6⟩ := slv_sh h5; subst e6; refine Zs48 ?_; refine z7 (ok_storeX L (X := SlX) (tbxC lvV) (TbX lvV) TbX.mono tbx_st (fun _ => ⟨rfl, rfl⟩) rfl rfl rfl rfl rfl) rfl ?_; refine box_store L (O1 := []) rfl rfl rfl rfl rfl rfl rfl rfl rfl ?_; refine Zs2 ?_; refine zd ?_; refine zf ?_; refine ze ?_
    refine V_opnX 18 rfl fun ⟨p6, n6, c6⟩ H6 s6 ⟨zs6, hz6, hs6⟩ => ?_
    dsimp only [tbxC] at hs6 ⊢
    obtain ⟨m5, m6⟩ := lv_n3
    have hl6 := fls_len hz6
    have hzv : TZ39 lvV := tz_ld (tz_cm (tz_cm (lv_tz 4)))
    have hmw := TbR.mn (t := ldT lvV 0)
    have hmh := FlR.mn (f := findF lvV 0)
    refine zb (id := 23) ?_; refine z7 (zn L (vs := [_, _]) (qe rfl) rfl rfl rfl rfl ⟨_, rfl⟩) rfl ?_; refine z7 (ok_call (φ := LandS (ldT lvV 0) (findF lvV 0) 8) L rfl rfl (zg rfl) rfl rfl rfl LandS.mono (fun u H hH hle _ => Ret.mono (land_ret hz6 (hs6.le hle) hzv.q (by omega) (by omega) hH) fun v H' _ h => (by have h2 := LandP.tup h; rw [r5] at h2; exact h2))) rfl ?_; refine Zs37 ?_; refine Zs46 ?_; refine Zs46 ?_; refine Zs48 ?_; refine Zs24 ?_; refine Zs24 ?_; refine z7 (ok_storeX L (X := SlX) (tbxC (ldT lvV 0)) (TbX (ldT lvV 0)) TbX.mono tbx_st (fun _ => ⟨rfl, rfl⟩) rfl rfl rfl rfl rfl) rfl ?_; refine z7 (ok_storeX L (X := SlX) (flxC (findF lvV 0)) (FlX (findF lvV 0)) FlX.mono flx_st flx_pl rfl rfl rfl rfl rfl) rfl ?_; refine Zs2 ?_; refine zd ?_; refine zf ?_; refine ze ?_; refine ze ?_
    refine zb (id := 24) ?_; refine Zs1 ?_; refine Zs10 ?_; refine Zs1 ?_; refine Zs1 ?_; refine Zs10 ?_; refine Zs6 ?_; refine Zs1 ?_; refine Zs1 ?_; refine Zs10 ?_; refine Zs6 ?_; refine Zs1 ?_; refine Zs1 ?_; refine Zs10 ?_; refine Zs6 ?_; refine Zs1 ?_; refine Zs19 ?_; refine z7 (zj L (qy rfl (List.Mem.head _)) rfl rfl rfl rfl) rfl ?_; refine Zs10 ?_; refine Zs6 ?_; refine Zs1 ?_; refine Zs19 ?_; refine z7 (zj L (qy rfl (List.Mem.head _)) rfl rfl rfl rfl) rfl ?_; refine Zs10 ?_; refine Zs6 ?_; refine Zs1 ?_; refine Zs19 ?_; refine z7 (zj L (qy rfl (List.Mem.head _)) rfl rfl rfl rfl) rfl ?_; refine Zs35 ?_; refine Zs10 ?_; refine Zs6 ?_; refine zd ?_; refine zf ?_; refine zm rfl ?_; refine zt ?_; refine zf ?_; refine ze ?_
    obtain ⟨j1, j2, j3, j4⟩ := lv_ends
    have hw1 := TbR.mn (t := lvW)
    refine zb (id := 26) ?_; refine z7 (zn L (vs := [_, _]) (qe rfl) rfl rfl rfl rfl ⟨_, rfl⟩) rfl ?_; refine z7 (zn L (vs := [_, _, _, _, _, _]) (qe rfl) rfl rfl rfl rfl ⟨_, rfl⟩) rfl ?_; refine z7 (qt (cs := [_, _, _, _, _]) rfl rfl pl33 rfl rfl) rfl ?_; refine z7 (ok_call (φ := LvK lvW 1 false 0) L rfl rfl (zg rfl) rfl rfl rfl LvK.mono (fun u H hH hle _ => Ret.mono (join_ret (q := qS 0) (x := ⟨3, 0, 1, 0, 1⟩) hz6 (hs6.le hle) hzv.q (qS_z 0) (by omega) (by omega) hH) fun v H' _ h => (by have h2 := JoinP.tup h; unfold JoinS at h2; rw [j1, j2] at h2; exact h2))) rfl ?_; refine Zs37 ?_; refine Zs46 ?_; refine Zs48 ?_; refine Zs48 ?_; refine Zs48 ?_; refine Zs24 ?_; refine z7 (ok_storeX L (X := SlX) (tbxC lvW) (TbX lvW) TbX.mono tbx_st (fun _ => ⟨rfl, rfl⟩) rfl rfl rfl rfl rfl) rfl ?_; refine Zs2 ?_; refine Zs2 ?_; refine Zs2 ?_; refine zd ?_; refine zf ?_; refine ze ?_
    refine V_opnX 6 rfl fun ⟨p7, n7, c7⟩ H7 s7 ⟨zs7, hz7, hs7⟩ => ?_
    dsimp only [tbxC] at hs7 ⊢
    replace hz7 : zs7.map Prod.fst = (lvT 1).fl := hz7
    obtain ⟨m7, m8⟩ := lv_n 1 (by decide)
    have hl7 := fls_len hz7
    have hw2 := TbR.mn (t := T0)
    refine zz (id := 27) [] mixed (by kernel_rfl) ?_; refine z8 (zn L (vs := [_, _]) (qe rfl) rfl rfl rfl rfl ⟨_, rfl⟩) rfl ?_; refine z8 (zn L (vs := [_, _, _, _, _, _]) (qe rfl) rfl rfl rfl rfl ⟨_, rfl⟩) rfl ?_; refine Zs58 ?_; refine Zs73 ?_; refine z8 (zn L (vs := [_, _, _, _, _]) (zl rfl) rfl rfl rfl rfl ⟨_, rfl⟩) rfl ?_; refine z8 (ok_call (φ := LvK T0 0 false 4) L rfl rfl (zg rfl) rfl rfl rfl LvK.mono (fun u H hH hle _ => Ret.mono (join_ret (q := qS 0) (x := lvI 0) hz7 (hs7.le hle) (lv_tz 1).q (qS_z 0) (by omega) (by omega) hH) fun v H' _ h => (by have h2 := JoinP.tup h; unfold JoinS at h2; rw [jT0 (by rw [j3]; decide), j3] at h2; exact h2))) rfl ?_; refine Zs58 ?_; refine Zs64 ?_; refine Zs61 ?_; refine Zs61 ?_; refine Zs61 ?_; refine Zs54 ?_; refine qk ?_; refine zf ?_; refine ze ?_
    have hs8 := hs2.le ((((s3.le.trans s4.le).trans s5.le).trans s6.le).trans s7.le)
    refine zz (id := 28) [] mixed (by kernel_rfl) ?_; refine z8 (zn L (vs := [_, _]) (qe rfl) rfl rfl rfl rfl ⟨_, rfl⟩) rfl ?_; refine z8 (qt (cs := [_, _, _, _, _, _]) rfl rfl pl30 rfl rfl) rfl ?_; refine Zs58 ?_; refine Zs73 ?_; refine z8 (zn L (vs := [_, _, _, _, _]) (zl rfl) rfl rfl rfl rfl ⟨_, rfl⟩) rfl ?_; refine z8 (ok_call (φ := LvK T0 0 false 10) L rfl rfl (zg rfl) rfl rfl rfl LvK.mono (fun u H hH hle _ => Ret.mono (join_ret (q := ⟨0, ((⟨#[]⟩, ⟨#[]⟩), ⟨#[]⟩), U0⟩) (x := lvI 0) hz (hs8.le hle) (lv_tz 4).q (by exact ⟨⟨by decide, by decide⟩, by decide, by decide, by decide, by decide, by decide⟩) hn (by omega) hH) fun v H' _ h => (by have h2 := JoinP.tup h; unfold JoinS at h2; rw [jT0 (by rw [j4]; decide), j4] at h2; exact h2))) rfl ?_; refine Zs58 ?_; refine Zs64 ?_; refine Zs61 ?_; refine Zs61 ?_; refine Zs61 ?_; refine Zs54 ?_; refine qk ?_; refine zf ?_; refine ze ?_
    have hw3 := TbR.mn (t := cmT (lvT 4) 1 (-1))
    refine zb (id := 29) ?_; refine z7 (zn L (vs := [_, _]) (qe rfl) rfl rfl rfl rfl ⟨_, rfl⟩) rfl ?_; refine z7 (ok_call (φ := RTabS (cmT (lvT 4) 1 (-1)) 4) L rfl rfl (zg rfl) rfl rfl rfl RTabS.mono (fun u H hH hle _ => Ret.mono (commit_ret hz (hs8.le hle) (lv_tz 4).q hn (by omega) ⟨by decide, by decide⟩ hH) fun v H' _ h => (by have h2 := TabP.tup h; rw [r6] at h2; exact h2))) rfl ?_; refine Zs37 ?_; refine Zs46 ?_; refine Zs48 ?_; refine Zs2 ?_; refine zd ?_; refine zf ?_; refine ze ?_
    refine zb (id := 30) ?_; refine Zs1 ?_; refine Zs15 ?_; refine Zs1 ?_; refine Zs1 ?_; refine Zs15 ?_; refine Zs6 ?_; refine Zs1 ?_; refine Zs1 ?_; refine Zs49 ?_; refine Zs6 ?_; refine Zs1 ?_; refine Zs1 ?_; refine Zs15 ?_; refine Zs6 ?_; refine Zs1 ?_; refine Zs1 ?_; refine Zs15 ?_; refine Zs6 ?_; refine Zs1 ?_; refine Zs1 ?_; refine Zs15 ?_; refine Zs6 ?_; refine Zs2 ?_; refine zd ?_; refine zf ?_
    refine qn L (rs := [.tmp 0]) rfl (fun _ _ h => h) ((((((s1.trans s2).trans s3).trans s4).trans s5).trans s6).trans s7) fun u H hH hle => ?_
    rfl
end Go.V.L39
namespace Go.V.L39
open Go.Proofs Go.RowKit Go.V
structure TbI (B : Heap) (t : Tb) (s : Value) (zs : List (Fl × Value)) : Prop where
  fl : zs.map Prod.fst = t.fl
  sl : SlV tyF 14 (zs.flatMap flc) zs.length false s B
  is : ∀ (i : Nat) z, zs[i]? = some z → IsV z.1.is false z.2 B
  lz : ∀ f ∈ t.fl, f.is.length ≤ 4398046511104
  tz : TZ39 t
theorem TbI.le {B B' : Heap} {t : Tb} {s : Value} {zs : List (Fl × Value)} (h : TbI B t s zs) (hle : B.Le B') : TbI B' t s zs := ⟨h.fl, h.sl.le hle, fun i z hz => (h.is i z hz).le hle, h.lz, h.tz⟩
theorem itsN_max {m : Nat} : ∀ {l : List Fl}, (∀ f ∈ l, f.is.length ≤ m) → itsN l ≤ l.length * m
  | [], _ => Nat.zero_le _
  | f :: l, h => by
    have h1 := itsN_max (l := l) fun g hg => h g (List.mem_cons_of_mem _ hg)
    have h2 := h f (List.mem_cons_self ..)
    rw [List.length_cons, Nat.succ_mul]
    simp only [itsN, List.map_cons, List.sum_cons] at h1 ⊢
    omega
theorem TbI.fsb {B : Heap} {t : Tb} {s : Value} {zs : List (Fl × Value)} (h : TbI B t s zs) (hl : zs.length ≤ 30) : FsB zs false false s B ∧ itsN t.fl ≤ 131941395333120 := by
  refine ⟨⟨h.sl, h.is, by omega, fun i z hz => ?_⟩, ?_⟩
  · have := h.lz z.1 (by rw [← h.fl]; exact List.mem_map_of_mem (List.mem_of_getElem? hz))
    omega
  · have h1 := itsN_max h.lz
    have h2 := fls_len h.fl
    have h3 : t.fl.length * 4398046511104 ≤ 30 * 4398046511104 := Nat.mul_le_mul_right _ (by omega)
    omega
attribute [local irreducible] V N X VO Par StepOK Has Ret RetL RetO RetT RetG Src
theorem bnd_long {nx : Int} {xs : List Value} {n : Nat} {fu : Bool} {s : Value} (h : 30 < n) {w : World} {B : Heap} (hs : SlV tyF 14 xs n fu s B) (hB : B.Le (hp w)) :
    Ret Try.prog 9 [tbv nx s] w B (fun v _ => v = .bool false) := by
  refine ya Try.func9 rfl Try.ntmps9 (Nat.le_of_ble_eq_true rfl) hB ?_
  refine ze ?_; refine zb (id := 0) ?_; refine Zs21 ?_; refine Zs2 ?_; refine zd ?_; refine zf ?_; refine ze ?_; refine zb (id := 1) ?_; refine Zs5 ?_; refine Zs17 ?_; refine Zs31 ?_; refine Zs56 ?_; refine Zs1 ?_; refine Zs3 ?_; refine Zs3 ?_; refine Zs3 ?_; refine Zs6 ?_; refine Zs2 ?_; refine zd ?_; refine zf ?_
  refine qn L (rs := [.tmp 2]) rfl (fun _ _ h => h) Since.refl fun u H hH hle => ?_
  rfl
theorem bnd_law {t : Tb} {s : Value} {zs : List (Fl × Value)} {b : Bool} (hb : bndB t = b) {w : World} {B : Heap} (h : TbI B t s zs) (hB : B.Le (hp w)) :
    Ret Try.prog 9 [tbv t.nx s] w B (fun v _ => v = .bool b) := by
  by_cases hl : zs.length ≤ 30
  · obtain ⟨h1, h2⟩ := h.fsb hl
    exact bounded_law h.fl hb h1 (by omega) hB
  · obtain rfl : b = false := by
      rw [← hb]
      exact decide_eq_false fun hx => hl (by rw [fls_len h.fl]; exact hx.1)
    exact bnd_long (by omega) h.sl hB
theorem TbI.ok {B : Heap} {t : Tb} {s : Value} {zs : List (Fl × Value)} (h : TbI B t s zs) (hb : bndB t = true) : FsB zs false false s B ∧ itsN t.fl ≤ 60 ∧ zs.length ≤ 30 := by
  have h1 := of_decide_eq_true hb
  have h2 := fls_len h.fl
  exact ⟨(h.fsb (by omega)).1, h1.2, by omega⟩
end Go.V.L39
namespace Go.V.L39
open Go.Proofs Go.RowKit Go.V
theorem since_on {F : Fr} {B0 B : Heap} {S : List (Nat × List Value × TypeId)} (hs : Since F B0 B) (hS : ∀ y ∈ S, B0 y.1 = none) : Since F (B.off S) B := ⟨Heap.off_le, fun k hk hl => by
  have h1 := hs.fresh k hk hl
  unfold Heap.off
  split
  · rename_i h
    obtain ⟨y, hy, rfl⟩ := h
    rw [h1, hS y hy]
  · rfl⟩
def blkL (zs : List (Fl × Value)) : List (Nat × List Value × TypeId) := zs.filterMap fun z => match z.2 with
  | .slice (some a) _ _ => if z.1.is = [] then none else some (a.block, z.1.is.flatMap itc, tyI)
  | _ => none
theorem blk_mem {zs : List (Fl × Value)} {y : Nat × List Value × TypeId} (h : y ∈ blkL zs) : ∃ (i : Nat) (z : Fl × Value) (o : Nat) (k : Option (List Nat)) (m c : Nat), zs[i]? = some z ∧ (∃ a : Addr, a.block = y.1 ∧ z.2 = .slice (some a) m c) ∧ z.1.is ≠ [] ∧ y = (y.1, z.1.is.flatMap itc, tyI) := by
  obtain ⟨z, hz, h1⟩ := List.mem_filterMap.1 h
  obtain ⟨i, hi⟩ := List.getElem?_of_mem hz
  split at h1
  · rename_i a m c he
    split at h1
    · cases h1
    · rename_i hn
      cases h1
      exact ⟨i, z, 0, none, m, c, hi, ⟨a, rfl, he⟩, hn, rfl⟩
  · cases h1
theorem blk_in {zs : List (Fl × Value)} {i : Nat} {z : Fl × Value} {b o m c : Nat} (h : zs[i]? = some z) (hz : z.2 = .slice (some ⟨b, o, none⟩) m c) (hn : z.1.is ≠ []) : (b, z.1.is.flatMap itc, tyI) ∈ blkL zs :=
  List.mem_filterMap.2 ⟨z, List.mem_of_getElem? h, by rw [hz]; exact if_neg hn⟩
def blkS (zs : List (Fl × Value)) (b : Nat) : Option Nat := ((blkL zs).find? fun y => decide (y.1 = b)).map fun y => y.2.1.length / 5
theorem blkS_ne {zs : List (Fl × Value)} {b : Nat} : blkS zs b ≠ none ↔ ∃ y ∈ blkL zs, y.1 = b := by
  unfold blkS
  rw [ne_eq, Option.map_eq_none_iff, List.find?_eq_none]
  constructor
  · intro h
    refine Classical.byContradiction fun hn => h fun y hy hd => hn ⟨y, hy, of_decide_eq_true hd⟩
  · rintro ⟨y, hy, rfl⟩ h
    exact h y hy (decide_eq_true rfl)
theorem its_len (l : List It) : (l.flatMap itc).length = l.length * 5 := by
  exact flatMap_len itc_len l
structure OwnZ (zs : List (Fl × Value)) (B H : Heap) : Prop where
  nw : ∀ (i : Nat) z, zs[i]? = some z → NewIn B z.2
  ow : ∀ (i : Nat) z, zs[i]? = some z → OwnB tyI (z.1.is.flatMap itc) z.2 H
theorem OwnZ.blk {zs : List (Fl × Value)} {B H : Heap} (h : OwnZ zs B H) {y : Nat × List Value × TypeId} (hy : y ∈ blkL zs) : B y.1 = none ∧ H y.1 = some (.cells y.2.1.toArray tyI) ∧ ∃ l : List It, l ≠ [] ∧ y.2.1 = l.flatMap itc := by
  obtain ⟨i, z, o, k, m, c, hi, ⟨a, ha, hz⟩, hn, e⟩ := blk_mem hy
  obtain ⟨ab, ao, asp⟩ := a
  dsimp only at ha
  subst ha
  refine ⟨h.nw i z hi _ _ _ _ _ hz, ?_, z.1.is, hn, by rw [e]⟩
  rw [e]
  exact (h.ow i z hi _ _ _ _ _ hz).2.2
theorem blkS_at {zs : List (Fl × Value)} {B H : Heap} (h : OwnZ zs B H) {i : Nat} {z : Fl × Value} {b o m c : Nat} (hi : zs[i]? = some z) (hz : z.2 = .slice (some ⟨b, o, none⟩) m c) (hn : z.1.is ≠ []) : blkS zs b = some z.1.is.length := by
  unfold blkS
  have h1 := blk_in hi hz hn
  cases hf : (blkL zs).find? fun y => decide (y.1 = b) with
  | none => exact absurd (decide_eq_true rfl) (List.find?_eq_none.1 hf _ h1)
  | some y =>
    have h2 : y.1 = b := by have h9 := List.find?_some hf; simpa using h9
    have h3 := (h.blk (List.mem_of_find?_eq_some hf)).2.1
    have h4 := (h.blk h1).2.1
    rw [h2, h4] at h3
    have h5 : y.2.1 = z.1.is.flatMap itc := by
      injection h3 with h3
      injection h3 with h3
      have h6 := congrArg Array.toList h3
      simpa using h6.symm
    rw [Option.map_some, h5, its_len, Nat.mul_div_cancel _ (by decide)]
theorem blk_junk {zs : List (Fl × Value)} {B H : Heap} (h : OwnZ zs B H) (B1 : Heap) (u : World) (v : Value) (hH : H.Le (hp u)) : (Junk tyI 5 (blkS zs)).P v B1 u (fun k => ∃ y ∈ blkL zs, y.1 = k) :=
  ⟨fun k => blkS_ne.symm, fun b m hb => by
    unfold blkS at hb
    cases hf : (blkL zs).find? fun y => decide (y.1 = b) with
    | none => rw [hf] at hb; cases hb
    | some y =>
      rw [hf] at hb
      cases hb
      have h2 : y.1 = b := by have h9 := List.find?_some hf; simpa using h9
      obtain ⟨_, h3, l, _, h4⟩ := h.blk (List.mem_of_find?_eq_some hf)
      rw [h2] at h3
      exact ⟨y.2.1, by show y.2.1.length = y.2.1.length / 5 * 5; rw [h4, its_len, Nat.mul_div_cancel _ (by decide)], hH _ _ h3⟩⟩
theorem fls_apart {zs : List (Fl × Value)} {B H : Heap} (h : OwnZ zs B H) {fu fi : Bool} {s : Value} (hs : FsB zs fu fi s H) : ∀ y ∈ blkL zs, ∀ b o k m c, s = .slice (some ⟨b, o, k⟩) m c → y.1 ≠ b := by
  rintro y hy b o k m c rfl rfl
  obtain ⟨i, z, _, _, _, _, hi, _, _, _⟩ := blk_mem hy
  obtain ⟨_, hb, l, hl, hyl⟩ := h.blk hy
  obtain ⟨hlen, ⟨h0, _⟩ | ⟨b', off, cap, cs, ty0, fr, e, hb', hr, _, _⟩⟩ := hs.sl
  · have := get_lt hi; omega
  · cases e
    rw [hb] at hb'
    cases hb'
    have hz0 : 0 < zs.length := by have := get_lt hi; omega
    obtain ⟨z0, hz0'⟩ := get_some hz0
    have e1 : (zs.flatMap flc)[3]? = some (.string z0.1.q.g.1.1) := by
      cases zs with
      | nil => cases hz0'
      | cons w zs => cases hz0'; rfl
    have h3 : 3 < (zs.flatMap flc).length := get_lt e1
    rw [← hr, List.getElem?_take_of_lt h3, List.getElem?_drop, List.toList_toArray, hyl] at e1
    have h4 := List.mem_of_getElem? e1
    obtain ⟨x, _, hx⟩ := List.mem_flatMap.1 h4
    simp [itc] at hx
def TbXN (B : Heap) (t : Tb) (x : SlX) (H : Heap) : Prop := TbN B t (tbv t.nx (.slice x.1 x.2.1 x.2.2)) H
theorem TbXN.mono {B : Heap} {t : Tb} : MonoX (TbXN B t) := fun _ _ _ h hle => tbn_mono h hle
theorem tbxn_st {B : Heap} {t : Tb} : ∀ v H, TbN B t v H → ∃ x, TbXN B t x H ∧ cellsL v = tbxC t x := fun v H h => by
  obtain ⟨zs, s, h1, h2, h3, h4, h5⟩ := h
  obtain ⟨p, c, rfl⟩ := h3.shape
  subst h1
  exact ⟨(p, zs.length, c), ⟨zs, _, rfl, h2, h3, h4, h5⟩, rfl⟩
theorem TbN.mn {B : Heap} {t : Tb} : Kn.mono (.sat (TbN B t)) := fun _ _ _ h hle => tbn_mono h hle
theorem TbXN.open {B : Heap} {t : Tb} {x : SlX} {H : Heap} (h : TbXN B t x H) : ∃ zs, zs.map Prod.fst = t.fl ∧ FsB zs true true (.slice x.1 x.2.1 x.2.2) H ∧ OwnZ zs B H := by
  obtain ⟨zs, s, h1, h2, h3, h4, h5⟩ := h
  obtain rfl : (Value.slice x.1 x.2.1 x.2.2) = s := by
    injection h1 with h1
    have h6 := congrArg (fun a : Array Value => a.toList[1]?) h1
    simpa using h6
  exact ⟨zs, h2, h3, fun i z hz => (h5 i z hz).1, fun i z hz => (h5 i z hz).2⟩
abbrev JoinNS (B : Heap) (t : Tb) (id : Int) (md : Bool) (e : Int) : Value → Heap → Prop := TupS [TbN B t, fun v _ => v = .int .i64 id, fun v _ => v = .bool md, fun v _ => v = .int .i64 e]
theorem JoinNS.mono {B : Heap} {t : Tb} {id : Int} {md : Bool} {e : Int} : Kn.mono (.sat (JoinNS B t id md e)) := TupS.mono fun φ h => by
  simp only [List.mem_cons, List.mem_nil_iff, or_false] at h
  rcases h with rfl | rfl | rfl | rfl
  · exact TbN.mn
  · exact eqv_mono
  · exact eqv_mono
  · exact eqv_mono
theorem JoinP.tupN {B B' : Heap} {t : Tb} {id : Int} {md : Bool} {e : Int} {v : Value} {H : Heap} (hle : B'.Le B) (h : JoinP B (t, id, md) e v H) : JoinNS B' t id md e v H := by
  obtain ⟨tv, rfl, h⟩ := h
  exact tup4 (tbn_le h hle) rfl rfl rfl
theorem CopyP.r {B : Heap} {t : Tb} (hl : t.fl.length ≤ 100000) (hli : ∀ f ∈ t.fl, f.is.length ≤ 4611686018427387904) {v : Value} {H : Heap} (h : CopyP B t v H) : TbR t v H := by
  obtain ⟨zs, s, h1, h2⟩ := h
  exact ⟨zs, s, h1, h2.fl, h2.toB (by rw [fls_len h2.fl]; exact hl) hli⟩
theorem join_itsN {t : Tb} {q : Qu} {rv : Int} {x : It} {rd : Int} {lo : Bool} : itsN (joinT t q rv x rd lo).1.fl ≤ itsN t.fl + 1 ∧ (joinT t q rv x rd lo).1.fl.length ≤ t.fl.length + 1 := by
  by_cases he : joinE t q rv x rd lo = 0
  · cases hi : t.fl.findIdx? (hitB q rv lo) with
    | none =>
      rw [jTn he hi]
      dsimp only
      rw [itsN_snoc, List.length_append]
      exact ⟨Nat.le_refl _, Nat.le_refl _⟩
    | some i =>
      obtain ⟨f0, hf0⟩ := get_some (List.findIdx?_eq_some_iff_getElem.1 hi).1
      rw [jTh he hi hf0]
      dsimp only
      rw [itsN_modify (get_lt hf0), List.length_modify]
      omega
  · rw [jT0 he]
    exact ⟨Nat.zero_le _, Nat.zero_le _⟩
end Go.V.L39
namespace Go.V.L39
open Go.Proofs Go.RowKit Go.V
structure JInv (n : Nat) (t : Tb) : Prop where
  ok : chkE t = 0
  its : itsN t.fl = n
  nx : t.nx ≤ n
theorem jinv0 : JInv 0 T0 := ⟨by decide, rfl, by decide⟩
def jN (t : Tb) (q : Qu) (rv : Int) (x : It) (rd : Int) : Tb :=
  match t.fl.findIdx? (hitB q rv false) with
  | some i => ⟨t.nx, t.fl.modify i (addI x)⟩
  | none => ⟨t.nx + 1, t.fl ++ [newF t.nx rv q x rd]⟩
theorem jN_eq {t : Tb} {q : Qu} {rv : Int} {x : It} {rd : Int} (h : joinE t q rv x rd false = 0) : (joinT t q rv x rd false).1 = jN t q rv x rd := by
  unfold jN
  cases hi : t.fl.findIdx? (hitB q rv false) with
  | none => rw [jTn h hi]
  | some i =>
    obtain ⟨f0, hf0⟩ := get_some (List.findIdx?_eq_some_iff_getElem.1 hi).1
    rw [jTh h hi hf0]
theorem lastS_modify {l : List Fl} {i : Nat} {x : It} : lastS (l.modify i (addI x)) = lastS l := by
  unfold lastS
  rw [List.getLast?_eq_getElem?, List.getLast?_eq_getElem?, List.length_modify, List.getElem?_modify]
  cases l[l.length - 1]? with
  | none => rfl
  | some f =>
    by_cases hh : i = l.length - 1
    · simp [hh, addI]
    · simp [hh]
theorem lastS_snoc {l : List Fl} {f : Fl} : lastS (l ++ [f]) = f.si := by
  unfold lastS
  rw [List.getLast?_concat]
theorem jN_cases (t : Tb) (q : Qu) (rv : Int) (x : It) (rd : Int) : (∃ (i : Nat) (f0 : Fl), t.fl[i]? = some f0 ∧ jN t q rv x rd = ⟨t.nx, t.fl.modify i (addI x)⟩) ∨ jN t q rv x rd = ⟨t.nx + 1, t.fl ++ [newF t.nx rv q x rd]⟩ := by
  unfold jN
  cases hi : t.fl.findIdx? (hitB q rv false) with
  | none => exact .inr rfl
  | some i =>
    obtain ⟨f0, hf0⟩ := get_some (List.findIdx?_eq_some_iff_getElem.1 hi).1
    exact .inl ⟨i, f0, hf0, rfl⟩
theorem jinv_step {n : Nat} {t : Tb} {q : Qu} {rv : Int} {x : It} {rd : Int} (h : JInv n t) (hl : lastS t.fl ≤ rd) (h1 : rd ≤ 4611686018427387904) (hq : quE q = 0) (hx : itV x = true) (hrv : rv ≠ 0) (hn : n < 1024) :
    joinE t q rv x rd false = 0 ∧ JInv (n + 1) (jN t q rv x rd) ∧ lastS (jN t q rv x rd).fl ≤ rd := by
  have hj : joinE t q rv x rd false = 0 := joinE_iff.2 ⟨h.ok, hq, hx, hrv, hl, h1, by rw [h.its]; omega, fun hh => by have := h.nx; rw [hh.2] at this; omega⟩
  have hk : chkE (jN t q rv x rd) = 0 := by rw [← jN_eq hj]; exact join_ok hj
  have hnx := h.nx
  rcases jN_cases t q rv x rd with ⟨i, f0, hf0, e⟩ | e
  · refine ⟨hj, ⟨hk, ?_, ?_⟩, ?_⟩ <;> rw [e] <;> dsimp only
    · rw [itsN_modify (get_lt hf0), h.its]
    · omega
    · rw [lastS_modify]; exact hl
  · refine ⟨hj, ⟨hk, ?_, ?_⟩, ?_⟩ <;> rw [e] <;> dsimp only
    · rw [itsN_snoc, h.its]; rfl
    · omega
    · rw [lastS_snoc]; exact Int.le_refl _
def k1I (i : Nat) : It := ⟨i, 0, (i % 16 : Nat), 7 - (i % 8 : Nat), 1 + (i % 3 : Nat)⟩
def k1T : Nat → Tb
  | 0 => T0
  | i + 1 => jN (k1T i) (qS 0) (k1I i).rv (k1I i) i
theorem k1_inv : ∀ i, i ≤ 1024 → JInv i (k1T i) ∧ lastS (k1T i).fl ≤ i
  | 0, _ => ⟨jinv0, by decide⟩
  | i + 1, h => by
    obtain ⟨h1, h2⟩ := k1_inv i (by omega)
    obtain ⟨_, h3, h4⟩ := jinv_step (q := qS 0) (rv := (k1I i).rv) (x := k1I i) (rd := i) h1 h2 (by omega) (qS_ok 0) (itV_iff.2 (by simp only [k1I]; omega)) (by simp only [k1I]; omega) (by omega)
    exact ⟨h3, by show lastS (jN _ _ _ _ _).fl ≤ _; omega⟩
theorem k1_join {i : Nat} (h : i < 1024) : joinE (k1T i) (qS 0) (k1I i).rv (k1I i) i false = 0 ∧ (joinT (k1T i) (qS 0) (k1I i).rv (k1I i) i false).1 = k1T (i + 1) := by
  obtain ⟨h1, h2⟩ := k1_inv i (by omega)
  obtain ⟨h3, _⟩ := jinv_step (q := qS 0) (rv := (k1I i).rv) (x := k1I i) (rd := i) h1 h2 (by omega) (qS_ok 0) (itV_iff.2 (by simp only [k1I]; omega)) (by simp only [k1I]; omega) (by omega)
  exact ⟨h3, jN_eq h3⟩
theorem k1_tz : ∀ i, i ≤ 1024 → TZ39 (k1T i)
  | 0, _ => tz_zero
  | i + 1, h => by
    have h1 := k1_tz i (by omega)
    rw [← (k1_join (i := i) (by omega)).2]
    exact tz_join h1 (qS_z 0) (by simp only [k1I]; omega)
def k2I (i : Nat) : It := ⟨i, 0, 0, 0, 1 + i⟩
def k2T : Nat → Tb
  | 0 => T0
  | i + 1 => jN (k2T i) (qS 0) (k2I i).rv (k2I i) 0
theorem k2_inv : ∀ i, i ≤ 65 → JInv i (k2T i) ∧ lastS (k2T i).fl ≤ 0
  | 0, _ => ⟨jinv0, by decide⟩
  | i + 1, h => by
    obtain ⟨h1, h2⟩ := k2_inv i (by omega)
    obtain ⟨_, h3, h4⟩ := jinv_step (q := qS 0) (rv := (k2I i).rv) (x := k2I i) (rd := 0) h1 h2 (by omega) (qS_ok 0) (itV_iff.2 (by simp only [k2I]; omega)) (by simp only [k2I]; omega) (by omega)
    exact ⟨h3, h4⟩
theorem k2_join {i : Nat} (h : i < 65) : joinE (k2T i) (qS 0) (k2I i).rv (k2I i) 0 false = 0 ∧ (joinT (k2T i) (qS 0) (k2I i).rv (k2I i) 0 false).1 = k2T (i + 1) := by
  obtain ⟨h1, h2⟩ := k2_inv i (by omega)
  obtain ⟨h3, _⟩ := jinv_step (q := qS 0) (rv := (k2I i).rv) (x := k2I i) (rd := 0) h1 h2 (by omega) (qS_ok 0) (itV_iff.2 (by simp only [k2I]; omega)) (by simp only [k2I]; omega) (by omega)
  exact ⟨h3, jN_eq h3⟩
theorem k2_fl : ∀ i, i ≤ 65 → (k2T i).fl.length = i ∧ ∀ f ∈ (k2T i).fl, f.cl = 0 ∧ f.rv ≤ i
  | 0, _ => ⟨rfl, fun f h => by cases h⟩
  | i + 1, h => by
    obtain ⟨h1, h2⟩ := k2_fl i (by omega)
    have hn : (k2T i).fl.findIdx? (hitB (qS 0) (k2I i).rv false) = none := by
      rw [List.findIdx?_eq_none_iff]
      intro f hf
      have := (h2 f hf).2
      have e2 : (k2I i).rv = 1 + (i : Int) := rfl
      unfold hitB
      rw [Bool.false_or]
      exact Bool.and_eq_false_iff.2 (.inr (decide_eq_false fun e => by omega))
    have e : k2T (i + 1) = ⟨(k2T i).nx + 1, (k2T i).fl ++ [newF (k2T i).nx (k2I i).rv (qS 0) (k2I i) 0]⟩ := by
      show jN _ _ _ _ _ = _
      unfold jN
      rw [hn]
    rw [e]
    refine ⟨by simp [h1], fun f hf => ?_⟩
    rcases List.mem_append.1 hf with hf | hf
    · obtain ⟨g1, g2⟩ := h2 f hf
      exact ⟨g1, by omega⟩
    · rw [List.mem_singleton.1 hf]
      exact ⟨rfl, by simp only [newF, k2I]; omega⟩
theorem k2_tz : ∀ i, i ≤ 65 → TZ39 (k2T i)
  | 0, _ => tz_zero
  | i + 1, h => by
    have h1 := k2_tz i (by omega)
    rw [← (k2_join (i := i) (by omega)).2]
    exact tz_join h1 (qS_z 0) (by simp only [k2I]; omega)
theorem k2_queue {i : Nat} (h : i ≤ 65) : (quF (k2T i) 0).length = i ∧ ckE (k2T i) 0 = 0 ∧ quErr (k2T i) 0 = if i ≤ 64 then 0 else 3 := by
  obtain ⟨h1, h2⟩ := k2_fl i h
  have hq : (quF (k2T i) 0).length = i := by
    unfold quF
    rw [List.filter_eq_self.2 fun f hf => by simpa using (h2 f hf).1, h1]
  have hc : ckE (k2T i) 0 = 0 := by unfold ckE; rw [if_neg (by rw [(k2_inv i h).1.ok]; decide)]; rfl
  refine ⟨hq, hc, ?_⟩
  unfold quErr
  rw [if_neg (by rw [hc]; decide), hq]
  split <;> split <;> first | rfl | omega
abbrev kL : Tb := ⟨2147483647, []⟩
abbrev kM : Tb := ⟨2147483646, []⟩
abbrev kx : It := ⟨0, 0, 0, 0, 1⟩
def kV : Tb := ⟨2147483647, [newF 2147483646 1 (qS 0) kx 4611686018427387904]⟩
def kW : Tb := cmT kV 2147483646 1048576
theorem kL_E : joinE kL (qS 0) 1 kx 0 false = 3 := by decide +kernel
theorem kM_E : joinE kM (qS 0) 1 kx 4611686018427387904 false = 0 ∧ (joinT kM (qS 0) 1 kx 4611686018427387904 false).1.nx = 2147483647 ∧ (joinT kM (qS 0) 1 kx 4611686018427387904 false).2 = (2147483646, true) := by decide +kernel
theorem kM_T : (joinT kM (qS 0) 1 kx 4611686018427387904 false).1 = kV := jN_eq kM_E.1
theorem kV_E : cmE kV 2147483646 1048576 = 0 ∧ cmE kW 2147483646 1 = 4 ∧ cmE kW 2147483646 0 = 0 := by decide +kernel
set_option maxRecDepth 100000 in
theorem k1_end : (k1T 1024).fl.length = 3 ∧ (k1T 1024).nx = 3 ∧ pins (allI (k1T 1024).fl) = [(1, 342), (2, 341), (3, 341)] ∧ cntB (fun x => decide (x.cl = 5)) (k1T 1024).fl = 64 ∧ ((k1T 1024).fl[0]?).map Fl.cs = some 0 ∧ ((k1T 1024).fl[1]?).map Fl.cl = some 1 := by
  decide +kernel
end Go.V.L39
namespace Go.V
open Go.RowKit
def SlBN (B : Heap) (cs : List Value) (e : TypeId) (len : Nat) : Value → Heap → Prop := fun v H => ∃ b, v = .slice (some ⟨b, 0, none⟩) len len ∧ H b = some (.cells cs.toArray e) ∧ B b = none
theorem SlBN.mono {B : Heap} {cs : List Value} {e : TypeId} {len : Nat} : Kn.mono (.sat (SlBN B cs e len)) := fun _ _ _ ⟨b, hv, hb, h⟩ hl => ⟨b, hv, hl _ _ hb, h⟩
section
variable {P : Program} {F : Fr} {B : Heap} {O : Boxes} {n : Nat} {ops : Array Oper} {κ : Kap} {d : Nat} {ty : TypeId} {pos : String} {aft : Array Edge} {g : Option (Nat × Bool)}
theorem ok_buildSliceN (L : Tabs P) {t e : TypeId} {ag : Bool} {s len : Nat} {parts : Array (Nat × Operand)} {z : Value} {vs : List (Nat × Value)} (hn : Nat.blt d n = true) (hg : gK ops κ ⟨some d, .buildSlice t len parts, ty, pos, aft, g⟩ = some true)
    (ht : L.sl t = some e) (hl : L.ld e = some (ag, s)) (hz : L.zr e = some z) (hv : evP κ parts.toList = some vs) (hlen : vs.length = len) (hen : enumB s 0 vs = true) (hb : Nat.ble (len * s) 16777216 = true) :
    StepOK P F B n ops O κ ⟨some d, .buildSlice t len parts, ty, pos, aft, g⟩ d (.sat (SlBN B (flatV vs) e len)) :=
  ok_run rfl (by simpa using hn) hg SlBN.mono fun a u H fp en => by
    refine ⟨.slice (some ⟨u.heap.size, 0, none⟩) len len, u.alloc (.cells (flatV vs).toArray e), _, ?_, Grow.new en.sub _, ⟨_, rfl, by simp, none_of_ge (en.base.trans en.sub) (Nat.le_refl _)⟩⟩
    have hm := evP_map en parts.toList vs (fun p hp' => by simp [Op.operands]; exact ⟨p.1, by simpa using hp'⟩) hv
    have harr : (parts.map fun (p : Nat × Operand) => (p.1, a.eval p.2)) = vs.toArray := by
      rw [← hm, ← List.map_toArray, Array.toArray_toList]
    have hb' := Nat.le_of_ble_eq_true hb
    have hzz := Tabs.zr_spec hz
    unfold zrI at hzz
    split at hzz
    · rename_i it hit
      have hzr : (zeroValue e).run P u = .ok z u := by simp [zeroValue, typeInfo, hit, hzz]
      simp only [execOp, Sem.run_bind]
      show Result.andThen ((Instr.buildSlice t len (parts.map fun (p : Nat × Operand) => (p.1, a.eval p.2))).run P u) _ = _
      rw [harr]
      simp only [Instr.buildSlice, Sem.run_bind, run_underlying (Tabs.sl_spec ht), Result.andThen_ok, run_sizeOf (Tabs.ld_spec hl)]
      rw [if_neg (by omega)]
      have hfill : ∀ cells : Array Value, cells.size = len * s → Instr.fill (fun i => some (i * s, s)) cells vs = some (flatV vs).toArray := fun cells hc => by
        have := fill_enum vs 0 cells hen (by rw [hc, hlen]; simp)
        simpa using this
      by_cases h0 : len * s = 0
      · simp only [h0, if_true, Sem.run_bind, Sem.run_pure, Result.andThen_ok]
        rw [hfill _ (by simp [h0])]
        simp [newRow]
      · simp only [h0, if_false, Sem.run_bind, Sem.run_pure, Result.andThen_ok, hzr]
        rw [hfill _ (by simp)]
        simp [newRow]
    · cases hzz
end
end Go.V
namespace Go.V.L39
open Go.Proofs Go.RowKit Go.V
theorem isk_of {κ : Kap} : ∀ {l : List (Nat × Kn)}, LiveOK l κ → (∀ p ∈ l, isK p.2) → ∀ t k, ofL l t = some k → κ t = some k ∧ isK k
  | [], _, _, _, _, h => by cases h
  | (s, k') :: l, hl, hf, t, k, h => by
    unfold ofL at h
    by_cases hst : t = s
    · subst hst; rw [upd_same] at h; cases h; exact ⟨hl.1, hf _ (List.mem_cons_self ..)⟩
    · rw [upd_other _ _ hst] at h; exact isk_of hl.2 (fun p hp => hf p (List.mem_cons_of_mem _ hp)) t k h
theorem off_not {zs : List (Fl × Value)} {B H : Heap} (h : OwnZ zs B H) (k : Nat) (hk : ∃ y ∈ blkL zs, y.1 = k) : H k ≠ none ∧ H.off (blkL zs) k = none := by
  refine ⟨?_, if_pos hk⟩
  obtain ⟨y, hy, rfl⟩ := hk
  rw [(h.blk hy).2.1]
  exact fun e => by cases e
theorem own_at {zs : List (Fl × Value)} {B H : Heap} (h : OwnZ zs B H) {i : Nat} {f : Fl} {pp : Option Addr} {cc : Nat} (hi : zs[i]? = some (f, .slice pp f.is.length cc)) (hv : IsV f.is true (.slice pp f.is.length cc) H) (h0 : 0 < f.is.length) :
    ∃ b, pp = some ⟨b, 0, none⟩ ∧ cc = f.is.length ∧ blkS zs b = some f.is.length := by
  obtain ⟨_, ⟨h1, _⟩ | ⟨b, off, cap, cs, ty0, fr, e, _, _, _, hc⟩⟩ := hv
  · omega
  · cases e
    obtain rfl := hc rfl
    obtain ⟨rfl, _, _⟩ := h.ow i _ hi _ _ _ _ _ rfl
    exact ⟨b, rfl, rfl, blkS_at h hi rfl fun e => by rw [e] at h0; exact absurd h0 (Nat.lt_irrefl _)⟩
theorem put_len {cs : List Value} {n off : Nat} {v : Value} (hv : (cellsL v).length = 1) (h : cs.length = n) (ho : off + 1 ≤ n) : (cs.take off ++ (cellsL v ++ cs.drop (off + 1))).length = n := by
  simp only [List.length_append, List.length_take, List.length_drop, hv]
  omega
abbrev RJ4 (t : Tb) (id z e : Int) : Value → Heap → Prop := TupS [TbR t, fun v _ => v = .int .i64 id, fun v _ => v = .int .i64 z, fun v _ => v = .int .i64 e]
theorem RJ4.mono {t : Tb} {id z e : Int} : Kn.mono (.sat (RJ4 t id z e)) := TupS.mono fun φ h => by
  simp only [List.mem_cons, List.mem_nil_iff, or_false] at h
  rcases h with rfl | rfl | rfl | rfl
  · exact TbR.mn
  · exact eqv_mono
  · exact eqv_mono
  · exact eqv_mono
attribute [local irreducible] V N X VO Par StepOK Has Ret RetL RetO RetT RetG Src
set_option maxHeartbeats 8000000 in
set_option maxRecDepth 20000 in
theorem join_law {t : Tb} {s : Value} {zs : List (Fl × Value)} {q : Qu} {x : It} {rv rd : Int} {lo : Bool} (hQ : QuZ q) (hx : 0 ≤ x.rv) {w : World} {B : Heap} (hI : TbI B t s zs) (hB : B.Le (hp w)) :
    Ret Try.prog 3 [tbv t.nx s, quv q, .agg #[.int .i64 x.tk, .int .i64 x.im, .int .i64 x.cl, .int .i64 x.cs, .int .u64 x.rv, .int .u64 rv, .int .i64 rd, .bool lo]] w B (fun v _ => v = .bool true) := by
  obtain ⟨p0, c0, e0⟩ := slv_sh hI.sl
  subst e0
  refine ya Try.func3 rfl Try.ntmps3 (Nat.le_of_ble_eq_true rfl) hB ?_
  cases hb : bndB t with
  | false =>
    refine ze ?_; refine zb (id := 0) ?_; refine Zs21 ?_; refine Zs21 ?_; refine Zs21 ?_; refine Zs2 ?_; refine zd ?_; refine zf ?_; refine ze ?_; refine ze ?_; refine zb (id := 1) ?_; refine z7 (zn L (vs := [_, _]) (zl rfl) rfl rfl rfl rfl ⟨_, rfl⟩) rfl ?_; refine z7 (zo L rfl rfl (zg rfl) rfl rfl rfl (fun u H hH hle _ => bnd_law hb (hI.le hle) hH)) rfl ?_; refine Zs49 ?_; refine zd ?_; refine zf ?_; refine zw rfl ?_; refine ze ?_; refine zb (id := 2) ?_; refine z7 (zo L rfl rfl (zg rfl) rfl rfl rfl (fun u H hH _ _ => lives_law hH)) rfl ?_; refine Zs2 ?_; refine zd ?_; refine zf ?_
    refine qn L (rs := [.tmp 6]) rfl (fun _ _ h => h) Since.refl fun u H hH hle => ?_
    rfl
  | true =>
    obtain ⟨hs, hn60, hl30⟩ := hI.ok hb
    have hz := hI.fl
    have hZ := hI.tz.q
    have hX := hI.tz.x
    have hn : itsN t.fl ≤ 4611686018427387904 := by omega
    have hn2 : itsN t.fl ≤ 9223372036854775807 := by omega
    have hlen := fls_len hz
    have hit : ∀ f ∈ t.fl, f.is.length ≤ 60 := fun f hf => Nat.le_trans (le_sum (List.mem_map_of_mem (f := fun f : Fl => f.is.length) hf)) hn60
    obtain ⟨t', id', md, hj⟩ : ∃ t' id' md, joinT t q rv x rd lo = (t', id', md) := ⟨_, _, _, rfl⟩
    obtain ⟨e, he⟩ : ∃ e, joinE t q rv x rd lo = e := ⟨_, rfl⟩
    have hjn := join_itsN (t := t) (q := q) (rv := rv) (x := x) (rd := rd) (lo := lo)
    have hZ' := (tz_join hI.tz (q := q) hQ (rv := rv) (x := x) hx (rd := rd) (lo := lo)).q
    rw [hj] at hjn hZ'
    dsimp only at hjn hZ'
    refine ze ?_; refine zb (id := 0) ?_; refine z7 (ok_boxR rfl rfl rfl rfl) rfl ?_; refine Zs21 ?_; refine Zs21 ?_; refine Zs2 ?_; refine zd ?_; refine zf ?_; refine ze ?_; refine ze ?_; refine zb (id := 1) ?_; refine z7 (zn L (vs := [_, _]) (qe rfl) rfl rfl rfl rfl ⟨_, rfl⟩) rfl ?_; refine z7 (zo L rfl rfl (zg rfl) rfl rfl rfl (fun u H hH hle _ => bnd_law hb (hI.le hle) hH)) rfl ?_; refine Zs49 ?_; refine zd ?_; refine zf ?_; refine zm rfl ?_; refine zt ?_; refine zf ?_; refine ze ?_
    have hmr := TbR.mn (t := t)
    refine zb (id := 3) ?_; refine z7 (zn L (vs := [_, _]) (qe rfl) rfl rfl rfl rfl ⟨_, rfl⟩) rfl ?_; refine z7 (ok_call (φ := TbR t) L rfl rfl (zg rfl) rfl rfl rfl TbR.mn (fun u H hH hle _ => Ret.mono (rcopy_ret hz (hs.le hle) (by omega) (fun f hf => Nat.le_trans (hit f hf) (by omega)) hH) fun v H' _ h => CopyP.r (by omega) (fun f hf => Nat.le_trans (hit f hf) (by omega)) h)) rfl ?_; refine Zs24 ?_; refine z7 (ok_storeX L (X := SlX) (tbxC t) (TbX t) TbX.mono tbx_st (fun _ => ⟨rfl, rfl⟩) rfl rfl rfl rfl rfl) rfl ?_; refine zd ?_; refine zf ?_; refine ze ?_
    refine V_opnX 7 rfl fun ⟨p7, n7, c7⟩ H7 s7 ⟨zs7, hz7, hs7⟩ => ?_
    have hs7t := hs.le s7.le
    have hmt := TbR.mn (t := t')
    dsimp only [tbxC]
    cases md with
    | false =>
      refine zb (id := 4) ?_; refine z7 (zn L (vs := [_, _]) (qe rfl) rfl rfl rfl rfl ⟨_, rfl⟩) rfl ?_; refine z7 (zn L (vs := [_, _, _, _, _, _]) (zl rfl) rfl rfl rfl rfl ⟨_, rfl⟩) rfl ?_; refine Zs5 ?_; refine Zs4 ?_; refine Zs5 ?_; refine z7 (zn L (vs := [_, _, _, _, _]) (zl rfl) rfl rfl rfl rfl ⟨_, rfl⟩) rfl ?_; refine Zs5 ?_; refine Zs4 ?_; refine Zs5 ?_; refine Zs4 ?_; refine z7 (ok_call (φ := RJ4 t' id' 0 e) L rfl rfl (zg rfl) rfl rfl rfl RJ4.mono (fun u H hH hle _ => Ret.mono (rjoin_ret hz (hs7t.le hle) hZ hX hQ hx hn2 (by omega) hH) fun v H' _ h => (by have h9 := RJoinP.tup h; rw [hj, he] at h9; exact h9))) rfl ?_; refine Zs37 ?_; refine Zs46 ?_; refine Zs48 ?_; refine Zs48 ?_; refine Zs48 ?_; refine Zs24 ?_; refine z7 (ok_storeX L (X := SlX) (tbxC t') (TbX t') TbX.mono tbx_st (fun _ => ⟨rfl, rfl⟩) rfl rfl rfl rfl rfl) rfl ?_; refine Zs2 ?_; refine Zs2 ?_; refine Zs2 ?_; refine zd ?_; refine zf ?_; refine ze ?_
      refine V_opnX 8 rfl fun ⟨p8, n8, c8⟩ H8 s8 ⟨zs8, hz8, hsr8⟩ => ?_
      have hmn := TbN.mn (B := H8) (t := t')
      have hs8 := hs7t.le s8.le
      have hs78 := hs7.le s8.le
      refine zb (id := 5) ?_; refine z7 (zn L (vs := [_, _]) (qe rfl) rfl rfl rfl rfl ⟨_, rfl⟩) rfl ?_; refine z7 (zn L (vs := [_, _, _, _, _, _]) (zl rfl) rfl rfl rfl rfl ⟨_, rfl⟩) rfl ?_; refine Zs5 ?_; refine Zs4 ?_; refine Zs5 ?_; refine z7 (zn L (vs := [_, _, _, _, _]) (zl rfl) rfl rfl rfl rfl ⟨_, rfl⟩) rfl ?_; refine Zs5 ?_; refine Zs4 ?_; refine Zs5 ?_; refine Zs4 ?_; refine z7 (ok_call (φ := JoinNS H8 t' id' false e) L rfl rfl (zg rfl) rfl rfl rfl JoinNS.mono (fun u H hH hle _ => Ret.mono (join_ret hz (hs8.le hle) hZ hQ hn (by omega) hH) fun v H' _ h => (by rw [hj, he] at h; exact JoinP.tupN hle h))) rfl ?_; refine Zs37 ?_; refine Zs46 ?_; refine Zs48 ?_; refine Zs48 ?_; refine Zs48 ?_; refine Zs24 ?_; refine z7 (ok_storeX L (X := SlX) (tbxC t') (TbXN H8 t') TbXN.mono tbxn_st (fun _ => ⟨rfl, rfl⟩) rfl rfl rfl rfl rfl) rfl ?_; refine Zs2 ?_; refine Zs2 ?_; refine Zs2 ?_; refine zd ?_; refine zf ?_; refine ze ?_; refine ze ?_
      refine V_opnX 12 rfl fun ⟨p12, n12, c12⟩ H12 s12 h12 => ?_
      obtain ⟨zs12, hz12, hs12, ho12⟩ := h12.open
      obtain ⟨pq, cq, eq⟩ := hs12.shape
      dsimp only at eq hs12
      cases eq
      have hl12 := fls_len hz12
      have hle12 := s12.le
      have hs12t := hs8.le hle12
      have hsr12 := hsr8.le hle12
      have hs712 := hs78.le hle12
      dsimp only [tbxC]
      have hS0 : ∀ y ∈ blkL zs12, H8 y.1 = none := fun y hy => (ho12.blk hy).1
      have hSB : ∀ y ∈ blkL zs12, B y.1 = none := fun y hy => none_le (s7.le.trans s8.le) (hS0 y hy)
      have hle8 : H8.Le (H12.off (blkL zs12)) := Heap.le_off hle12 hS0
      have hsl := hs12.sl.off (fls_apart ho12 hs12)
      refine zz (id := 6) [] mixed (by kernel_rfl) ?_; refine z8 (zn L (vs := [_, _]) (qe rfl) rfl rfl rfl rfl ⟨_, rfl⟩) rfl ?_; refine z8 (zo L rfl rfl (zg rfl) rfl rfl rfl (fun u H hH hle _ => check_ret hz (hs12t.le hle) hZ hn rfl hH)) rfl ?_; refine z8 (zn L (vs := [_, _]) (qe rfl) rfl rfl rfl rfl ⟨_, rfl⟩) rfl ?_; refine z8 (zo L rfl rfl (zg rfl) rfl rfl rfl (fun u H hH hle _ => rcheck_ret hz (hs12t.le hle) hZ hX hn2 rfl hH)) rfl ?_; refine Zs40 ?_; refine Zs7 ?_; refine Zs7 ?_; refine Zs7 ?_; refine Zs40 ?_; refine Zs28 ?_; refine Zs7 ?_; refine Zs7 ?_; refine Zs7 ?_; refine Zs40 ?_; refine Zs28 ?_; refine Zs7 ?_; refine Zs7 ?_; refine Zs7 ?_; refine Zs71 ?_; refine z8 (ok_bneq rfl rfl rfl rfl bt4 rfl) rfl ?_; refine Zs28 ?_; refine Zs7 ?_; refine z8 (zn L (vs := [_, _]) (qe rfl) rfl rfl rfl rfl ⟨_, rfl⟩) rfl ?_; refine z8 (zn L (vs := [_, _]) (qe rfl) rfl rfl rfl rfl ⟨_, rfl⟩) rfl ?_; refine z8 (zo (r := .int .i64 1) L rfl rfl (zg rfl) rfl rfl rfl (fun u H hH hle _ => rsame_ret hz12 hz8 (if_pos ⟨rfl, rfl⟩) (hs12.le hle) (hsr12.le hle) hH)) rfl ?_; refine Zs71 ?_; refine Zs28 ?_; refine qk ?_; refine zf ?_; refine zm rfl ?_; refine zt ?_; refine zf ?_; refine ze ?_; refine ze ?_
      by_cases he0 : e = 0
      · subst he0
        cases lo with
        | false =>
          have hc0 : chkE t' = 0 := by have h9 := join_ok he; rw [hj] at h9; exact h9
          refine zb (id := 8) ?_; refine Zs1 ?_; refine Zs15 ?_; refine Zs1 ?_; refine Zs5 ?_; refine Zs4 ?_; refine Zs49 ?_; refine Zs6 ?_; refine Zs1 ?_; refine z7 (zn L (vs := [_, _]) (qe rfl) rfl rfl rfl rfl ⟨_, rfl⟩) rfl ?_; refine z7 (zo L rfl rfl (zg rfl) rfl rfl rfl (fun u H hH hle _ => check_ret hz12 (hs12.le hle) hZ' (by omega) hc0 hH)) rfl ?_; refine Zs10 ?_; refine Zs6 ?_; refine zd ?_; refine zf ?_; refine zm rfl ?_; refine zt ?_; refine zf ?_; refine ze ?_; refine ze ?_
          refine V_box 3 rfl fun b3 _ => ?_
          refine V_box 7 rfl fun b7 _ => ?_
          refine V_box 12 rfl fun b12 _ => ?_
          refine V_shrink (κ1 := ofL [(3, .is (.pointer (some ⟨b3, 0, none⟩))), (7, .is (.pointer (some ⟨b7, 0, none⟩))), (12, .is (.pointer (some ⟨b12, 0, none⟩)))]) (B1 := H12.off (blkL zs12)) 900 (Junk tyI 5 (blkS zs12)) (fun k => ∃ y ∈ blkL zs12, y.1 = k) (since_on s12 hS0) (off_not ho12) (fun u v hu => blk_junk ho12 _ u v hu) (isk_of ⟨rfl, rfl, rfl, trivial⟩ (by intro p hp; simp only [List.mem_cons, List.mem_nil_iff, or_false] at hp; rcases hp with rfl | rfl | rfl <;> trivial)) ?_
          refine zb (id := 10) ?_; refine Zs2 ?_; refine zd ?_; refine zf ?_; refine zy ?_
          refine V_loop (fun i : Nat => [(3, .is (.pointer (some ⟨b3, 0, none⟩))), (7, .is (.pointer (some ⟨b7, 0, none⟩))), (12, .is (.pointer (some ⟨b12, 0, none⟩))), (16, .is (.int .i64 i)), (900, .own (Junk tyI 5 (blkS zs12)))]) (fun i => i ≤ zs12.length) (fun i => zs12.length - i) 0 (Nat.zero_le _) ⟨rfl, rfl, rfl, rfl, rfl, trivial⟩ ?_
          rintro i hi
          by_cases hlt : i < zs12.length
          · obtain ⟨f, pp, cc, hzi, hli, hzv, hil, hc14⟩ := hs12.at hz12 hlt
            refine ze ?_; refine ze ?_; refine zb (id := 11) ?_; refine Zs1 ?_; refine Zs19 ?_; refine z7 (zj L (qy rfl (List.Mem.head _)) rfl rfl rfl rfl) rfl ?_; refine Zs35 ?_; refine Zs11 ?_; refine zd ?_; refine zf ?_; refine zw rfl ?_; refine zt ?_; refine zf ?_; refine ze ?_; refine zy ?_; refine ze ?_; refine zb (id := 13) ?_; refine Zs2 ?_; refine zd ?_; refine zf ?_; refine zy ?_
            refine V_loop (fun k : Nat => [(3, .is (.pointer (some ⟨b3, 0, none⟩))), (7, .is (.pointer (some ⟨b7, 0, none⟩))), (12, .is (.pointer (some ⟨b12, 0, none⟩))), (16, .is (.int .i64 i)), (17, .is (.int .i64 k)), (900, .own (Junk tyI 5 (blkS zs12)))]) (fun k => k ≤ f.is.length) (fun k => f.is.length - k) 0 (Nat.zero_le _) ⟨rfl, rfl, rfl, rfl, rfl, rfl, trivial⟩ ?_
            rintro k hk
            by_cases hkt : k < f.is.length
            · obtain ⟨b, rfl, rfl, hbk⟩ := own_at ho12 hzi hzv (by omega)
              refine ze ?_; refine ze ?_; refine zb (id := 14) ?_; refine Zs1 ?_; refine Zs19 ?_; refine z7 (StepOK.seeV (zj L (qy rfl (List.Mem.head _)) rfl rfl rfl rfl) (by assumption)) rfl ?_; refine Zs1 ?_; refine z7 (qb L _ rfl rfl rfl rfl rfl rfl rfl (by first | omega | decide) (by assumption)) rfl ?_; refine Zs45 ?_; refine Zs43 ?_; refine Zs35 ?_; refine Zs11 ?_; refine zd ?_; refine zf ?_; refine zw rfl ?_; refine zt ?_; refine zf ?_; refine ze ?_; refine zy ?_
              refine V_takeJ 900 901 (by decide) rfl hbk fun cs hcl => ?_
              have hble : Nat.ble (0 + k * 5 + 0 + 1) cs.length = true := Nat.ble_eq_true_of_le (by omega)
              refine zb (id := 16) ?_; refine Zs19 ?_; refine z7 (StepOK.seeV (zj L (qy rfl (List.Mem.head _)) rfl rfl rfl rfl) (by assumption)) rfl ?_; refine Zs1 ?_; refine z7 (qb L _ rfl rfl rfl rfl rfl rfl rfl (by first | omega | decide) (by assumption)) rfl ?_; refine Zs45 ?_; refine Zs43 ?_; refine Zs1 ?_; refine z7 (zp L _ rfl rfl rfl rfl rfl rfl rfl (by omega)) rfl ?_; refine Zs19 ?_; refine vo_stepS (y2 L (q := 901) rfl rfl rfl rfl rfl rfl hble rfl rfl) ?_; refine zd ?_; refine qm ?_; refine zf ?_; refine zb (id := 15) ?_; refine Zs1 ?_; refine Zs13 ?_; refine Zs2 ?_; refine zd ?_
              refine N_putJ 900 901 (by decide) rfl hbk rfl (put_len rfl hcl (by omega)) ?_
              exact y1 (x := k) (k + 1) hkt (by omega) ⟨rfl, rfl, rfl, rfl, rfl, rfl, trivial⟩
            · obtain rfl : k = f.is.length := by omega
              refine ze ?_; refine ze ?_; refine zb (id := 14) ?_; refine Zs1 ?_; refine Zs19 ?_; refine z7 (StepOK.seeV (zj L (qy rfl (List.Mem.head _)) rfl rfl rfl rfl) (by assumption)) rfl ?_; refine Zs1 ?_; refine z7 (qb L _ rfl rfl rfl rfl rfl rfl rfl (by first | omega | decide) (by assumption)) rfl ?_; refine Zs45 ?_; refine Zs43 ?_; refine Zs35 ?_; refine Zs8 ?_; refine zd ?_; refine zf ?_; refine zm rfl ?_; refine y7 ?_; refine qg ?_; refine qg ?_; refine y6 ?_; refine qm ?_; refine zf ?_; refine zb (id := 12) ?_; refine Zs1 ?_; refine Zs13 ?_; refine Zs2 ?_; refine zd ?_
              exact y1 (x := i) (i + 1) hlt (by omega) ⟨rfl, rfl, rfl, rfl, rfl, trivial⟩
          · obtain rfl : i = zs12.length := by omega
            refine ze ?_; refine ze ?_; refine zb (id := 11) ?_; refine Zs1 ?_; refine Zs19 ?_; refine z7 (zj L (qy rfl (List.Mem.head _)) rfl rfl rfl rfl) rfl ?_; refine Zs35 ?_; refine Zs8 ?_; refine zd ?_; refine zf ?_; refine zm rfl ?_; refine y7 ?_; refine qg ?_; refine qg ?_; refine y6 ?_; refine zf ?_; refine ze ?_; refine zb (id := 17) ?_; refine z7 (zn L (vs := [_, _]) (qy rfl (List.Mem.tail _ (List.Mem.tail _ (List.Mem.head _)))) rfl rfl rfl rfl ⟨_, rfl⟩) rfl ?_; refine z7 (zn L (vs := [_, _]) (qy rfl (List.Mem.tail _ (List.Mem.head _))) rfl rfl rfl rfl ⟨_, rfl⟩) rfl ?_; refine z7 (zo (r := .int .i64 1) L rfl rfl (zg rfl) rfl rfl rfl (fun u H hH hle _ => rsame_ret hz hz7 (if_pos ⟨rfl, rfl⟩) (hs8.le (hle8.trans hle)) (hs78.le (hle8.trans hle)) hH)) rfl ?_; refine Zs15 ?_; refine Zs1 ?_; refine z7 (zo L rfl rfl (zg rfl) rfl rfl rfl (fun u H hH _ _ => lives_law hH)) rfl ?_; refine Zs6 ?_; refine Zs2 ?_; refine zd ?_; refine zf ?_
            refine qn L (rs := [.tmp 6]) rfl (fun _ _ h => h) (since_off ((s7.trans s8).trans s12) hSB) fun u H hH hle => ?_
            rfl
        | true =>
          refine zb (id := 8) ?_; refine Zs1 ?_; refine Zs15 ?_; refine Zs1 ?_; refine Zs5 ?_; refine Zs4 ?_; refine Zs49 ?_; refine Zs6 ?_; refine Zs1 ?_; refine Zs3 ?_; refine Zs3 ?_; refine Zs3 ?_; refine Zs6 ?_; refine zd ?_; refine zf ?_; refine zm rfl ?_; refine zt ?_; refine zf ?_; refine ze ?_; refine ze ?_
          refine V_box 3 rfl fun b3 _ => ?_
          refine V_box 7 rfl fun b7 _ => ?_
          refine V_box 12 rfl fun b12 _ => ?_
          refine V_shrink (κ1 := ofL [(3, .is (.pointer (some ⟨b3, 0, none⟩))), (7, .is (.pointer (some ⟨b7, 0, none⟩))), (12, .is (.pointer (some ⟨b12, 0, none⟩)))]) (B1 := H12.off (blkL zs12)) 900 (Junk tyI 5 (blkS zs12)) (fun k => ∃ y ∈ blkL zs12, y.1 = k) (since_on s12 hS0) (off_not ho12) (fun u v hu => blk_junk ho12 _ u v hu) (isk_of ⟨rfl, rfl, rfl, trivial⟩ (by intro p hp; simp only [List.mem_cons, List.mem_nil_iff, or_false] at hp; rcases hp with rfl | rfl | rfl <;> trivial)) ?_
          refine zb (id := 10) ?_; refine Zs2 ?_; refine zd ?_; refine zf ?_; refine zy ?_
          refine V_loop (fun i : Nat => [(3, .is (.pointer (some ⟨b3, 0, none⟩))), (7, .is (.pointer (some ⟨b7, 0, none⟩))), (12, .is (.pointer (some ⟨b12, 0, none⟩))), (16, .is (.int .i64 i)), (900, .own (Junk tyI 5 (blkS zs12)))]) (fun i => i ≤ zs12.length) (fun i => zs12.length - i) 0 (Nat.zero_le _) ⟨rfl, rfl, rfl, rfl, rfl, trivial⟩ ?_
          rintro i hi
          by_cases hlt : i < zs12.length
          · obtain ⟨f, pp, cc, hzi, hli, hzv, hil, hc14⟩ := hs12.at hz12 hlt
            refine ze ?_; refine ze ?_; refine zb (id := 11) ?_; refine Zs1 ?_; refine Zs19 ?_; refine z7 (zj L (qy rfl (List.Mem.head _)) rfl rfl rfl rfl) rfl ?_; refine Zs35 ?_; refine Zs11 ?_; refine zd ?_; refine zf ?_; refine zw rfl ?_; refine zt ?_; refine zf ?_; refine ze ?_; refine zy ?_; refine ze ?_; refine zb (id := 13) ?_; refine Zs2 ?_; refine zd ?_; refine zf ?_; refine zy ?_
            refine V_loop (fun k : Nat => [(3, .is (.pointer (some ⟨b3, 0, none⟩))), (7, .is (.pointer (some ⟨b7, 0, none⟩))), (12, .is (.pointer (some ⟨b12, 0, none⟩))), (16, .is (.int .i64 i)), (17, .is (.int .i64 k)), (900, .own (Junk tyI 5 (blkS zs12)))]) (fun k => k ≤ f.is.length) (fun k => f.is.length - k) 0 (Nat.zero_le _) ⟨rfl, rfl, rfl, rfl, rfl, rfl, trivial⟩ ?_
            rintro k hk
            by_cases hkt : k < f.is.length
            · obtain ⟨b, rfl, rfl, hbk⟩ := own_at ho12 hzi hzv (by omega)
              refine ze ?_; refine ze ?_; refine zb (id := 14) ?_; refine Zs1 ?_; refine Zs19 ?_; refine z7 (StepOK.seeV (zj L (qy rfl (List.Mem.head _)) rfl rfl rfl rfl) (by assumption)) rfl ?_; refine Zs1 ?_; refine z7 (qb L _ rfl rfl rfl rfl rfl rfl rfl (by first | omega | decide) (by assumption)) rfl ?_; refine Zs45 ?_; refine Zs43 ?_; refine Zs35 ?_; refine Zs11 ?_; refine zd ?_; refine zf ?_; refine zw rfl ?_; refine zt ?_; refine zf ?_; refine ze ?_; refine zy ?_
              refine V_takeJ 900 901 (by decide) rfl hbk fun cs hcl => ?_
              have hble : Nat.ble (0 + k * 5 + 0 + 1) cs.length = true := Nat.ble_eq_true_of_le (by omega)
              refine zb (id := 16) ?_; refine Zs19 ?_; refine z7 (StepOK.seeV (zj L (qy rfl (List.Mem.head _)) rfl rfl rfl rfl) (by assumption)) rfl ?_; refine Zs1 ?_; refine z7 (qb L _ rfl rfl rfl rfl rfl rfl rfl (by first | omega | decide) (by assumption)) rfl ?_; refine Zs45 ?_; refine Zs43 ?_; refine Zs1 ?_; refine z7 (zp L _ rfl rfl rfl rfl rfl rfl rfl (by omega)) rfl ?_; refine Zs19 ?_; refine vo_stepS (y2 L (q := 901) rfl rfl rfl rfl rfl rfl hble rfl rfl) ?_; refine zd ?_; refine qm ?_; refine zf ?_; refine zb (id := 15) ?_; refine Zs1 ?_; refine Zs13 ?_; refine Zs2 ?_; refine zd ?_
              refine N_putJ 900 901 (by decide) rfl hbk rfl (put_len rfl hcl (by omega)) ?_
              exact y1 (x := k) (k + 1) hkt (by omega) ⟨rfl, rfl, rfl, rfl, rfl, rfl, trivial⟩
            · obtain rfl : k = f.is.length := by omega
              refine ze ?_; refine ze ?_; refine zb (id := 14) ?_; refine Zs1 ?_; refine Zs19 ?_; refine z7 (StepOK.seeV (zj L (qy rfl (List.Mem.head _)) rfl rfl rfl rfl) (by assumption)) rfl ?_; refine Zs1 ?_; refine z7 (qb L _ rfl rfl rfl rfl rfl rfl rfl (by first | omega | decide) (by assumption)) rfl ?_; refine Zs45 ?_; refine Zs43 ?_; refine Zs35 ?_; refine Zs8 ?_; refine zd ?_; refine zf ?_; refine zm rfl ?_; refine y7 ?_; refine qg ?_; refine qg ?_; refine y6 ?_; refine qm ?_; refine zf ?_; refine zb (id := 12) ?_; refine Zs1 ?_; refine Zs13 ?_; refine Zs2 ?_; refine zd ?_
              exact y1 (x := i) (i + 1) hlt (by omega) ⟨rfl, rfl, rfl, rfl, rfl, trivial⟩
          · obtain rfl : i = zs12.length := by omega
            refine ze ?_; refine ze ?_; refine zb (id := 11) ?_; refine Zs1 ?_; refine Zs19 ?_; refine z7 (zj L (qy rfl (List.Mem.head _)) rfl rfl rfl rfl) rfl ?_; refine Zs35 ?_; refine Zs8 ?_; refine zd ?_; refine zf ?_; refine zm rfl ?_; refine y7 ?_; refine qg ?_; refine qg ?_; refine y6 ?_; refine zf ?_; refine ze ?_; refine zb (id := 17) ?_; refine z7 (zn L (vs := [_, _]) (qy rfl (List.Mem.tail _ (List.Mem.tail _ (List.Mem.head _)))) rfl rfl rfl rfl ⟨_, rfl⟩) rfl ?_; refine z7 (zn L (vs := [_, _]) (qy rfl (List.Mem.tail _ (List.Mem.head _))) rfl rfl rfl rfl ⟨_, rfl⟩) rfl ?_; refine z7 (zo (r := .int .i64 1) L rfl rfl (zg rfl) rfl rfl rfl (fun u H hH hle _ => rsame_ret hz hz7 (if_pos ⟨rfl, rfl⟩) (hs8.le (hle8.trans hle)) (hs78.le (hle8.trans hle)) hH)) rfl ?_; refine Zs15 ?_; refine Zs1 ?_; refine z7 (zo L rfl rfl (zg rfl) rfl rfl rfl (fun u H hH _ _ => lives_law hH)) rfl ?_; refine Zs6 ?_; refine Zs2 ?_; refine zd ?_; refine zf ?_
            refine qn L (rs := [.tmp 6]) rfl (fun _ _ h => h) (since_off ((s7.trans s8).trans s12) hSB) fun u H hH hle => ?_
            rfl
      · refine zb (id := 8) ?_; refine Zs1 ?_; refine Zs9 ?_; refine Zs1 ?_; refine Zs3 ?_; refine Zs3 ?_; refine Zs3 ?_; refine Zs6 ?_; refine Zs1 ?_; refine Zs3 ?_; refine Zs3 ?_; refine Zs3 ?_; refine Zs6 ?_; refine zd ?_; refine zf ?_; refine zm rfl ?_; refine zt ?_; refine zf ?_; refine ze ?_; refine ze ?_
        refine V_box 3 rfl fun b3 _ => ?_
        refine V_box 7 rfl fun b7 _ => ?_
        refine V_box 12 rfl fun b12 _ => ?_
        refine V_shrink (κ1 := ofL [(3, .is (.pointer (some ⟨b3, 0, none⟩))), (7, .is (.pointer (some ⟨b7, 0, none⟩))), (12, .is (.pointer (some ⟨b12, 0, none⟩)))]) (B1 := H12.off (blkL zs12)) 900 (Junk tyI 5 (blkS zs12)) (fun k => ∃ y ∈ blkL zs12, y.1 = k) (since_on s12 hS0) (off_not ho12) (fun u v hu => blk_junk ho12 _ u v hu) (isk_of ⟨rfl, rfl, rfl, trivial⟩ (by intro p hp; simp only [List.mem_cons, List.mem_nil_iff, or_false] at hp; rcases hp with rfl | rfl | rfl <;> trivial)) ?_
        refine zb (id := 10) ?_; refine Zs2 ?_; refine zd ?_; refine zf ?_; refine zy ?_
        refine V_loop (fun i : Nat => [(3, .is (.pointer (some ⟨b3, 0, none⟩))), (7, .is (.pointer (some ⟨b7, 0, none⟩))), (12, .is (.pointer (some ⟨b12, 0, none⟩))), (16, .is (.int .i64 i)), (900, .own (Junk tyI 5 (blkS zs12)))]) (fun i => i ≤ zs12.length) (fun i => zs12.length - i) 0 (Nat.zero_le _) ⟨rfl, rfl, rfl, rfl, rfl, trivial⟩ ?_
        rintro i hi
        by_cases hlt : i < zs12.length
        · obtain ⟨f, pp, cc, hzi, hli, hzv, hil, hc14⟩ := hs12.at hz12 hlt
          refine ze ?_; refine ze ?_; refine zb (id := 11) ?_; refine Zs1 ?_; refine Zs19 ?_; refine z7 (zj L (qy rfl (List.Mem.head _)) rfl rfl rfl rfl) rfl ?_; refine Zs35 ?_; refine Zs11 ?_; refine zd ?_; refine zf ?_; refine zw rfl ?_; refine zt ?_; refine zf ?_; refine ze ?_; refine zy ?_; refine ze ?_; refine zb (id := 13) ?_; refine Zs2 ?_; refine zd ?_; refine zf ?_; refine zy ?_
          refine V_loop (fun k : Nat => [(3, .is (.pointer (some ⟨b3, 0, none⟩))), (7, .is (.pointer (some ⟨b7, 0, none⟩))), (12, .is (.pointer (some ⟨b12, 0, none⟩))), (16, .is (.int .i64 i)), (17, .is (.int .i64 k)), (900, .own (Junk tyI 5 (blkS zs12)))]) (fun k => k ≤ f.is.length) (fun k => f.is.length - k) 0 (Nat.zero_le _) ⟨rfl, rfl, rfl, rfl, rfl, rfl, trivial⟩ ?_
          rintro k hk
          by_cases hkt : k < f.is.length
          · obtain ⟨b, rfl, rfl, hbk⟩ := own_at ho12 hzi hzv (by omega)
            refine ze ?_; refine ze ?_; refine zb (id := 14) ?_; refine Zs1 ?_; refine Zs19 ?_; refine z7 (StepOK.seeV (zj L (qy rfl (List.Mem.head _)) rfl rfl rfl rfl) (by assumption)) rfl ?_; refine Zs1 ?_; refine z7 (qb L _ rfl rfl rfl rfl rfl rfl rfl (by first | omega | decide) (by assumption)) rfl ?_; refine Zs45 ?_; refine Zs43 ?_; refine Zs35 ?_; refine Zs11 ?_; refine zd ?_; refine zf ?_; refine zw rfl ?_; refine zt ?_; refine zf ?_; refine ze ?_; refine zy ?_
            refine V_takeJ 900 901 (by decide) rfl hbk fun cs hcl => ?_
            have hble : Nat.ble (0 + k * 5 + 0 + 1) cs.length = true := Nat.ble_eq_true_of_le (by omega)
            refine zb (id := 16) ?_; refine Zs19 ?_; refine z7 (StepOK.seeV (zj L (qy rfl (List.Mem.head _)) rfl rfl rfl rfl) (by assumption)) rfl ?_; refine Zs1 ?_; refine z7 (qb L _ rfl rfl rfl rfl rfl rfl rfl (by first | omega | decide) (by assumption)) rfl ?_; refine Zs45 ?_; refine Zs43 ?_; refine Zs1 ?_; refine z7 (zp L _ rfl rfl rfl rfl rfl rfl rfl (by omega)) rfl ?_; refine Zs19 ?_; refine vo_stepS (y2 L (q := 901) rfl rfl rfl rfl rfl rfl hble rfl rfl) ?_; refine zd ?_; refine qm ?_; refine zf ?_; refine zb (id := 15) ?_; refine Zs1 ?_; refine Zs13 ?_; refine Zs2 ?_; refine zd ?_
            refine N_putJ 900 901 (by decide) rfl hbk rfl (put_len rfl hcl (by omega)) ?_
            exact y1 (x := k) (k + 1) hkt (by omega) ⟨rfl, rfl, rfl, rfl, rfl, rfl, trivial⟩
          · obtain rfl : k = f.is.length := by omega
            refine ze ?_; refine ze ?_; refine zb (id := 14) ?_; refine Zs1 ?_; refine Zs19 ?_; refine z7 (StepOK.seeV (zj L (qy rfl (List.Mem.head _)) rfl rfl rfl rfl) (by assumption)) rfl ?_; refine Zs1 ?_; refine z7 (qb L _ rfl rfl rfl rfl rfl rfl rfl (by first | omega | decide) (by assumption)) rfl ?_; refine Zs45 ?_; refine Zs43 ?_; refine Zs35 ?_; refine Zs8 ?_; refine zd ?_; refine zf ?_; refine zm rfl ?_; refine y7 ?_; refine qg ?_; refine qg ?_; refine y6 ?_; refine qm ?_; refine zf ?_; refine zb (id := 12) ?_; refine Zs1 ?_; refine Zs13 ?_; refine Zs2 ?_; refine zd ?_
            exact y1 (x := i) (i + 1) hlt (by omega) ⟨rfl, rfl, rfl, rfl, rfl, trivial⟩
        · obtain rfl : i = zs12.length := by omega
          refine ze ?_; refine ze ?_; refine zb (id := 11) ?_; refine Zs1 ?_; refine Zs19 ?_; refine z7 (zj L (qy rfl (List.Mem.head _)) rfl rfl rfl rfl) rfl ?_; refine Zs35 ?_; refine Zs8 ?_; refine zd ?_; refine zf ?_; refine zm rfl ?_; refine y7 ?_; refine qg ?_; refine qg ?_; refine y6 ?_; refine zf ?_; refine ze ?_; refine zb (id := 17) ?_; refine z7 (zn L (vs := [_, _]) (qy rfl (List.Mem.tail _ (List.Mem.tail _ (List.Mem.head _)))) rfl rfl rfl rfl ⟨_, rfl⟩) rfl ?_; refine z7 (zn L (vs := [_, _]) (qy rfl (List.Mem.tail _ (List.Mem.head _))) rfl rfl rfl rfl ⟨_, rfl⟩) rfl ?_; refine z7 (zo (r := .int .i64 1) L rfl rfl (zg rfl) rfl rfl rfl (fun u H hH hle _ => rsame_ret hz hz7 (if_pos ⟨rfl, rfl⟩) (hs8.le (hle8.trans hle)) (hs78.le (hle8.trans hle)) hH)) rfl ?_; refine Zs15 ?_; refine Zs1 ?_; refine z7 (zo L rfl rfl (zg rfl) rfl rfl rfl (fun u H hH _ _ => lives_law hH)) rfl ?_; refine Zs6 ?_; refine Zs2 ?_; refine zd ?_; refine zf ?_
          refine qn L (rs := [.tmp 6]) rfl (fun _ _ h => h) (since_off ((s7.trans s8).trans s12) hSB) fun u H hH hle => ?_
          rfl
    | true =>
      refine zb (id := 4) ?_; refine z7 (zn L (vs := [_, _]) (qe rfl) rfl rfl rfl rfl ⟨_, rfl⟩) rfl ?_; refine z7 (zn L (vs := [_, _, _, _, _, _]) (zl rfl) rfl rfl rfl rfl ⟨_, rfl⟩) rfl ?_; refine Zs5 ?_; refine Zs4 ?_; refine Zs5 ?_; refine z7 (zn L (vs := [_, _, _, _, _]) (zl rfl) rfl rfl rfl rfl ⟨_, rfl⟩) rfl ?_; refine Zs5 ?_; refine Zs4 ?_; refine Zs5 ?_; refine Zs4 ?_; refine z7 (ok_call (φ := RJ4 t' id' 1 e) L rfl rfl (zg rfl) rfl rfl rfl RJ4.mono (fun u H hH hle _ => Ret.mono (rjoin_ret hz (hs7t.le hle) hZ hX hQ hx hn2 (by omega) hH) fun v H' _ h => (by have h9 := RJoinP.tup h; rw [hj, he] at h9; exact h9))) rfl ?_; refine Zs37 ?_; refine Zs46 ?_; refine Zs48 ?_; refine Zs48 ?_; refine Zs48 ?_; refine Zs24 ?_; refine z7 (ok_storeX L (X := SlX) (tbxC t') (TbX t') TbX.mono tbx_st (fun _ => ⟨rfl, rfl⟩) rfl rfl rfl rfl rfl) rfl ?_; refine Zs2 ?_; refine Zs2 ?_; refine Zs2 ?_; refine zd ?_; refine zf ?_; refine ze ?_
      refine V_opnX 8 rfl fun ⟨p8, n8, c8⟩ H8 s8 ⟨zs8, hz8, hsr8⟩ => ?_
      have hmn := TbN.mn (B := H8) (t := t')
      have hs8 := hs7t.le s8.le
      have hs78 := hs7.le s8.le
      refine zb (id := 5) ?_; refine z7 (zn L (vs := [_, _]) (qe rfl) rfl rfl rfl rfl ⟨_, rfl⟩) rfl ?_; refine z7 (zn L (vs := [_, _, _, _, _, _]) (zl rfl) rfl rfl rfl rfl ⟨_, rfl⟩) rfl ?_; refine Zs5 ?_; refine Zs4 ?_; refine Zs5 ?_; refine z7 (zn L (vs := [_, _, _, _, _]) (zl rfl) rfl rfl rfl rfl ⟨_, rfl⟩) rfl ?_; refine Zs5 ?_; refine Zs4 ?_; refine Zs5 ?_; refine Zs4 ?_; refine z7 (ok_call (φ := JoinNS H8 t' id' true e) L rfl rfl (zg rfl) rfl rfl rfl JoinNS.mono (fun u H hH hle _ => Ret.mono (join_ret hz (hs8.le hle) hZ hQ hn (by omega) hH) fun v H' _ h => (by rw [hj, he] at h; exact JoinP.tupN hle h))) rfl ?_; refine Zs37 ?_; refine Zs46 ?_; refine Zs48 ?_; refine Zs48 ?_; refine Zs48 ?_; refine Zs24 ?_; refine z7 (ok_storeX L (X := SlX) (tbxC t') (TbXN H8 t') TbXN.mono tbxn_st (fun _ => ⟨rfl, rfl⟩) rfl rfl rfl rfl rfl) rfl ?_; refine Zs2 ?_; refine Zs2 ?_; refine Zs2 ?_; refine zd ?_; refine zf ?_; refine ze ?_; refine ze ?_
      refine V_opnX 12 rfl fun ⟨p12, n12, c12⟩ H12 s12 h12 => ?_
      obtain ⟨zs12, hz12, hs12, ho12⟩ := h12.open
      obtain ⟨pq, cq, eq⟩ := hs12.shape
      dsimp only at eq hs12
      cases eq
      have hl12 := fls_len hz12
      have hle12 := s12.le
      have hs12t := hs8.le hle12
      have hsr12 := hsr8.le hle12
      have hs712 := hs78.le hle12
      dsimp only [tbxC]
      have hS0 : ∀ y ∈ blkL zs12, H8 y.1 = none := fun y hy => (ho12.blk hy).1
      have hSB : ∀ y ∈ blkL zs12, B y.1 = none := fun y hy => none_le (s7.le.trans s8.le) (hS0 y hy)
      have hle8 : H8.Le (H12.off (blkL zs12)) := Heap.le_off hle12 hS0
      have hsl := hs12.sl.off (fls_apart ho12 hs12)
      refine zz (id := 6) [] mixed (by kernel_rfl) ?_; refine z8 (zn L (vs := [_, _]) (qe rfl) rfl rfl rfl rfl ⟨_, rfl⟩) rfl ?_; refine z8 (zo L rfl rfl (zg rfl) rfl rfl rfl (fun u H hH hle _ => check_ret hz (hs12t.le hle) hZ hn rfl hH)) rfl ?_; refine z8 (zn L (vs := [_, _]) (qe rfl) rfl rfl rfl rfl ⟨_, rfl⟩) rfl ?_; refine z8 (zo L rfl rfl (zg rfl) rfl rfl rfl (fun u H hH hle _ => rcheck_ret hz (hs12t.le hle) hZ hX hn2 rfl hH)) rfl ?_; refine Zs40 ?_; refine Zs7 ?_; refine Zs7 ?_; refine Zs7 ?_; refine Zs40 ?_; refine Zs28 ?_; refine Zs7 ?_; refine Zs7 ?_; refine Zs7 ?_; refine Zs40 ?_; refine Zs28 ?_; refine Zs7 ?_; refine Zs7 ?_; refine Zs7 ?_; refine Zs80 ?_; refine z8 (ok_bneq rfl rfl rfl rfl bt4 rfl) rfl ?_; refine Zs28 ?_; refine Zs7 ?_; refine z8 (zn L (vs := [_, _]) (qe rfl) rfl rfl rfl rfl ⟨_, rfl⟩) rfl ?_; refine z8 (zn L (vs := [_, _]) (qe rfl) rfl rfl rfl rfl ⟨_, rfl⟩) rfl ?_; refine z8 (zo (r := .int .i64 1) L rfl rfl (zg rfl) rfl rfl rfl (fun u H hH hle _ => rsame_ret hz12 hz8 (if_pos ⟨rfl, rfl⟩) (hs12.le hle) (hsr12.le hle) hH)) rfl ?_; refine Zs71 ?_; refine Zs28 ?_; refine qk ?_; refine zf ?_; refine zm rfl ?_; refine zt ?_; refine zf ?_; refine ze ?_; refine ze ?_
      by_cases he0 : e = 0
      · subst he0
        cases lo with
        | false =>
          have hc0 : chkE t' = 0 := by have h9 := join_ok he; rw [hj] at h9; exact h9
          refine zb (id := 8) ?_; refine Zs1 ?_; refine Zs15 ?_; refine Zs1 ?_; refine Zs5 ?_; refine Zs4 ?_; refine Zs49 ?_; refine Zs6 ?_; refine Zs1 ?_; refine z7 (zn L (vs := [_, _]) (qe rfl) rfl rfl rfl rfl ⟨_, rfl⟩) rfl ?_; refine z7 (zo L rfl rfl (zg rfl) rfl rfl rfl (fun u H hH hle _ => check_ret hz12 (hs12.le hle) hZ' (by omega) hc0 hH)) rfl ?_; refine Zs10 ?_; refine Zs6 ?_; refine zd ?_; refine zf ?_; refine zm rfl ?_; refine zt ?_; refine zf ?_; refine ze ?_; refine ze ?_
          refine V_box 3 rfl fun b3 _ => ?_
          refine V_box 7 rfl fun b7 _ => ?_
          refine V_box 12 rfl fun b12 _ => ?_
          refine V_shrink (κ1 := ofL [(3, .is (.pointer (some ⟨b3, 0, none⟩))), (7, .is (.pointer (some ⟨b7, 0, none⟩))), (12, .is (.pointer (some ⟨b12, 0, none⟩)))]) (B1 := H12.off (blkL zs12)) 900 (Junk tyI 5 (blkS zs12)) (fun k => ∃ y ∈ blkL zs12, y.1 = k) (since_on s12 hS0) (off_not ho12) (fun u v hu => blk_junk ho12 _ u v hu) (isk_of ⟨rfl, rfl, rfl, trivial⟩ (by intro p hp; simp only [List.mem_cons, List.mem_nil_iff, or_false] at hp; rcases hp with rfl | rfl | rfl <;> trivial)) ?_
          refine zb (id := 10) ?_; refine Zs2 ?_; refine zd ?_; refine zf ?_; refine zy ?_
          refine V_loop (fun i : Nat => [(3, .is (.pointer (some ⟨b3, 0, none⟩))), (7, .is (.pointer (some ⟨b7, 0, none⟩))), (12, .is (.pointer (some ⟨b12, 0, none⟩))), (16, .is (.int .i64 i)), (900, .own (Junk tyI 5 (blkS zs12)))]) (fun i => i ≤ zs12.length) (fun i => zs12.length - i) 0 (Nat.zero_le _) ⟨rfl, rfl, rfl, rfl, rfl, trivial⟩ ?_
          rintro i hi
          by_cases hlt : i < zs12.length
          · obtain ⟨f, pp, cc, hzi, hli, hzv, hil, hc14⟩ := hs12.at hz12 hlt
            refine ze ?_; refine ze ?_; refine zb (id := 11) ?_; refine Zs1 ?_; refine Zs19 ?_; refine z7 (zj L (qy rfl (List.Mem.head _)) rfl rfl rfl rfl) rfl ?_; refine Zs35 ?_; refine Zs11 ?_; refine zd ?_; refine zf ?_; refine zw rfl ?_; refine zt ?_; refine zf ?_; refine ze ?_; refine zy ?_; refine ze ?_; refine zb (id := 13) ?_; refine Zs2 ?_; refine zd ?_; refine zf ?_; refine zy ?_
            refine V_loop (fun k : Nat => [(3, .is (.pointer (some ⟨b3, 0, none⟩))), (7, .is (.pointer (some ⟨b7, 0, none⟩))), (12, .is (.pointer (some ⟨b12, 0, none⟩))), (16, .is (.int .i64 i)), (17, .is (.int .i64 k)), (900, .own (Junk tyI 5 (blkS zs12)))]) (fun k => k ≤ f.is.length) (fun k => f.is.length - k) 0 (Nat.zero_le _) ⟨rfl, rfl, rfl, rfl, rfl, rfl, trivial⟩ ?_
            rintro k hk
            by_cases hkt : k < f.is.length
            · obtain ⟨b, rfl, rfl, hbk⟩ := own_at ho12 hzi hzv (by omega)
              refine ze ?_; refine ze ?_; refine zb (id := 14) ?_; refine Zs1 ?_; refine Zs19 ?_; refine z7 (StepOK.seeV (zj L (qy rfl (List.Mem.head _)) rfl rfl rfl rfl) (by assumption)) rfl ?_; refine Zs1 ?_; refine z7 (qb L _ rfl rfl rfl rfl rfl rfl rfl (by first | omega | decide) (by assumption)) rfl ?_; refine Zs45 ?_; refine Zs43 ?_; refine Zs35 ?_; refine Zs11 ?_; refine zd ?_; refine zf ?_; refine zw rfl ?_; refine zt ?_; refine zf ?_; refine ze ?_; refine zy ?_
              refine V_takeJ 900 901 (by decide) rfl hbk fun cs hcl => ?_
              have hble : Nat.ble (0 + k * 5 + 0 + 1) cs.length = true := Nat.ble_eq_true_of_le (by omega)
              refine zb (id := 16) ?_; refine Zs19 ?_; refine z7 (StepOK.seeV (zj L (qy rfl (List.Mem.head _)) rfl rfl rfl rfl) (by assumption)) rfl ?_; refine Zs1 ?_; refine z7 (qb L _ rfl rfl rfl rfl rfl rfl rfl (by first | omega | decide) (by assumption)) rfl ?_; refine Zs45 ?_; refine Zs43 ?_; refine Zs1 ?_; refine z7 (zp L _ rfl rfl rfl rfl rfl rfl rfl (by omega)) rfl ?_; refine Zs19 ?_; refine vo_stepS (y2 L (q := 901) rfl rfl rfl rfl rfl rfl hble rfl rfl) ?_; refine zd ?_; refine qm ?_; refine zf ?_; refine zb (id := 15) ?_; refine Zs1 ?_; refine Zs13 ?_; refine Zs2 ?_; refine zd ?_
              refine N_putJ 900 901 (by decide) rfl hbk rfl (put_len rfl hcl (by omega)) ?_
              exact y1 (x := k) (k + 1) hkt (by omega) ⟨rfl, rfl, rfl, rfl, rfl, rfl, trivial⟩
            · obtain rfl : k = f.is.length := by omega
              refine ze ?_; refine ze ?_; refine zb (id := 14) ?_; refine Zs1 ?_; refine Zs19 ?_; refine z7 (StepOK.seeV (zj L (qy rfl (List.Mem.head _)) rfl rfl rfl rfl) (by assumption)) rfl ?_; refine Zs1 ?_; refine z7 (qb L _ rfl rfl rfl rfl rfl rfl rfl (by first | omega | decide) (by assumption)) rfl ?_; refine Zs45 ?_; refine Zs43 ?_; refine Zs35 ?_; refine Zs8 ?_; refine zd ?_; refine zf ?_; refine zm rfl ?_; refine y7 ?_; refine qg ?_; refine qg ?_; refine y6 ?_; refine qm ?_; refine zf ?_; refine zb (id := 12) ?_; refine Zs1 ?_; refine Zs13 ?_; refine Zs2 ?_; refine zd ?_
              exact y1 (x := i) (i + 1) hlt (by omega) ⟨rfl, rfl, rfl, rfl, rfl, trivial⟩
          · obtain rfl : i = zs12.length := by omega
            refine ze ?_; refine ze ?_; refine zb (id := 11) ?_; refine Zs1 ?_; refine Zs19 ?_; refine z7 (zj L (qy rfl (List.Mem.head _)) rfl rfl rfl rfl) rfl ?_; refine Zs35 ?_; refine Zs8 ?_; refine zd ?_; refine zf ?_; refine zm rfl ?_; refine y7 ?_; refine qg ?_; refine qg ?_; refine y6 ?_; refine zf ?_; refine ze ?_; refine zb (id := 17) ?_; refine z7 (zn L (vs := [_, _]) (qy rfl (List.Mem.tail _ (List.Mem.tail _ (List.Mem.head _)))) rfl rfl rfl rfl ⟨_, rfl⟩) rfl ?_; refine z7 (zn L (vs := [_, _]) (qy rfl (List.Mem.tail _ (List.Mem.head _))) rfl rfl rfl rfl ⟨_, rfl⟩) rfl ?_; refine z7 (zo (r := .int .i64 1) L rfl rfl (zg rfl) rfl rfl rfl (fun u H hH hle _ => rsame_ret hz hz7 (if_pos ⟨rfl, rfl⟩) (hs8.le (hle8.trans hle)) (hs78.le (hle8.trans hle)) hH)) rfl ?_; refine Zs15 ?_; refine Zs1 ?_; refine z7 (zo L rfl rfl (zg rfl) rfl rfl rfl (fun u H hH _ _ => lives_law hH)) rfl ?_; refine Zs6 ?_; refine Zs2 ?_; refine zd ?_; refine zf ?_
            refine qn L (rs := [.tmp 6]) rfl (fun _ _ h => h) (since_off ((s7.trans s8).trans s12) hSB) fun u H hH hle => ?_
            rfl
        | true =>
          refine zb (id := 8) ?_; refine Zs1 ?_; refine Zs15 ?_; refine Zs1 ?_; refine Zs5 ?_; refine Zs4 ?_; refine Zs49 ?_; refine Zs6 ?_; refine Zs1 ?_; refine Zs3 ?_; refine Zs3 ?_; refine Zs3 ?_; refine Zs6 ?_; refine zd ?_; refine zf ?_; refine zm rfl ?_; refine zt ?_; refine zf ?_; refine ze ?_; refine ze ?_
          refine V_box 3 rfl fun b3 _ => ?_
          refine V_box 7 rfl fun b7 _ => ?_
          refine V_box 12 rfl fun b12 _ => ?_
          refine V_shrink (κ1 := ofL [(3, .is (.pointer (some ⟨b3, 0, none⟩))), (7, .is (.pointer (some ⟨b7, 0, none⟩))), (12, .is (.pointer (some ⟨b12, 0, none⟩)))]) (B1 := H12.off (blkL zs12)) 900 (Junk tyI 5 (blkS zs12)) (fun k => ∃ y ∈ blkL zs12, y.1 = k) (since_on s12 hS0) (off_not ho12) (fun u v hu => blk_junk ho12 _ u v hu) (isk_of ⟨rfl, rfl, rfl, trivial⟩ (by intro p hp; simp only [List.mem_cons, List.mem_nil_iff, or_false] at hp; rcases hp with rfl | rfl | rfl <;> trivial)) ?_
          refine zb (id := 10) ?_; refine Zs2 ?_; refine zd ?_; refine zf ?_; refine zy ?_
          refine V_loop (fun i : Nat => [(3, .is (.pointer (some ⟨b3, 0, none⟩))), (7, .is (.pointer (some ⟨b7, 0, none⟩))), (12, .is (.pointer (some ⟨b12, 0, none⟩))), (16, .is (.int .i64 i)), (900, .own (Junk tyI 5 (blkS zs12)))]) (fun i => i ≤ zs12.length) (fun i => zs12.length - i) 0 (Nat.zero_le _) ⟨rfl, rfl, rfl, rfl, rfl, trivial⟩ ?_
          rintro i hi
          by_cases hlt : i < zs12.length
          · obtain ⟨f, pp, cc, hzi, hli, hzv, hil, hc14⟩ := hs12.at hz12 hlt
            refine ze ?_; refine ze ?_; refine zb (id := 11) ?_; refine Zs1 ?_; refine Zs19 ?_; refine z7 (zj L (qy rfl (List.Mem.head _)) rfl rfl rfl rfl) rfl ?_; refine Zs35 ?_; refine Zs11 ?_; refine zd ?_; refine zf ?_; refine zw rfl ?_; refine zt ?_; refine zf ?_; refine ze ?_; refine zy ?_; refine ze ?_; refine zb (id := 13) ?_; refine Zs2 ?_; refine zd ?_; refine zf ?_; refine zy ?_
            refine V_loop (fun k : Nat => [(3, .is (.pointer (some ⟨b3, 0, none⟩))), (7, .is (.pointer (some ⟨b7, 0, none⟩))), (12, .is (.pointer (some ⟨b12, 0, none⟩))), (16, .is (.int .i64 i)), (17, .is (.int .i64 k)), (900, .own (Junk tyI 5 (blkS zs12)))]) (fun k => k ≤ f.is.length) (fun k => f.is.length - k) 0 (Nat.zero_le _) ⟨rfl, rfl, rfl, rfl, rfl, rfl, trivial⟩ ?_
            rintro k hk
            by_cases hkt : k < f.is.length
            · obtain ⟨b, rfl, rfl, hbk⟩ := own_at ho12 hzi hzv (by omega)
              refine ze ?_; refine ze ?_; refine zb (id := 14) ?_; refine Zs1 ?_; refine Zs19 ?_; refine z7 (StepOK.seeV (zj L (qy rfl (List.Mem.head _)) rfl rfl rfl rfl) (by assumption)) rfl ?_; refine Zs1 ?_; refine z7 (qb L _ rfl rfl rfl rfl rfl rfl rfl (by first | omega | decide) (by assumption)) rfl ?_; refine Zs45 ?_; refine Zs43 ?_; refine Zs35 ?_; refine Zs11 ?_; refine zd ?_; refine zf ?_; refine zw rfl ?_; refine zt ?_; refine zf ?_; refine ze ?_; refine zy ?_
              refine V_takeJ 900 901 (by decide) rfl hbk fun cs hcl => ?_
              have hble : Nat.ble (0 + k * 5 + 0 + 1) cs.length = true := Nat.ble_eq_true_of_le (by omega)
              refine zb (id := 16) ?_; refine Zs19 ?_; refine z7 (StepOK.seeV (zj L (qy rfl (List.Mem.head _)) rfl rfl rfl rfl) (by assumption)) rfl ?_; refine Zs1 ?_; refine z7 (qb L _ rfl rfl rfl rfl rfl rfl rfl (by first | omega | decide) (by assumption)) rfl ?_; refine Zs45 ?_; refine Zs43 ?_; refine Zs1 ?_; refine z7 (zp L _ rfl rfl rfl rfl rfl rfl rfl (by omega)) rfl ?_; refine Zs19 ?_; refine vo_stepS (y2 L (q := 901) rfl rfl rfl rfl rfl rfl hble rfl rfl) ?_; refine zd ?_; refine qm ?_; refine zf ?_; refine zb (id := 15) ?_; refine Zs1 ?_; refine Zs13 ?_; refine Zs2 ?_; refine zd ?_
              refine N_putJ 900 901 (by decide) rfl hbk rfl (put_len rfl hcl (by omega)) ?_
              exact y1 (x := k) (k + 1) hkt (by omega) ⟨rfl, rfl, rfl, rfl, rfl, rfl, trivial⟩
            · obtain rfl : k = f.is.length := by omega
              refine ze ?_; refine ze ?_; refine zb (id := 14) ?_; refine Zs1 ?_; refine Zs19 ?_; refine z7 (StepOK.seeV (zj L (qy rfl (List.Mem.head _)) rfl rfl rfl rfl) (by assumption)) rfl ?_; refine Zs1 ?_; refine z7 (qb L _ rfl rfl rfl rfl rfl rfl rfl (by first | omega | decide) (by assumption)) rfl ?_; refine Zs45 ?_; refine Zs43 ?_; refine Zs35 ?_; refine Zs8 ?_; refine zd ?_; refine zf ?_; refine zm rfl ?_; refine y7 ?_; refine qg ?_; refine qg ?_; refine y6 ?_; refine qm ?_; refine zf ?_; refine zb (id := 12) ?_; refine Zs1 ?_; refine Zs13 ?_; refine Zs2 ?_; refine zd ?_
              exact y1 (x := i) (i + 1) hlt (by omega) ⟨rfl, rfl, rfl, rfl, rfl, trivial⟩
          · obtain rfl : i = zs12.length := by omega
            refine ze ?_; refine ze ?_; refine zb (id := 11) ?_; refine Zs1 ?_; refine Zs19 ?_; refine z7 (zj L (qy rfl (List.Mem.head _)) rfl rfl rfl rfl) rfl ?_; refine Zs35 ?_; refine Zs8 ?_; refine zd ?_; refine zf ?_; refine zm rfl ?_; refine y7 ?_; refine qg ?_; refine qg ?_; refine y6 ?_; refine zf ?_; refine ze ?_; refine zb (id := 17) ?_; refine z7 (zn L (vs := [_, _]) (qy rfl (List.Mem.tail _ (List.Mem.tail _ (List.Mem.head _)))) rfl rfl rfl rfl ⟨_, rfl⟩) rfl ?_; refine z7 (zn L (vs := [_, _]) (qy rfl (List.Mem.tail _ (List.Mem.head _))) rfl rfl rfl rfl ⟨_, rfl⟩) rfl ?_; refine z7 (zo (r := .int .i64 1) L rfl rfl (zg rfl) rfl rfl rfl (fun u H hH hle _ => rsame_ret hz hz7 (if_pos ⟨rfl, rfl⟩) (hs8.le (hle8.trans hle)) (hs78.le (hle8.trans hle)) hH)) rfl ?_; refine Zs15 ?_; refine Zs1 ?_; refine z7 (zo L rfl rfl (zg rfl) rfl rfl rfl (fun u H hH _ _ => lives_law hH)) rfl ?_; refine Zs6 ?_; refine Zs2 ?_; refine zd ?_; refine zf ?_
            refine qn L (rs := [.tmp 6]) rfl (fun _ _ h => h) (since_off ((s7.trans s8).trans s12) hSB) fun u H hH hle => ?_
            rfl
      · refine zb (id := 8) ?_; refine Zs1 ?_; refine Zs9 ?_; refine Zs1 ?_; refine Zs3 ?_; refine Zs3 ?_; refine Zs3 ?_; refine Zs6 ?_; refine Zs1 ?_; refine Zs3 ?_; refine Zs3 ?_; refine Zs3 ?_; refine Zs6 ?_; refine zd ?_; refine zf ?_; refine zm rfl ?_; refine zt ?_; refine zf ?_; refine ze ?_; refine ze ?_
        refine V_box 3 rfl fun b3 _ => ?_
        refine V_box 7 rfl fun b7 _ => ?_
        refine V_box 12 rfl fun b12 _ => ?_
        refine V_shrink (κ1 := ofL [(3, .is (.pointer (some ⟨b3, 0, none⟩))), (7, .is (.pointer (some ⟨b7, 0, none⟩))), (12, .is (.pointer (some ⟨b12, 0, none⟩)))]) (B1 := H12.off (blkL zs12)) 900 (Junk tyI 5 (blkS zs12)) (fun k => ∃ y ∈ blkL zs12, y.1 = k) (since_on s12 hS0) (off_not ho12) (fun u v hu => blk_junk ho12 _ u v hu) (isk_of ⟨rfl, rfl, rfl, trivial⟩ (by intro p hp; simp only [List.mem_cons, List.mem_nil_iff, or_false] at hp; rcases hp with rfl | rfl | rfl <;> trivial)) ?_
        refine zb (id := 10) ?_; refine Zs2 ?_; refine zd ?_; refine zf ?_; refine zy ?_
        refine V_loop (fun i : Nat => [(3, .is (.pointer (some ⟨b3, 0, none⟩))), (7, .is (.pointer (some ⟨b7, 0, none⟩))), (12, .is (.pointer (some ⟨b12, 0, none⟩))), (16, .is (.int .i64 i)), (900, .own (Junk tyI 5 (blkS zs12)))]) (fun i => i ≤ zs12.length) (fun i => zs12.length - i) 0 (Nat.zero_le _) ⟨rfl, rfl, rfl, rfl, rfl, trivial⟩ ?_
        rintro i hi
        by_cases hlt : i < zs12.length
        · obtain ⟨f, pp, cc, hzi, hli, hzv, hil, hc14⟩ := hs12.at hz12 hlt
          refine ze ?_; refine ze ?_; refine zb (id := 11) ?_; refine Zs1 ?_; refine Zs19 ?_; refine z7 (zj L (qy rfl (List.Mem.head _)) rfl rfl rfl rfl) rfl ?_; refine Zs35 ?_; refine Zs11 ?_; refine zd ?_; refine zf ?_; refine zw rfl ?_; refine zt ?_; refine zf ?_; refine ze ?_; refine zy ?_; refine ze ?_; refine zb (id := 13) ?_; refine Zs2 ?_; refine zd ?_; refine zf ?_; refine zy ?_
          refine V_loop (fun k : Nat => [(3, .is (.pointer (some ⟨b3, 0, none⟩))), (7, .is (.pointer (some ⟨b7, 0, none⟩))), (12, .is (.pointer (some ⟨b12, 0, none⟩))), (16, .is (.int .i64 i)), (17, .is (.int .i64 k)), (900, .own (Junk tyI 5 (blkS zs12)))]) (fun k => k ≤ f.is.length) (fun k => f.is.length - k) 0 (Nat.zero_le _) ⟨rfl, rfl, rfl, rfl, rfl, rfl, trivial⟩ ?_
          rintro k hk
          by_cases hkt : k < f.is.length
          · obtain ⟨b, rfl, rfl, hbk⟩ := own_at ho12 hzi hzv (by omega)
            refine ze ?_; refine ze ?_; refine zb (id := 14) ?_; refine Zs1 ?_; refine Zs19 ?_; refine z7 (StepOK.seeV (zj L (qy rfl (List.Mem.head _)) rfl rfl rfl rfl) (by assumption)) rfl ?_; refine Zs1 ?_; refine z7 (qb L _ rfl rfl rfl rfl rfl rfl rfl (by first | omega | decide) (by assumption)) rfl ?_; refine Zs45 ?_; refine Zs43 ?_; refine Zs35 ?_; refine Zs11 ?_; refine zd ?_; refine zf ?_; refine zw rfl ?_; refine zt ?_; refine zf ?_; refine ze ?_; refine zy ?_
            refine V_takeJ 900 901 (by decide) rfl hbk fun cs hcl => ?_
            have hble : Nat.ble (0 + k * 5 + 0 + 1) cs.length = true := Nat.ble_eq_true_of_le (by omega)
            refine zb (id := 16) ?_; refine Zs19 ?_; refine z7 (StepOK.seeV (zj L (qy rfl (List.Mem.head _)) rfl rfl rfl rfl) (by assumption)) rfl ?_; refine Zs1 ?_; refine z7 (qb L _ rfl rfl rfl rfl rfl rfl rfl (by first | omega | decide) (by assumption)) rfl ?_; refine Zs45 ?_; refine Zs43 ?_; refine Zs1 ?_; refine z7 (zp L _ rfl rfl rfl rfl rfl rfl rfl (by omega)) rfl ?_; refine Zs19 ?_; refine vo_stepS (y2 L (q := 901) rfl rfl rfl rfl rfl rfl hble rfl rfl) ?_; refine zd ?_; refine qm ?_; refine zf ?_; refine zb (id := 15) ?_; refine Zs1 ?_; refine Zs13 ?_; refine Zs2 ?_; refine zd ?_
            refine N_putJ 900 901 (by decide) rfl hbk rfl (put_len rfl hcl (by omega)) ?_
            exact y1 (x := k) (k + 1) hkt (by omega) ⟨rfl, rfl, rfl, rfl, rfl, rfl, trivial⟩
          · obtain rfl : k = f.is.length := by omega
            refine ze ?_; refine ze ?_; refine zb (id := 14) ?_; refine Zs1 ?_; refine Zs19 ?_; refine z7 (StepOK.seeV (zj L (qy rfl (List.Mem.head _)) rfl rfl rfl rfl) (by assumption)) rfl ?_; refine Zs1 ?_; refine z7 (qb L _ rfl rfl rfl rfl rfl rfl rfl (by first | omega | decide) (by assumption)) rfl ?_; refine Zs45 ?_; refine Zs43 ?_; refine Zs35 ?_; refine Zs8 ?_; refine zd ?_; refine zf ?_; refine zm rfl ?_; refine y7 ?_; refine qg ?_; refine qg ?_; refine y6 ?_; refine qm ?_; refine zf ?_; refine zb (id := 12) ?_; refine Zs1 ?_; refine Zs13 ?_; refine Zs2 ?_; refine zd ?_
            exact y1 (x := i) (i + 1) hlt (by omega) ⟨rfl, rfl, rfl, rfl, rfl, trivial⟩
        · obtain rfl : i = zs12.length := by omega
          refine ze ?_; refine ze ?_; refine zb (id := 11) ?_; refine Zs1 ?_; refine Zs19 ?_; refine z7 (zj L (qy rfl (List.Mem.head _)) rfl rfl rfl rfl) rfl ?_; refine Zs35 ?_; refine Zs8 ?_; refine zd ?_; refine zf ?_; refine zm rfl ?_; refine y7 ?_; refine qg ?_; refine qg ?_; refine y6 ?_; refine zf ?_; refine ze ?_; refine zb (id := 17) ?_; refine z7 (zn L (vs := [_, _]) (qy rfl (List.Mem.tail _ (List.Mem.tail _ (List.Mem.head _)))) rfl rfl rfl rfl ⟨_, rfl⟩) rfl ?_; refine z7 (zn L (vs := [_, _]) (qy rfl (List.Mem.tail _ (List.Mem.head _))) rfl rfl rfl rfl ⟨_, rfl⟩) rfl ?_; refine z7 (zo (r := .int .i64 1) L rfl rfl (zg rfl) rfl rfl rfl (fun u H hH hle _ => rsame_ret hz hz7 (if_pos ⟨rfl, rfl⟩) (hs8.le (hle8.trans hle)) (hs78.le (hle8.trans hle)) hH)) rfl ?_; refine Zs15 ?_; refine Zs1 ?_; refine z7 (zo L rfl rfl (zg rfl) rfl rfl rfl (fun u H hH _ _ => lives_law hH)) rfl ?_; refine Zs6 ?_; refine Zs2 ?_; refine zd ?_; refine zf ?_
          refine qn L (rs := [.tmp 6]) rfl (fun _ _ h => h) (since_off ((s7.trans s8).trans s12) hSB) fun u H hH hle => ?_
          rfl
end Go.V.L39
namespace Go.V.L39
open Go.Proofs Go.RowKit Go.V
theorem srtR_eq (l : List It) : srtR l = (revs l).mergeSort (fun x y => decide (x ≤ y)) := Go.Sort.sortInt (revs l)
theorem revs_nodup (l : List It) : (revs l).Nodup := by
  suffices ∀ (m : List It) (acc : List Int), acc.Nodup → (revsF acc m).Nodup from this l [] List.nodup_nil
  intro m
  induction m with
  | nil => exact fun acc h => h
  | cons x m ih =>
    intro acc h
    refine ih _ ?_
    dsimp only
    split
    · exact h
    · rename_i hx
      rw [List.nodup_append]
      exact ⟨h, List.pairwise_singleton _ _, fun a ha b hb => by
        rw [List.mem_singleton] at hb
        subst hb
        intro e; subst e; exact hx ha⟩
theorem srtR_perm (l : List It) : (srtR l).Perm (revs l) := by rw [srtR_eq]; exact List.mergeSort_perm _ _
theorem sum_zero {l : List Nat} (h : ∀ a ∈ l, a = 0) : l.sum = 0 := by
  induction l with
  | nil => rfl
  | cons a l ih => rw [List.sum_cons, h a (List.mem_cons_self ..), ih fun b hb => h b (List.mem_cons_of_mem _ hb)]
theorem sum_ind {v : Int} : ∀ {vs : List Int}, vs.Nodup → v ∈ vs → (vs.map fun u => if v = u then 1 else 0).sum = 1
  | [], _, h => by cases h
  | u :: vs, hn, h => by
    rw [List.nodup_cons] at hn
    rw [List.map_cons, List.sum_cons]
    by_cases e : v = u
    · subst e
      have : (vs.map fun u => if v = u then 1 else 0).sum = 0 := by
        refine sum_zero fun a ha => ?_
        obtain ⟨b, hb, rfl⟩ := List.mem_map.1 ha
        exact if_neg fun e => hn.1 (by rw [e]; exact hb)
      rw [this, if_pos rfl]
    · rw [if_neg e, sum_ind hn.2 (by rcases List.mem_cons.1 h with h | h; exact absurd h e; exact h)]
theorem sum_add {α : Type} (f g : α → Nat) : ∀ l : List α, (l.map fun x => f x + g x).sum = (l.map f).sum + (l.map g).sum
  | [] => rfl
  | x :: l => by simp only [List.map_cons, List.sum_cons, sum_add f g l]; omega
theorem sum_cnt {vs : List Int} (hn : vs.Nodup) : ∀ {l : List It}, (∀ x ∈ l, x.rv ∈ vs) → (vs.map fun v => cntR v l).sum = l.length
  | [], _ => by
    refine (sum_zero fun a ha => ?_).trans rfl
    obtain ⟨b, hb, rfl⟩ := List.mem_map.1 ha
    rfl
  | x :: l, h => by
    have h1 := sum_cnt hn (l := l) fun y hy => h y (List.mem_cons_of_mem _ hy)
    have h2 : (vs.map fun v => cntR v (x :: l)) = vs.map fun v => cntR v l + if x.rv = v then 1 else 0 := List.map_congr_left fun v _ => by
      unfold cntR
      rw [List.countP_cons]
      congr 1
      by_cases e : x.rv = v <;> simp [e]
    rw [h2, sum_add, h1, sum_ind hn (h x (List.mem_cons_self ..)), List.length_cons]
theorem pins_sum (l : List It) : ((pins l).map Prod.snd).sum = l.length := by
  have h1 : (pins l).map Prod.snd = (srtR l).map fun v => cntR v l := by simp [pins]
  rw [h1, ((srtR_perm l).map _).sum_nat]
  exact sum_cnt (revs_nodup l) fun x hx => (mem_revs l x.rv).2 (List.countP_pos_iff.2 ⟨x, hx, decide_eq_true rfl⟩)
theorem pins_len (l : List It) : (pins l).length ≤ l.length := by
  have h1 := revs_len l
  have h2 := srt_len l
  unfold pins
  rw [List.length_map]
  omega
theorem sum_take {l : List Nat} (i : Nat) : (l.take i).sum ≤ l.sum := by
  have := congrArg List.sum (List.take_append_drop i l)
  rw [List.sum_append] at this
  omega
theorem sum_snoc {l : List Nat} {i x : Nat} (h : l[i]? = some x) : (l.take (i + 1)).sum = (l.take i).sum + x := by
  rw [take_snoc h, List.sum_append]; simp
end Go.V.L39
namespace Go.V.L39
open Go.Proofs Go.RowKit Go.V
theorem N_attach {F : Fr} {B : Heap} {O : Boxes} {n : Nat} {κ : Kap} {Q : Exit → Act → World → Prop} (t g : Nat) {x : Value} {r : Res} (hk : κ g = some (.own (AtV x r))) (ht : κ t = some (.is x)) (h : N F B n O (upd (upd κ g nilK) t (.own r)) Q) : N F B n O κ Q := fun a u hh => h a u (hh.attach hk ht)
abbrev tyOp : TypeId := 67
def opc (o : Op6) : List Value := [.int .u8 o.w, .int .u8 o.q, .int .u8 o.r, .int .u8 o.c, .int .u8 o.k, .int .u8 o.n]
theorem opc_len (o : Op6) : (opc o).length = 6 := rfl
def aqC (W : Wt) : List Value := W.flatMap fun w => quc w.1
def itC (W : Wt) : List Value := W.flatMap fun w => itc w.2
theorem aq_at {W : Wt} {k : Nat} {w : Qu × It} (h : W[k]? = some w) : ((aqC W).drop (k * 6)).take 6 = [.int .u8 w.1.kd, .string w.1.g.1.1, .string w.1.g.1.2, .string w.1.g.2, .string w.1.u.1, .string w.1.u.2] := flatMap_at (f := fun w : Qu × It => quc w.1) (s := 6) (fun _ => rfl) W k w h
theorem itC_at {W : Wt} {k : Nat} {w : Qu × It} (h : W[k]? = some w) : ((itC W).drop (k * 5)).take 5 = [.int .i64 w.2.tk, .int .i64 w.2.im, .int .i64 w.2.cl, .int .i64 w.2.cs, .int .u64 w.2.rv] := flatMap_at (f := fun w : Qu × It => itc w.2) (s := 5) (fun _ => rfl) W k w h
theorem aq_snoc {κ : Kap} {s : Nat} {W : Wt} {w : Qu × It} (h : κ s = some (.own (SlR tyQ 6 (W.length + 1) (aqC W ++ quc w.1)))) : κ s = some (.own (SlR tyQ 6 (W ++ [w]).length (aqC (W ++ [w])))) := by
  rw [h]; unfold aqC; rw [List.flatMap_append, List.length_append]; simp
theorem iw_snoc {κ : Kap} {s : Nat} {W : Wt} {w : Qu × It} (h : κ s = some (.own (SlR tyI 5 (W.length + 1) (itC W ++ itc w.2)))) : κ s = some (.own (SlR tyI 5 (W ++ [w]).length (itC (W ++ [w])))) := by
  rw [h]; unfold itC; rw [List.flatMap_append, List.length_append]; simp
theorem stp_join {i : Nat} {t : Tb} {W : Wt} (h : PInv i t W) (hi : i < 100) {o : Op6} (hw : o.w % 8 < 5) : stp t o i = jS t o i := by
  unfold stp; rw [if_pos hw, if_pos (p_joinE h hi o)]
theorem stp_nil {i : Nat} {t : Tb} {o : Op6} (hw : ¬ o.w % 8 < 5) (hn : t.fl = []) : stp t o i = t := by
  unfold stp; rw [if_neg hw, if_pos hn]
theorem atS_eq {t : Tb} {n : Nat} {f : Fl} (h : t.fl[n % t.fl.length]? = some f) : atS t n = f := by
  unfold atS; rw [h]; rfl
theorem stp_cm {i : Nat} {t : Tb} {W : Wt} (h : PInv i t W) (hi : i < 100) {o : Op6} (ho : OpZ o) (hw : ¬ o.w % 8 < 5) (hn : t.fl ≠ []) (hw7 : o.w % 8 < 7) {f : Fl} (hf : t.fl[o.n % t.fl.length]? = some f) : stp t o i = cmT t f.id o.n := by
  unfold stp; rw [if_neg hw, if_neg hn, if_pos hw7, atS_eq hf, if_pos (p_cmE h hi (fls_mem hf) ho.n)]
theorem stp_ld {i : Nat} {t : Tb} {W : Wt} (h : PInv i t W) {o : Op6} (hw : ¬ o.w % 8 < 5) (hn : t.fl ≠ []) (hw7 : ¬ o.w % 8 < 7) {f : Fl} (hf : t.fl[o.n % t.fl.length]? = some f) : stp t o i = ldT t f.id := by
  unfold stp; rw [if_neg hw, if_neg hn, if_neg hw7, atS_eq hf, if_pos (plE_at h.ok (fls_mem hf))]
theorem fls_its : ∀ {l : List Fl}, (∀ f ∈ l, f.is ≠ []) → l.length ≤ itsN l
  | [], _ => Nat.zero_le _
  | f :: l, h => by
    have h1 := fls_its (l := l) fun g hg => h g (List.mem_cons_of_mem _ hg)
    have h2 : 0 < f.is.length := List.length_pos_iff.2 (h f (List.mem_cons_self ..))
    simp only [itsN, List.map_cons, List.sum_cons, List.length_cons] at h1 ⊢
    omega
theorem PInv.small {i : Nat} {t : Tb} {W : Wt} (h : PInv i t W) : itsN t.fl ≤ i ∧ t.fl.length ≤ i := by
  have h1 := h.len
  have h2 := h.its
  have h3 : t.fl.length ≤ itsN t.fl := fls_its fun f hf => by
    obtain ⟨k, hk⟩ := List.getElem?_of_mem hf
    exact (h.ok.fl k f hk).ne
  omega
def goneB (l : List It) (x : It) : Bool := l.any fun y => decide (y = x)
theorem goneB_snoc {l : List It} {j : Nat} {y x : It} (h : l[j]? = some y) : goneB (l.take (j + 1)) x = (goneB (l.take j) x || decide (y = x)) := by
  unfold goneB; rw [take_snoc h, List.any_append]; simp
theorem gone_hit {i : Nat} {t : Tb} {W : Wt} (h : PInv i t W) {f : Fl} (hf : f ∈ t.fl) {k : Nat} {w : Qu × It} (hw : W[k]? = some w) : goneB f.is w.2 = hitW f w := by
  have h1 := p_in h hf hw
  rw [Bool.eq_iff_iff, ← h1]
  unfold goneB
  rw [List.any_eq_true]
  constructor
  · rintro ⟨y, hy, hd⟩
    rw [← of_decide_eq_true hd]; exact hy
  · exact fun hm => ⟨_, hm, decide_eq_true rfl⟩
def filW (W : Wt) (f : Fl) : Wt := W.filter fun w => !hitW f w
theorem filW_snoc {W : Wt} {f : Fl} {k : Nat} {w : Qu × It} (h : W[k]? = some w) : filW (W.take (k + 1)) f = filW (W.take k) f ++ if hitW f w = true then [] else [w] := by
  unfold filW; rw [take_snoc h, List.filter_append]
  cases hh : hitW f w <;> simp [List.filter, hh]
theorem pins_take_sum {l : List It} {k : Nat} {p : Int × Nat} (h : (pins l)[k]? = some p) : (((pins l).map Prod.snd).take (k + 1)).sum = (((pins l).map Prod.snd).take k).sum + p.2 := sum_snoc (by rw [List.getElem?_map, h]; rfl)
end Go.V.L39
