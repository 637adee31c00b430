/- Texts on the way to FlightsCalls, part 6: one behind another. -/
import Derived.Test.YtfihdmobfmkclaaFlightsCallsM5
import Derived.Sort.Walk7
import Derived.Sort.WalkA14
import Derived.Sort.Walk13
import Derived.ProofKit
import Derived.HandedShaped
import Derived.OpenShut
import Derived.Carry
import Derived.Deep.Slices
import Derived.SizedLaws
set_option linter.unusedVariables false
set_option linter.unusedSimpArgs false
namespace Go.V.So
open Go.Proofs Go.RowKit Go.V Go.Sort
attribute [local irreducible] V N X VO Par StepOK Has Ret RetL RetO RetG RetX Src
set_option maxRecDepth 20000 in
theorem bitslen_ret {n : Nat} (hn : n < 18446744073709551616) {w : World} {B : Heap} (hB : B.Le (hp w)) : Ret Try.prog 79 [.int .u64 n] w B (fun v _ => v = .int .i64 (bitsLen n)) := by
  refine y0 Try.func79 rfl Try.ntmps79 (Nat.le_of_ble_eq_true rfl) hB ?_
  refine zf ?_; refine zd (id := 0) ?_; refine za (ze rfl rfl rfl) rfl ?_; refine zh ?_; refine zj ?_; refine zf ?_; refine zo rfl ?_; refine zu ?_; refine zj ?_; refine zf ?_; refine zd (id := 2) ?_; refine za (zc rfl rfl rfl) rfl ?_; refine za (zp L rfl rfl (zg rfl) rfl rfl rfl (fun u H hH _ _ => Ret.of_same hH (Try.bits_Len64 (n : Int) u (by omega) (by omega)))) rfl ?_; refine za (ze rfl rfl rfl) rfl ?_; refine zh ?_; refine zj ?_
  refine qd L (rs := [.tmp 2]) rfl (fun _ _ h => h) Since.refl fun u H hH hle => ?_
  rw [Int.toNat_natCast, bitLen_eq n hn]
  rfl
theorem npot_ret {n : Nat} (hn : n ≤ 100000) {w : World} {B : Heap} (hB : B.Le (hp w)) : Ret Try.prog 106 [.int .i64 n] w B (fun v _ => v = .int .u64 (1 <<< bitsLen n : Nat)) := by
  have hb : bitsLen n ≤ 17 := (bitsLen_le_iff n 17).2 (by omega)
  have hp2 : (2 : Nat) ^ bitsLen n ≤ 2 ^ 17 := Nat.pow_le_pow_right (by omega) hb
  have hmin : min ((bitsLen n : Nat) : Int).toNat IntKind.u64.bits = bitsLen n := by
    rw [Int.toNat_natCast]
    have : IntKind.u64.bits = 64 := by decide
    omega
  have s1 : IntKind.u64.wrap ((1 : Int) * 2 ^ min ((bitsLen n : Nat) : Int).toNat IntKind.u64.bits) = ((1 <<< bitsLen n : Nat) : Int) := by
    rw [hmin, Nat.shiftLeft_eq, Nat.one_mul, Int.one_mul, Int.natCast_pow]
    have e2 : ((2 : Nat) : Int) ^ bitsLen n = ((2 ^ bitsLen n : Nat) : Int) := (Int.natCast_pow 2 _).symm
    rw [show ((2 : Int) ^ bitsLen n) = ((2 : Nat) : Int) ^ bitsLen n from rfl, e2]
    have hp3 : 2 ^ bitsLen n ≤ 131072 := hp2
    clear hp2 hmin e2
    generalize 2 ^ bitsLen n = M at *
    exact wrap_u64 (by omega) (by omega)
  have hc : IntKind.u64.wrap (n : Int) = (n : Int) := wrap_u64 (by omega) (by omega)
  refine y0 Try.func106 rfl Try.ntmps106 (Nat.le_of_ble_eq_true rfl) hB ?_
  refine zf ?_; refine zd (id := 0) ?_; refine za (ze rfl rfl rfl) rfl ?_; refine zh ?_; refine zj ?_; refine zf ?_; refine zd (id := 1) ?_; refine za (zc rfl rfl rfl) rfl ?_; refine za (ok_conv rfl rfl rfl cv3_148.1 cv3_148.2 (wrap_u64 (by omega) (by omega))) rfl ?_; refine za (zp L rfl rfl (zg rfl) rfl rfl rfl (fun u H hH _ _ => bitslen_ret (by omega) hH)) rfl ?_; refine za (ok_shl rfl rfl rfl rfl (by omega) s1) rfl ?_; refine za (ze rfl rfl rfl) rfl ?_; refine zh ?_; refine zj ?_
  refine qd L (rs := [.tmp 2]) rfl (fun _ _ h => h) Since.refl fun u H hH hle => ?_
  rfl
set_option maxHeartbeats 2000000 in
set_option maxRecDepth 20000 in
theorem brk_ret {d : Array Int} {rest : List Value} {b m cap a e : Nat} (hab : a ≤ e) (he : e ≤ d.size) (hm : d.size = m) (hm1 : m ≤ 100000) {w : World} {B : Heap} {C : Nat → Prop} (hB : B.Le (hp w))
    (hr : (GHeld b (uC d ++ rest) tyU).P B w C) (hC : ∀ k, C k → k < w.heap.size ∧ B k = none) :
    RetG Try.prog 91 [.slice (some ⟨b, 0, none⟩) m cap, .int .i64 a, .int .i64 e] w B C (GHeld b (uC (breakPatterns d a e) ++ rest) tyU) := by
  unfold RetG
  refine V_enterG 900 (GHeld b (uC d ++ rest) tyU) Try.func91 rfl Try.ntmps91 (Nat.le_of_ble_eq_true rfl) hB hr hC ?_
  rw [gheld_res]
  obtain ⟨Ln, rfl⟩ : ∃ Ln, e = a + Ln := ⟨e - a, by omega⟩
  have hw0 : IntKind.i64.wrap (((a + Ln : Nat) : Int) - (a : Int)) = (Ln : Int) := wrap_i64 (by omega) (by omega) |>.trans (by omega)
  by_cases h8 : 8 ≤ Ln
  · have hX := breakPatterns_eq d a Ln h8
    obtain ⟨M, hM⟩ : ∃ M, M = 1 <<< bitsLen Ln := ⟨_, rfl⟩
    have hb17 : bitsLen Ln ≤ 17 := (bitsLen_le_iff Ln 17).2 (by omega)
    have hMp : 1 ≤ M ∧ M ≤ 131072 := by
      rw [hM, Nat.shiftLeft_eq, Nat.one_mul]
      exact ⟨Nat.one_le_two_pow, Nat.pow_le_pow_right (by omega) hb17⟩
    have hM2 : M ≤ 2 * Ln := by
      rw [hM, Nat.shiftLeft_eq, Nat.one_mul]
      exact two_pow_bitsLen_le (by omega)
    obtain ⟨I0, hI0⟩ : ∃ I0, I0 = a + Ln / 4 * 2 - 1 := ⟨_, rfl⟩
    rw [← hM, ← hI0] at hX
    have hc1 : IntKind.u64.wrap (Ln : Int) = (Ln : Int) := wrap_u64 (by omega) (by omega)
    have et : ((Ln : Nat) : Int).tdiv 4 = ((Ln / 4 : Nat) : Int) := by
      rw [Int.tdiv_eq_ediv_of_nonneg (by omega)]
      omega
    have hq : IntKind.i64.wrap (((Ln : Nat) : Int).tdiv 4) = ((Ln / 4 : Nat) : Int) := by rw [et]; exact wrap_i64 (by omega) (by omega)
    have hw1 : IntKind.i64.wrap (((Ln / 4 : Nat) : Int) * 2) = ((Ln / 4 * 2 : Nat) : Int) := wrap_i64 (by omega) (by omega) |>.trans (by omega)
    have hw2 : IntKind.i64.wrap ((a : Int) + ((Ln / 4 * 2 : Nat) : Int)) = ((a + Ln / 4 * 2 : Nat) : Int) := wrap_i64 (by omega) (by omega) |>.trans (by omega)
    have hw3 : IntKind.i64.wrap (((a + Ln / 4 * 2 : Nat) : Int) - 1) = (I0 : Int) := wrap_i64 (by omega) (by omega) |>.trans (by omega)
    have hw4 : IntKind.i64.wrap (((a + Ln / 4 * 2 : Nat) : Int) + 1) = ((I0 + 2 : Nat) : Int) := wrap_i64 (by omega) (by omega) |>.trans (by omega)
    have hM1 : IntKind.u64.wrap ((M : Int) - 1) = ((M - 1 : Nat) : Int) := wrap_u64 (by omega) (by omega) |>.trans (by omega)
    have hln : (UInt64.ofNat Ln).toNat = Ln := by
      rw [UInt64.toNat_ofNat']
      exact Nat.mod_eq_of_lt (by omega)
    refine zf ?_; refine zd (id := 0) ?_; refine za (zc rfl rfl rfl) rfl ?_; refine za (zc rfl rfl rfl) rfl ?_; refine za (qt rfl rfl rfl rfl (by assumption)) rfl ?_; refine za (ze rfl rfl rfl) rfl ?_; refine zh ?_; refine zj ?_; refine zf ?_; refine zd (id := 1) ?_; refine za (zc rfl rfl rfl) rfl ?_; refine za (y3 rfl rfl rfl rfl (decide_eq_true (by omega))) rfl ?_; refine zh ?_; refine zj ?_; refine zw rfl ?_; refine zf ?_; refine zd (id := 2) ?_; refine za (zc rfl rfl rfl) rfl ?_; refine za (ok_conv rfl rfl rfl cv3_178.1 cv3_178.2 (wrap_u64 (by omega) (by omega))) rfl ?_; refine za (qq L rfl rfl rfl rfl) rfl ?_; refine za (qo L rfl rfl rfl rfl rfl rfl rfl rfl) rfl ?_; refine zh ?_; refine zj ?_; refine zf ?_
    refine V_hold 7 901 rfl fun br => ?_
    refine zd (id := 3) ?_; refine za (zc rfl rfl rfl) rfl ?_; refine za (zp L rfl rfl (zg rfl) rfl rfl rfl (fun u H hH _ _ => hM ▸ npot_ret (n := Ln) (by omega) hH)) rfl ?_; refine za (ze rfl rfl rfl) rfl ?_; refine zh ?_; refine zj ?_; refine zf ?_; refine zd (id := 4) ?_; refine za (zc rfl rfl rfl) rfl ?_; refine za (zc rfl rfl rfl) rfl ?_; refine za (ok_quo rfl rfl rfl rfl (by omega) (by assumption)) rfl ?_; refine za (ok_mul rfl rfl rfl rfl (wrap_i64 (by omega) (by omega))) rfl ?_; refine za (q8 rfl rfl rfl rfl (by assumption)) rfl ?_; refine za (qt rfl rfl rfl rfl (by assumption)) rfl ?_; refine za (ze rfl rfl rfl) rfl ?_; refine zh ?_; refine zj ?_; refine q7 ?_
    refine V_loop (fun s : Nat × (UInt64 × Array Int) => [(0, .is (.slice (some ⟨b, 0, none⟩) m cap)), (1, .is (.int .i64 a)), (6, .is (.int .i64 Ln)), (7, .is (.pointer (some ⟨br, 0, none⟩))), (8, .is (.int .u64 M)), (9, .is (.int .i64 (I0 + s.1 : Nat))), (900, .own (HeldR b (uC s.2.2 ++ rest) tyU)), (901, .own (HeldR br [.int .u64 s.2.1.toNat] tyX))]) (fun s => s.1 ≤ 3 ∧ s.2.2.size = m ∧ bpRest a Ln M I0 (3 - s.1) s.1 s.2 = breakPatterns d a (a + Ln)) (fun s => 3 - s.1) (0, (UInt64.ofNat Ln, d)) ⟨by dsimp only; omega, hm, hX.symm⟩ ⟨rfl, rfl, rfl, rfl, rfl, rfl, rfl, by dsimp only; rw [hln]; rfl, trivial⟩ ?_
    rintro ⟨t, ⟨r, D⟩⟩ ⟨ht3, hD, hst⟩
    dsimp only at ht3 hD hst ⊢
    have hrl : r.toNat < 18446744073709551616 := UInt64.toNat_lt r
    by_cases ht : t < 3
    · obtain ⟨o1, ho1⟩ : ∃ o1, o1 = xorNextN r.toNat &&& (M - 1) := ⟨_, rfl⟩
      have ho1l : o1 ≤ M - 1 := by rw [ho1]; exact Nat.and_le_right
      have hand : bits .and .u64 ((xorNextN r.toNat : Nat) : Int) ((M - 1 : Nat) : Int) = (o1 : Int) := by rw [bits_and_u64_nat _ _ (xorNextN_lt _ hrl) (by omega), ho1]
      have hcv : IntKind.i64.wrap (o1 : Int) = (o1 : Int) := wrap_i64 (by omega) (by omega)
      have hwt : IntKind.i64.wrap (((I0 + t : Nat) : Int) + 1) = ((I0 + (t + 1) : Nat) : Int) := wrap_i64 (by omega) (by omega) |>.trans (by omega)
      by_cases hoL : Ln ≤ o1
      · have hw5 : IntKind.i64.wrap ((o1 : Int) - (Ln : Int)) = ((o1 - Ln : Nat) : Int) := wrap_i64 (by omega) (by omega) |>.trans (by omega)
        have hw6 : IntKind.i64.wrap ((a : Int) + ((o1 - Ln : Nat) : Int)) = ((a + (o1 - Ln) : Nat) : Int) := wrap_i64 (by omega) (by omega)
        have ho : (if (xorNext r).toNat &&& (M - 1) ≥ Ln then ((xorNext r).toNat &&& (M - 1)) - Ln else (xorNext r).toNat &&& (M - 1)) = o1 - Ln := by rw [xorNext_toNat, ← ho1, if_pos hoL]
        obtain ⟨_, qj⟩ := u_at (rest := rest) (show a + (o1 - Ln) < D.size by omega) (0 + (a + (o1 - Ln)) * 1) rfl
        obtain ⟨_, qi⟩ := u_at (rest := rest) (show I0 + t < D.size by omega) (0 + (I0 + t) * 1) rfl
        have s1 := u_set (rest := rest) D[a + (o1 - Ln)]! (show I0 + t < D.size by omega) (0 + (I0 + t) * 1) rfl
        have b1 := u_ble (rest := rest) (show I0 + t < D.size by omega) (0 + (I0 + t) * 1) rfl
        have hz : a + (o1 - Ln) < (D.setIfInBounds (I0 + t) D[a + (o1 - Ln)]!).size := by rw [Array.size_setIfInBounds]; omega
        have s2 := u_set (rest := rest) D[I0 + t]! hz (0 + (a + (o1 - Ln)) * 1) rfl
        have b2 := u_ble (rest := rest) hz (0 + (a + (o1 - Ln)) * 1) rfl
        rw [swp_eq] at s2
        refine zf ?_; refine zf ?_; refine zd (id := 5) ?_; refine za (zc rfl rfl rfl) rfl ?_; refine za (zc rfl rfl rfl) rfl ?_; refine za (zc rfl rfl rfl) rfl ?_; refine za (ok_quo rfl rfl rfl rfl (by omega) (by assumption)) rfl ?_; refine za (ok_mul rfl rfl rfl rfl (wrap_i64 (by omega) (by omega))) rfl ?_; refine za (q8 rfl rfl rfl rfl (by assumption)) rfl ?_; refine za (q8 rfl rfl rfl rfl (by assumption)) rfl ?_; refine za (ok_leq rfl rfl rfl rfl (decide_eq_true (by omega))) rfl ?_; refine zh ?_; refine zj ?_; refine zw rfl ?_; refine zu ?_; refine zj ?_; refine zf ?_; refine q7 ?_; refine zf ?_; refine zd (id := 7) ?_; refine qg (yc L 901 (GHeld br [.int .u64 (xorNextN r.toNat : Nat)] tyX) (.int .u64 (xorNextN r.toNat : Nat)) (r := GHeld br [.int .u64 r.toNat] tyX) rfl rfl rfl rfl rfl (fun u H C hH _ hr hC => next_ret hrl hH hr hC)) ?_; refine za (zc rfl rfl rfl) rfl ?_; refine za (qt rfl rfl rfl rfl (by assumption)) rfl ?_; refine za (ok_and rfl rfl rfl rfl hand) rfl ?_; refine za (ok_conv rfl rfl rfl cv148_3.1 cv148_3.2 (wrap_i64 (by omega) (by omega))) rfl ?_; refine za (ze rfl rfl rfl) rfl ?_; refine zh ?_; refine zj ?_; refine zf ?_; refine zf ?_; refine zd (id := 8) ?_; refine za (zc rfl rfl rfl) rfl ?_; refine za (zc rfl rfl rfl) rfl ?_; refine za (y3 rfl rfl rfl rfl (decide_eq_true (by omega))) rfl ?_; refine zh ?_; refine zj ?_; refine zw rfl ?_; refine zd (id := 9) ?_; refine za (zc rfl rfl rfl) rfl ?_; refine za (zc rfl rfl rfl) rfl ?_; refine za (qt rfl rfl rfl rfl (by assumption)) rfl ?_; refine za (ze rfl rfl rfl) rfl ?_; refine zh ?_; refine zj ?_; refine q0 (id := 10) [(200058, [900]), (200062, [900]), (100063, [900]), (100064, [900])] mixed (by kernel_rfl) ?_; refine zb (zc rfl rfl rfl) rfl ?_; refine zb (zc rfl rfl rfl) rfl ?_; refine zb (zc rfl rfl rfl) rfl ?_; refine zb (zc rfl rfl rfl) rfl ?_; refine zb (zc rfl rfl rfl) rfl ?_; refine zb (q8 rfl rfl rfl rfl (by assumption)) rfl ?_; refine zb (zc rfl rfl rfl) rfl ?_; refine zb (zc rfl rfl rfl) rfl ?_; refine zb (zc rfl rfl rfl) rfl ?_; refine zb (q8 rfl rfl rfl rfl (by assumption)) rfl ?_; refine zb (zq L _ rfl rfl rfl rfl rfl rfl rfl (by omega)) rfl ?_; refine zz (zx L (q := 900) rfl rfl rfl rfl rfl qj) rfl rfl ?_; refine zb (zc rfl rfl rfl) rfl ?_; refine zb (zc rfl rfl rfl) rfl ?_; refine zb (zq L _ rfl rfl rfl rfl rfl rfl rfl (by omega)) rfl ?_; refine zz (zx L (q := 900) rfl rfl rfl rfl rfl qi) rfl rfl ?_; refine zb (zq L _ rfl rfl rfl rfl rfl rfl rfl (by omega)) rfl ?_; refine qy (qv L (q := 900) rfl rfl rfl rfl rfl rfl b1 rfl s1) rfl ?_; refine zb (zq L _ rfl rfl rfl rfl rfl rfl rfl (by omega)) rfl ?_; refine qy (qv L (q := 900) rfl rfl rfl rfl rfl rfl b2 rfl s2) rfl ?_; refine qe ?_; refine qs ?_; refine zj ?_; refine zd (id := 6) ?_; refine za (zc rfl rfl rfl) rfl ?_; refine za (q8 rfl rfl rfl rfl (by assumption)) rfl ?_; refine za (ze rfl rfl rfl) rfl ?_; refine zh ?_
        exact qw (x := (t, (r, D))) (t + 1, (xorNext r, swp D (I0 + t) (a + (o1 - Ln)))) ⟨by dsimp only; omega, by dsimp only; rw [swp_size]; exact hD, by dsimp only; rw [← hst, bp_step a Ln M I0 t r D ((o1 - Ln)) ht ho]⟩ (by dsimp only; omega) ⟨rfl, rfl, rfl, rfl, rfl, rfl, rfl, by dsimp only; rw [xorNext_toNat]; rfl, trivial⟩
      · have hw6 : IntKind.i64.wrap ((a : Int) + (o1 : Int)) = ((a + o1 : Nat) : Int) := wrap_i64 (by omega) (by omega)
        have ho : (if (xorNext r).toNat &&& (M - 1) ≥ Ln then ((xorNext r).toNat &&& (M - 1)) - Ln else (xorNext r).toNat &&& (M - 1)) = o1 := by rw [xorNext_toNat, ← ho1, if_neg (by omega)]
        obtain ⟨_, qj⟩ := u_at (rest := rest) (show a + o1 < D.size by omega) (0 + (a + o1) * 1) rfl
        obtain ⟨_, qi⟩ := u_at (rest := rest) (show I0 + t < D.size by omega) (0 + (I0 + t) * 1) rfl
        have s1 := u_set (rest := rest) D[a + o1]! (show I0 + t < D.size by omega) (0 + (I0 + t) * 1) rfl
        have b1 := u_ble (rest := rest) (show I0 + t < D.size by omega) (0 + (I0 + t) * 1) rfl
        have hz : a + o1 < (D.setIfInBounds (I0 + t) D[a + o1]!).size := by rw [Array.size_setIfInBounds]; omega
        have s2 := u_set (rest := rest) D[I0 + t]! hz (0 + (a + o1) * 1) rfl
        have b2 := u_ble (rest := rest) hz (0 + (a + o1) * 1) rfl
        rw [swp_eq] at s2
        refine zf ?_; refine zf ?_; refine zd (id := 5) ?_; refine za (zc rfl rfl rfl) rfl ?_; refine za (zc rfl rfl rfl) rfl ?_; refine za (zc rfl rfl rfl) rfl ?_; refine za (ok_quo rfl rfl rfl rfl (by omega) (by assumption)) rfl ?_; refine za (ok_mul rfl rfl rfl rfl (wrap_i64 (by omega) (by omega))) rfl ?_; refine za (q8 rfl rfl rfl rfl (by assumption)) rfl ?_; refine za (q8 rfl rfl rfl rfl (by assumption)) rfl ?_; refine za (ok_leq rfl rfl rfl rfl (decide_eq_true (by omega))) rfl ?_; refine zh ?_; refine zj ?_; refine zw rfl ?_; refine zu ?_; refine zj ?_; refine zf ?_; refine q7 ?_; refine zf ?_; refine zd (id := 7) ?_; refine qg (yc L 901 (GHeld br [.int .u64 (xorNextN r.toNat : Nat)] tyX) (.int .u64 (xorNextN r.toNat : Nat)) (r := GHeld br [.int .u64 r.toNat] tyX) rfl rfl rfl rfl rfl (fun u H C hH _ hr hC => next_ret hrl hH hr hC)) ?_; refine za (zc rfl rfl rfl) rfl ?_; refine za (qt rfl rfl rfl rfl (by assumption)) rfl ?_; refine za (ok_and rfl rfl rfl rfl hand) rfl ?_; refine za (ok_conv rfl rfl rfl cv148_3.1 cv148_3.2 (wrap_i64 (by omega) (by omega))) rfl ?_; refine za (ze rfl rfl rfl) rfl ?_; refine zh ?_; refine zj ?_; refine zf ?_; refine zf ?_; refine zd (id := 8) ?_; refine za (zc rfl rfl rfl) rfl ?_; refine za (zc rfl rfl rfl) rfl ?_; refine za (y3 rfl rfl rfl rfl (decide_eq_false (by omega))) rfl ?_; refine zh ?_; refine zj ?_; refine zo rfl ?_; refine zu ?_; refine zj ?_; refine q0 (id := 10) [(200058, [900]), (200062, [900]), (100063, [900]), (100064, [900])] mixed (by kernel_rfl) ?_; refine zb (zc rfl rfl rfl) rfl ?_; refine zb (zc rfl rfl rfl) rfl ?_; refine zb (zc rfl rfl rfl) rfl ?_; refine zb (zc rfl rfl rfl) rfl ?_; refine zb (zc rfl rfl rfl) rfl ?_; refine zb (q8 rfl rfl rfl rfl (by assumption)) rfl ?_; refine zb (zc rfl rfl rfl) rfl ?_; refine zb (zc rfl rfl rfl) rfl ?_; refine zb (zc rfl rfl rfl) rfl ?_; refine zb (q8 rfl rfl rfl rfl (by assumption)) rfl ?_; refine zb (zq L _ rfl rfl rfl rfl rfl rfl rfl (by omega)) rfl ?_; refine zz (zx L (q := 900) rfl rfl rfl rfl rfl qj) rfl rfl ?_; refine zb (zc rfl rfl rfl) rfl ?_; refine zb (zc rfl rfl rfl) rfl ?_; refine zb (zq L _ rfl rfl rfl rfl rfl rfl rfl (by omega)) rfl ?_; refine zz (zx L (q := 900) rfl rfl rfl rfl rfl qi) rfl rfl ?_; refine zb (zq L _ rfl rfl rfl rfl rfl rfl rfl (by omega)) rfl ?_; refine qy (qv L (q := 900) rfl rfl rfl rfl rfl rfl b1 rfl s1) rfl ?_; refine zb (zq L _ rfl rfl rfl rfl rfl rfl rfl (by omega)) rfl ?_; refine qy (qv L (q := 900) rfl rfl rfl rfl rfl rfl b2 rfl s2) rfl ?_; refine qe ?_; refine qs ?_; refine zj ?_; refine zd (id := 6) ?_; refine za (zc rfl rfl rfl) rfl ?_; refine za (q8 rfl rfl rfl rfl (by assumption)) rfl ?_; refine za (ze rfl rfl rfl) rfl ?_; refine zh ?_
        exact qw (x := (t, (r, D))) (t + 1, (xorNext r, swp D (I0 + t) (a + o1))) ⟨by dsimp only; omega, by dsimp only; rw [swp_size]; exact hD, by dsimp only; rw [← hst, bp_step a Ln M I0 t r D (o1) ht ho]⟩ (by dsimp only; omega) ⟨rfl, rfl, rfl, rfl, rfl, rfl, rfl, by dsimp only; rw [xorNext_toNat]; rfl, trivial⟩
    · obtain rfl : t = 3 := by omega
      have hst' : D = breakPatterns d a (a + Ln) := hst
      rw [hst']
      refine zf ?_; refine zf ?_; refine zd (id := 5) ?_; refine za (zc rfl rfl rfl) rfl ?_; refine za (zc rfl rfl rfl) rfl ?_; refine za (zc rfl rfl rfl) rfl ?_; refine za (ok_quo rfl rfl rfl rfl (by omega) (by assumption)) rfl ?_; refine za (ok_mul rfl rfl rfl rfl (wrap_i64 (by omega) (by omega))) rfl ?_; refine za (q8 rfl rfl rfl rfl (by assumption)) rfl ?_; refine za (q8 rfl rfl rfl rfl (by assumption)) rfl ?_; refine za (ok_leq rfl rfl rfl rfl (decide_eq_false (by omega))) rfl ?_; refine zh ?_; refine zj ?_; refine zo rfl ?_; refine y6 ?_; refine qf ?_; refine qf ?_; refine y5 ?_
      exact N_retGhost L 900 (r := GHeld b _ tyU) rfl (fun _ _ h => h) Since.refl rfl rfl
  · have : breakPatterns d a (a + Ln) = d := by unfold breakPatterns; simp only [Nat.add_sub_cancel_left]; rw [if_neg (by omega)]
    rw [this]
    refine zf ?_; refine zd (id := 0) ?_; refine za (zc rfl rfl rfl) rfl ?_; refine za (zc rfl rfl rfl) rfl ?_; refine za (qt rfl rfl rfl rfl (by assumption)) rfl ?_; refine za (ze rfl rfl rfl) rfl ?_; refine zh ?_; refine zj ?_; refine zf ?_; refine zd (id := 1) ?_; refine za (zc rfl rfl rfl) rfl ?_; refine za (y3 rfl rfl rfl rfl (decide_eq_false (by omega))) rfl ?_; refine zh ?_; refine zj ?_; refine zo rfl ?_; refine zu ?_
    exact N_retGhost L 900 (r := GHeld b _ tyU) rfl (fun _ _ h => h) Since.refl rfl rfl
end Go.V.So
namespace Go.V.So
open Go.Proofs Go.RowKit Go.V Go.Sort
abbrev tyI : TypeId := 3
theorem u_get {d : Array Int} {rest : List Value} {j : Nat} (h : j < d.size) : (uC d ++ rest)[0 + j * 1]? = some (.int .u64 d[j]!) := by
  rw [Nat.zero_add, Nat.mul_one, List.getElem?_append_left (by rw [uC_len]; exact h)]
  exact uC_get h
attribute [local irreducible] V N X VO Par StepOK Has Ret RetL RetO RetG RetX Src
set_option maxRecDepth 20000 in
theorem ord2_ret {d : Array Int} {rest : List Value} {b m cap a e bs k : Nat} (ha : a < m) (he : e < m) (hm : d.size = m) (hm1 : m ≤ 100000) (hk : k ≤ 1000) {w : World} {B : Heap} {C : Nat → Prop} (hB : B.Le (hp w)) (hb : B b = some (.cells (uC d ++ rest).toArray tyU))
    (hr : (GHeld bs [.int .i64 k] tyI).P B w C) (hC : ∀ k, C k → k < w.heap.size ∧ B k = none) :
    RetX Try.prog 111 [.slice (some ⟨b, 0, none⟩) m cap, .int .i64 a, .int .i64 e, .pointer (some ⟨bs, 0, none⟩)] w B C (GHeld bs [.int .i64 (order2 lt d a e k).2.2] tyI) (.tuple #[.int .i64 (order2 lt d a e k).1, .int .i64 (order2 lt d a e k).2.1]) := by
  unfold RetX
  refine V_enterG 900 (GHeld bs [.int .i64 k] tyI) Try.func111 rfl Try.ntmps111 (Nat.le_of_ble_eq_true rfl) hB hr hC ?_
  rw [gheld_res]
  have g1 := u_get (rest := rest) (show a < d.size by omega)
  have g2 := u_get (rest := rest) (show e < d.size by omega)
  have hw : IntKind.i64.wrap ((k : Int) + 1) = ((k + 1 : Nat) : Int) := wrap_i64 (by omega) (by omega)
  unfold order2
  cases hc : lt d[e]! d[a]! with
  | true =>
    refine zf ?_; refine zd (id := 0) ?_; refine za (ze rfl rfl rfl) rfl ?_; refine za (ze rfl rfl rfl) rfl ?_; refine zh ?_; refine zj ?_; refine zf ?_; refine zf ?_; refine q0 (id := 1) [] mixed (by kernel_rfl) ?_; refine zb (zc rfl rfl rfl) rfl ?_; refine zb (zc rfl rfl rfl) rfl ?_; refine zb (zq L _ rfl rfl rfl rfl rfl rfl rfl (by omega)) rfl ?_; refine zb (ok_load1c L (src_base rfl (by assumption)) rfl rfl rfl (by assumption)) rfl ?_; refine zb (zc rfl rfl rfl) rfl ?_; refine zb (zc rfl rfl rfl) rfl ?_; refine zb (zq L _ rfl rfl rfl rfl rfl rfl rfl (by omega)) rfl ?_; refine zb (ok_load1c L (src_base rfl (by assumption)) rfl rfl rfl (by assumption)) rfl ?_; refine zb (zp L rfl rfl (zg rfl) rfl rfl rfl (fun u H hH _ _ => lessU' hc hH)) rfl ?_; refine qe ?_; refine zj ?_; refine zw rfl ?_; refine zf ?_; refine zd (id := 2) ?_; refine za (zc rfl rfl rfl) rfl ?_; refine za (ok_nil rfl rfl rfl) rfl ?_; refine vo_stepR (zx L (q := 900) rfl rfl rfl rfl rfl rfl) ?_; refine za (q8 rfl rfl rfl rfl (by assumption)) rfl ?_; refine za (ok_nil rfl rfl rfl) rfl ?_; refine vo_stepS (qv L (q := 900) rfl rfl rfl rfl rfl rfl rfl rfl rfl) ?_; refine zh ?_; refine zj ?_; refine zf ?_; refine zd (id := 3) ?_; refine za (zc rfl rfl rfl) rfl ?_; refine za (zc rfl rfl rfl) rfl ?_; refine za (ze rfl rfl rfl) rfl ?_; refine za (ze rfl rfl rfl) rfl ?_; refine zh ?_; refine zj ?_
    exact V_retX L 900 (r := GHeld bs _ tyI) (rs := [.tmp 8, .tmp 9]) rfl (fun _ _ h => h) Since.refl rfl rfl (fun _ => rfl)
  | false =>
    refine zf ?_; refine zd (id := 0) ?_; refine za (ze rfl rfl rfl) rfl ?_; refine za (ze rfl rfl rfl) rfl ?_; refine zh ?_; refine zj ?_; refine zf ?_; refine zf ?_; refine q0 (id := 1) [] mixed (by kernel_rfl) ?_; refine zb (zc rfl rfl rfl) rfl ?_; refine zb (zc rfl rfl rfl) rfl ?_; refine zb (zq L _ rfl rfl rfl rfl rfl rfl rfl (by omega)) rfl ?_; refine zb (ok_load1c L (src_base rfl (by assumption)) rfl rfl rfl (by assumption)) rfl ?_; refine zb (zc rfl rfl rfl) rfl ?_; refine zb (zc rfl rfl rfl) rfl ?_; refine zb (zq L _ rfl rfl rfl rfl rfl rfl rfl (by omega)) rfl ?_; refine zb (ok_load1c L (src_base rfl (by assumption)) rfl rfl rfl (by assumption)) rfl ?_; refine zb (zp L rfl rfl (zg rfl) rfl rfl rfl (fun u H hH _ _ => lessU' hc hH)) rfl ?_; refine qe ?_; refine zj ?_; refine zo rfl ?_; refine zu ?_; refine zj ?_; refine zf ?_; refine zd (id := 4) ?_; refine za (zc rfl rfl rfl) rfl ?_; refine za (zc rfl rfl rfl) rfl ?_; refine za (ze rfl rfl rfl) rfl ?_; refine za (ze rfl rfl rfl) rfl ?_; refine zh ?_; refine zj ?_
    exact V_retX L 900 (r := GHeld bs _ tyI) (rs := [.tmp 8, .tmp 9]) rfl (fun _ _ h => h) Since.refl rfl rfl (fun _ => rfl)
theorem ord2_lt (d : Array Int) {a e m k : Nat} (ha : a < m) (he : e < m) : (order2 lt d a e k).1 < m ∧ (order2 lt d a e k).2.1 < m ∧ (order2 lt d a e k).2.2 ≤ k + 1 := by
  unfold order2
  split
  · exact ⟨he, ha, Nat.le_refl _⟩
  · exact ⟨ha, he, Nat.le_succ _⟩
set_option maxRecDepth 20000 in
theorem med_ret {d : Array Int} {rest : List Value} {b m cap x y z bs k : Nat} (hx : x < m) (hy : y < m) (hz : z < m) (hm : d.size = m) (hm1 : m ≤ 100000) (hk : k ≤ 900) {w : World} {B : Heap} {C : Nat → Prop} (hB : B.Le (hp w)) (hb : B b = some (.cells (uC d ++ rest).toArray tyU))
    (hr : (GHeld bs [.int .i64 k] tyI).P B w C) (hC : ∀ k, C k → k < w.heap.size ∧ B k = none) :
    RetX Try.prog 109 [.slice (some ⟨b, 0, none⟩) m cap, .int .i64 x, .int .i64 y, .int .i64 z, .pointer (some ⟨bs, 0, none⟩)] w B C (GHeld bs [.int .i64 (median lt d x y z k).2] tyI) (.int .i64 (median lt d x y z k).1) := by
  unfold RetX
  refine V_enterG 900 (GHeld bs [.int .i64 k] tyI) Try.func109 rfl Try.ntmps109 (Nat.le_of_ble_eq_true rfl) hB hr hC ?_
  rw [gheld_res]
  unfold median
  dsimp only
  obtain ⟨r1, hr1⟩ : ∃ r, r = order2 lt d x y k := ⟨_, rfl⟩
  rw [← hr1]
  obtain ⟨r2, hr2⟩ : ∃ r, r = order2 lt d r1.2.1 z r1.2.2 := ⟨_, rfl⟩
  rw [← hr2]
  obtain ⟨r3, hr3⟩ : ∃ r, r = order2 lt d r1.1 r2.1 r2.2.2 := ⟨_, rfl⟩
  rw [← hr3]
  obtain ⟨a1, a2, a3⟩ := hr1 ▸ ord2_lt d (k := k) hx hy
  obtain ⟨b1, b2, b3⟩ := hr2 ▸ ord2_lt d (k := r1.2.2) a2 hz
  refine zf ?_; refine zd (id := 0) ?_; refine za (ze rfl rfl rfl) rfl ?_; refine zh ?_; refine zj ?_; refine zf ?_; refine zd (id := 1) ?_; refine za (zc rfl rfl rfl) rfl ?_; refine za (zc rfl rfl rfl) rfl ?_; refine za (zc rfl rfl rfl) rfl ?_; refine za (zc rfl rfl rfl) rfl ?_; refine qg (yc L 900 (GHeld bs [.int .i64 r1.2.2] tyI) (.tuple #[.int .i64 r1.1, .int .i64 r1.2.1]) (r := GHeld bs [.int .i64 k] tyI) rfl rfl rfl rfl rfl (fun u H C hH hle hr hC => by have h := ord2_ret (rest := rest) (cap := cap) hx hy hm hm1 (k := k) (by omega) hH (hle _ _ hb) hr hC; rw [← hr1] at h; exact h)) ?_; refine za (zc rfl rfl rfl) rfl ?_; refine za (y2 rfl rfl rfl rfl) rfl ?_; refine za (y2 rfl rfl rfl rfl) rfl ?_; refine za (ze rfl rfl rfl) rfl ?_; refine za (ze rfl rfl rfl) rfl ?_; refine zh ?_; refine zj ?_; refine zf ?_; refine zd (id := 2) ?_; refine za (zc rfl rfl rfl) rfl ?_; refine za (zc rfl rfl rfl) rfl ?_; refine za (zc rfl rfl rfl) rfl ?_; refine za (zc rfl rfl rfl) rfl ?_; refine qg (yc L 900 (GHeld bs [.int .i64 r2.2.2] tyI) (.tuple #[.int .i64 r2.1, .int .i64 r2.2.1]) (r := GHeld bs [.int .i64 r1.2.2] tyI) rfl rfl rfl rfl rfl (fun u H C hH hle hr hC => by have h := ord2_ret (rest := rest) (cap := cap) a2 hz hm hm1 (k := r1.2.2) (by omega) hH (hle _ _ hb) hr hC; rw [← hr2] at h; exact h)) ?_; refine za (zc rfl rfl rfl) rfl ?_; refine za (y2 rfl rfl rfl rfl) rfl ?_; refine za (y2 rfl rfl rfl rfl) rfl ?_; refine za (ze rfl rfl rfl) rfl ?_; refine za (ze rfl rfl rfl) rfl ?_; refine zh ?_; refine zj ?_; refine zf ?_; refine zd (id := 3) ?_; refine za (zc rfl rfl rfl) rfl ?_; refine za (zc rfl rfl rfl) rfl ?_; refine za (zc rfl rfl rfl) rfl ?_; refine za (zc rfl rfl rfl) rfl ?_; refine qg (yc L 900 (GHeld bs [.int .i64 r3.2.2] tyI) (.tuple #[.int .i64 r3.1, .int .i64 r3.2.1]) (r := GHeld bs [.int .i64 r2.2.2] tyI) rfl rfl rfl rfl rfl (fun u H C hH hle hr hC => by have h := ord2_ret (rest := rest) (cap := cap) a1 b1 hm hm1 (k := r2.2.2) (by omega) hH (hle _ _ hb) hr hC; rw [← hr3] at h; exact h)) ?_; refine za (zc rfl rfl rfl) rfl ?_; refine za (y2 rfl rfl rfl rfl) rfl ?_; refine za (y2 rfl rfl rfl rfl) rfl ?_; refine za (ze rfl rfl rfl) rfl ?_; refine za (ze rfl rfl rfl) rfl ?_; refine zh ?_; refine zj ?_; refine zf ?_; refine zd (id := 4) ?_; refine za (zc rfl rfl rfl) rfl ?_; refine za (ze rfl rfl rfl) rfl ?_; refine zh ?_; refine zj ?_
  exact V_retX L 900 (r := GHeld bs _ tyI) (rs := [.tmp 10]) rfl (fun _ _ h => h) Since.refl rfl rfl (fun _ => rfl)
theorem med_lt (d : Array Int) {x y z m k : Nat} (hx : x < m) (hy : y < m) (hz : z < m) : (median lt d x y z k).1 < m ∧ (median lt d x y z k).2 ≤ k + 3 := by
  unfold median
  dsimp only
  obtain ⟨a1, a2, a3⟩ := ord2_lt d (k := k) hx hy
  obtain ⟨b1, b2, b3⟩ := ord2_lt d (k := (order2 lt d x y k).2.2) a2 hz
  obtain ⟨c1, c2, c3⟩ := ord2_lt d (k := (order2 lt d (order2 lt d x y k).2.1 z (order2 lt d x y k).2.2).2.2) a1 b1
  exact ⟨c2, by omega⟩
set_option maxRecDepth 20000 in
theorem madj_ret {d : Array Int} {rest : List Value} {b m cap x bs k : Nat} (h1 : 1 ≤ x) (hx : x + 1 < m) (hm : d.size = m) (hm1 : m ≤ 100000) (hk : k ≤ 900) {w : World} {B : Heap} {C : Nat → Prop} (hB : B.Le (hp w)) (hb : B b = some (.cells (uC d ++ rest).toArray tyU))
    (hr : (GHeld bs [.int .i64 k] tyI).P B w C) (hC : ∀ k, C k → k < w.heap.size ∧ B k = none) :
    RetX Try.prog 108 [.slice (some ⟨b, 0, none⟩) m cap, .int .i64 x, .pointer (some ⟨bs, 0, none⟩)] w B C (GHeld bs [.int .i64 (medianAdjacent lt d x k).2] tyI) (.int .i64 (medianAdjacent lt d x k).1) := by
  unfold RetX
  refine V_enterG 900 (GHeld bs [.int .i64 k] tyI) Try.func108 rfl Try.ntmps108 (Nat.le_of_ble_eq_true rfl) hB hr hC ?_
  rw [gheld_res]
  unfold medianAdjacent
  have hw1 : IntKind.i64.wrap ((x : Int) - 1) = ((x - 1 : Nat) : Int) := wrap_i64 (by omega) (by omega) |>.trans (by omega)
  have hw2 : IntKind.i64.wrap ((x : Int) + 1) = ((x + 1 : Nat) : Int) := wrap_i64 (by omega) (by omega)
  refine zf ?_; refine zd (id := 0) ?_; refine za (ze rfl rfl rfl) rfl ?_; refine zh ?_; refine zj ?_; refine zf ?_; refine zd (id := 1) ?_; refine za (zc rfl rfl rfl) rfl ?_; refine za (zc rfl rfl rfl) rfl ?_; refine za (qt rfl rfl rfl rfl (by assumption)) rfl ?_; refine za (zc rfl rfl rfl) rfl ?_; refine za (zc rfl rfl rfl) rfl ?_; refine za (q8 rfl rfl rfl rfl (by assumption)) rfl ?_; refine za (zc rfl rfl rfl) rfl ?_; refine qg (yc L 900 (GHeld bs [.int .i64 (median lt d (x - 1) x (x + 1) k).2] tyI) (.int .i64 (median lt d (x - 1) x (x + 1) k).1) (r := GHeld bs [.int .i64 k] tyI) rfl rfl rfl rfl rfl (fun u H C hH hle hr hC => med_ret (rest := rest) (cap := cap) (by omega) (by omega) (by omega) hm hm1 hk hH (hle _ _ hb) hr hC)) ?_; refine za (ze rfl rfl rfl) rfl ?_; refine zh ?_; refine zj ?_
  exact V_retX L 900 (r := GHeld bs _ tyI) (rs := [.tmp 6]) rfl (fun _ _ h => h) Since.refl rfl rfl (fun _ => rfl)
end Go.V.So
namespace Go.V.So
open Go.Proofs Go.RowKit Go.V Go.Sort
def hintZ : Hint → Int
  | .unknown => 0
  | .increasing => 1
  | .decreasing => 2
attribute [local irreducible] V N X VO Par StepOK Has Ret RetL RetO RetG RetX Src
set_option maxHeartbeats 1000000 in
set_option maxRecDepth 20000 in
theorem piv_ret {d : Array Int} {rest : List Value} {b m cap a e : Nat} (h12 : 12 < e - a) (he : e ≤ m) (hm : d.size = m) (hm1 : m ≤ 100000) {w : World} {B : Heap} (hB : B.Le (hp w)) (hb : B b = some (.cells (uC d ++ rest).toArray tyU)) :
    Ret Try.prog 92 [.slice (some ⟨b, 0, none⟩) m cap, .int .i64 a, .int .i64 e] w B (fun v _ => v = .tuple #[.int .i64 (choosePivot lt d a e).1, .int .i64 (hintZ (choosePivot lt d a e).2)]) := by
  obtain ⟨Ln, rfl⟩ : ∃ Ln, e = a + Ln := ⟨e - a, by omega⟩
  rw [Nat.add_sub_cancel_left] at h12
  unfold choosePivot
  rw [Nat.add_sub_cancel_left]
  dsimp only
  obtain ⟨q, hq⟩ : ∃ q, q = Ln / 4 := ⟨_, rfl⟩
  rw [← hq, if_pos (by omega)]
  have hw0 : IntKind.i64.wrap (((a + Ln : Nat) : Int) - (a : Int)) = (Ln : Int) := wrap_i64 (by omega) (by omega) |>.trans (by omega)
  have et : ((Ln : Nat) : Int).tdiv 4 = (q : Int) := by
    rw [Int.tdiv_eq_ediv_of_nonneg (by omega)]
    omega
  have hq1 : IntKind.i64.wrap (((Ln : Nat) : Int).tdiv 4) = (q : Int) := by rw [et]; exact wrap_i64 (by omega) (by omega)
  have m1 : IntKind.i64.wrap ((q : Int) * 1) = ((q * 1 : Nat) : Int) := wrap_i64 (by omega) (by omega) |>.trans (by omega)
  have m2 : IntKind.i64.wrap ((q : Int) * 2) = ((q * 2 : Nat) : Int) := wrap_i64 (by omega) (by omega) |>.trans (by omega)
  have m3 : IntKind.i64.wrap ((q : Int) * 3) = ((q * 3 : Nat) : Int) := wrap_i64 (by omega) (by omega) |>.trans (by omega)
  have p1 : IntKind.i64.wrap ((a : Int) + ((q * 1 : Nat) : Int)) = ((a + q * 1 : Nat) : Int) := wrap_i64 (by omega) (by omega) |>.trans (by omega)
  have p2 : IntKind.i64.wrap ((a : Int) + ((q * 2 : Nat) : Int)) = ((a + q * 2 : Nat) : Int) := wrap_i64 (by omega) (by omega) |>.trans (by omega)
  have p3 : IntKind.i64.wrap ((a : Int) + ((q * 3 : Nat) : Int)) = ((a + q * 3 : Nat) : Int) := wrap_i64 (by omega) (by omega) |>.trans (by omega)
  refine y0 Try.func92 rfl Try.ntmps92 (Nat.le_of_ble_eq_true rfl) hB ?_
  refine zf ?_; refine zd (id := 0) ?_; refine za (ze rfl rfl rfl) rfl ?_; refine za (ze rfl rfl rfl) rfl ?_; refine zh ?_; refine zj ?_; refine zf ?_; refine zd (id := 1) ?_; refine za (zc rfl rfl rfl) rfl ?_; refine za (zc rfl rfl rfl) rfl ?_; refine za (qt rfl rfl rfl rfl (by assumption)) rfl ?_; refine za (ze rfl rfl rfl) rfl ?_; refine zh ?_; refine zj ?_; refine zf ?_; refine zd (id := 2) ?_; refine za (qq L rfl rfl rfl rfl) rfl ?_; refine zh ?_; refine zj ?_; refine zf ?_
  refine V_hold 9 901 rfl fun bs => ?_
  by_cases h50 : Ln ≥ 50
  · rw [if_pos h50]
    obtain ⟨r1, hr1⟩ : ∃ r, r = medianAdjacent lt d (a + q * 1) 0 := ⟨_, rfl⟩
    rw [← hr1]
    obtain ⟨r2, hr2⟩ : ∃ r, r = medianAdjacent lt d (a + q * 2) r1.2 := ⟨_, rfl⟩
    rw [← hr2]
    obtain ⟨r3, hr3⟩ : ∃ r, r = medianAdjacent lt d (a + q * 3) r2.2 := ⟨_, rfl⟩
    rw [← hr3]
    obtain ⟨r4, hr4⟩ : ∃ r, r = median lt d r1.1 r2.1 r3.1 r3.2 := ⟨_, rfl⟩
    rw [← hr4]
    obtain ⟨l1, s1⟩ : r1.1 < m ∧ r1.2 ≤ 0 + 3 := hr1 ▸ med_lt d (by omega) (by omega) (by omega)
    obtain ⟨l2, s2⟩ : r2.1 < m ∧ r2.2 ≤ r1.2 + 3 := hr2 ▸ med_lt d (by omega) (by omega) (by omega)
    obtain ⟨l3, s3⟩ : r3.1 < m ∧ r3.2 ≤ r2.2 + 3 := hr3 ▸ med_lt d (by omega) (by omega) (by omega)
    by_cases z0 : r4.2 = 0
    · rw [if_pos z0]
      refine zd (id := 3) ?_; refine za (zc rfl rfl rfl) rfl ?_; refine za (zc rfl rfl rfl) rfl ?_; refine za (ok_quo rfl rfl rfl rfl (by omega) (by assumption)) rfl ?_; refine za (ok_mul rfl rfl rfl rfl (wrap_i64 (by omega) (by omega))) rfl ?_; refine za (q8 rfl rfl rfl rfl (by assumption)) rfl ?_; refine za (ze rfl rfl rfl) rfl ?_; refine zh ?_; refine zj ?_; refine zf ?_; refine zd (id := 4) ?_; refine za (zc rfl rfl rfl) rfl ?_; refine za (zc rfl rfl rfl) rfl ?_; refine za (ok_quo rfl rfl rfl rfl (by omega) (by assumption)) rfl ?_; refine za (ok_mul rfl rfl rfl rfl (wrap_i64 (by omega) (by omega))) rfl ?_; refine za (q8 rfl rfl rfl rfl (by assumption)) rfl ?_; refine za (ze rfl rfl rfl) rfl ?_; refine zh ?_; refine zj ?_; refine zf ?_; refine zd (id := 5) ?_; refine za (zc rfl rfl rfl) rfl ?_; refine za (zc rfl rfl rfl) rfl ?_; refine za (ok_quo rfl rfl rfl rfl (by omega) (by assumption)) rfl ?_; refine za (ok_mul rfl rfl rfl rfl (wrap_i64 (by omega) (by omega))) rfl ?_; refine za (q8 rfl rfl rfl rfl (by assumption)) rfl ?_; refine za (ze rfl rfl rfl) rfl ?_; refine zh ?_; refine zj ?_; refine zf ?_; refine zf ?_; refine zd (id := 6) ?_; refine za (zc rfl rfl rfl) rfl ?_; refine za (y3 rfl rfl rfl rfl (decide_eq_true (by omega))) rfl ?_; refine zh ?_; refine zj ?_; refine zw rfl ?_; refine zf ?_; refine zf ?_; refine zd (id := 7) ?_; refine za (zc rfl rfl rfl) rfl ?_; refine za (y3 rfl rfl rfl rfl (decide_eq_true (by omega))) rfl ?_; refine zh ?_; refine zj ?_; refine zw rfl ?_; refine zf ?_; refine zd (id := 8) ?_; refine za (zc rfl rfl rfl) rfl ?_; refine za (zc rfl rfl rfl) rfl ?_; refine qg (yc L 901 (GHeld bs [.int .i64 r1.2] tyI) (.int .i64 r1.1) (r := GHeld bs [.int .i64 0] tyI) rfl rfl rfl rfl rfl (fun u H C hH hle hr hC => by have h := madj_ret (rest := rest) (cap := cap) (d := d) (x := a + q * 1) (k := 0) (by omega) (by omega) hm hm1 (by omega) hH (hle _ _ hb) hr hC; rw [← hr1] at h; exact h)) ?_; refine za (ze rfl rfl rfl) rfl ?_; refine zh ?_; refine zj ?_; refine zf ?_; refine zd (id := 9) ?_; refine za (zc rfl rfl rfl) rfl ?_; refine za (zc rfl rfl rfl) rfl ?_; refine qg (yc L 901 (GHeld bs [.int .i64 r2.2] tyI) (.int .i64 r2.1) (r := GHeld bs [.int .i64 r1.2] tyI) rfl rfl rfl rfl rfl (fun u H C hH hle hr hC => by have h := madj_ret (rest := rest) (cap := cap) (d := d) (x := a + q * 2) (k := r1.2) (by omega) (by omega) hm hm1 (by omega) hH (hle _ _ hb) hr hC; rw [← hr2] at h; exact h)) ?_; refine za (ze rfl rfl rfl) rfl ?_; refine zh ?_; refine zj ?_; refine zd (id := 10) ?_; refine za (zc rfl rfl rfl) rfl ?_; refine za (zc rfl rfl rfl) rfl ?_; refine qg (yc L 901 (GHeld bs [.int .i64 r3.2] tyI) (.int .i64 r3.1) (r := GHeld bs [.int .i64 r2.2] tyI) rfl rfl rfl rfl rfl (fun u H C hH hle hr hC => by have h := madj_ret (rest := rest) (cap := cap) (d := d) (x := a + q * 3) (k := r2.2) (by omega) (by omega) hm hm1 (by omega) hH (hle _ _ hb) hr hC; rw [← hr3] at h; exact h)) ?_; refine za (ze rfl rfl rfl) rfl ?_; refine zh ?_; refine zj ?_; refine zd (id := 11) ?_; refine za (zc rfl rfl rfl) rfl ?_; refine za (zc rfl rfl rfl) rfl ?_; refine za (zc rfl rfl rfl) rfl ?_; refine za (zc rfl rfl rfl) rfl ?_; refine qg (yc L 901 (GHeld bs [.int .i64 r4.2] tyI) (.int .i64 r4.1) (r := GHeld bs [.int .i64 r3.2] tyI) rfl rfl rfl rfl rfl (fun u H C hH hle hr hC => by have h := med_ret (rest := rest) (cap := cap) (d := d) (x := r1.1) (y := r2.1) (z := r3.1) (k := r3.2) (by omega) (by omega) (by omega) hm hm1 (by omega) hH (hle _ _ hb) hr hC; rw [← hr4] at h; exact h)) ?_; refine za (ze rfl rfl rfl) rfl ?_; refine zh ?_; refine zj ?_; refine zf ?_; refine zd (id := 12) ?_; refine vo_stepR (zx L (q := 901) rfl rfl rfl rfl rfl rfl) ?_; refine zh ?_; refine zj ?_; refine q7 ?_; refine zf ?_; refine zd (id := 14) ?_; refine za (qn rfl rfl rfl rfl (decide_eq_true (by omega))) rfl ?_; refine za (ze rfl rfl rfl) rfl ?_; refine zh ?_; refine zj ?_; refine zw rfl ?_; refine zf ?_; refine zd (id := 15) ?_; refine za (zc rfl rfl rfl) rfl ?_; refine za (ze rfl rfl rfl) rfl ?_; refine za (ze rfl rfl rfl) rfl ?_; refine zh ?_; refine zj ?_
      refine qd L (rs := [.tmp 6, .tmp 7]) rfl (fun _ _ h => h) Since.refl fun u H hH hle => ?_
      rfl
    · rw [if_neg z0]
      by_cases z12 : r4.2 = 12
      · rw [if_pos z12]
        refine zd (id := 3) ?_; refine za (zc rfl rfl rfl) rfl ?_; refine za (zc rfl rfl rfl) rfl ?_; refine za (ok_quo rfl rfl rfl rfl (by omega) (by assumption)) rfl ?_; refine za (ok_mul rfl rfl rfl rfl (wrap_i64 (by omega) (by omega))) rfl ?_; refine za (q8 rfl rfl rfl rfl (by assumption)) rfl ?_; refine za (ze rfl rfl rfl) rfl ?_; refine zh ?_; refine zj ?_; refine zf ?_; refine zd (id := 4) ?_; refine za (zc rfl rfl rfl) rfl ?_; refine za (zc rfl rfl rfl) rfl ?_; refine za (ok_quo rfl rfl rfl rfl (by omega) (by assumption)) rfl ?_; refine za (ok_mul rfl rfl rfl rfl (wrap_i64 (by omega) (by omega))) rfl ?_; refine za (q8 rfl rfl rfl rfl (by assumption)) rfl ?_; refine za (ze rfl rfl rfl) rfl ?_; refine zh ?_; refine zj ?_; refine zf ?_; refine zd (id := 5) ?_; refine za (zc rfl rfl rfl) rfl ?_; refine za (zc rfl rfl rfl) rfl ?_; refine za (ok_quo rfl rfl rfl rfl (by omega) (by assumption)) rfl ?_; refine za (ok_mul rfl rfl rfl rfl (wrap_i64 (by omega) (by omega))) rfl ?_; refine za (q8 rfl rfl rfl rfl (by assumption)) rfl ?_; refine za (ze rfl rfl rfl) rfl ?_; refine zh ?_; refine zj ?_; refine zf ?_; refine zf ?_; refine zd (id := 6) ?_; refine za (zc rfl rfl rfl) rfl ?_; refine za (y3 rfl rfl rfl rfl (decide_eq_true (by omega))) rfl ?_; refine zh ?_; refine zj ?_; refine zw rfl ?_; refine zf ?_; refine zf ?_; refine zd (id := 7) ?_; refine za (zc rfl rfl rfl) rfl ?_; refine za (y3 rfl rfl rfl rfl (decide_eq_true (by omega))) rfl ?_; refine zh ?_; refine zj ?_; refine zw rfl ?_; refine zf ?_; refine zd (id := 8) ?_; refine za (zc rfl rfl rfl) rfl ?_; refine za (zc rfl rfl rfl) rfl ?_; refine qg (yc L 901 (GHeld bs [.int .i64 r1.2] tyI) (.int .i64 r1.1) (r := GHeld bs [.int .i64 0] tyI) rfl rfl rfl rfl rfl (fun u H C hH hle hr hC => by have h := madj_ret (rest := rest) (cap := cap) (d := d) (x := a + q * 1) (k := 0) (by omega) (by omega) hm hm1 (by omega) hH (hle _ _ hb) hr hC; rw [← hr1] at h; exact h)) ?_; refine za (ze rfl rfl rfl) rfl ?_; refine zh ?_; refine zj ?_; refine zf ?_; refine zd (id := 9) ?_; refine za (zc rfl rfl rfl) rfl ?_; refine za (zc rfl rfl rfl) rfl ?_; refine qg (yc L 901 (GHeld bs [.int .i64 r2.2] tyI) (.int .i64 r2.1) (r := GHeld bs [.int .i64 r1.2] tyI) rfl rfl rfl rfl rfl (fun u H C hH hle hr hC => by have h := madj_ret (rest := rest) (cap := cap) (d := d) (x := a + q * 2) (k := r1.2) (by omega) (by omega) hm hm1 (by omega) hH (hle _ _ hb) hr hC; rw [← hr2] at h; exact h)) ?_; refine za (ze rfl rfl rfl) rfl ?_; refine zh ?_; refine zj ?_; refine zd (id := 10) ?_; refine za (zc rfl rfl rfl) rfl ?_; refine za (zc rfl rfl rfl) rfl ?_; refine qg (yc L 901 (GHeld bs [.int .i64 r3.2] tyI) (.int .i64 r3.1) (r := GHeld bs [.int .i64 r2.2] tyI) rfl rfl rfl rfl rfl (fun u H C hH hle hr hC => by have h := madj_ret (rest := rest) (cap := cap) (d := d) (x := a + q * 3) (k := r2.2) (by omega) (by omega) hm hm1 (by omega) hH (hle _ _ hb) hr hC; rw [← hr3] at h; exact h)) ?_; refine za (ze rfl rfl rfl) rfl ?_; refine zh ?_; refine zj ?_; refine zd (id := 11) ?_; refine za (zc rfl rfl rfl) rfl ?_; refine za (zc rfl rfl rfl) rfl ?_; refine za (zc rfl rfl rfl) rfl ?_; refine za (zc rfl rfl rfl) rfl ?_; refine qg (yc L 901 (GHeld bs [.int .i64 r4.2] tyI) (.int .i64 r4.1) (r := GHeld bs [.int .i64 r3.2] tyI) rfl rfl rfl rfl rfl (fun u H C hH hle hr hC => by have h := med_ret (rest := rest) (cap := cap) (d := d) (x := r1.1) (y := r2.1) (z := r3.1) (k := r3.2) (by omega) (by omega) (by omega) hm hm1 (by omega) hH (hle _ _ hb) hr hC; rw [← hr4] at h; exact h)) ?_; refine za (ze rfl rfl rfl) rfl ?_; refine zh ?_; refine zj ?_; refine zf ?_; refine zd (id := 12) ?_; refine vo_stepR (zx L (q := 901) rfl rfl rfl rfl rfl rfl) ?_; refine zh ?_; refine zj ?_; refine q7 ?_; refine zf ?_; refine zd (id := 14) ?_; refine za (qn rfl rfl rfl rfl (decide_eq_false (by omega))) rfl ?_; refine za (ze rfl rfl rfl) rfl ?_; refine zh ?_; refine zj ?_; refine zo rfl ?_; refine zf ?_; refine zd (id := 16) ?_; refine za (qn rfl rfl rfl rfl (decide_eq_true (by omega))) rfl ?_; refine za (ze rfl rfl rfl) rfl ?_; refine zh ?_; refine zj ?_; refine zw rfl ?_; refine zf ?_; refine zd (id := 17) ?_; refine za (zc rfl rfl rfl) rfl ?_; refine za (ze rfl rfl rfl) rfl ?_; refine za (ze rfl rfl rfl) rfl ?_; refine zh ?_; refine zj ?_
        refine qd L (rs := [.tmp 6, .tmp 7]) rfl (fun _ _ h => h) Since.refl fun u H hH hle => ?_
        rfl
      · rw [if_neg z12]
        refine zd (id := 3) ?_; refine za (zc rfl rfl rfl) rfl ?_; refine za (zc rfl rfl rfl) rfl ?_; refine za (ok_quo rfl rfl rfl rfl (by omega) (by assumption)) rfl ?_; refine za (ok_mul rfl rfl rfl rfl (wrap_i64 (by omega) (by omega))) rfl ?_; refine za (q8 rfl rfl rfl rfl (by assumption)) rfl ?_; refine za (ze rfl rfl rfl) rfl ?_; refine zh ?_; refine zj ?_; refine zf ?_; refine zd (id := 4) ?_; refine za (zc rfl rfl rfl) rfl ?_; refine za (zc rfl rfl rfl) rfl ?_; refine za (ok_quo rfl rfl rfl rfl (by omega) (by assumption)) rfl ?_; refine za (ok_mul rfl rfl rfl rfl (wrap_i64 (by omega) (by omega))) rfl ?_; refine za (q8 rfl rfl rfl rfl (by assumption)) rfl ?_; refine za (ze rfl rfl rfl) rfl ?_; refine zh ?_; refine zj ?_; refine zf ?_; refine zd (id := 5) ?_; refine za (zc rfl rfl rfl) rfl ?_; refine za (zc rfl rfl rfl) rfl ?_; refine za (ok_quo rfl rfl rfl rfl (by omega) (by assumption)) rfl ?_; refine za (ok_mul rfl rfl rfl rfl (wrap_i64 (by omega) (by omega))) rfl ?_; refine za (q8 rfl rfl rfl rfl (by assumption)) rfl ?_; refine za (ze rfl rfl rfl) rfl ?_; refine zh ?_; refine zj ?_; refine zf ?_; refine zf ?_; refine zd (id := 6) ?_; refine za (zc rfl rfl rfl) rfl ?_; refine za (y3 rfl rfl rfl rfl (decide_eq_true (by omega))) rfl ?_; refine zh ?_; refine zj ?_; refine zw rfl ?_; refine zf ?_; refine zf ?_; refine zd (id := 7) ?_; refine za (zc rfl rfl rfl) rfl ?_; refine za (y3 rfl rfl rfl rfl (decide_eq_true (by omega))) rfl ?_; refine zh ?_; refine zj ?_; refine zw rfl ?_; refine zf ?_; refine zd (id := 8) ?_; refine za (zc rfl rfl rfl) rfl ?_; refine za (zc rfl rfl rfl) rfl ?_; refine qg (yc L 901 (GHeld bs [.int .i64 r1.2] tyI) (.int .i64 r1.1) (r := GHeld bs [.int .i64 0] tyI) rfl rfl rfl rfl rfl (fun u H C hH hle hr hC => by have h := madj_ret (rest := rest) (cap := cap) (d := d) (x := a + q * 1) (k := 0) (by omega) (by omega) hm hm1 (by omega) hH (hle _ _ hb) hr hC; rw [← hr1] at h; exact h)) ?_; refine za (ze rfl rfl rfl) rfl ?_; refine zh ?_; refine zj ?_; refine zf ?_; refine zd (id := 9) ?_; refine za (zc rfl rfl rfl) rfl ?_; refine za (zc rfl rfl rfl) rfl ?_; refine qg (yc L 901 (GHeld bs [.int .i64 r2.2] tyI) (.int .i64 r2.1) (r := GHeld bs [.int .i64 r1.2] tyI) rfl rfl rfl rfl rfl (fun u H C hH hle hr hC => by have h := madj_ret (rest := rest) (cap := cap) (d := d) (x := a + q * 2) (k := r1.2) (by omega) (by omega) hm hm1 (by omega) hH (hle _ _ hb) hr hC; rw [← hr2] at h; exact h)) ?_; refine za (ze rfl rfl rfl) rfl ?_; refine zh ?_; refine zj ?_; refine zd (id := 10) ?_; refine za (zc rfl rfl rfl) rfl ?_; refine za (zc rfl rfl rfl) rfl ?_; refine qg (yc L 901 (GHeld bs [.int .i64 r3.2] tyI) (.int .i64 r3.1) (r := GHeld bs [.int .i64 r2.2] tyI) rfl rfl rfl rfl rfl (fun u H C hH hle hr hC => by have h := madj_ret (rest := rest) (cap := cap) (d := d) (x := a + q * 3) (k := r2.2) (by omega) (by omega) hm hm1 (by omega) hH (hle _ _ hb) hr hC; rw [← hr3] at h; exact h)) ?_; refine za (ze rfl rfl rfl) rfl ?_; refine zh ?_; refine zj ?_; refine zd (id := 11) ?_; refine za (zc rfl rfl rfl) rfl ?_; refine za (zc rfl rfl rfl) rfl ?_; refine za (zc rfl rfl rfl) rfl ?_; refine za (zc rfl rfl rfl) rfl ?_; refine qg (yc L 901 (GHeld bs [.int .i64 r4.2] tyI) (.int .i64 r4.1) (r := GHeld bs [.int .i64 r3.2] tyI) rfl rfl rfl rfl rfl (fun u H C hH hle hr hC => by have h := med_ret (rest := rest) (cap := cap) (d := d) (x := r1.1) (y := r2.1) (z := r3.1) (k := r3.2) (by omega) (by omega) (by omega) hm hm1 (by omega) hH (hle _ _ hb) hr hC; rw [← hr4] at h; exact h)) ?_; refine za (ze rfl rfl rfl) rfl ?_; refine zh ?_; refine zj ?_; refine zf ?_; refine zd (id := 12) ?_; refine vo_stepR (zx L (q := 901) rfl rfl rfl rfl rfl rfl) ?_; refine zh ?_; refine zj ?_; refine q7 ?_; refine zf ?_; refine zd (id := 14) ?_; refine za (qn rfl rfl rfl rfl (decide_eq_false (by omega))) rfl ?_; refine za (ze rfl rfl rfl) rfl ?_; refine zh ?_; refine zj ?_; refine zo rfl ?_; refine zf ?_; refine zd (id := 16) ?_; refine za (qn rfl rfl rfl rfl (decide_eq_false (by omega))) rfl ?_; refine za (ze rfl rfl rfl) rfl ?_; refine zh ?_; refine zj ?_; refine zo rfl ?_; refine zf ?_; refine zd (id := 13) ?_; refine za (zc rfl rfl rfl) rfl ?_; refine za (ze rfl rfl rfl) rfl ?_; refine za (ze rfl rfl rfl) rfl ?_; refine zh ?_; refine zj ?_
        refine qd L (rs := [.tmp 6, .tmp 7]) rfl (fun _ _ h => h) Since.refl fun u H hH hle => ?_
        rfl
  · rw [if_neg h50]
    obtain ⟨r4, hr4⟩ : ∃ r, r = median lt d (a + q * 1) (a + q * 2) (a + q * 3) 0 := ⟨_, rfl⟩
    rw [← hr4]
    by_cases z0 : r4.2 = 0
    · rw [if_pos z0]
      refine zd (id := 3) ?_; refine za (zc rfl rfl rfl) rfl ?_; refine za (zc rfl rfl rfl) rfl ?_; refine za (ok_quo rfl rfl rfl rfl (by omega) (by assumption)) rfl ?_; refine za (ok_mul rfl rfl rfl rfl (wrap_i64 (by omega) (by omega))) rfl ?_; refine za (q8 rfl rfl rfl rfl (by assumption)) rfl ?_; refine za (ze rfl rfl rfl) rfl ?_; refine zh ?_; refine zj ?_; refine zf ?_; refine zd (id := 4) ?_; refine za (zc rfl rfl rfl) rfl ?_; refine za (zc rfl rfl rfl) rfl ?_; refine za (ok_quo rfl rfl rfl rfl (by omega) (by assumption)) rfl ?_; refine za (ok_mul rfl rfl rfl rfl (wrap_i64 (by omega) (by omega))) rfl ?_; refine za (q8 rfl rfl rfl rfl (by assumption)) rfl ?_; refine za (ze rfl rfl rfl) rfl ?_; refine zh ?_; refine zj ?_; refine zf ?_; refine zd (id := 5) ?_; refine za (zc rfl rfl rfl) rfl ?_; refine za (zc rfl rfl rfl) rfl ?_; refine za (ok_quo rfl rfl rfl rfl (by omega) (by assumption)) rfl ?_; refine za (ok_mul rfl rfl rfl rfl (wrap_i64 (by omega) (by omega))) rfl ?_; refine za (q8 rfl rfl rfl rfl (by assumption)) rfl ?_; refine za (ze rfl rfl rfl) rfl ?_; refine zh ?_; refine zj ?_; refine zf ?_; refine zf ?_; refine zd (id := 6) ?_; refine za (zc rfl rfl rfl) rfl ?_; refine za (y3 rfl rfl rfl rfl (decide_eq_true (by omega))) rfl ?_; refine zh ?_; refine zj ?_; refine zw rfl ?_; refine zf ?_; refine zf ?_; refine zd (id := 7) ?_; refine za (zc rfl rfl rfl) rfl ?_; refine za (y3 rfl rfl rfl rfl (decide_eq_false (by omega))) rfl ?_; refine zh ?_; refine zj ?_; refine zo rfl ?_; refine zu ?_; refine zj ?_; refine zd (id := 11) ?_; refine za (zc rfl rfl rfl) rfl ?_; refine za (zc rfl rfl rfl) rfl ?_; refine za (zc rfl rfl rfl) rfl ?_; refine za (zc rfl rfl rfl) rfl ?_; refine qg (yc L 901 (GHeld bs [.int .i64 r4.2] tyI) (.int .i64 r4.1) (r := GHeld bs [.int .i64 0] tyI) rfl rfl rfl rfl rfl (fun u H C hH hle hr hC => by have h := med_ret (rest := rest) (cap := cap) (d := d) (x := a + q * 1) (y := a + q * 2) (z := a + q * 3) (k := 0) (by omega) (by omega) (by omega) hm hm1 (by omega) hH (hle _ _ hb) hr hC; rw [← hr4] at h; exact h)) ?_; refine za (ze rfl rfl rfl) rfl ?_; refine zh ?_; refine zj ?_; refine zf ?_; refine zd (id := 12) ?_; refine vo_stepR (zx L (q := 901) rfl rfl rfl rfl rfl rfl) ?_; refine zh ?_; refine zj ?_; refine q7 ?_; refine zf ?_; refine zd (id := 14) ?_; refine za (qn rfl rfl rfl rfl (decide_eq_true (by omega))) rfl ?_; refine za (ze rfl rfl rfl) rfl ?_; refine zh ?_; refine zj ?_; refine zw rfl ?_; refine zf ?_; refine zd (id := 15) ?_; refine za (zc rfl rfl rfl) rfl ?_; refine za (ze rfl rfl rfl) rfl ?_; refine za (ze rfl rfl rfl) rfl ?_; refine zh ?_; refine zj ?_
      refine qd L (rs := [.tmp 6, .tmp 7]) rfl (fun _ _ h => h) Since.refl fun u H hH hle => ?_
      rfl
    · rw [if_neg z0]
      by_cases z12 : r4.2 = 12
      · rw [if_pos z12]
        refine zd (id := 3) ?_; refine za (zc rfl rfl rfl) rfl ?_; refine za (zc rfl rfl rfl) rfl ?_; refine za (ok_quo rfl rfl rfl rfl (by omega) (by assumption)) rfl ?_; refine za (ok_mul rfl rfl rfl rfl (wrap_i64 (by omega) (by omega))) rfl ?_; refine za (q8 rfl rfl rfl rfl (by assumption)) rfl ?_; refine za (ze rfl rfl rfl) rfl ?_; refine zh ?_; refine zj ?_; refine zf ?_; refine zd (id := 4) ?_; refine za (zc rfl rfl rfl) rfl ?_; refine za (zc rfl rfl rfl) rfl ?_; refine za (ok_quo rfl rfl rfl rfl (by omega) (by assumption)) rfl ?_; refine za (ok_mul rfl rfl rfl rfl (wrap_i64 (by omega) (by omega))) rfl ?_; refine za (q8 rfl rfl rfl rfl (by assumption)) rfl ?_; refine za (ze rfl rfl rfl) rfl ?_; refine zh ?_; refine zj ?_; refine zf ?_; refine zd (id := 5) ?_; refine za (zc rfl rfl rfl) rfl ?_; refine za (zc rfl rfl rfl) rfl ?_; refine za (ok_quo rfl rfl rfl rfl (by omega) (by assumption)) rfl ?_; refine za (ok_mul rfl rfl rfl rfl (wrap_i64 (by omega) (by omega))) rfl ?_; refine za (q8 rfl rfl rfl rfl (by assumption)) rfl ?_; refine za (ze rfl rfl rfl) rfl ?_; refine zh ?_; refine zj ?_; refine zf ?_; refine zf ?_; refine zd (id := 6) ?_; refine za (zc rfl rfl rfl) rfl ?_; refine za (y3 rfl rfl rfl rfl (decide_eq_true (by omega))) rfl ?_; refine zh ?_; refine zj ?_; refine zw rfl ?_; refine zf ?_; refine zf ?_; refine zd (id := 7) ?_; refine za (zc rfl rfl rfl) rfl ?_; refine za (y3 rfl rfl rfl rfl (decide_eq_false (by omega))) rfl ?_; refine zh ?_; refine zj ?_; refine zo rfl ?_; refine zu ?_; refine zj ?_; refine zd (id := 11) ?_; refine za (zc rfl rfl rfl) rfl ?_; refine za (zc rfl rfl rfl) rfl ?_; refine za (zc rfl rfl rfl) rfl ?_; refine za (zc rfl rfl rfl) rfl ?_; refine qg (yc L 901 (GHeld bs [.int .i64 r4.2] tyI) (.int .i64 r4.1) (r := GHeld bs [.int .i64 0] tyI) rfl rfl rfl rfl rfl (fun u H C hH hle hr hC => by have h := med_ret (rest := rest) (cap := cap) (d := d) (x := a + q * 1) (y := a + q * 2) (z := a + q * 3) (k := 0) (by omega) (by omega) (by omega) hm hm1 (by omega) hH (hle _ _ hb) hr hC; rw [← hr4] at h; exact h)) ?_; refine za (ze rfl rfl rfl) rfl ?_; refine zh ?_; refine zj ?_; refine zf ?_; refine zd (id := 12) ?_; refine vo_stepR (zx L (q := 901) rfl rfl rfl rfl rfl rfl) ?_; refine zh ?_; refine zj ?_; refine q7 ?_; refine zf ?_; refine zd (id := 14) ?_; refine za (qn rfl rfl rfl rfl (decide_eq_false (by omega))) rfl ?_; refine za (ze rfl rfl rfl) rfl ?_; refine zh ?_; refine zj ?_; refine zo rfl ?_; refine zf ?_; refine zd (id := 16) ?_; refine za (qn rfl rfl rfl rfl (decide_eq_true (by omega))) rfl ?_; refine za (ze rfl rfl rfl) rfl ?_; refine zh ?_; refine zj ?_; refine zw rfl ?_; refine zf ?_; refine zd (id := 17) ?_; refine za (zc rfl rfl rfl) rfl ?_; refine za (ze rfl rfl rfl) rfl ?_; refine za (ze rfl rfl rfl) rfl ?_; refine zh ?_; refine zj ?_
        refine qd L (rs := [.tmp 6, .tmp 7]) rfl (fun _ _ h => h) Since.refl fun u H hH hle => ?_
        rfl
      · rw [if_neg z12]
        refine zd (id := 3) ?_; refine za (zc rfl rfl rfl) rfl ?_; refine za (zc rfl rfl rfl) rfl ?_; refine za (ok_quo rfl rfl rfl rfl (by omega) (by assumption)) rfl ?_; refine za (ok_mul rfl rfl rfl rfl (wrap_i64 (by omega) (by omega))) rfl ?_; refine za (q8 rfl rfl rfl rfl (by assumption)) rfl ?_; refine za (ze rfl rfl rfl) rfl ?_; refine zh ?_; refine zj ?_; refine zf ?_; refine zd (id := 4) ?_; refine za (zc rfl rfl rfl) rfl ?_; refine za (zc rfl rfl rfl) rfl ?_; refine za (ok_quo rfl rfl rfl rfl (by omega) (by assumption)) rfl ?_; refine za (ok_mul rfl rfl rfl rfl (wrap_i64 (by omega) (by omega))) rfl ?_; refine za (q8 rfl rfl rfl rfl (by assumption)) rfl ?_; refine za (ze rfl rfl rfl) rfl ?_; refine zh ?_; refine zj ?_; refine zf ?_; refine zd (id := 5) ?_; refine za (zc rfl rfl rfl) rfl ?_; refine za (zc rfl rfl rfl) rfl ?_; refine za (ok_quo rfl rfl rfl rfl (by omega) (by assumption)) rfl ?_; refine za (ok_mul rfl rfl rfl rfl (wrap_i64 (by omega) (by omega))) rfl ?_; refine za (q8 rfl rfl rfl rfl (by assumption)) rfl ?_; refine za (ze rfl rfl rfl) rfl ?_; refine zh ?_; refine zj ?_; refine zf ?_; refine zf ?_; refine zd (id := 6) ?_; refine za (zc rfl rfl rfl) rfl ?_; refine za (y3 rfl rfl rfl rfl (decide_eq_true (by omega))) rfl ?_; refine zh ?_; refine zj ?_; refine zw rfl ?_; refine zf ?_; refine zf ?_; refine zd (id := 7) ?_; refine za (zc rfl rfl rfl) rfl ?_; refine za (y3 rfl rfl rfl rfl (decide_eq_false (by omega))) rfl ?_; refine zh ?_; refine zj ?_; refine zo rfl ?_; refine zu ?_; refine zj ?_; refine zd (id := 11) ?_; refine za (zc rfl rfl rfl) rfl ?_; refine za (zc rfl rfl rfl) rfl ?_; refine za (zc rfl rfl rfl) rfl ?_; refine za (zc rfl rfl rfl) rfl ?_; refine qg (yc L 901 (GHeld bs [.int .i64 r4.2] tyI) (.int .i64 r4.1) (r := GHeld bs [.int .i64 0] tyI) rfl rfl rfl rfl rfl (fun u H C hH hle hr hC => by have h := med_ret (rest := rest) (cap := cap) (d := d) (x := a + q * 1) (y := a + q * 2) (z := a + q * 3) (k := 0) (by omega) (by omega) (by omega) hm hm1 (by omega) hH (hle _ _ hb) hr hC; rw [← hr4] at h; exact h)) ?_; refine za (ze rfl rfl rfl) rfl ?_; refine zh ?_; refine zj ?_; refine zf ?_; refine zd (id := 12) ?_; refine vo_stepR (zx L (q := 901) rfl rfl rfl rfl rfl rfl) ?_; refine zh ?_; refine zj ?_; refine q7 ?_; refine zf ?_; refine zd (id := 14) ?_; refine za (qn rfl rfl rfl rfl (decide_eq_false (by omega))) rfl ?_; refine za (ze rfl rfl rfl) rfl ?_; refine zh ?_; refine zj ?_; refine zo rfl ?_; refine zf ?_; refine zd (id := 16) ?_; refine za (qn rfl rfl rfl rfl (decide_eq_false (by omega))) rfl ?_; refine za (ze rfl rfl rfl) rfl ?_; refine zh ?_; refine zj ?_; refine zo rfl ?_; refine zf ?_; refine zd (id := 13) ?_; refine za (zc rfl rfl rfl) rfl ?_; refine za (ze rfl rfl rfl) rfl ?_; refine za (ze rfl rfl rfl) rfl ?_; refine zh ?_; refine zj ?_
        refine qd L (rs := [.tmp 6, .tmp 7]) rfl (fun _ _ h => h) Since.refl fun u H hH hle => ?_
        rfl
end Go.V.So
namespace Go.V.So
open Go.Proofs Go.RowKit Go.V Go.Sort
theorem hintZ_two {h : Hint} : hintZ h = 2 ↔ h = .decreasing := by cases h <;> simp [hintZ]
theorem lend_uC {b : Nat} {cs : List Value} {ty : TypeId} : ∀ v H u C, (HeldR b cs ty).P v H u C → joinH H u C b = some (.cells cs.toArray ty) := fun _ _ _ _ ⟨hb, hC⟩ => (joinH_in ((hC b).2 rfl)).trans hb
attribute [local irreducible] V N X VO Par StepOK Has Ret RetL RetO RetG RetX Src
set_option maxHeartbeats 4000000 in
set_option maxRecDepth 20000 in
theorem pdq_ret : ∀ (N : Nat) {d : Array Int} {rest : List Value} {b m cap a e lim : Nat} (_ : e - a < N) (_ : a ≤ e) (_ : e ≤ m) (_ : d.size = m) (_ : m ≤ 100000) (_ : lim ≤ 1000) (_ : Below lt a e d) {w : World} {B : Heap} {C : Nat → Prop} (_ : B.Le (hp w))
    (_ : (GHeld b (uC d ++ rest) tyU).P B w C) (_ : ∀ k, C k → k < w.heap.size ∧ B k = none),
    RetG Try.prog 78 [.slice (some ⟨b, 0, none⟩) m cap, .int .i64 a, .int .i64 e, .int .i64 lim] w B C (GHeld b (uC (pdq lt d a e lim true true) ++ rest) tyU) := by
  intro N
  induction N with
  | zero => intro d rest b m cap a e lim h; omega
  | succ N ih =>
  intro d rest b m cap a e lim hN hab he hm hm1 hlim hBel w B C hB hr hC
  unfold RetG
  refine V_enterG 900 (GHeld b (uC d ++ rest) tyU) Try.func78 rfl Try.ntmps78 (Nat.le_of_ble_eq_true rfl) hB hr hC ?_
  rw [gheld_res]
  obtain ⟨X, hX⟩ : ∃ X, X = pdq lt d a e lim true true := ⟨_, rfl⟩
  rw [← hX]
  refine zf ?_; refine zd (id := 0) ?_; refine za (ze rfl rfl rfl) rfl ?_; refine zh ?_; refine zj ?_; refine zf ?_; refine zd (id := 1) ?_; refine za (ze rfl rfl rfl) rfl ?_; refine zh ?_; refine zj ?_; refine q7 ?_
  refine V_loop (fun s : ((Nat × Nat) × Nat) × ((Bool × Bool) × Array Int) => [(0, .is (.slice (some ⟨b, 0, none⟩) m cap)), (1, .is (.int .i64 s.1.1.1)), (2, .is (.int .i64 s.1.1.2)), (3, .is (.int .i64 s.1.2)), (8, .is (.bool s.2.1.1)), (9, .is (.bool s.2.1.2)), (900, .own (HeldR b (uC s.2.2 ++ rest) tyU))])
    (fun s => s.1.1.1 ≤ s.1.1.2 ∧ s.1.1.2 ≤ m ∧ s.1.1.2 - s.1.1.1 ≤ e - a ∧ s.1.2 ≤ 1000 ∧ s.2.2.size = m ∧ Below lt s.1.1.1 s.1.1.2 s.2.2 ∧ pdq lt s.2.2 s.1.1.1 s.1.1.2 s.1.2 s.2.1.1 s.2.1.2 = X) (fun s => s.1.1.2 - s.1.1.1) (((a, e), lim), ((true, true), d)) ⟨hab, he, Nat.le_refl _, hlim, hm, hBel, hX.symm⟩ ⟨rfl, rfl, rfl, rfl, rfl, rfl, rfl, trivial⟩ ?_
  rintro ⟨⟨⟨x, y⟩, l⟩, ⟨⟨wb, wp⟩, D⟩⟩ ⟨hxy, hy, hL, hl, hD, hBl, hP⟩
  dsimp only at hxy hy hL hl hD hBl hP ⊢
  clear hX hBel hm
  have hw0 : IntKind.i64.wrap ((y : Int) - (x : Int)) = ((y - x : Nat) : Int) := wrap_i64 (by omega) (by omega) |>.trans (by omega)
  by_cases h12 : y - x ≤ 12
  · rw [pdq_small h12] at hP
    rw [← hP]
    refine q7 ?_; refine zf ?_; refine zd (id := 2) ?_; refine za (zc rfl rfl rfl) rfl ?_; refine za (zc rfl rfl rfl) rfl ?_; refine za (qt rfl rfl rfl rfl (by assumption)) rfl ?_; refine za (ze rfl rfl rfl) rfl ?_; refine zh ?_; refine zj ?_; refine zf ?_; refine zf ?_; refine zd (id := 3) ?_; refine za (zc rfl rfl rfl) rfl ?_; refine za (ok_leq rfl rfl rfl rfl (decide_eq_true (by omega))) rfl ?_; refine zh ?_; refine zj ?_; refine zw rfl ?_; refine zf ?_; refine zd (id := 4) ?_; refine za (zc rfl rfl rfl) rfl ?_; refine za (zc rfl rfl rfl) rfl ?_; refine za (zc rfl rfl rfl) rfl ?_; refine qg (ok_callG L 900 (GHeld b (uC (insertionSort lt D x y) ++ rest) tyU) (r := GHeld b (uC D ++ rest) tyU) rfl rfl rfl rfl rfl (fun u H C hH _ hr hC => ins_ret hxy (by omega) hD hm1 hH hr hC)) ?_; refine zh ?_; refine zj ?_
    exact V_retGhost L 900 (r := GHeld b _ tyU) rfl (fun _ _ h => h) Since.refl rfl rfl
  · by_cases hl0 : l = 0
    · rw [pdq_heap h12 hl0] at hP
      rw [← hP]
      refine q7 ?_; refine zf ?_; refine zd (id := 2) ?_; refine za (zc rfl rfl rfl) rfl ?_; refine za (zc rfl rfl rfl) rfl ?_; refine za (qt rfl rfl rfl rfl (by assumption)) rfl ?_; refine za (ze rfl rfl rfl) rfl ?_; refine zh ?_; refine zj ?_; refine zf ?_; refine zf ?_; refine zd (id := 3) ?_; refine za (zc rfl rfl rfl) rfl ?_; refine za (ok_leq rfl rfl rfl rfl (decide_eq_false (by omega))) rfl ?_; refine zh ?_; refine zj ?_; refine zo rfl ?_; refine zu ?_; refine zj ?_; refine zf ?_; refine zf ?_; refine zd (id := 5) ?_; refine za (zc rfl rfl rfl) rfl ?_; refine za (qn rfl rfl rfl rfl (decide_eq_true (by omega))) rfl ?_; refine zh ?_; refine zj ?_; refine zw rfl ?_; refine zf ?_; refine zd (id := 6) ?_; refine za (zc rfl rfl rfl) rfl ?_; refine za (zc rfl rfl rfl) rfl ?_; refine za (zc rfl rfl rfl) rfl ?_; refine qg (ok_callG L 900 (GHeld b (uC (heapSort lt D x y) ++ rest) tyU) (r := GHeld b (uC D ++ rest) tyU) rfl rfl rfl rfl rfl (fun u H C hH _ hr hC => heap_ret (by omega) (by omega) hD hm1 hH hr hC)) ?_; refine zh ?_; refine zj ?_
      exact V_retGhost L 900 (r := GHeld b _ tyU) rfl (fun _ _ h => h) Since.refl rfl rfl
    · obtain ⟨s1, B1, hc1, s2, B2, hpv, s3, B3⟩ := rd_facts (lt := lt) (limit := l) (wb := wb) (wp := wp) swo_ltInt partialInsertionSort_holds reverseRange_holds (show x < y by omega) (show y ≤ D.size by omega) hBl
      have hlle : (rd lt D x y l wb wp).lim ≤ 1000 := Nat.le_trans rd_lim_le hl
      have hdone := fun h => pdq_done (lt := lt) (d := D) (wb := wb) (wp := wp) h12 hl0 h
      have heq := fun h1 h2 h3 => pdq_eq (lt := lt) (d := D) (wb := wb) (wp := wp) h12 hl0 h1 h2 h3
      have hleft := fun h1 h2 h3 h4 => pdq_left (lt := lt) (d := D) (wb := wb) (wp := wp) h12 hl0 h1 h2 h3 h4
      have hright := fun h1 h2 h3 h4 => pdq_right (lt := lt) (d := D) (wb := wb) (wp := wp) h12 hl0 h1 h2 h3 h4
      have hrt : wb = true → (rd lt D x y l wb wp).d1 = D ∧ (rd lt D x y l wb wp).lim = l := fun e => by subst e; exact rd_true
      have hrf : wb = false → (rd lt D x y l wb wp).d1 = breakPatterns D x y ∧ (rd lt D x y l wb wp).lim = l - 1 := fun e => by subst e; exact rd_false
      have hrc := rd_c (lt := lt) (d := D) (a := x) (b := y) (limit := l) (wb := wb) (wp := wp)
      have hde := fun h => rd_dec (lt := lt) (d := D) (a := x) (b := y) (limit := l) (wb := wb) (wp := wp) h
      have hno := fun h => rd_not (lt := lt) (d := D) (a := x) (b := y) (limit := l) (wb := wb) (wp := wp) h
      have hpy := fun h => rd_pi_yes (lt := lt) (d := D) (a := x) (b := y) (limit := l) (wb := wb) (wp := wp) h
      have hpn := fun h => rd_pi_no (lt := lt) (d := D) (a := x) (b := y) (limit := l) (wb := wb) (wp := wp) h
      rw [hP] at hdone heq hleft hright
      generalize (rd lt D x y l wb wp) = R at *
      refine q7 ?_; refine zf ?_; refine zd (id := 2) ?_; refine za (zc rfl rfl rfl) rfl ?_; refine za (zc rfl rfl rfl) rfl ?_; refine za (qt rfl rfl rfl rfl (by assumption)) rfl ?_; refine za (ze rfl rfl rfl) rfl ?_; refine zh ?_; refine zj ?_; refine zf ?_; refine zf ?_; refine zd (id := 3) ?_; refine za (zc rfl rfl rfl) rfl ?_; refine za (ok_leq rfl rfl rfl rfl (decide_eq_false (by omega))) rfl ?_; refine zh ?_; refine zj ?_; refine zo rfl ?_; refine zu ?_; refine zj ?_; refine zf ?_; refine zf ?_; refine zd (id := 5) ?_; refine za (zc rfl rfl rfl) rfl ?_; refine za (qn rfl rfl rfl rfl (decide_eq_false (by omega))) rfl ?_; refine zh ?_; refine zj ?_; refine zo rfl ?_; refine zu ?_; refine zj ?_; refine zf ?_; refine zf ?_
      refine V_meetC (fun _ : Unit => [(0, .is (.slice (some ⟨b, 0, none⟩) m cap)), (1, .is (.int .i64 x)), (2, .is (.int .i64 y)), (3, .is (.int .i64 R.lim)), (8, .is (.bool wb)), (9, .is (.bool wp)), (10, .is (.int .i64 (y - x : Nat))), (900, .own (HeldR b (uC R.d1 ++ rest) tyU))]) (fun _ => True) (fun _ => []) ?rest1 ?first1
      case first1 =>
        cases wb with
        | true =>
          obtain ⟨e1, e2⟩ := hrt rfl
          rw [e1, e2]
          refine zd (id := 7) ?_; refine za (zc rfl rfl rfl) rfl ?_; refine za (ok_not rfl rfl rfl rfl) rfl ?_; refine zh ?_; refine zj ?_; refine zo rfl ?_; refine zu ?_
          exact N_mids () Since.refl trivial rfl ⟨rfl, rfl, rfl, rfl, rfl, rfl, rfl, rfl, trivial⟩
        | false =>
          obtain ⟨e1, e2⟩ := hrf rfl
          have hw1 : IntKind.i64.wrap ((l : Int) - 1) = ((l - 1 : Nat) : Int) := wrap_i64 (by omega) (by omega) |>.trans (by omega)
          rw [e1, e2]
          refine zd (id := 7) ?_; refine za (zc rfl rfl rfl) rfl ?_; refine za (ok_not rfl rfl rfl rfl) rfl ?_; refine zh ?_; refine zj ?_; refine zw rfl ?_; refine zf ?_; refine zd (id := 8) ?_; refine za (zc rfl rfl rfl) rfl ?_; refine za (zc rfl rfl rfl) rfl ?_; refine za (zc rfl rfl rfl) rfl ?_; refine qg (ok_callG L 900 (GHeld b (uC (breakPatterns D x y) ++ rest) tyU) (r := GHeld b (uC D ++ rest) tyU) rfl rfl rfl rfl rfl (fun u H C hH _ hr hC => brk_ret (by omega) (by omega) hD hm1 hH hr hC)) ?_; refine zh ?_; refine zj ?_; refine zd (id := 9) ?_; refine za (zc rfl rfl rfl) rfl ?_; refine za (qt rfl rfl rfl rfl (by assumption)) rfl ?_; refine za (ze rfl rfl rfl) rfl ?_; refine zh ?_
          exact N_mids () Since.refl trivial rfl ⟨rfl, rfl, rfl, rfl, rfl, rfl, rfl, rfl, trivial⟩
      intro _ _
      refine zf ?_; refine zd (id := 10) ?_; refine za (zc rfl rfl rfl) rfl ?_; refine za (zc rfl rfl rfl) rfl ?_; refine za (zc rfl rfl rfl) rfl ?_; refine vo_stepR (ok_callLendG L 900 (Φ := fun H => H b = some (.cells (uC R.d1 ++ rest).toArray tyU)) (c := .tuple #[.int .i64 R.c.1, .int .i64 (hintZ R.c.2)]) rfl rfl (zg rfl) rfl rfl rfl rfl rfl lend_uC (fun u H hH hle h1 => by rw [hrc]; exact piv_ret (by omega) hy (by omega) hm1 hH h1)) ?_; refine za (zc rfl rfl rfl) rfl ?_; refine za (y2 rfl rfl rfl rfl) rfl ?_; refine za (y2 rfl rfl rfl rfl) rfl ?_; refine za (ze rfl rfl rfl) rfl ?_; refine za (ze rfl rfl rfl) rfl ?_; refine zh ?_; refine zj ?_; refine zf ?_; refine zf ?_
      refine V_meetC (fun _ : Unit => [(0, .is (.slice (some ⟨b, 0, none⟩) m cap)), (1, .is (.int .i64 x)), (2, .is (.int .i64 y)), (3, .is (.int .i64 R.lim)), (8, .is (.bool wb)), (9, .is (.bool wp)), (10, .is (.int .i64 (y - x : Nat))), (11, .is (.int .i64 R.pivot)), (12, .is (.int .i64 (hintZ R.hint))), (900, .own (HeldR b (uC R.d2 ++ rest) tyU))]) (fun _ => True) (fun _ => []) ?rest2 ?first2
      case first2 =>
        by_cases hdec : R.c.2 = .decreasing
        · obtain ⟨e1, e2, e3⟩ := hde hdec
          have hz : hintZ R.c.2 = 2 := by rw [hdec]; rfl
          rw [e1, e2, e3]
          have w1 : IntKind.i64.wrap ((y : Int) - 1) = ((y - 1 : Nat) : Int) := wrap_i64 (by omega) (by omega) |>.trans (by omega)
          have w2 : IntKind.i64.wrap ((R.c.1 : Int) - (x : Int)) = ((R.c.1 - x : Nat) : Int) := wrap_i64 (by omega) (by omega) |>.trans (by omega)
          have w3 : IntKind.i64.wrap (((y - 1 : Nat) : Int) - ((R.c.1 - x : Nat) : Int)) = ((y - 1 - (R.c.1 - x) : Nat) : Int) := wrap_i64 (by omega) (by omega) |>.trans (by omega)
          refine zd (id := 11) ?_; refine za (zc rfl rfl rfl) rfl ?_; refine za (qn rfl rfl rfl rfl (decide_eq_true (by omega))) rfl ?_; refine zh ?_; refine zj ?_; refine zw rfl ?_; refine zf ?_; refine zd (id := 12) ?_; refine za (zc rfl rfl rfl) rfl ?_; refine za (zc rfl rfl rfl) rfl ?_; refine za (zc rfl rfl rfl) rfl ?_; refine qg (ok_callG L 900 (GHeld b (uC (reverseRange R.d1 x y) ++ rest) tyU) (r := GHeld b (uC R.d1 ++ rest) tyU) rfl rfl rfl rfl rfl (fun u H C hH _ hr hC => rev_ret (by omega) (by omega) (by omega) hm1 hH hr hC)) ?_; refine zh ?_; refine zj ?_; refine zf ?_; refine zd (id := 13) ?_; refine za (zc rfl rfl rfl) rfl ?_; refine za (qt rfl rfl rfl rfl (by assumption)) rfl ?_; refine za (zc rfl rfl rfl) rfl ?_; refine za (zc rfl rfl rfl) rfl ?_; refine za (qt rfl rfl rfl rfl (by assumption)) rfl ?_; refine za (qt rfl rfl rfl rfl (by assumption)) rfl ?_; refine za (ze rfl rfl rfl) rfl ?_; refine zh ?_; refine zj ?_; refine zd (id := 14) ?_; refine za (ze rfl rfl rfl) rfl ?_; refine zh ?_
          exact N_mids () Since.refl trivial rfl ⟨rfl, rfl, rfl, rfl, rfl, rfl, rfl, rfl, rfl, rfl, trivial⟩
        · obtain ⟨e1, e2, e3⟩ := hno hdec
          have hz : hintZ R.c.2 ≠ 2 := fun h => hdec (hintZ_two.1 h)
          rw [e1, e2, e3]
          refine zd (id := 11) ?_; refine za (zc rfl rfl rfl) rfl ?_; refine za (qn rfl rfl rfl rfl (decide_eq_false (by omega))) rfl ?_; refine zh ?_; refine zj ?_; refine zo rfl ?_; refine zu ?_
          exact N_mids () Since.refl trivial rfl ⟨rfl, rfl, rfl, rfl, rfl, rfl, rfl, rfl, rfl, rfl, trivial⟩
      intro _ _
      refine zf (zf (V_meetC (fun _ : Unit => [(0, .is (.slice (some ⟨b, 0, none⟩) m cap)), (1, .is (.int .i64 x)), (2, .is (.int .i64 y)), (3, .is (.int .i64 R.lim)), (8, .is (.bool wb)), (9, .is (.bool wp)), (10, .is (.int .i64 (y - x : Nat))), (11, .is (.int .i64 R.pivot)), (900, .own (HeldR b (uC R.pi.1 ++ rest) tyU))]) (fun _ => R.pi.2 = false) (fun _ => []) ?rest3 ?first3))
      case first3 =>
        cases wb with
        | false =>
          have hpi := hpn rfl
          rw [hpi]
          refine zd (id := 15) ?_; refine za (zc rfl rfl rfl) rfl ?_; refine za (zc rfl rfl rfl) rfl ?_; refine za (zi rfl (zg rfl) rfl) rfl ?_; refine za (zm rfl rfl rfl rfl) rfl ?_; refine za (zc rfl rfl rfl) rfl ?_; refine za (zi rfl (zg rfl) rfl) rfl ?_; refine za (zi rfl (zg rfl) rfl) rfl ?_; refine za (zm rfl rfl rfl rfl) rfl ?_; refine zh ?_; refine zj ?_; refine zo rfl ?_; refine zu ?_
          exact N_mids () Since.refl rfl rfl ⟨rfl, rfl, rfl, rfl, rfl, rfl, rfl, rfl, rfl, trivial⟩
        | true =>
          cases wp with
          | false =>
            have hpi := hpn rfl
            rw [hpi]
            refine zd (id := 15) ?_; refine za (zc rfl rfl rfl) rfl ?_; refine za (zc rfl rfl rfl) rfl ?_; refine za (zc rfl rfl rfl) rfl ?_; refine za (zm rfl rfl rfl rfl) rfl ?_; refine za (zc rfl rfl rfl) rfl ?_; refine za (zi rfl (zg rfl) rfl) rfl ?_; refine za (zi rfl (zg rfl) rfl) rfl ?_; refine za (zm rfl rfl rfl rfl) rfl ?_; refine zh ?_; refine zj ?_; refine zo rfl ?_; refine zu ?_
            exact N_mids () Since.refl rfl rfl ⟨rfl, rfl, rfl, rfl, rfl, rfl, rfl, rfl, rfl, trivial⟩
          | true =>
            by_cases hi : R.hint = .increasing
            · have hz : hintZ R.hint = 1 := by rw [hi]; rfl
              have hpi := hpy (by rw [hi]; rfl)
              cases hb : (partialInsertionSort lt R.d2 x y).2 with
              | true =>
                rw [hdone (by rw [hpi]; exact hb)]
                refine zd (id := 15) ?_; refine za (zc rfl rfl rfl) rfl ?_; refine za (zc rfl rfl rfl) rfl ?_; refine za (zc rfl rfl rfl) rfl ?_; refine za (zm rfl rfl rfl rfl) rfl ?_; refine za (zc rfl rfl rfl) rfl ?_; refine za (zc rfl rfl rfl) rfl ?_; refine za (qn rfl rfl rfl rfl (decide_eq_true (by omega))) rfl ?_; refine za (zm rfl rfl rfl rfl) rfl ?_; refine zh ?_; refine zj ?_; refine zw rfl ?_; refine zf ?_; refine zd (id := 16) ?_; refine za (zc rfl rfl rfl) rfl ?_; refine za (zc rfl rfl rfl) rfl ?_; refine za (zc rfl rfl rfl) rfl ?_; refine qg (yc L 900 (GHeld b (uC R.pi.1 ++ rest) tyU) (.bool true) (r := GHeld b (uC R.d2 ++ rest) tyU) rfl rfl rfl rfl rfl (fun u H C hH hle hr hC => by have h := pins_ret (rest := rest) (cap := cap) (d := R.d2) (a := x) (e := y) (m := m) (by omega) (by omega) (by omega) hm1 hH hr hC; rw [hb, ← hpi] at h; exact h)) ?_; refine zh ?_; refine zj ?_; refine zw rfl ?_
                exact V_retGhost L 900 (r := GHeld b _ tyU) rfl (fun _ _ h => h) Since.refl rfl rfl
              | false =>
                refine zd (id := 15) ?_; refine za (zc rfl rfl rfl) rfl ?_; refine za (zc rfl rfl rfl) rfl ?_; refine za (zc rfl rfl rfl) rfl ?_; refine za (zm rfl rfl rfl rfl) rfl ?_; refine za (zc rfl rfl rfl) rfl ?_; refine za (zc rfl rfl rfl) rfl ?_; refine za (qn rfl rfl rfl rfl (decide_eq_true (by omega))) rfl ?_; refine za (zm rfl rfl rfl rfl) rfl ?_; refine zh ?_; refine zj ?_; refine zw rfl ?_; refine zf ?_; refine zd (id := 16) ?_; refine za (zc rfl rfl rfl) rfl ?_; refine za (zc rfl rfl rfl) rfl ?_; refine za (zc rfl rfl rfl) rfl ?_; refine qg (yc L 900 (GHeld b (uC R.pi.1 ++ rest) tyU) (.bool false) (r := GHeld b (uC R.d2 ++ rest) tyU) rfl rfl rfl rfl rfl (fun u H C hH hle hr hC => by have h := pins_ret (rest := rest) (cap := cap) (d := R.d2) (a := x) (e := y) (m := m) (by omega) (by omega) (by omega) hm1 hH hr hC; rw [hb, ← hpi] at h; exact h)) ?_; refine zh ?_; refine zj ?_; refine zo rfl ?_; refine zu ?_
                exact N_mids () Since.refl (by rw [hpi]; exact hb) rfl ⟨rfl, rfl, rfl, rfl, rfl, rfl, rfl, rfl, rfl, trivial⟩
            · have hz : hintZ R.hint ≠ 1 := fun h => by
                cases hh : R.hint with
                | unknown => rw [hh] at h; cases h
                | increasing => exact hi hh
                | decreasing => rw [hh] at h; cases h
              have hpi := hpn (by simp [hi])
              rw [hpi]
              refine zd (id := 15) ?_; refine za (zc rfl rfl rfl) rfl ?_; refine za (zc rfl rfl rfl) rfl ?_; refine za (zc rfl rfl rfl) rfl ?_; refine za (zm rfl rfl rfl rfl) rfl ?_; refine za (zc rfl rfl rfl) rfl ?_; refine za (zc rfl rfl rfl) rfl ?_; refine za (qn rfl rfl rfl rfl (decide_eq_false (by omega))) rfl ?_; refine za (zm rfl rfl rfl rfl) rfl ?_; refine zh ?_; refine zj ?_; refine zo rfl ?_; refine zu ?_
              exact N_mids () Since.refl rfl rfl ⟨rfl, rfl, rfl, rfl, rfl, rfl, rfl, rfl, rfl, trivial⟩
      intro _ h2
      obtain ⟨_, q2⟩ := u_at (rest := rest) (show R.pivot < R.pi.1.size by omega) (0 + (R.pivot) * 1) rfl
      by_cases hx0 : 0 < x
      · obtain ⟨_, q1⟩ := u_at (rest := rest) (show x - 1 < R.pi.1.size by omega) (0 + (x - 1) * 1) rfl
        have hw3 : IntKind.i64.wrap ((x : Int) - 1) = ((x - 1 : Nat) : Int) := wrap_i64 (by omega) (by omega) |>.trans (by omega)
        cases hc : lt R.pi.1[x - 1]! R.pi.1[R.pivot]! with
        | false =>
          obtain ⟨mid, d4, hx⟩ : ∃ mid d4, partitionEqual lt R.pi.1 x y R.pivot = (mid, d4) := ⟨_, _, rfl⟩
          obtain ⟨g1, g2, g3, g4, _⟩ := round_eq swo_ltInt (partitionEqual_holds lt) hx0 hpv.1 hpv.2 (by omega) B3 hc hx
          have hn := heq h2 (by simp [hx0, hc]) (by rw [hx]; exact ⟨g1, g2⟩)
          rw [hx] at hn
          refine zf ?_; refine zf ?_; refine q0 (id := 17) [(200080, [900]), (200084, [900])] mixed (by kernel_rfl) ?_; refine zb (zc rfl rfl rfl) rfl ?_; refine zb (qk rfl rfl rfl rfl (decide_eq_true (by omega))) rfl ?_; refine zb (zc rfl rfl rfl) rfl ?_; refine zb (zc rfl rfl rfl) rfl ?_; refine zb (zc rfl rfl rfl) rfl ?_; refine zb (qt rfl rfl rfl rfl (by assumption)) rfl ?_; refine zb (zq L _ rfl rfl rfl rfl rfl rfl rfl (by omega)) rfl ?_; refine zz (zx L (q := 900) rfl rfl rfl rfl rfl q1) rfl rfl ?_; refine zb (zc rfl rfl rfl) rfl ?_; refine zb (zc rfl rfl rfl) rfl ?_; refine zb (zq L _ rfl rfl rfl rfl rfl rfl rfl (by omega)) rfl ?_; refine zz (zx L (q := 900) rfl rfl rfl rfl rfl q2) rfl rfl ?_; refine zb (zp L rfl rfl (zg rfl) rfl rfl rfl (fun u H hH _ _ => lessU' hc hH)) rfl ?_; refine zb (ok_not rfl rfl rfl rfl) rfl ?_; refine zb (zm rfl rfl rfl rfl) rfl ?_; refine qe ?_; refine zj ?_; refine zw rfl ?_; refine zf ?_; refine zd (id := 18) ?_; refine za (zc rfl rfl rfl) rfl ?_; refine za (zc rfl rfl rfl) rfl ?_; refine za (zc rfl rfl rfl) rfl ?_; refine za (zc rfl rfl rfl) rfl ?_; refine qg (yc L 900 (GHeld b (uC d4 ++ rest) tyU) (.int .i64 mid) (r := GHeld b (uC R.pi.1 ++ rest) tyU) rfl rfl rfl rfl rfl (fun u H C hH hle hr hC => by have h := peq_ret (rest := rest) (cap := cap) (d := R.pi.1) hpv.1 hpv.2 (by omega) (m := m) (by omega) hm1 hH hr hC; rw [hx] at h; exact h)) ?_; refine za (ze rfl rfl rfl) rfl ?_; refine zh ?_; refine zj ?_; refine zf ?_; refine zd (id := 19) ?_; refine za (zc rfl rfl rfl) rfl ?_; refine za (ze rfl rfl rfl) rfl ?_; refine zh ?_; refine zj ?_; refine y6 ?_; refine qf ?_; refine y5 ?_
          exact qw (x := (((x, y), l), ((wb, wp), D))) (((mid, y), R.lim), ((wb, wp), d4)) ⟨by dsimp only; omega, hy, by dsimp only; omega, hlle, by dsimp only; omega, g4, hn.symm⟩ (by dsimp only; omega) ⟨rfl, rfl, rfl, rfl, rfl, rfl, rfl, trivial⟩
        | true =>
          have h2b : (decide (x > 0) && !lt R.pi.1[x - 1]! R.pi.1[R.pivot]!) = false := by simp [hc]
          obtain ⟨mid, ap, d4, hx⟩ : ∃ mid ap d4, Go.Sort.partition lt R.pi.1 x y R.pivot = (mid, ap, d4) := ⟨_, _, _, rfl⟩
          obtain ⟨g1, g2, g3, g4, g5, gL, gR⟩ := round_part swo_ltInt (partition_holds lt) hpv.1 hpv.2 (by omega) B3 hx
          have w1 : IntKind.i64.wrap ((mid : Int) - (x : Int)) = ((mid - x : Nat) : Int) := wrap_i64 (by omega) (by omega) |>.trans (by omega)
          have w2 : IntKind.i64.wrap ((y : Int) - (mid : Int)) = ((y - mid : Nat) : Int) := wrap_i64 (by omega) (by omega) |>.trans (by omega)
          have w4 : IntKind.i64.wrap ((mid : Int) + 1) = ((mid + 1 : Nat) : Int) := wrap_i64 (by omega) (by omega)
          have et : ((y - x : Nat) : Int).tdiv 8 = (((y - x) / 8 : Nat) : Int) := by
            rw [Int.tdiv_eq_ediv_of_nonneg (by omega)]
            omega
          have w3 : IntKind.i64.wrap (((y - x : Nat) : Int).tdiv 8) = (((y - x) / 8 : Nat) : Int) := by rw [et]; exact wrap_i64 (by omega) (by omega)
          by_cases hlr : mid - x < y - mid
          · have hn := hleft h2 h2b (by rw [hx]; exact ⟨g1, g2⟩) (by rw [hx]; exact hlr)
            rw [hx] at hn
            dsimp only at hn
            obtain ⟨pL, sL⟩ := pdq_sorts lt swo_ltInt d4 x mid R.lim true true g1 (by omega) g4
            obtain ⟨LL, hLL⟩ : ∃ LL, LL = pdq lt d4 x mid R.lim true true := ⟨_, rfl⟩
            rw [← hLL] at hn pL sL
            obtain ⟨gB, _⟩ := gL LL pL sL
            have hLs : LL.size = d4.size := pL.1
            by_cases h8 : mid - x ≥ (y - x) / 8
            · rw [decide_eq_true h8] at hn
              refine zf ?_; refine zf ?_; refine q0 (id := 17) [(200080, [900]), (200084, [900])] mixed (by kernel_rfl) ?_; refine zb (zc rfl rfl rfl) rfl ?_; refine zb (qk rfl rfl rfl rfl (decide_eq_true (by omega))) rfl ?_; refine zb (zc rfl rfl rfl) rfl ?_; refine zb (zc rfl rfl rfl) rfl ?_; refine zb (zc rfl rfl rfl) rfl ?_; refine zb (qt rfl rfl rfl rfl (by assumption)) rfl ?_; refine zb (zq L _ rfl rfl rfl rfl rfl rfl rfl (by omega)) rfl ?_; refine zz (zx L (q := 900) rfl rfl rfl rfl rfl q1) rfl rfl ?_; refine zb (zc rfl rfl rfl) rfl ?_; refine zb (zc rfl rfl rfl) rfl ?_; refine zb (zq L _ rfl rfl rfl rfl rfl rfl rfl (by omega)) rfl ?_; refine zz (zx L (q := 900) rfl rfl rfl rfl rfl q2) rfl rfl ?_; refine zb (zp L rfl rfl (zg rfl) rfl rfl rfl (fun u H hH _ _ => lessU' hc hH)) rfl ?_; refine zb (ok_not rfl rfl rfl rfl) rfl ?_; refine zb (zm rfl rfl rfl rfl) rfl ?_; refine qe ?_; refine zj ?_; refine zo rfl ?_; refine zu ?_; refine zj ?_; refine zf ?_; refine zd (id := 20) ?_; refine za (zc rfl rfl rfl) rfl ?_; refine za (zc rfl rfl rfl) rfl ?_; refine za (zc rfl rfl rfl) rfl ?_; refine za (zc rfl rfl rfl) rfl ?_; refine qg (yc L 900 (GHeld b (uC d4 ++ rest) tyU) (.tuple #[.int .i64 mid, .bool ap]) (r := GHeld b (uC R.pi.1 ++ rest) tyU) rfl rfl rfl rfl rfl (fun u H C hH hle hr hC => by have h := part_ret (rest := rest) (cap := cap) (d := R.pi.1) hpv.1 hpv.2 (by omega) (m := m) (by omega) hm1 hH hr hC; rw [hx] at h; exact h)) ?_; refine za (zc rfl rfl rfl) rfl ?_; refine za (y2 rfl rfl rfl rfl) rfl ?_; refine za (y2 rfl rfl rfl rfl) rfl ?_; refine za (ze rfl rfl rfl) rfl ?_; refine za (ze rfl rfl rfl) rfl ?_; refine zh ?_; refine zj ?_; refine zf ?_; refine zd (id := 21) ?_; refine za (zc rfl rfl rfl) rfl ?_; refine za (ze rfl rfl rfl) rfl ?_; refine zh ?_; refine zj ?_; refine zf ?_; refine zd (id := 22) ?_; refine za (zc rfl rfl rfl) rfl ?_; refine za (zc rfl rfl rfl) rfl ?_; refine za (qt rfl rfl rfl rfl (by assumption)) rfl ?_; refine za (zc rfl rfl rfl) rfl ?_; refine za (zc rfl rfl rfl) rfl ?_; refine za (qt rfl rfl rfl rfl (by assumption)) rfl ?_; refine za (ze rfl rfl rfl) rfl ?_; refine za (ze rfl rfl rfl) rfl ?_; refine zh ?_; refine zj ?_; refine zf ?_; refine zd (id := 23) ?_; refine za (zc rfl rfl rfl) rfl ?_; refine za (ok_quo rfl rfl rfl rfl (by omega) (by assumption)) rfl ?_; refine za (ze rfl rfl rfl) rfl ?_; refine zh ?_; refine zj ?_; refine zf ?_; refine zd (id := 24) ?_; refine za (zc rfl rfl rfl) rfl ?_; refine za (zc rfl rfl rfl) rfl ?_; refine za (zy rfl rfl rfl rfl (decide_eq_true (by omega))) rfl ?_; refine zh ?_; refine zj ?_; refine zw rfl ?_; refine zf ?_; refine zd (id := 25) ?_; refine za (zc rfl rfl rfl) rfl ?_; refine za (zc rfl rfl rfl) rfl ?_; refine za (y3 rfl rfl rfl rfl (decide_eq_true (by omega))) rfl ?_; refine za (ze rfl rfl rfl) rfl ?_; refine zh ?_; refine zj ?_; refine zf ?_; refine zd (id := 26) ?_; refine za (zc rfl rfl rfl) rfl ?_; refine za (zc rfl rfl rfl) rfl ?_; refine za (zc rfl rfl rfl) rfl ?_; refine za (zc rfl rfl rfl) rfl ?_; refine qg (ok_callG L 900 (GHeld b (uC LL ++ rest) tyU) (r := GHeld b (uC d4 ++ rest) tyU) rfl rfl rfl rfl rfl (fun u H C hH _ hr hC => by rw [hLL]; exact ih (by omega) g1 (by omega) (by omega) hm1 hlle g4 hH hr hC)) ?_; refine zh ?_; refine zj ?_; refine zd (id := 27) ?_; refine za (zc rfl rfl rfl) rfl ?_; refine za (q8 rfl rfl rfl rfl (by assumption)) rfl ?_; refine za (ze rfl rfl rfl) rfl ?_; refine zh ?_; refine qs ?_
              exact qw (x := (((x, y), l), ((wb, wp), D))) (((mid + 1, y), R.lim), ((true, ap), LL)) ⟨by dsimp only; omega, hy, by dsimp only; omega, hlle, by dsimp only; omega, gB, hn.symm⟩ (by dsimp only; omega) ⟨rfl, rfl, rfl, rfl, rfl, rfl, rfl, trivial⟩
            · rw [decide_eq_false h8] at hn
              refine zf ?_; refine zf ?_; refine q0 (id := 17) [(200080, [900]), (200084, [900])] mixed (by kernel_rfl) ?_; refine zb (zc rfl rfl rfl) rfl ?_; refine zb (qk rfl rfl rfl rfl (decide_eq_true (by omega))) rfl ?_; refine zb (zc rfl rfl rfl) rfl ?_; refine zb (zc rfl rfl rfl) rfl ?_; refine zb (zc rfl rfl rfl) rfl ?_; refine zb (qt rfl rfl rfl rfl (by assumption)) rfl ?_; refine zb (zq L _ rfl rfl rfl rfl rfl rfl rfl (by omega)) rfl ?_; refine zz (zx L (q := 900) rfl rfl rfl rfl rfl q1) rfl rfl ?_; refine zb (zc rfl rfl rfl) rfl ?_; refine zb (zc rfl rfl rfl) rfl ?_; refine zb (zq L _ rfl rfl rfl rfl rfl rfl rfl (by omega)) rfl ?_; refine zz (zx L (q := 900) rfl rfl rfl rfl rfl q2) rfl rfl ?_; refine zb (zp L rfl rfl (zg rfl) rfl rfl rfl (fun u H hH _ _ => lessU' hc hH)) rfl ?_; refine zb (ok_not rfl rfl rfl rfl) rfl ?_; refine zb (zm rfl rfl rfl rfl) rfl ?_; refine qe ?_; refine zj ?_; refine zo rfl ?_; refine zu ?_; refine zj ?_; refine zf ?_; refine zd (id := 20) ?_; refine za (zc rfl rfl rfl) rfl ?_; refine za (zc rfl rfl rfl) rfl ?_; refine za (zc rfl rfl rfl) rfl ?_; refine za (zc rfl rfl rfl) rfl ?_; refine qg (yc L 900 (GHeld b (uC d4 ++ rest) tyU) (.tuple #[.int .i64 mid, .bool ap]) (r := GHeld b (uC R.pi.1 ++ rest) tyU) rfl rfl rfl rfl rfl (fun u H C hH hle hr hC => by have h := part_ret (rest := rest) (cap := cap) (d := R.pi.1) hpv.1 hpv.2 (by omega) (m := m) (by omega) hm1 hH hr hC; rw [hx] at h; exact h)) ?_; refine za (zc rfl rfl rfl) rfl ?_; refine za (y2 rfl rfl rfl rfl) rfl ?_; refine za (y2 rfl rfl rfl rfl) rfl ?_; refine za (ze rfl rfl rfl) rfl ?_; refine za (ze rfl rfl rfl) rfl ?_; refine zh ?_; refine zj ?_; refine zf ?_; refine zd (id := 21) ?_; refine za (zc rfl rfl rfl) rfl ?_; refine za (ze rfl rfl rfl) rfl ?_; refine zh ?_; refine zj ?_; refine zf ?_; refine zd (id := 22) ?_; refine za (zc rfl rfl rfl) rfl ?_; refine za (zc rfl rfl rfl) rfl ?_; refine za (qt rfl rfl rfl rfl (by assumption)) rfl ?_; refine za (zc rfl rfl rfl) rfl ?_; refine za (zc rfl rfl rfl) rfl ?_; refine za (qt rfl rfl rfl rfl (by assumption)) rfl ?_; refine za (ze rfl rfl rfl) rfl ?_; refine za (ze rfl rfl rfl) rfl ?_; refine zh ?_; refine zj ?_; refine zf ?_; refine zd (id := 23) ?_; refine za (zc rfl rfl rfl) rfl ?_; refine za (ok_quo rfl rfl rfl rfl (by omega) (by assumption)) rfl ?_; refine za (ze rfl rfl rfl) rfl ?_; refine zh ?_; refine zj ?_; refine zf ?_; refine zd (id := 24) ?_; refine za (zc rfl rfl rfl) rfl ?_; refine za (zc rfl rfl rfl) rfl ?_; refine za (zy rfl rfl rfl rfl (decide_eq_true (by omega))) rfl ?_; refine zh ?_; refine zj ?_; refine zw rfl ?_; refine zf ?_; refine zd (id := 25) ?_; refine za (zc rfl rfl rfl) rfl ?_; refine za (zc rfl rfl rfl) rfl ?_; refine za (y3 rfl rfl rfl rfl (decide_eq_false (by omega))) rfl ?_; refine za (ze rfl rfl rfl) rfl ?_; refine zh ?_; refine zj ?_; refine zf ?_; refine zd (id := 26) ?_; refine za (zc rfl rfl rfl) rfl ?_; refine za (zc rfl rfl rfl) rfl ?_; refine za (zc rfl rfl rfl) rfl ?_; refine za (zc rfl rfl rfl) rfl ?_; refine qg (ok_callG L 900 (GHeld b (uC LL ++ rest) tyU) (r := GHeld b (uC d4 ++ rest) tyU) rfl rfl rfl rfl rfl (fun u H C hH _ hr hC => by rw [hLL]; exact ih (by omega) g1 (by omega) (by omega) hm1 hlle g4 hH hr hC)) ?_; refine zh ?_; refine zj ?_; refine zd (id := 27) ?_; refine za (zc rfl rfl rfl) rfl ?_; refine za (q8 rfl rfl rfl rfl (by assumption)) rfl ?_; refine za (ze rfl rfl rfl) rfl ?_; refine zh ?_; refine qs ?_
              exact qw (x := (((x, y), l), ((wb, wp), D))) (((mid + 1, y), R.lim), ((false, ap), LL)) ⟨by dsimp only; omega, hy, by dsimp only; omega, hlle, by dsimp only; omega, gB, hn.symm⟩ (by dsimp only; omega) ⟨rfl, rfl, rfl, rfl, rfl, rfl, rfl, trivial⟩
          · have hn := hright h2 h2b (by rw [hx]; exact ⟨g1, g2⟩) (by rw [hx]; exact hlr)
            rw [hx] at hn
            dsimp only at hn
            obtain ⟨pL, sL⟩ := pdq_sorts lt swo_ltInt d4 (mid + 1) y R.lim true true (by omega) (by omega) g5
            obtain ⟨LL, hLL⟩ : ∃ LL, LL = pdq lt d4 (mid + 1) y R.lim true true := ⟨_, rfl⟩
            rw [← hLL] at hn pL sL
            obtain ⟨gB, _⟩ := gR LL pL sL
            have hLs : LL.size = d4.size := pL.1
            by_cases h8 : y - mid ≥ (y - x) / 8
            · rw [decide_eq_true h8] at hn
              refine zf ?_; refine zf ?_; refine q0 (id := 17) [(200080, [900]), (200084, [900])] mixed (by kernel_rfl) ?_; refine zb (zc rfl rfl rfl) rfl ?_; refine zb (qk rfl rfl rfl rfl (decide_eq_true (by omega))) rfl ?_; refine zb (zc rfl rfl rfl) rfl ?_; refine zb (zc rfl rfl rfl) rfl ?_; refine zb (zc rfl rfl rfl) rfl ?_; refine zb (qt rfl rfl rfl rfl (by assumption)) rfl ?_; refine zb (zq L _ rfl rfl rfl rfl rfl rfl rfl (by omega)) rfl ?_; refine zz (zx L (q := 900) rfl rfl rfl rfl rfl q1) rfl rfl ?_; refine zb (zc rfl rfl rfl) rfl ?_; refine zb (zc rfl rfl rfl) rfl ?_; refine zb (zq L _ rfl rfl rfl rfl rfl rfl rfl (by omega)) rfl ?_; refine zz (zx L (q := 900) rfl rfl rfl rfl rfl q2) rfl rfl ?_; refine zb (zp L rfl rfl (zg rfl) rfl rfl rfl (fun u H hH _ _ => lessU' hc hH)) rfl ?_; refine zb (ok_not rfl rfl rfl rfl) rfl ?_; refine zb (zm rfl rfl rfl rfl) rfl ?_; refine qe ?_; refine zj ?_; refine zo rfl ?_; refine zu ?_; refine zj ?_; refine zf ?_; refine zd (id := 20) ?_; refine za (zc rfl rfl rfl) rfl ?_; refine za (zc rfl rfl rfl) rfl ?_; refine za (zc rfl rfl rfl) rfl ?_; refine za (zc rfl rfl rfl) rfl ?_; refine qg (yc L 900 (GHeld b (uC d4 ++ rest) tyU) (.tuple #[.int .i64 mid, .bool ap]) (r := GHeld b (uC R.pi.1 ++ rest) tyU) rfl rfl rfl rfl rfl (fun u H C hH hle hr hC => by have h := part_ret (rest := rest) (cap := cap) (d := R.pi.1) hpv.1 hpv.2 (by omega) (m := m) (by omega) hm1 hH hr hC; rw [hx] at h; exact h)) ?_; refine za (zc rfl rfl rfl) rfl ?_; refine za (y2 rfl rfl rfl rfl) rfl ?_; refine za (y2 rfl rfl rfl rfl) rfl ?_; refine za (ze rfl rfl rfl) rfl ?_; refine za (ze rfl rfl rfl) rfl ?_; refine zh ?_; refine zj ?_; refine zf ?_; refine zd (id := 21) ?_; refine za (zc rfl rfl rfl) rfl ?_; refine za (ze rfl rfl rfl) rfl ?_; refine zh ?_; refine zj ?_; refine zf ?_; refine zd (id := 22) ?_; refine za (zc rfl rfl rfl) rfl ?_; refine za (zc rfl rfl rfl) rfl ?_; refine za (qt rfl rfl rfl rfl (by assumption)) rfl ?_; refine za (zc rfl rfl rfl) rfl ?_; refine za (zc rfl rfl rfl) rfl ?_; refine za (qt rfl rfl rfl rfl (by assumption)) rfl ?_; refine za (ze rfl rfl rfl) rfl ?_; refine za (ze rfl rfl rfl) rfl ?_; refine zh ?_; refine zj ?_; refine zf ?_; refine zd (id := 23) ?_; refine za (zc rfl rfl rfl) rfl ?_; refine za (ok_quo rfl rfl rfl rfl (by omega) (by assumption)) rfl ?_; refine za (ze rfl rfl rfl) rfl ?_; refine zh ?_; refine zj ?_; refine zf ?_; refine zd (id := 24) ?_; refine za (zc rfl rfl rfl) rfl ?_; refine za (zc rfl rfl rfl) rfl ?_; refine za (zy rfl rfl rfl rfl (decide_eq_false (by omega))) rfl ?_; refine zh ?_; refine zj ?_; refine zo rfl ?_; refine zf ?_; refine zd (id := 28) ?_; refine za (zc rfl rfl rfl) rfl ?_; refine za (zc rfl rfl rfl) rfl ?_; refine za (y3 rfl rfl rfl rfl (decide_eq_true (by omega))) rfl ?_; refine za (ze rfl rfl rfl) rfl ?_; refine zh ?_; refine zj ?_; refine zf ?_; refine zd (id := 29) ?_; refine za (zc rfl rfl rfl) rfl ?_; refine za (zc rfl rfl rfl) rfl ?_; refine za (q8 rfl rfl rfl rfl (by assumption)) rfl ?_; refine za (zc rfl rfl rfl) rfl ?_; refine za (zc rfl rfl rfl) rfl ?_; refine qg (ok_callG L 900 (GHeld b (uC LL ++ rest) tyU) (r := GHeld b (uC d4 ++ rest) tyU) rfl rfl rfl rfl rfl (fun u H C hH _ hr hC => by rw [hLL]; exact ih (by omega) (by omega) hy (by omega) hm1 hlle g5 hH hr hC)) ?_; refine zh ?_; refine zj ?_; refine zd (id := 30) ?_; refine za (zc rfl rfl rfl) rfl ?_; refine za (ze rfl rfl rfl) rfl ?_; refine zh ?_; refine qs ?_
              exact qw (x := (((x, y), l), ((wb, wp), D))) (((x, mid), R.lim), ((true, ap), LL)) ⟨by dsimp only; omega, by dsimp only; omega, by dsimp only; omega, hlle, by dsimp only; omega, gB, hn.symm⟩ (by dsimp only; omega) ⟨rfl, rfl, rfl, rfl, rfl, rfl, rfl, trivial⟩
            · rw [decide_eq_false h8] at hn
              refine zf ?_; refine zf ?_; refine q0 (id := 17) [(200080, [900]), (200084, [900])] mixed (by kernel_rfl) ?_; refine zb (zc rfl rfl rfl) rfl ?_; refine zb (qk rfl rfl rfl rfl (decide_eq_true (by omega))) rfl ?_; refine zb (zc rfl rfl rfl) rfl ?_; refine zb (zc rfl rfl rfl) rfl ?_; refine zb (zc rfl rfl rfl) rfl ?_; refine zb (qt rfl rfl rfl rfl (by assumption)) rfl ?_; refine zb (zq L _ rfl rfl rfl rfl rfl rfl rfl (by omega)) rfl ?_; refine zz (zx L (q := 900) rfl rfl rfl rfl rfl q1) rfl rfl ?_; refine zb (zc rfl rfl rfl) rfl ?_; refine zb (zc rfl rfl rfl) rfl ?_; refine zb (zq L _ rfl rfl rfl rfl rfl rfl rfl (by omega)) rfl ?_; refine zz (zx L (q := 900) rfl rfl rfl rfl rfl q2) rfl rfl ?_; refine zb (zp L rfl rfl (zg rfl) rfl rfl rfl (fun u H hH _ _ => lessU' hc hH)) rfl ?_; refine zb (ok_not rfl rfl rfl rfl) rfl ?_; refine zb (zm rfl rfl rfl rfl) rfl ?_; refine qe ?_; refine zj ?_; refine zo rfl ?_; refine zu ?_; refine zj ?_; refine zf ?_; refine zd (id := 20) ?_; refine za (zc rfl rfl rfl) rfl ?_; refine za (zc rfl rfl rfl) rfl ?_; refine za (zc rfl rfl rfl) rfl ?_; refine za (zc rfl rfl rfl) rfl ?_; refine qg (yc L 900 (GHeld b (uC d4 ++ rest) tyU) (.tuple #[.int .i64 mid, .bool ap]) (r := GHeld b (uC R.pi.1 ++ rest) tyU) rfl rfl rfl rfl rfl (fun u H C hH hle hr hC => by have h := part_ret (rest := rest) (cap := cap) (d := R.pi.1) hpv.1 hpv.2 (by omega) (m := m) (by omega) hm1 hH hr hC; rw [hx] at h; exact h)) ?_; refine za (zc rfl rfl rfl) rfl ?_; refine za (y2 rfl rfl rfl rfl) rfl ?_; refine za (y2 rfl rfl rfl rfl) rfl ?_; refine za (ze rfl rfl rfl) rfl ?_; refine za (ze rfl rfl rfl) rfl ?_; refine zh ?_; refine zj ?_; refine zf ?_; refine zd (id := 21) ?_; refine za (zc rfl rfl rfl) rfl ?_; refine za (ze rfl rfl rfl) rfl ?_; refine zh ?_; refine zj ?_; refine zf ?_; refine zd (id := 22) ?_; refine za (zc rfl rfl rfl) rfl ?_; refine za (zc rfl rfl rfl) rfl ?_; refine za (qt rfl rfl rfl rfl (by assumption)) rfl ?_; refine za (zc rfl rfl rfl) rfl ?_; refine za (zc rfl rfl rfl) rfl ?_; refine za (qt rfl rfl rfl rfl (by assumption)) rfl ?_; refine za (ze rfl rfl rfl) rfl ?_; refine za (ze rfl rfl rfl) rfl ?_; refine zh ?_; refine zj ?_; refine zf ?_; refine zd (id := 23) ?_; refine za (zc rfl rfl rfl) rfl ?_; refine za (ok_quo rfl rfl rfl rfl (by omega) (by assumption)) rfl ?_; refine za (ze rfl rfl rfl) rfl ?_; refine zh ?_; refine zj ?_; refine zf ?_; refine zd (id := 24) ?_; refine za (zc rfl rfl rfl) rfl ?_; refine za (zc rfl rfl rfl) rfl ?_; refine za (zy rfl rfl rfl rfl (decide_eq_false (by omega))) rfl ?_; refine zh ?_; refine zj ?_; refine zo rfl ?_; refine zf ?_; refine zd (id := 28) ?_; refine za (zc rfl rfl rfl) rfl ?_; refine za (zc rfl rfl rfl) rfl ?_; refine za (y3 rfl rfl rfl rfl (decide_eq_false (by omega))) rfl ?_; refine za (ze rfl rfl rfl) rfl ?_; refine zh ?_; refine zj ?_; refine zf ?_; refine zd (id := 29) ?_; refine za (zc rfl rfl rfl) rfl ?_; refine za (zc rfl rfl rfl) rfl ?_; refine za (q8 rfl rfl rfl rfl (by assumption)) rfl ?_; refine za (zc rfl rfl rfl) rfl ?_; refine za (zc rfl rfl rfl) rfl ?_; refine qg (ok_callG L 900 (GHeld b (uC LL ++ rest) tyU) (r := GHeld b (uC d4 ++ rest) tyU) rfl rfl rfl rfl rfl (fun u H C hH _ hr hC => by rw [hLL]; exact ih (by omega) (by omega) hy (by omega) hm1 hlle g5 hH hr hC)) ?_; refine zh ?_; refine zj ?_; refine zd (id := 30) ?_; refine za (zc rfl rfl rfl) rfl ?_; refine za (ze rfl rfl rfl) rfl ?_; refine zh ?_; refine qs ?_
              exact qw (x := (((x, y), l), ((wb, wp), D))) (((x, mid), R.lim), ((false, ap), LL)) ⟨by dsimp only; omega, by dsimp only; omega, by dsimp only; omega, hlle, by dsimp only; omega, gB, hn.symm⟩ (by dsimp only; omega) ⟨rfl, rfl, rfl, rfl, rfl, rfl, rfl, trivial⟩
      · have h2b : (decide (x > 0) && !lt R.pi.1[x - 1]! R.pi.1[R.pivot]!) = false := by simp [hx0]
        obtain ⟨mid, ap, d4, hx⟩ : ∃ mid ap d4, Go.Sort.partition lt R.pi.1 x y R.pivot = (mid, ap, d4) := ⟨_, _, _, rfl⟩
        obtain ⟨g1, g2, g3, g4, g5, gL, gR⟩ := round_part swo_ltInt (partition_holds lt) hpv.1 hpv.2 (by omega) B3 hx
        have w1 : IntKind.i64.wrap ((mid : Int) - (x : Int)) = ((mid - x : Nat) : Int) := wrap_i64 (by omega) (by omega) |>.trans (by omega)
        have w2 : IntKind.i64.wrap ((y : Int) - (mid : Int)) = ((y - mid : Nat) : Int) := wrap_i64 (by omega) (by omega) |>.trans (by omega)
        have w4 : IntKind.i64.wrap ((mid : Int) + 1) = ((mid + 1 : Nat) : Int) := wrap_i64 (by omega) (by omega)
        have et : ((y - x : Nat) : Int).tdiv 8 = (((y - x) / 8 : Nat) : Int) := by
          rw [Int.tdiv_eq_ediv_of_nonneg (by omega)]
          omega
        have w3 : IntKind.i64.wrap (((y - x : Nat) : Int).tdiv 8) = (((y - x) / 8 : Nat) : Int) := by rw [et]; exact wrap_i64 (by omega) (by omega)
        by_cases hlr : mid - x < y - mid
        · have hn := hleft h2 h2b (by rw [hx]; exact ⟨g1, g2⟩) (by rw [hx]; exact hlr)
          rw [hx] at hn
          dsimp only at hn
          obtain ⟨pL, sL⟩ := pdq_sorts lt swo_ltInt d4 x mid R.lim true true g1 (by omega) g4
          obtain ⟨LL, hLL⟩ : ∃ LL, LL = pdq lt d4 x mid R.lim true true := ⟨_, rfl⟩
          rw [← hLL] at hn pL sL
          obtain ⟨gB, _⟩ := gL LL pL sL
          have hLs : LL.size = d4.size := pL.1
          by_cases h8 : mid - x ≥ (y - x) / 8
          · rw [decide_eq_true h8] at hn
            refine zf ?_; refine zf ?_; refine q0 (id := 17) [(200080, [900]), (200084, [900])] mixed (by kernel_rfl) ?_; refine zb (zc rfl rfl rfl) rfl ?_; refine zb (qk rfl rfl rfl rfl (decide_eq_false (by omega))) rfl ?_; refine zb (zc rfl rfl rfl) rfl ?_; refine zb (zi rfl (zg rfl) rfl) rfl ?_; refine zb (zi rfl (zg rfl) rfl) rfl ?_; refine zb (zi rfl (zg rfl) rfl) rfl ?_; refine zb (zi rfl (zg rfl) rfl) rfl ?_; refine zb (zi rfl (zg rfl) rfl) rfl ?_; refine zb (zi rfl (zg rfl) rfl) rfl ?_; refine zb (zi rfl (zg rfl) rfl) rfl ?_; refine zb (zi rfl (zg rfl) rfl) rfl ?_; refine zb (zi rfl (zg rfl) rfl) rfl ?_; refine zb (zi rfl (zg rfl) rfl) rfl ?_; refine zb (zi rfl (zg rfl) rfl) rfl ?_; refine zb (zm rfl rfl rfl rfl) rfl ?_; refine qe ?_; refine zj ?_; refine zo rfl ?_; refine zu ?_; refine zj ?_; refine zf ?_; refine zd (id := 20) ?_; refine za (zc rfl rfl rfl) rfl ?_; refine za (zc rfl rfl rfl) rfl ?_; refine za (zc rfl rfl rfl) rfl ?_; refine za (zc rfl rfl rfl) rfl ?_; refine qg (yc L 900 (GHeld b (uC d4 ++ rest) tyU) (.tuple #[.int .i64 mid, .bool ap]) (r := GHeld b (uC R.pi.1 ++ rest) tyU) rfl rfl rfl rfl rfl (fun u H C hH hle hr hC => by have h := part_ret (rest := rest) (cap := cap) (d := R.pi.1) hpv.1 hpv.2 (by omega) (m := m) (by omega) hm1 hH hr hC; rw [hx] at h; exact h)) ?_; refine za (zc rfl rfl rfl) rfl ?_; refine za (y2 rfl rfl rfl rfl) rfl ?_; refine za (y2 rfl rfl rfl rfl) rfl ?_; refine za (ze rfl rfl rfl) rfl ?_; refine za (ze rfl rfl rfl) rfl ?_; refine zh ?_; refine zj ?_; refine zf ?_; refine zd (id := 21) ?_; refine za (zc rfl rfl rfl) rfl ?_; refine za (ze rfl rfl rfl) rfl ?_; refine zh ?_; refine zj ?_; refine zf ?_; refine zd (id := 22) ?_; refine za (zc rfl rfl rfl) rfl ?_; refine za (zc rfl rfl rfl) rfl ?_; refine za (qt rfl rfl rfl rfl (by assumption)) rfl ?_; refine za (zc rfl rfl rfl) rfl ?_; refine za (zc rfl rfl rfl) rfl ?_; refine za (qt rfl rfl rfl rfl (by assumption)) rfl ?_; refine za (ze rfl rfl rfl) rfl ?_; refine za (ze rfl rfl rfl) rfl ?_; refine zh ?_; refine zj ?_; refine zf ?_; refine zd (id := 23) ?_; refine za (zc rfl rfl rfl) rfl ?_; refine za (ok_quo rfl rfl rfl rfl (by omega) (by assumption)) rfl ?_; refine za (ze rfl rfl rfl) rfl ?_; refine zh ?_; refine zj ?_; refine zf ?_; refine zd (id := 24) ?_; refine za (zc rfl rfl rfl) rfl ?_; refine za (zc rfl rfl rfl) rfl ?_; refine za (zy rfl rfl rfl rfl (decide_eq_true (by omega))) rfl ?_; refine zh ?_; refine zj ?_; refine zw rfl ?_; refine zf ?_; refine zd (id := 25) ?_; refine za (zc rfl rfl rfl) rfl ?_; refine za (zc rfl rfl rfl) rfl ?_; refine za (y3 rfl rfl rfl rfl (decide_eq_true (by omega))) rfl ?_; refine za (ze rfl rfl rfl) rfl ?_; refine zh ?_; refine zj ?_; refine zf ?_; refine zd (id := 26) ?_; refine za (zc rfl rfl rfl) rfl ?_; refine za (zc rfl rfl rfl) rfl ?_; refine za (zc rfl rfl rfl) rfl ?_; refine za (zc rfl rfl rfl) rfl ?_; refine qg (ok_callG L 900 (GHeld b (uC LL ++ rest) tyU) (r := GHeld b (uC d4 ++ rest) tyU) rfl rfl rfl rfl rfl (fun u H C hH _ hr hC => by rw [hLL]; exact ih (by omega) g1 (by omega) (by omega) hm1 hlle g4 hH hr hC)) ?_; refine zh ?_; refine zj ?_; refine zd (id := 27) ?_; refine za (zc rfl rfl rfl) rfl ?_; refine za (q8 rfl rfl rfl rfl (by assumption)) rfl ?_; refine za (ze rfl rfl rfl) rfl ?_; refine zh ?_; refine qs ?_
            exact qw (x := (((x, y), l), ((wb, wp), D))) (((mid + 1, y), R.lim), ((true, ap), LL)) ⟨by dsimp only; omega, hy, by dsimp only; omega, hlle, by dsimp only; omega, gB, hn.symm⟩ (by dsimp only; omega) ⟨rfl, rfl, rfl, rfl, rfl, rfl, rfl, trivial⟩
          · rw [decide_eq_false h8] at hn
            refine zf ?_; refine zf ?_; refine q0 (id := 17) [(200080, [900]), (200084, [900])] mixed (by kernel_rfl) ?_; refine zb (zc rfl rfl rfl) rfl ?_; refine zb (qk rfl rfl rfl rfl (decide_eq_false (by omega))) rfl ?_; refine zb (zc rfl rfl rfl) rfl ?_; refine zb (zi rfl (zg rfl) rfl) rfl ?_; refine zb (zi rfl (zg rfl) rfl) rfl ?_; refine zb (zi rfl (zg rfl) rfl) rfl ?_; refine zb (zi rfl (zg rfl) rfl) rfl ?_; refine zb (zi rfl (zg rfl) rfl) rfl ?_; refine zb (zi rfl (zg rfl) rfl) rfl ?_; refine zb (zi rfl (zg rfl) rfl) rfl ?_; refine zb (zi rfl (zg rfl) rfl) rfl ?_; refine zb (zi rfl (zg rfl) rfl) rfl ?_; refine zb (zi rfl (zg rfl) rfl) rfl ?_; refine zb (zi rfl (zg rfl) rfl) rfl ?_; refine zb (zm rfl rfl rfl rfl) rfl ?_; refine qe ?_; refine zj ?_; refine zo rfl ?_; refine zu ?_; refine zj ?_; refine zf ?_; refine zd (id := 20) ?_; refine za (zc rfl rfl rfl) rfl ?_; refine za (zc rfl rfl rfl) rfl ?_; refine za (zc rfl rfl rfl) rfl ?_; refine za (zc rfl rfl rfl) rfl ?_; refine qg (yc L 900 (GHeld b (uC d4 ++ rest) tyU) (.tuple #[.int .i64 mid, .bool ap]) (r := GHeld b (uC R.pi.1 ++ rest) tyU) rfl rfl rfl rfl rfl (fun u H C hH hle hr hC => by have h := part_ret (rest := rest) (cap := cap) (d := R.pi.1) hpv.1 hpv.2 (by omega) (m := m) (by omega) hm1 hH hr hC; rw [hx] at h; exact h)) ?_; refine za (zc rfl rfl rfl) rfl ?_; refine za (y2 rfl rfl rfl rfl) rfl ?_; refine za (y2 rfl rfl rfl rfl) rfl ?_; refine za (ze rfl rfl rfl) rfl ?_; refine za (ze rfl rfl rfl) rfl ?_; refine zh ?_; refine zj ?_; refine zf ?_; refine zd (id := 21) ?_; refine za (zc rfl rfl rfl) rfl ?_; refine za (ze rfl rfl rfl) rfl ?_; refine zh ?_; refine zj ?_; refine zf ?_; refine zd (id := 22) ?_; refine za (zc rfl rfl rfl) rfl ?_; refine za (zc rfl rfl rfl) rfl ?_; refine za (qt rfl rfl rfl rfl (by assumption)) rfl ?_; refine za (zc rfl rfl rfl) rfl ?_; refine za (zc rfl rfl rfl) rfl ?_; refine za (qt rfl rfl rfl rfl (by assumption)) rfl ?_; refine za (ze rfl rfl rfl) rfl ?_; refine za (ze rfl rfl rfl) rfl ?_; refine zh ?_; refine zj ?_; refine zf ?_; refine zd (id := 23) ?_; refine za (zc rfl rfl rfl) rfl ?_; refine za (ok_quo rfl rfl rfl rfl (by omega) (by assumption)) rfl ?_; refine za (ze rfl rfl rfl) rfl ?_; refine zh ?_; refine zj ?_; refine zf ?_; refine zd (id := 24) ?_; refine za (zc rfl rfl rfl) rfl ?_; refine za (zc rfl rfl rfl) rfl ?_; refine za (zy rfl rfl rfl rfl (decide_eq_true (by omega))) rfl ?_; refine zh ?_; refine zj ?_; refine zw rfl ?_; refine zf ?_; refine zd (id := 25) ?_; refine za (zc rfl rfl rfl) rfl ?_; refine za (zc rfl rfl rfl) rfl ?_; refine za (y3 rfl rfl rfl rfl (decide_eq_false (by omega))) rfl ?_; refine za (ze rfl rfl rfl) rfl ?_; refine zh ?_; refine zj ?_; refine zf ?_; refine zd (id := 26) ?_; refine za (zc rfl rfl rfl) rfl ?_; refine za (zc rfl rfl rfl) rfl ?_; refine za (zc rfl rfl rfl) rfl ?_; refine za (zc rfl rfl rfl) rfl ?_; refine qg (ok_callG L 900 (GHeld b (uC LL ++ rest) tyU) (r := GHeld b (uC d4 ++ rest) tyU) rfl rfl rfl rfl rfl (fun u H C hH _ hr hC => by rw [hLL]; exact ih (by omega) g1 (by omega) (by omega) hm1 hlle g4 hH hr hC)) ?_; refine zh ?_; refine zj ?_; refine zd (id := 27) ?_; refine za (zc rfl rfl rfl) rfl ?_; refine za (q8 rfl rfl rfl rfl (by assumption)) rfl ?_; refine za (ze rfl rfl rfl) rfl ?_; refine zh ?_; refine qs ?_
            exact qw (x := (((x, y), l), ((wb, wp), D))) (((mid + 1, y), R.lim), ((false, ap), LL)) ⟨by dsimp only; omega, hy, by dsimp only; omega, hlle, by dsimp only; omega, gB, hn.symm⟩ (by dsimp only; omega) ⟨rfl, rfl, rfl, rfl, rfl, rfl, rfl, trivial⟩
        · have hn := hright h2 h2b (by rw [hx]; exact ⟨g1, g2⟩) (by rw [hx]; exact hlr)
          rw [hx] at hn
          dsimp only at hn
          obtain ⟨pL, sL⟩ := pdq_sorts lt swo_ltInt d4 (mid + 1) y R.lim true true (by omega) (by omega) g5
          obtain ⟨LL, hLL⟩ : ∃ LL, LL = pdq lt d4 (mid + 1) y R.lim true true := ⟨_, rfl⟩
          rw [← hLL] at hn pL sL
          obtain ⟨gB, _⟩ := gR LL pL sL
          have hLs : LL.size = d4.size := pL.1
          by_cases h8 : y - mid ≥ (y - x) / 8
          · rw [decide_eq_true h8] at hn
            refine zf ?_; refine zf ?_; refine q0 (id := 17) [(200080, [900]), (200084, [900])] mixed (by kernel_rfl) ?_; refine zb (zc rfl rfl rfl) rfl ?_; refine zb (qk rfl rfl rfl rfl (decide_eq_false (by omega))) rfl ?_; refine zb (zc rfl rfl rfl) rfl ?_; refine zb (zi rfl (zg rfl) rfl) rfl ?_; refine zb (zi rfl (zg rfl) rfl) rfl ?_; refine zb (zi rfl (zg rfl) rfl) rfl ?_; refine zb (zi rfl (zg rfl) rfl) rfl ?_; refine zb (zi rfl (zg rfl) rfl) rfl ?_; refine zb (zi rfl (zg rfl) rfl) rfl ?_; refine zb (zi rfl (zg rfl) rfl) rfl ?_; refine zb (zi rfl (zg rfl) rfl) rfl ?_; refine zb (zi rfl (zg rfl) rfl) rfl ?_; refine zb (zi rfl (zg rfl) rfl) rfl ?_; refine zb (zi rfl (zg rfl) rfl) rfl ?_; refine zb (zm rfl rfl rfl rfl) rfl ?_; refine qe ?_; refine zj ?_; refine zo rfl ?_; refine zu ?_; refine zj ?_; refine zf ?_; refine zd (id := 20) ?_; refine za (zc rfl rfl rfl) rfl ?_; refine za (zc rfl rfl rfl) rfl ?_; refine za (zc rfl rfl rfl) rfl ?_; refine za (zc rfl rfl rfl) rfl ?_; refine qg (yc L 900 (GHeld b (uC d4 ++ rest) tyU) (.tuple #[.int .i64 mid, .bool ap]) (r := GHeld b (uC R.pi.1 ++ rest) tyU) rfl rfl rfl rfl rfl (fun u H C hH hle hr hC => by have h := part_ret (rest := rest) (cap := cap) (d := R.pi.1) hpv.1 hpv.2 (by omega) (m := m) (by omega) hm1 hH hr hC; rw [hx] at h; exact h)) ?_; refine za (zc rfl rfl rfl) rfl ?_; refine za (y2 rfl rfl rfl rfl) rfl ?_; refine za (y2 rfl rfl rfl rfl) rfl ?_; refine za (ze rfl rfl rfl) rfl ?_; refine za (ze rfl rfl rfl) rfl ?_; refine zh ?_; refine zj ?_; refine zf ?_; refine zd (id := 21) ?_; refine za (zc rfl rfl rfl) rfl ?_; refine za (ze rfl rfl rfl) rfl ?_; refine zh ?_; refine zj ?_; refine zf ?_; refine zd (id := 22) ?_; refine za (zc rfl rfl rfl) rfl ?_; refine za (zc rfl rfl rfl) rfl ?_; refine za (qt rfl rfl rfl rfl (by assumption)) rfl ?_; refine za (zc rfl rfl rfl) rfl ?_; refine za (zc rfl rfl rfl) rfl ?_; refine za (qt rfl rfl rfl rfl (by assumption)) rfl ?_; refine za (ze rfl rfl rfl) rfl ?_; refine za (ze rfl rfl rfl) rfl ?_; refine zh ?_; refine zj ?_; refine zf ?_; refine zd (id := 23) ?_; refine za (zc rfl rfl rfl) rfl ?_; refine za (ok_quo rfl rfl rfl rfl (by omega) (by assumption)) rfl ?_; refine za (ze rfl rfl rfl) rfl ?_; refine zh ?_; refine zj ?_; refine zf ?_; refine zd (id := 24) ?_; refine za (zc rfl rfl rfl) rfl ?_; refine za (zc rfl rfl rfl) rfl ?_; refine za (zy rfl rfl rfl rfl (decide_eq_false (by omega))) rfl ?_; refine zh ?_; refine zj ?_; refine zo rfl ?_; refine zf ?_; refine zd (id := 28) ?_; refine za (zc rfl rfl rfl) rfl ?_; refine za (zc rfl rfl rfl) rfl ?_; refine za (y3 rfl rfl rfl rfl (decide_eq_true (by omega))) rfl ?_; refine za (ze rfl rfl rfl) rfl ?_; refine zh ?_; refine zj ?_; refine zf ?_; refine zd (id := 29) ?_; refine za (zc rfl rfl rfl) rfl ?_; refine za (zc rfl rfl rfl) rfl ?_; refine za (q8 rfl rfl rfl rfl (by assumption)) rfl ?_; refine za (zc rfl rfl rfl) rfl ?_; refine za (zc rfl rfl rfl) rfl ?_; refine qg (ok_callG L 900 (GHeld b (uC LL ++ rest) tyU) (r := GHeld b (uC d4 ++ rest) tyU) rfl rfl rfl rfl rfl (fun u H C hH _ hr hC => by rw [hLL]; exact ih (by omega) (by omega) hy (by omega) hm1 hlle g5 hH hr hC)) ?_; refine zh ?_; refine zj ?_; refine zd (id := 30) ?_; refine za (zc rfl rfl rfl) rfl ?_; refine za (ze rfl rfl rfl) rfl ?_; refine zh ?_; refine qs ?_
            exact qw (x := (((x, y), l), ((wb, wp), D))) (((x, mid), R.lim), ((true, ap), LL)) ⟨by dsimp only; omega, by dsimp only; omega, by dsimp only; omega, hlle, by dsimp only; omega, gB, hn.symm⟩ (by dsimp only; omega) ⟨rfl, rfl, rfl, rfl, rfl, rfl, rfl, trivial⟩
          · rw [decide_eq_false h8] at hn
            refine zf ?_; refine zf ?_; refine q0 (id := 17) [(200080, [900]), (200084, [900])] mixed (by kernel_rfl) ?_; refine zb (zc rfl rfl rfl) rfl ?_; refine zb (qk rfl rfl rfl rfl (decide_eq_false (by omega))) rfl ?_; refine zb (zc rfl rfl rfl) rfl ?_; refine zb (zi rfl (zg rfl) rfl) rfl ?_; refine zb (zi rfl (zg rfl) rfl) rfl ?_; refine zb (zi rfl (zg rfl) rfl) rfl ?_; refine zb (zi rfl (zg rfl) rfl) rfl ?_; refine zb (zi rfl (zg rfl) rfl) rfl ?_; refine zb (zi rfl (zg rfl) rfl) rfl ?_; refine zb (zi rfl (zg rfl) rfl) rfl ?_; refine zb (zi rfl (zg rfl) rfl) rfl ?_; refine zb (zi rfl (zg rfl) rfl) rfl ?_; refine zb (zi rfl (zg rfl) rfl) rfl ?_; refine zb (zi rfl (zg rfl) rfl) rfl ?_; refine zb (zm rfl rfl rfl rfl) rfl ?_; refine qe ?_; refine zj ?_; refine zo rfl ?_; refine zu ?_; refine zj ?_; refine zf ?_; refine zd (id := 20) ?_; refine za (zc rfl rfl rfl) rfl ?_; refine za (zc rfl rfl rfl) rfl ?_; refine za (zc rfl rfl rfl) rfl ?_; refine za (zc rfl rfl rfl) rfl ?_; refine qg (yc L 900 (GHeld b (uC d4 ++ rest) tyU) (.tuple #[.int .i64 mid, .bool ap]) (r := GHeld b (uC R.pi.1 ++ rest) tyU) rfl rfl rfl rfl rfl (fun u H C hH hle hr hC => by have h := part_ret (rest := rest) (cap := cap) (d := R.pi.1) hpv.1 hpv.2 (by omega) (m := m) (by omega) hm1 hH hr hC; rw [hx] at h; exact h)) ?_; refine za (zc rfl rfl rfl) rfl ?_; refine za (y2 rfl rfl rfl rfl) rfl ?_; refine za (y2 rfl rfl rfl rfl) rfl ?_; refine za (ze rfl rfl rfl) rfl ?_; refine za (ze rfl rfl rfl) rfl ?_; refine zh ?_; refine zj ?_; refine zf ?_; refine zd (id := 21) ?_; refine za (zc rfl rfl rfl) rfl ?_; refine za (ze rfl rfl rfl) rfl ?_; refine zh ?_; refine zj ?_; refine zf ?_; refine zd (id := 22) ?_; refine za (zc rfl rfl rfl) rfl ?_; refine za (zc rfl rfl rfl) rfl ?_; refine za (qt rfl rfl rfl rfl (by assumption)) rfl ?_; refine za (zc rfl rfl rfl) rfl ?_; refine za (zc rfl rfl rfl) rfl ?_; refine za (qt rfl rfl rfl rfl (by assumption)) rfl ?_; refine za (ze rfl rfl rfl) rfl ?_; refine za (ze rfl rfl rfl) rfl ?_; refine zh ?_; refine zj ?_; refine zf ?_; refine zd (id := 23) ?_; refine za (zc rfl rfl rfl) rfl ?_; refine za (ok_quo rfl rfl rfl rfl (by omega) (by assumption)) rfl ?_; refine za (ze rfl rfl rfl) rfl ?_; refine zh ?_; refine zj ?_; refine zf ?_; refine zd (id := 24) ?_; refine za (zc rfl rfl rfl) rfl ?_; refine za (zc rfl rfl rfl) rfl ?_; refine za (zy rfl rfl rfl rfl (decide_eq_false (by omega))) rfl ?_; refine zh ?_; refine zj ?_; refine zo rfl ?_; refine zf ?_; refine zd (id := 28) ?_; refine za (zc rfl rfl rfl) rfl ?_; refine za (zc rfl rfl rfl) rfl ?_; refine za (y3 rfl rfl rfl rfl (decide_eq_false (by omega))) rfl ?_; refine za (ze rfl rfl rfl) rfl ?_; refine zh ?_; refine zj ?_; refine zf ?_; refine zd (id := 29) ?_; refine za (zc rfl rfl rfl) rfl ?_; refine za (zc rfl rfl rfl) rfl ?_; refine za (q8 rfl rfl rfl rfl (by assumption)) rfl ?_; refine za (zc rfl rfl rfl) rfl ?_; refine za (zc rfl rfl rfl) rfl ?_; refine qg (ok_callG L 900 (GHeld b (uC LL ++ rest) tyU) (r := GHeld b (uC d4 ++ rest) tyU) rfl rfl rfl rfl rfl (fun u H C hH _ hr hC => by rw [hLL]; exact ih (by omega) (by omega) hy (by omega) hm1 hlle g5 hH hr hC)) ?_; refine zh ?_; refine zj ?_; refine zd (id := 30) ?_; refine za (zc rfl rfl rfl) rfl ?_; refine za (ze rfl rfl rfl) rfl ?_; refine zh ?_; refine qs ?_
            exact qw (x := (((x, y), l), ((wb, wp), D))) (((x, mid), R.lim), ((false, ap), LL)) ⟨by dsimp only; omega, by dsimp only; omega, by dsimp only; omega, hlle, by dsimp only; omega, gB, hn.symm⟩ (by dsimp only; omega) ⟨rfl, rfl, rfl, rfl, rfl, rfl, rfl, trivial⟩
end Go.V.So
namespace Go.V.So
open Go.Proofs Go.RowKit Go.V Go.Sort
attribute [local irreducible] V N X VO Par StepOK Has Ret RetL RetO RetG RetX Src
set_option maxRecDepth 20000 in
theorem sortU_ret {d : Array Int} {rest : List Value} {b m cap : Nat} (hm : d.size = m) (hm1 : m ≤ 100000) {w : World} {B : Heap} {C : Nat → Prop} (hB : B.Le (hp w))
    (hr : (GHeld b (uC d ++ rest) tyU).P B w C) (hC : ∀ k, C k → k < w.heap.size ∧ B k = none) :
    RetG Try.prog 58 [.slice (some ⟨b, 0, none⟩) m cap] w B C (GHeld b (uC (Go.Sort.sort lt d) ++ rest) tyU) := by
  unfold RetG
  refine V_enterG 900 (GHeld b (uC d ++ rest) tyU) Try.func58 rfl Try.ntmps58 (Nat.le_of_ble_eq_true rfl) hB hr hC ?_
  rw [gheld_res]
  have hc : IntKind.u64.wrap (m : Int) = (m : Int) := wrap_u64 (by omega) (by omega)
  have hb17 : bitsLen m ≤ 17 := (bitsLen_le_iff m 17).2 (by omega)
  refine zf ?_; refine zd (id := 0) ?_; refine za (zc rfl rfl rfl) rfl ?_; refine za (ok_lenL L rfl rfl rfl rfl) rfl ?_; refine za (ze rfl rfl rfl) rfl ?_; refine zh ?_; refine zj ?_; refine zd (id := 1) ?_; refine za (zc rfl rfl rfl) rfl ?_; refine za (zc rfl rfl rfl) rfl ?_; refine za (zc rfl rfl rfl) rfl ?_; refine za (ok_conv rfl rfl rfl cv3_148.1 cv3_148.2 (wrap_u64 (by omega) (by omega))) rfl ?_; refine za (zp L rfl rfl (zg rfl) rfl rfl rfl (fun u H hH _ _ => bitslen_ret (by omega) hH)) rfl ?_; refine qg (ok_callG L 900 (GHeld b (uC (Go.Sort.sort lt d) ++ rest) tyU) (r := GHeld b (uC d ++ rest) tyU) rfl rfl rfl rfl rfl (fun u H C hH _ hr hC => by have h := pdq_ret (rest := rest) (cap := cap) (m := m) (d := d) (a := 0) (e := m) (lim := bitsLen m) (m + 1) (by omega) (by omega) (by omega) hm hm1 (by omega) (Or.inl rfl) hH hr hC; unfold Go.Sort.sort; rw [hm]; exact h)) ?_; refine zh ?_
  exact N_retGhost L 900 (r := GHeld b _ tyU) rfl (fun _ _ h => h) Since.refl rfl rfl
set_option maxRecDepth 20000 in
theorem insN_ret {w : World} {B : Heap} (hB : B.Le (hp w)) : Ret Try.prog 89 [.slice none 0 0, .int .i64 0, .int .i64 0] w B (fun _ _ => True) := by
  refine y0 Try.func89 rfl Try.ntmps89 (Nat.le_of_ble_eq_true rfl) hB ?_
  refine zf ?_; refine zd (id := 0) ?_; refine za (zc rfl rfl rfl) rfl ?_; refine za (q8 rfl rfl rfl rfl (wrap_i64 (by omega) (by omega))) rfl ?_; refine za (ze rfl rfl rfl) rfl ?_; refine zh ?_; refine zj ?_; refine q7 ?_
  refine V_loop (fun _ : Nat => [(2, .is (.int .i64 0)), (6, .is (.int .i64 1))]) (fun _ => True) (fun s => s) 0 trivial ⟨rfl, rfl, trivial⟩ ?_
  rintro s _
  refine zf ?_; refine zf ?_; refine zd (id := 1) ?_; refine za (zc rfl rfl rfl) rfl ?_; refine za (zc rfl rfl rfl) rfl ?_; refine za (zy rfl rfl rfl rfl (decide_eq_false (by omega))) rfl ?_; refine zh ?_; refine zj ?_; refine zo rfl ?_; refine y6 ?_; refine qf ?_; refine qf ?_; refine y5 ?_
  exact N_ret0 L rfl (fun _ _ h => h) Since.refl
set_option maxRecDepth 20000 in
theorem pdqN_ret {w : World} {B : Heap} (hB : B.Le (hp w)) : Ret Try.prog 78 [.slice none 0 0, .int .i64 0, .int .i64 0, .int .i64 0] w B (fun _ _ => True) := by
  refine y0 Try.func78 rfl Try.ntmps78 (Nat.le_of_ble_eq_true rfl) hB ?_
  refine zf ?_; refine zd (id := 0) ?_; refine za (ze rfl rfl rfl) rfl ?_; refine zh ?_; refine zj ?_; refine zf ?_; refine zd (id := 1) ?_; refine za (ze rfl rfl rfl) rfl ?_; refine zh ?_; refine zj ?_; refine q7 ?_
  refine V_loop (fun _ : Nat => [(0, .is (.slice none 0 0)), (1, .is (.int .i64 0)), (2, .is (.int .i64 0))]) (fun _ => True) (fun s => s) 0 trivial ⟨rfl, rfl, rfl, trivial⟩ ?_
  rintro s _
  refine q7 ?_; refine zf ?_; refine zd (id := 2) ?_; refine za (zc rfl rfl rfl) rfl ?_; refine za (zc rfl rfl rfl) rfl ?_; refine za (qt rfl rfl rfl rfl (wrap_i64 (by omega) (by omega))) rfl ?_; refine za (ze rfl rfl rfl) rfl ?_; refine zh ?_; refine zj ?_; refine zf ?_; refine zf ?_; refine zd (id := 3) ?_; refine za (zc rfl rfl rfl) rfl ?_; refine za (ok_leq rfl rfl rfl rfl (decide_eq_true (by omega))) rfl ?_; refine zh ?_; refine zj ?_; refine zw rfl ?_; refine zf ?_; refine zd (id := 4) ?_; refine za (zc rfl rfl rfl) rfl ?_; refine za (zc rfl rfl rfl) rfl ?_; refine za (zc rfl rfl rfl) rfl ?_; refine za (ok_call (φ := fun _ _ => True) L rfl rfl (zg rfl) rfl rfl rfl (fun _ _ _ _ _ => trivial) (fun u H hH _ _ => insN_ret hH)) rfl ?_; refine zh ?_; refine zj ?_
  refine qd L (rs := []) rfl (fun _ _ h => h) Since.refl fun u H hH hle => ?_
  trivial
set_option maxRecDepth 20000 in
theorem sortN_ret {w : World} {B : Heap} (hB : B.Le (hp w)) : Ret Try.prog 58 [.slice none 0 0] w B (fun _ _ => True) := by
  have hc : IntKind.u64.wrap 0 = 0 := by decide
  refine y0 Try.func58 rfl Try.ntmps58 (Nat.le_of_ble_eq_true rfl) hB ?_
  refine zf ?_; refine zd (id := 0) ?_; refine za (zc rfl rfl rfl) rfl ?_; refine za (ok_lenL L rfl rfl rfl rfl) rfl ?_; refine za (ze rfl rfl rfl) rfl ?_; refine zh ?_; refine zj ?_; refine zd (id := 1) ?_; refine za (zc rfl rfl rfl) rfl ?_; refine za (zc rfl rfl rfl) rfl ?_; refine za (zc rfl rfl rfl) rfl ?_; refine za (ok_conv rfl rfl rfl cv3_148.1 cv3_148.2 (wrap_u64 (by omega) (by omega))) rfl ?_; refine za (zp (r := .int .i64 0) L rfl rfl (zg rfl) rfl rfl rfl (fun u H hH _ _ => bitslen_ret (n := 0) (by omega) hH)) rfl ?_; refine za (ok_call (φ := fun _ _ => True) L rfl rfl (zg rfl) rfl rfl rfl (fun _ _ _ _ _ => trivial) (fun u H hH _ _ => pdqN_ret hH)) rfl ?_; refine zh ?_
  exact N_ret0 L rfl (fun _ _ h => h) Since.refl
end Go.V.So
namespace Go.V.L39
open Go.Proofs Go.RowKit Go.V
def cntR (v : Int) (l : List It) : Nat := l.countP fun x => decide (x.rv = v)
def revsF (acc : List Int) (l : List It) : List Int := l.foldl (fun acc x => if x.rv ∈ acc then acc else acc ++ [x.rv]) acc
def revs (l : List It) : List Int := revsF [] l
theorem revs_snoc (l : List It) (x : It) : revs (l ++ [x]) = if x.rv ∈ revs l then revs l else revs l ++ [x.rv] := by
  unfold revs revsF
  rw [List.foldl_append]
  rfl
theorem cntR_snoc (v : Int) (l : List It) (x : It) : cntR v (l ++ [x]) = cntR v l + if x.rv = v then 1 else 0 := by
  unfold cntR
  rw [List.countP_append, List.countP_cons, List.countP_nil, Nat.zero_add]
  by_cases h : x.rv = v
  · rw [if_pos h, if_pos (decide_eq_true h)]
  · rw [if_neg h, if_neg (by simpa using h)]
theorem mem_revs (l : List It) : ∀ v, v ∈ revs l ↔ 0 < cntR v l := by
  suffices ∀ (m : List It) (l : List It), (∀ v, v ∈ revs l ↔ 0 < cntR v l) → ∀ v, v ∈ revs (l ++ m) ↔ 0 < cntR v (l ++ m) by
    simpa using this l [] (fun v => by simp [revs, revsF, cntR])
  intro m
  induction m with
  | nil => intro l h; simpa using h
  | cons x m ih =>
    intro l h
    have := ih (l ++ [x]) fun v => by
      rw [revs_snoc, cntR_snoc]
      by_cases hx : x.rv ∈ revs l
      · rw [if_pos hx, h]
        have h2 := (h x.rv).1 hx
        by_cases hv : x.rv = v
        · subst hv; rw [if_pos rfl]; omega
        · rw [if_neg hv]; omega
      · rw [if_neg hx, List.mem_append, List.mem_singleton, h]
        by_cases hv : x.rv = v
        · subst hv; rw [if_pos rfl]; simp
        · rw [if_neg hv]
          constructor
          · rintro (h3 | h3)
            · omega
            · exact absurd h3.symm hv
          · intro h3; exact .inl (by omega)
    simpa using this
theorem revs_len (l : List It) : (revs l).length ≤ l.length := by
  suffices ∀ (m : List It) (acc : List Int), (revsF acc m).length ≤ acc.length + m.length by simpa [revs] using this l []
  intro m
  induction m with
  | nil => intro acc; exact Nat.le_refl _
  | cons x m ih =>
    intro acc
    refine Nat.le_trans (ih _) ?_
    dsimp only
    split <;> simp <;> omega
def SeenR (l : List It) (a : List (Int × Int)) : Prop := ∀ v, mget v a = if cntR v l = 0 then none else some (cntR v l : Int)
theorem seenr_nil : SeenR [] [] := fun _ => rfl
theorem seenr_get {l : List It} {a : List (Int × Int)} (h : SeenR l a) (v : Int) : (mget v a).elim (.int .i64 0) (Value.int .i64) = .int .i64 (cntR v l) := by
  rw [h]
  split
  · rename_i h1; rw [h1]; rfl
  · rfl
theorem seenr_put {l : List It} {a : List (Int × Int)} (h : SeenR l a) (x : It) : SeenR (l ++ [x]) (mput x.rv (cntR x.rv l + 1 : Nat) a) := fun v => by
  rw [mget_put, h, cntR_snoc]
  by_cases hv : v = x.rv
  · subst hv; rw [if_pos rfl, if_pos rfl, if_neg (by omega)]
  · rw [if_neg hv, show (if x.rv = v then 1 else 0) = 0 from if_neg (fun e => hv e.symm), Nat.add_zero]
def srtR (l : List It) : List Int := (Go.Sort.sort So.lt (revs l).toArray).toList
def pins (l : List It) : List (Int × Nat) := (srtR l).map fun v => (v, cntR v l)
def pnc (p : Int × Nat) : List Value := [.int .u64 p.1, .int .i64 (p.2 : Int)]
theorem pnc_len (p : Int × Nat) : (pnc p).length = 2 := rfl
theorem pnc_plain (l : List (Int × Nat)) : (l.flatMap pnc).all plainV = true := by
  rw [List.all_eq_true]
  intro v hv
  obtain ⟨x, _, hx⟩ := List.mem_flatMap.1 hv
  simp only [pnc, List.mem_cons, List.mem_nil_iff, or_false] at hx
  rcases hx with rfl | rfl <;> rfl
theorem allI_take {l : List Fl} {i : Nat} {f : Fl} (h : l[i]? = some f) : allI (l.take (i + 1)) = allI (l.take i) ++ f.is := by rw [take_snoc h]; simp [allI]
def PinsP (ps : List (Int × Nat)) (e : Int) : Value → Heap → Prop := fun v H => ∃ sv, v = .tuple #[sv, .int .i64 e] ∧ SlV tyP 2 (ps.flatMap pnc) ps.length true sv H
theorem PinsP.mono {l : List (Int × Nat)} {e : Int} : Kn.mono (.sat (PinsP l e)) := fun _ _ _ ⟨sv, h1, h2⟩ hle => ⟨sv, h1, h2.le hle⟩
theorem u64_und : Try.prog.underlying 31 = some (.int .u64) := by kernel_rfl
theorem mpu_und : Try.prog.underlying 123 = some (.map 31 3) := by kernel_rfl
theorem mpi_zero (w : World) : (zeroValue 3).run Try.prog w = .ok (.int .i64 0) w := Try.zeroValue3 w
theorem rev_snoc {κ : Kap} {s : Nat} {r : List Int} {x : Int} (h : κ s = some (.own (SlR So.tyU 1 (r.length + 1) (r.map (Value.int .u64) ++ [.int .u64 x])))) : κ s = some (.own (SlR So.tyU 1 (r ++ [x]).length ((r ++ [x]).map (Value.int .u64)))) := by
  rw [h, List.map_append, List.length_append]; rfl
theorem pin_snoc {κ : Kap} {s : Nat} {r : List (Int × Nat)} {x : Int} {c : Nat} (h : κ s = some (.own (SlR tyP 2 (r.length + 1) (r.flatMap pnc ++ [.int .u64 x, .int .i64 (c : Int)])))) : κ s = some (.own (SlR tyP 2 (r ++ [(x, c)]).length ((r ++ [(x, c)]).flatMap pnc))) := by
  rw [h, List.flatMap_append, List.length_append]; rfl
theorem rv_plain (l : List Int) : (l.map (Value.int .u64)).all plainV = true := by
  rw [List.all_eq_true]
  intro v hv
  obtain ⟨x, _, rfl⟩ := List.mem_map.1 hv
  rfl
theorem rv_at {l : List Int} {i : Nat} {x : Int} (h : l[i]? = some x) : ((l.map (Value.int .u64)).drop (i * 1)).take 1 = [.int .u64 x] := by
  rw [Nat.mul_one, List.drop_eq_getElem_cons (by rw [List.length_map]; exact get_lt h), List.take_succ_cons, List.take_zero, List.getElem_map]
  congr 2
  have hi := get_lt h
  rw [List.getElem?_eq_getElem hi] at h
  exact Option.some.inj h
attribute [local irreducible] V N X VO Par StepOK Has Ret RetL RetO RetT RetG RetX Src
theorem ownP1_ret {xs : List Value} {n : Nat} {fa : Bool} {a v : Value} {w : World} {B : Heap} (ha : SlV tyP 2 xs n fa a B) (px : xs.all plainV = true) (hl : n ≤ 50000) (hB : B.Le (hp w)) (hv : SlB [a] 70 1 v B) :
    Ret Try.prog 59 [v] w B (SlN B tyP 2 xs n true) := by
  have h := ownP_ret (lsts1 ha px) (by simp) (by simpa [nXs] using hl) hB hv
  have e1 : nXs [(xs, n)] = n := by simp [nXs]
  have e2 : cXs [(xs, n)] = xs := by simp [cXs]
  rw [e1, e2] at h
  exact h.toN hB
theorem sortR_ret {l : List Int} {rest : List Value} {b m cap : Nat} (hm : l.length = m) (hm1 : m ≤ 100000) {w : World} {B : Heap} {C : Nat → Prop} (hB : B.Le (hp w)) (hr : (GHeld b (l.map (Value.int .u64) ++ rest) So.tyU).P B w C) (hC : ∀ k, C k → k < w.heap.size ∧ B k = none) :
    RetG Try.prog 58 [.slice (some ⟨b, 0, none⟩) m cap] w B C (GHeld b ((Go.Sort.sort So.lt l.toArray).toList.map (Value.int .u64) ++ rest) So.tyU) :=
  So.sortU_ret (d := l.toArray) (rest := rest) hm hm1 hB hr hC
theorem srt_len (l : List It) : (srtR l).length = (revs l).length := by
  have := (Go.Sort.sort_sorts So.lt Go.Sort.swo_ltInt (revs l).toArray).1.1
  unfold srtR
  rw [Array.length_toList, this, List.size_toArray]
set_option maxHeartbeats 4000000 in
set_option maxRecDepth 20000 in
theorem pins_ret {t : Tb} {zs : List (Fl × Value)} (hz : zs.map Prod.fst = t.fl) {fu fi : Bool} {s : Value} {w : World} {B : Heap} (hs : FsB zs fu fi s B) (hZ : ∀ f ∈ t.fl, QuZ f.q) (hn : itsN t.fl ≤ 4611686018427387904) (hB : B.Le (hp w)) :
    Ret Try.prog 28 [tbv t.nx s] w B (PinsP (if chkE t = 0 then pins (allI t.fl) else []) (chkE t)) := by
  have hsl := hs.sl
  have hlen := fls_len hz
  have hzl := hs.ln
  obtain ⟨e, hc⟩ : ∃ e, chkE t = e := ⟨_, rfl⟩
  rw [hc]
  refine y0 Try.func28 rfl Try.ntmps28 (Nat.le_of_ble_eq_true rfl) hB ?_
  by_cases h0 : e = 0
  · subst h0
    have h1024 := chk_its hc
    rw [if_pos rfl]
    refine zf ?_; refine zd (id := 0) ?_; refine za (qp rfl rfl rfl rfl) rfl ?_; refine za (ze rfl rfl rfl) rfl ?_; refine za (ze rfl rfl rfl) rfl ?_; refine zh ?_; refine zj ?_; refine zf ?_; refine zf ?_; refine zd (id := 1) ?_; refine za (zt L (vs := [_, _]) (zn rfl) rfl rfl rfl rfl ⟨_, rfl⟩) rfl ?_; refine za (zp L rfl rfl (zg rfl) rfl rfl rfl (fun u H hH hle _ => check_ret hz (hs.le hle) hZ hn hc hH)) rfl ?_; refine za (ze rfl rfl rfl) rfl ?_; refine zh ?_; refine zj ?_; refine zf ?_; refine zd (id := 2) ?_; refine za (zc rfl rfl rfl) rfl ?_; refine za (q9 rfl rfl rfl rfl (decide_eq_false (by omega))) rfl ?_; refine zh ?_; refine zj ?_; refine zo rfl ?_; refine zu ?_; refine zj ?_; refine zf ?_; refine zd (id := 4) ?_; refine za (ok_makeMapI (Y := Int) .u64 (Value.int .i64) rfl rfl) rfl ?_; refine qg (ok_moveO (.inr rfl) rfl rfl rfl rfl) ?_; refine zh ?_; refine zj ?_; refine zf ?_
    refine V_holdMi 5 900 rfl fun b => ?_
    refine zd (id := 5) ?_; refine za (ze rfl rfl rfl) rfl ?_; refine zh ?_; refine zj ?_; refine zf ?_; refine zf ?_; refine zd (id := 6) ?_; refine za (zk L rfl rfl rfl rfl) rfl ?_; refine za (StepOK.seeV (zl L (zn rfl) rfl rfl rfl rfl) (by assumption)) rfl ?_; refine za (y7 L rfl rfl rfl rfl) rfl ?_; refine za (zc rfl rfl rfl) rfl ?_; refine zh ?_; refine zj ?_; refine q7 ?_
    refine V_nilR 6 So.tyU 1 rfl ?_
    refine V_loop (fun x : Nat × List (Int × Int) => [(5, .is (.map (some b))), (6, .own (SlR So.tyU 1 (revs (allI (t.fl.take x.1))).length ((revs (allI (t.fl.take x.1))).map (Value.int .u64)))), (21, .sat (SlV tyF 14 (zs.flatMap flc) zs.length fu)), (22, .is (.int .i64 zs.length)), (23, .is (.int .i64 x.1)), (900, .own (MapHi b .u64 (Value.int .i64) x.2))]) (fun x => x.1 ≤ zs.length ∧ SeenR (allI (t.fl.take x.1)) x.2) (fun x => zs.length - x.1) (0, []) ⟨Nat.zero_le _, seenr_nil⟩ ⟨rfl, rfl, rfl, rfl, rfl, rfl, trivial⟩ ?_
    rintro ⟨i, a⟩ ⟨hi, hsn⟩
    dsimp only at hi hsn ⊢
    by_cases hlt : i < zs.length
    · obtain ⟨f, pp, c, hzi, hli, hzv, hil, hc14⟩ := hs.at hz hlt
      have hat := allI_take hli
      have hfl : f.is.length ≤ itsN t.fl := is_le (fls_mem hli)
      have hal : (allI (t.fl.take i)).length + f.is.length ≤ itsN t.fl := by
        have h1 := itsN_take hli
        have h2 := itsN_le t.fl (i + 1)
        rw [itsN_allI]; omega
      generalize allI (t.fl.take i) = pre at *
      refine zf ?_; refine zd (id := 7) ?_; refine za (zy rfl rfl rfl rfl (decide_eq_true (by omega))) rfl ?_; refine zh ?_; refine zj ?_; refine zf ?_; refine zw rfl ?_; refine zu ?_; refine zj ?_; refine zf ?_; refine q7 ?_; refine zf ?_; refine zd (id := 8) ?_; refine za (ql L _ rfl rfl rfl rfl rfl rfl rfl (by first | omega | decide) (by assumption)) rfl ?_; refine za (yb L (vs := [_, _, _, _, _, _, _, _, _, _, _, _, _, _]) rfl rfl rfl rfl rfl ⟨_, rfl⟩) rfl ?_; refine za (qq L rfl rfl rfl rfl) rfl ?_; refine za (qo L rfl rfl rfl rfl rfl rfl rfl rfl) rfl ?_; refine zh ?_; refine zj ?_; refine zf ?_
      refine V_pub 8 rfl ?_
      refine zd (id := 9) ?_; refine za (zk L rfl rfl rfl rfl) rfl ?_; refine za (StepOK.seeV (zl L (zn rfl) rfl rfl rfl rfl) (by assumption)) rfl ?_; refine za (y7 L rfl rfl rfl rfl) rfl ?_; refine za (zc rfl rfl rfl) rfl ?_; refine zh ?_; refine zj ?_; refine q7 ?_
      refine V_loop (fun y : Nat × List (Int × Int) => [(5, .is (.map (some b))), (6, .own (SlR So.tyU 1 (revs (pre ++ f.is.take y.1)).length ((revs (pre ++ f.is.take y.1)).map (Value.int .u64)))), (21, .sat (SlV tyF 14 (zs.flatMap flc) zs.length fu)), (22, .is (.int .i64 zs.length)), (23, .is (.int .i64 i)), (28, .sat (IsV f.is fi)), (29, .is (.int .i64 f.is.length)), (30, .is (.int .i64 y.1)), (900, .own (MapHi b .u64 (Value.int .i64) y.2))]) (fun y => y.1 ≤ f.is.length ∧ SeenR (pre ++ f.is.take y.1) y.2) (fun y => f.is.length - y.1) (0, a) ⟨Nat.zero_le _, by simpa using hsn⟩ ⟨rfl, by rw [List.take_zero, List.append_nil]; rfl, rfl, rfl, rfl, rfl, rfl, rfl, rfl, trivial⟩ ?_
      rintro ⟨k, a2⟩ ⟨hk, hsk⟩
      dsimp only at hk hsk ⊢
      by_cases hkl : k < f.is.length
      · obtain ⟨x, hx⟩ := get_some hkl
        have hc := it_at hx
        have hst : pre ++ f.is.take (k + 1) = (pre ++ f.is.take k) ++ [x] := by rw [take_snoc hx, List.append_assoc]
        have hrl := revs_len (pre ++ f.is.take k)
        have hmr := mem_revs (pre ++ f.is.take k) x.rv
        have hcl : cntR x.rv (pre ++ f.is.take k) ≤ (pre ++ f.is.take k).length := List.countP_le_length
        have hpl2 : (pre ++ f.is.take k).length ≤ itsN t.fl := by rw [List.length_append, List.length_take]; omega
        have hgr := seenr_get hsk x.rv
        have hpt := seenr_put hsk x
        have hrs := revs_snoc (pre ++ f.is.take k) x
        rw [← hst] at hpt hrs
        have hpln := rv_plain (revs (pre ++ f.is.take k))
        have hrl2 : ((revs (pre ++ f.is.take k)).map (Value.int .u64)).length = (revs (pre ++ f.is.take k)).length * 1 := by rw [List.length_map, Nat.mul_one]
        have had : IntKind.i64.wrap ((cntR x.rv (pre ++ f.is.take k) : Int) + 1) = ((cntR x.rv (pre ++ f.is.take k) + 1 : Nat) : Int) := wrap_i64 (by omega) (by omega) |>.trans (by omega)
        by_cases h0 : cntR x.rv (pre ++ f.is.take k) = 0
        · rw [if_neg (fun h => by have := hmr.1 h; omega)] at hrs
          refine zf ?_; refine zd (id := 10) ?_; refine za (zy rfl rfl rfl rfl (decide_eq_true (by omega))) rfl ?_; refine zh ?_; refine zj ?_; refine zf ?_; refine zw rfl ?_; refine zu ?_; refine zj ?_; refine zf ?_; refine q7 ?_; refine zf ?_; refine zd (id := 11) ?_; refine za (ql L _ rfl rfl rfl rfl rfl rfl rfl (by first | omega | decide) (by assumption)) rfl ?_; refine za (yb L (vs := [_, _, _, _, _]) rfl rfl rfl rfl rfl ⟨_, rfl⟩) rfl ?_; refine za (qq L rfl rfl rfl rfl) rfl ?_; refine za (qo L rfl rfl rfl rfl rfl rfl rfl rfl) rfl ?_; refine zh ?_; refine zj ?_; refine zf ?_; refine zf ?_
          refine V_pub 10 rfl ?_
          refine zd (id := 12) ?_; refine za (zc rfl rfl rfl) rfl ?_; refine za (zk L rfl rfl rfl rfl) rfl ?_; refine za (zl L (zn rfl) rfl rfl rfl rfl) rfl ?_; refine vo_stepR (ok_lookupI (q := 900) x.rv mpu_und u64_und mpi_zero rfl rfl rfl rfl rfl hgr) ?_; refine za (qn rfl rfl rfl rfl (decide_eq_true (by omega))) rfl ?_; refine zh ?_; refine zj ?_; refine zw rfl ?_; refine zd (id := 13) ?_; refine qg (ok_moveO (.inl rfl) rfl rfl rfl rfl) ?_; refine za (zk L rfl rfl rfl rfl) rfl ?_; refine za (zl L (zn rfl) rfl rfl rfl rfl) rfl ?_; refine za (y1 L rfl rfl rfl rfl rfl rfl rfl rfl rfl) rfl ?_; refine qg (ok_append L rfl rfl rfl (apd_B rfl) rfl el31 rfl rfl (by omega) (by omega)) ?_; refine qg (ok_moveO (.inr rfl) rfl rfl rfl rfl) ?_; refine zh ?_; refine zj ?_; refine zd (id := 14) ?_; refine za (zc rfl rfl rfl) rfl ?_; refine za (zk L rfl rfl rfl rfl) rfl ?_; refine za (zl L (zn rfl) rfl rfl rfl rfl) rfl ?_; refine vo_stepR (ok_lookupI (q := 900) x.rv mpu_und u64_und mpi_zero rfl rfl rfl rfl rfl hgr) ?_; refine za (q8 rfl rfl rfl rfl (by assumption)) rfl ?_; refine vo_stepS (ok_mapUpdI (q := 900) x.rv ((cntR x.rv (pre ++ f.is.take k) + 1 : Nat) : Int) mpu_und u64_und rfl rfl rfl rfl rfl rfl rfl) ?_; refine zh ?_; refine qs ?_; refine zj ?_; refine zd (id := 15) ?_; refine za (q8 rfl rfl rfl rfl (wrap_i64 (by omega) (by omega))) rfl ?_; refine za (zc rfl rfl rfl) rfl ?_; refine zh ?_
          exact qw (x := (k, a2)) (k + 1, mput x.rv ((cntR x.rv (pre ++ f.is.take k) + 1 : Nat) : Int) a2) ⟨hkl, hpt⟩ (by dsimp only; omega) ⟨rfl, by rw [hrs]; exact rev_snoc rfl, rfl, rfl, rfl, rfl, rfl, rfl, rfl, trivial⟩
        · rw [if_pos (hmr.2 (by omega))] at hrs
          refine zf ?_; refine zd (id := 10) ?_; refine za (zy rfl rfl rfl rfl (decide_eq_true (by omega))) rfl ?_; refine zh ?_; refine zj ?_; refine zf ?_; refine zw rfl ?_; refine zu ?_; refine zj ?_; refine zf ?_; refine q7 ?_; refine zf ?_; refine zd (id := 11) ?_; refine za (ql L _ rfl rfl rfl rfl rfl rfl rfl (by first | omega | decide) (by assumption)) rfl ?_; refine za (yb L (vs := [_, _, _, _, _]) rfl rfl rfl rfl rfl ⟨_, rfl⟩) rfl ?_; refine za (qq L rfl rfl rfl rfl) rfl ?_; refine za (qo L rfl rfl rfl rfl rfl rfl rfl rfl) rfl ?_; refine zh ?_; refine zj ?_; refine zf ?_; refine zf ?_
          refine V_pub 10 rfl ?_
          refine zd (id := 12) ?_; refine za (zc rfl rfl rfl) rfl ?_; refine za (zk L rfl rfl rfl rfl) rfl ?_; refine za (zl L (zn rfl) rfl rfl rfl rfl) rfl ?_; refine vo_stepR (ok_lookupI (q := 900) x.rv mpu_und u64_und mpi_zero rfl rfl rfl rfl rfl hgr) ?_; refine za (qn rfl rfl rfl rfl (decide_eq_false (by omega))) rfl ?_; refine zh ?_; refine zj ?_; refine zo rfl ?_; refine zu ?_; refine zj ?_; refine zd (id := 14) ?_; refine za (zc rfl rfl rfl) rfl ?_; refine za (zk L rfl rfl rfl rfl) rfl ?_; refine za (zl L (zn rfl) rfl rfl rfl rfl) rfl ?_; refine vo_stepR (ok_lookupI (q := 900) x.rv mpu_und u64_und mpi_zero rfl rfl rfl rfl rfl hgr) ?_; refine za (q8 rfl rfl rfl rfl (by assumption)) rfl ?_; refine vo_stepS (ok_mapUpdI (q := 900) x.rv ((cntR x.rv (pre ++ f.is.take k) + 1 : Nat) : Int) mpu_und u64_und rfl rfl rfl rfl rfl rfl rfl) ?_; refine zh ?_; refine qs ?_; refine zj ?_; refine zd (id := 15) ?_; refine za (q8 rfl rfl rfl rfl (wrap_i64 (by omega) (by omega))) rfl ?_; refine za (zc rfl rfl rfl) rfl ?_; refine zh ?_
          exact qw (x := (k, a2)) (k + 1, mput x.rv ((cntR x.rv (pre ++ f.is.take k) + 1 : Nat) : Int) a2) ⟨hkl, hpt⟩ (by dsimp only; omega) ⟨rfl, by rw [hrs]; rfl, rfl, rfl, rfl, rfl, rfl, rfl, rfl, trivial⟩
      · obtain rfl : k = f.is.length := by omega
        rw [List.take_length] at hsk ⊢
        refine zf ?_; refine zd (id := 10) ?_; refine za (zy rfl rfl rfl rfl (decide_eq_false (by omega))) rfl ?_; refine zh ?_; refine zj ?_; refine zf ?_; refine zo rfl ?_; refine y6 ?_; refine qf ?_; refine qf ?_; refine y5 ?_; refine qs ?_; refine zj ?_; refine zd (id := 16) ?_; refine za (q8 rfl rfl rfl rfl (wrap_i64 (by omega) (by omega))) rfl ?_; refine za (zc rfl rfl rfl) rfl ?_; refine zh ?_
        exact qw (x := (i, a)) (i + 1, a2) ⟨hlt, by dsimp only; rw [hat]; exact hsk⟩ (by dsimp only; omega) ⟨rfl, by rw [hat]; rfl, rfl, rfl, rfl, rfl, trivial⟩
    · obtain rfl : i = zs.length := by omega
      rw [hlen, List.take_length] at hsn ⊢
      have hal : (allI t.fl).length ≤ 1024 := by rw [itsN_allI]; exact h1024
      have hrl := revs_len (allI t.fl)
      have hsl2 := srt_len (allI t.fl)
      refine zf ?_; refine zd (id := 7) ?_; refine za (zy rfl rfl rfl rfl (decide_eq_false (by omega))) rfl ?_; refine zh ?_; refine zj ?_; refine zf ?_; refine zo rfl ?_; refine y6 ?_; refine qf ?_; refine qf ?_; refine y5 ?_; refine zj ?_; refine zf ?_
      refine V_holdR 6 901 rfl (fun hm0 _ => ?_) fun br cap rest hrl2 hmc hcm hcl => ?_
      · have hp0 : pins (allI t.fl) = [] := by
          unfold pins
          rw [List.eq_nil_of_length_eq_zero (hsl2.trans hm0)]; rfl
        rw [hp0]
        refine zd (id := 17) ?_; refine za (zc rfl rfl rfl) rfl ?_; refine za (ok_call (φ := fun _ _ => True) L rfl rfl (zg rfl) rfl rfl rfl (fun _ _ _ _ _ => trivial) (fun u H hH _ _ => So.sortN_ret hH)) rfl ?_; refine zh ?_; refine zj ?_; refine zf ?_; refine zd (id := 18) ?_; refine za (ze rfl rfl rfl) rfl ?_; refine zh ?_; refine zj ?_; refine zf ?_; refine zf ?_; refine zd (id := 19) ?_; refine za (zc rfl rfl rfl) rfl ?_; refine za (ok_lenL L rfl rfl rfl rfl) rfl ?_; refine za (zc rfl rfl rfl) rfl ?_; refine zh ?_; refine zj ?_; refine q7 ?_
        refine V_loop (fun _ : Nat => [(11, .is (.slice none 0 0)), (54, .is (.int .i64 0)), (55, .is (.int .i64 0))]) (fun _ => True) (fun _ => 0) 0 trivial ⟨rfl, rfl, rfl, trivial⟩ ?_
        rintro _ _
        refine V_nilR 11 tyP 2 rfl ?_
        refine V_pubR 11 rfl ?_
        refine zf ?_; refine zd (id := 20) ?_; refine za (zy rfl rfl rfl rfl (decide_eq_false (by omega))) rfl ?_; refine zh ?_; refine zj ?_; refine zf ?_; refine zo rfl ?_; refine y6 ?_; refine qf ?_; refine qf ?_; refine y5 ?_; refine zj ?_; refine zf ?_; refine zd (id := 24) ?_; refine za (qb rfl rfl rfl) rfl ?_; refine za (ok_buildSliceS L (OneL tyP 2 [] 0 70) rfl rfl rfl rfl rfl rfl rfl OneL.mono (fun H hle v hv => by obtain ⟨p', c', rfl⟩ := slv_sh hv; exact ⟨rfl, fun v2 H2 hle2 h2 => ⟨_, _, h2, hv.le hle2⟩⟩)) rfl ?_; refine za (ok_call (φ := SlV tyP 2 [] 0 true) L rfl rfl (zg rfl) rfl rfl rfl SlV.mono (fun u H hH hle _ v hv => by obtain ⟨sl, fa, h1, h2⟩ := hv; exact Ret.mono (ownP1_ret h2 rfl (by omega) hH h1) fun v H' _ h => h.1)) rfl ?_; refine za (ok_assigns' rfl rfl rfl) rfl ?_; refine za (ze rfl rfl rfl) rfl ?_; refine zh ?_; refine zj ?_
        refine qd L (rs := [.tmp 2, .tmp 3]) rfl (fun _ _ h => h) Since.refl fun u H hH hle => ?_
        exact fun v hv => ⟨_, rfl, hv⟩
      · refine zd (id := 17) ?_; refine za (zc rfl rfl rfl) rfl ?_; refine qg (ok_callG L 901 (GHeld br ((srtR (allI t.fl)).map (Value.int .u64) ++ rest) So.tyU) (r := GHeld br ((revs (allI t.fl)).map (Value.int .u64) ++ rest) So.tyU) rfl rfl rfl rfl rfl (fun u H C hH _ hr hC => sortR_ret rfl (by omega) hH hr hC)) ?_; refine zh ?_; refine zj ?_; refine zf ?_
        refine V_pubH 901 rfl fun H6 s6 hnb hb6 => ?_
        have hsv : SlV So.tyU 1 ((srtR (allI t.fl)).map (Value.int .u64)) (revs (allI t.fl)).length false (.slice (some ⟨br, 0, none⟩) (revs (allI t.fl)).length cap) H6 := ⟨by rw [List.length_map, hsl2, Nat.mul_one], .inr ⟨br, 0, cap, _, _, (0, 0), rfl, hb6, by show (((srtR (allI t.fl)).map (Value.int .u64) ++ rest).drop 0).take ((srtR (allI t.fl)).map (Value.int .u64)).length = _; rw [List.drop_zero, List.take_left], hmc, fun h => by cases h⟩⟩
        refine V_seen 6 (SlV So.tyU 1 ((srtR (allI t.fl)).map (Value.int .u64)) (revs (allI t.fl)).length false) rfl SlV.mono hsv ?_
        refine zd (id := 18) ?_; refine za (ze rfl rfl rfl) rfl ?_; refine zh ?_; refine zj ?_; refine zf ?_; refine zf ?_
        refine V_nilR 11 tyP 2 rfl ?_
        refine zd (id := 19) ?_; refine za (qb rfl rfl rfl) rfl ?_; refine za (y7 L rfl rfl rfl rfl) rfl ?_; refine za (zc rfl rfl rfl) rfl ?_; refine zh ?_; refine zj ?_; refine q7 ?_
        obtain ⟨m, hm⟩ : ∃ m, m = (revs (allI t.fl)).length := ⟨_, rfl⟩
        rw [← hm] at hsl2 hrl ⊢
        refine V_loop (fun i : Nat => [(5, .is (.map (some b))), (11, .own (SlR tyP 2 ((pins (allI t.fl)).take i).length (((pins (allI t.fl)).take i).flatMap pnc))), (53, .sat (SlV So.tyU 1 ((srtR (allI t.fl)).map (Value.int .u64)) m false)), (54, .is (.int .i64 m)), (55, .is (.int .i64 i)), (900, .own (MapHi b .u64 (Value.int .i64) a))]) (fun i => i ≤ m) (fun i => m - i) 0 (Nat.zero_le _) ⟨rfl, rfl, rfl, rfl, rfl, rfl, trivial⟩ ?_
        rintro i hi
        have hpl : (pins (allI t.fl)).length = m := by unfold pins; rw [List.length_map]; exact hsl2
        have hti : ((pins (allI t.fl)).take i).length = i := by rw [List.length_take]; omega
        by_cases hlt : i < m
        · obtain ⟨x, hx⟩ := get_some (show i < (srtR (allI t.fl)).length by omega)
          have hc := rv_at hx
          have hgr := seenr_get hsn x
          have hpx : (pins (allI t.fl))[i]? = some (x, cntR x (allI t.fl)) := by unfold pins; rw [List.getElem?_map, hx]; rfl
          have hts := take_snoc hpx
          have hpp := pnc_plain ((pins (allI t.fl)).take i)
          have hfl2 := flatMap_len pnc_len ((pins (allI t.fl)).take i)
          refine zf ?_; refine zd (id := 20) ?_; refine za (zy rfl rfl rfl rfl (decide_eq_true (by omega))) rfl ?_; refine zh ?_; refine zj ?_; refine zf ?_; refine zw rfl ?_; refine zu ?_; refine zj ?_; refine zf ?_; refine q7 ?_; refine zf ?_; refine zd (id := 21) ?_; refine za (ql L _ rfl rfl rfl rfl rfl rfl rfl (by first | omega | decide) (by assumption)) rfl ?_; refine za (y9 L rfl rfl rfl rfl rfl) rfl ?_; refine za (ze rfl rfl rfl) rfl ?_; refine zh ?_; refine zj ?_; refine zd (id := 22) ?_; refine qg (ok_moveO (.inl rfl) rfl rfl rfl rfl) ?_; refine za (zc rfl rfl rfl) rfl ?_; refine za (zc rfl rfl rfl) rfl ?_; refine za (zc rfl rfl rfl) rfl ?_; refine vo_stepR (ok_lookupI (q := 900) x mpu_und u64_und mpi_zero rfl rfl rfl rfl rfl hgr) ?_; refine za (y8 (cs := [_, _]) rfl rfl pl74 rfl rfl) rfl ?_; refine za (y1 L rfl rfl rfl rfl rfl rfl rfl rfl rfl) rfl ?_; refine qg (ok_append L rfl rfl rfl (apd_B rfl) rfl el74 rfl rfl (by omega) (by omega)) ?_; refine qg (ok_moveO (.inr rfl) rfl rfl rfl rfl) ?_; refine zh ?_; refine qs ?_; refine zj ?_; refine zd (id := 23) ?_; refine za (q8 rfl rfl rfl rfl (wrap_i64 (by omega) (by omega))) rfl ?_; refine za (zc rfl rfl rfl) rfl ?_; refine zh ?_
          exact N_roundS (x := i) (i + 1) Since.refl hlt (by omega) ⟨rfl, by rw [hts]; exact pin_snoc rfl, rfl, rfl, rfl, rfl, trivial⟩
        · obtain rfl : i = m := by omega
          rw [List.take_of_length_le (by omega)]
          have hpp := pnc_plain (pins (allI t.fl))
          refine V_pubR 11 rfl ?_
          refine zf ?_; refine zd (id := 20) ?_; refine za (zy rfl rfl rfl rfl (decide_eq_false (by omega))) rfl ?_; refine zh ?_; refine zj ?_; refine zf ?_; refine zo rfl ?_; refine y6 ?_; refine qf ?_; refine qf ?_; refine y5 ?_; refine zj ?_; refine zf ?_; refine zd (id := 24) ?_; refine za (qb rfl rfl rfl) rfl ?_; refine za (ok_buildSliceS L (OneL tyP 2 ((pins (allI t.fl)).flatMap pnc) (pins (allI t.fl)).length 70) rfl rfl rfl rfl rfl rfl rfl OneL.mono (fun H hle v hv => by obtain ⟨p', c', rfl⟩ := slv_sh hv; exact ⟨rfl, fun v2 H2 hle2 h2 => ⟨_, _, h2, hv.le hle2⟩⟩)) rfl ?_; refine za (ok_call (φ := SlV tyP 2 ((pins (allI t.fl)).flatMap pnc) (pins (allI t.fl)).length true) L rfl rfl (zg rfl) rfl rfl rfl SlV.mono (fun u H hH hle _ v hv => by obtain ⟨sl, fa, h1, h2⟩ := hv; exact Ret.mono (ownP1_ret h2 hpp (by omega) hH h1) fun v H' _ h => h.1)) rfl ?_; refine za (ok_assigns' rfl rfl rfl) rfl ?_; refine za (ze rfl rfl rfl) rfl ?_; refine zh ?_; refine zj ?_
          refine qd L (rs := [.tmp 2, .tmp 3]) rfl (fun _ _ h => h) s6 fun u H hH hle => ?_
          exact fun v hv => ⟨_, rfl, hv⟩
  · rw [if_neg h0]
    refine zf ?_; refine zd (id := 0) ?_; refine za (qp rfl rfl rfl rfl) rfl ?_; refine za (ze rfl rfl rfl) rfl ?_; refine za (ze rfl rfl rfl) rfl ?_; refine zh ?_; refine zj ?_; refine zf ?_; refine zf ?_; refine zd (id := 1) ?_; refine za (zt L (vs := [_, _]) (zn rfl) rfl rfl rfl rfl ⟨_, rfl⟩) rfl ?_; refine za (zp L rfl rfl (zg rfl) rfl rfl rfl (fun u H hH hle _ => check_ret hz (hs.le hle) hZ hn hc hH)) rfl ?_; refine za (ze rfl rfl rfl) rfl ?_; refine zh ?_; refine zj ?_; refine zf ?_; refine zd (id := 2) ?_; refine za (zc rfl rfl rfl) rfl ?_; refine za (q9 rfl rfl rfl rfl (decide_eq_true (by omega))) rfl ?_; refine zh ?_; refine zj ?_; refine zw rfl ?_; refine zf ?_; refine zd (id := 3) ?_; refine za (zc rfl rfl rfl) rfl ?_; refine za (ze rfl rfl rfl) rfl ?_; refine za (ze rfl rfl rfl) rfl ?_; refine zh ?_; refine zj ?_
    refine qd L (rs := [.tmp 2, .tmp 3]) rfl (fun _ _ h => h) Since.refl fun u H hH hle => ?_
    exact ⟨_, rfl, rfl, .inl ⟨rfl, _, rfl⟩⟩
end Go.V.L39
namespace Go.V.L39
open Go.Proofs Go.RowKit Go.V
theorem tup3 {φ1 φ2 φ3 : Value → Heap → Prop} {a b c : Value} {H : Heap} (h1 : φ1 a H) (h2 : φ2 b H) (h3 : φ3 c H) : TupS [φ1, φ2, φ3] (.tuple #[a, b, c]) H := ⟨[a, b, c], rfl, rfl, fun i φ x hi hx => by
  match i with
  | 0 => cases hi; cases hx; exact h1
  | 1 => cases hi; cases hx; exact h2
  | 2 => cases hi; cases hx; exact h3
  | i + 3 => cases hi⟩
theorem TbN.r {B : Heap} {t : Tb} {v : Value} {H : Heap} (h : TbN B t v H) : TbR t v H := let ⟨zs, s, h1, h2, h3, _, _⟩ := h; ⟨zs, s, h1, h2, h3.nofu⟩
theorem TabP.tup {B : Heap} {t : Tb} {e : Int} {v : Value} {H : Heap} (h : TabP B t e v H) : RTabS t e v H := by
  obtain ⟨tv, rfl, h⟩ := h
  exact tup2 h.r rfl
abbrev JoinS (r : Tb × Int × Bool) (e : Int) : Value → Heap → Prop := TupS [TbR r.1, fun v _ => v = .int .i64 r.2.1, fun v _ => v = .bool r.2.2, fun v _ => v = .int .i64 e]
theorem JoinS.mono {r : Tb × Int × Bool} {e : Int} : Kn.mono (.sat (JoinS r e)) := TupS.mono fun φ h => by
  simp only [List.mem_cons, List.mem_nil_iff, or_false] at h
  rcases h with rfl | rfl | rfl | rfl
  · exact TbR.mn
  · exact eqv_mono
  · exact eqv_mono
  · exact eqv_mono
theorem JoinP.tup {B : Heap} {r : Tb × Int × Bool} {e : Int} {v : Value} {H : Heap} (h : JoinP B r e v H) : JoinS r e v H := by
  obtain ⟨tv, rfl, h⟩ := h
  exact tup4 h.r rfl rfl rfl
def FlR (f : Fl) (v : Value) (H : Heap) : Prop := ∃ sv, v = flv f sv ∧ IsV f.is true sv H
theorem FlR.mn {f : Fl} : Kn.mono (.sat (FlR f)) := fun _ _ _ ⟨sv, h1, h2⟩ hle => ⟨sv, h1, h2.le hle⟩
abbrev FindS (f : Fl) (e : Int) : Value → Heap → Prop := TupS [FlR f, fun v _ => v = .int .i64 e]
theorem FindS.mono {f : Fl} {e : Int} : Kn.mono (.sat (FindS f e)) := TupS.mono fun φ h => by
  simp only [List.mem_cons, List.mem_nil_iff, or_false] at h
  rcases h with rfl | rfl
  · exact FlR.mn
  · exact eqv_mono
theorem FindP.tup {B : Heap} {f : Fl} {e : Int} {v : Value} {H : Heap} (h : FindP B f e v H) : FindS f e v H := by
  obtain ⟨sv, rfl, h⟩ := h
  exact tup2 ⟨sv, rfl, h.1⟩ rfl
abbrev LandS (t : Tb) (f : Fl) (e : Int) : Value → Heap → Prop := TupS [TbR t, FlR f, fun v _ => v = .int .i64 e]
theorem LandS.mono {t : Tb} {f : Fl} {e : Int} : Kn.mono (.sat (LandS t f e)) := TupS.mono fun φ h => by
  simp only [List.mem_cons, List.mem_nil_iff, or_false] at h
  rcases h with rfl | rfl | rfl
  · exact TbR.mn
  · exact FlR.mn
  · exact eqv_mono
theorem LandP.tup {B : Heap} {t : Tb} {f : Fl} {e : Int} {v : Value} {H : Heap} (h : LandP B t f e v H) : LandS t f e v H := by
  obtain ⟨tv, sv, rfl, h1, h2⟩ := h
  exact tup3 h1.r ⟨sv, rfl, h2.1⟩ rfl
abbrev PinsS (ps : List (Int × Nat)) (e : Int) : Value → Heap → Prop := TupS [SlV tyP 2 (ps.flatMap pnc) ps.length true, fun v _ => v = .int .i64 e]
theorem PinsS.mono {ps : List (Int × Nat)} {e : Int} : Kn.mono (.sat (PinsS ps e)) := TupS.mono fun φ h => by
  simp only [List.mem_cons, List.mem_nil_iff, or_false] at h
  rcases h with rfl | rfl
  · exact SlV.mono
  · exact eqv_mono
theorem PinsP.tup {ps : List (Int × Nat)} {e : Int} {v : Value} {H : Heap} (h : PinsP ps e v H) : PinsS ps e v H := by
  obtain ⟨sv, rfl, h⟩ := h
  exact tup2 h rfl
def flxC (f : Fl) (x : SlX) : List Value := flc (f, .slice x.1 x.2.1 x.2.2)
def FlX (f : Fl) (x : SlX) (H : Heap) : Prop := IsV f.is true (.slice x.1 x.2.1 x.2.2) H
theorem FlX.mono {f : Fl} : MonoX (FlX f) := fun _ _ _ h hle => by
  unfold FlX IsV at *
  exact SlV.le h hle
theorem flx_st {f : Fl} : ∀ v H, FlR f v H → ∃ x, FlX f x H ∧ cellsL v = flxC f x := fun v H ⟨sv, h1, h2⟩ => by
  obtain ⟨p, c, hsv⟩ := slv_sh h2
  subst h1 hsv
  exact ⟨(p, f.is.length, c), h2, rfl⟩
theorem flx_pl {f : Fl} (x : SlX) : (flxC f x).length = 14 ∧ (flxC f x).all plainV = true := ⟨rfl, rfl⟩
end Go.V.L39
namespace Go.V.L39
open Go.Proofs Go.RowKit Go.V
structure TZ39 (t : Tb) : Prop where
  q : ∀ f ∈ t.fl, QuZ f.q
  x : ∀ f ∈ t.fl, ∀ x ∈ f.is, 0 ≤ x.rv
theorem tz_zero : TZ39 T0 := ⟨fun f h => (by cases h), fun f h => (by cases h)⟩
theorem tz_join {t : Tb} (h : TZ39 t) {q : Qu} (hq : QuZ q) {rv : Int} {x : It} (hx : 0 ≤ x.rv) {rd : Int} {lo : Bool} : TZ39 (joinT t q rv x rd lo).1 := by
  by_cases he : joinE t q rv x rd lo = 0
  · cases hi : t.fl.findIdx? (hitB q rv lo) with
    | none =>
      rw [jTn he hi]
      refine ⟨fun f hf => ?_, fun f hf y hy => ?_⟩
      · rcases List.mem_append.1 hf with h1 | h1
        · exact h.q f h1
        · rw [List.mem_singleton.1 h1]; exact hq
      · rcases List.mem_append.1 hf with h1 | h1
        · exact h.x f h1 y hy
        · rw [List.mem_singleton.1 h1] at hy
          rw [List.mem_singleton.1 hy]; exact hx
    | some i =>
      obtain ⟨f0, hf0⟩ := get_some (List.findIdx?_eq_some_iff_getElem.1 hi).1
      rw [jTh he hi hf0]
      have key : ∀ f ∈ t.fl.modify i (addI x), ∃ g ∈ t.fl, f = g ∨ f = addI x g := fun f hf => by
        obtain ⟨j, hj⟩ := List.getElem?_of_mem hf
        rw [List.getElem?_modify] at hj
        cases hl : t.fl[j]? with
        | none => rw [hl] at hj; cases hj
        | some g =>
          rw [hl] at hj
          refine ⟨g, fls_mem hl, ?_⟩
          by_cases hij : i = j
          · right; simpa [hij] using hj.symm
          · left; simpa [hij] using hj.symm
      refine ⟨fun f hf => ?_, fun f hf y hy => ?_⟩
      · obtain ⟨g, hg, rfl | rfl⟩ := key f hf
        · exact h.q _ hg
        · exact h.q g hg
      · obtain ⟨g, hg, rfl | rfl⟩ := key f hf
        · exact h.x _ hg y hy
        · rcases List.mem_append.1 hy with h1 | h1
          · exact h.x g hg y h1
          · rw [List.mem_singleton.1 h1]; exact hx
  · rw [jT0 he]; exact tz_zero
theorem tz_cm {t : Tb} (h : TZ39 t) {id st : Int} : TZ39 (cmT t id st) := by
  unfold cmT
  split
  · exact tz_zero
  · refine ⟨fun f hf => ?_, fun f hf y hy => ?_⟩
    · obtain ⟨g, hg, rfl⟩ := List.mem_map.1 hf
      split
      · exact h.q g hg
      · exact h.q g hg
    · obtain ⟨g, hg, rfl⟩ := List.mem_map.1 hf
      split at hy
      · exact h.x g hg y hy
      · exact h.x g hg y hy
theorem tz_ld {t : Tb} (h : TZ39 t) {id : Int} : TZ39 (ldT t id) := by
  unfold ldT
  split
  · exact tz_zero
  · exact ⟨fun f hf => h.q f (List.mem_filter.1 hf).1, fun f hf => h.x f (List.mem_filter.1 hf).1⟩
theorem lv_tz : ∀ i, TZ39 (lvT i)
  | 0 => tz_zero
  | i + 1 => tz_join (lv_tz i) (by unfold lvQ; split <;> exact qS_z _) (by
    rcases i with _ | _ | _ | i
    · exact (by decide : (0 : Int) ≤ 1)
    · exact (by decide : (0 : Int) ≤ 1)
    · exact (by decide : (0 : Int) ≤ 2)
    · exact (by decide : (0 : Int) ≤ 1))
end Go.V.L39
namespace Go.V.L39
open Go.Proofs Go.RowKit Go.V
theorem lv_n : ∀ i, i < 5 → itsN (lvT i).fl ≤ 4 ∧ (lvT i).fl.length ≤ 3 := by decide +kernel
theorem lv_cnt : ckE (lvT 4) 0 = 0 ∧ cntB (fun x => decide (x.cl = 0)) (lvT 4).fl = 3 ∧ chkE (lvT 4) = 0 ∧ pins (allI (lvT 4).fl) = [(1, 3), (2, 1)] := by decide +kernel
theorem lv_n2 : itsN (cmT (lvT 4) 0 7).fl ≤ 4 ∧ (cmT (lvT 4) 0 7).fl.length ≤ 3 ∧ itsN lvU.fl ≤ 4 ∧ lvU.fl.length ≤ 3 := by decide +kernel
theorem lv_n3 : itsN lvV.fl ≤ 4 ∧ lvV.fl.length ≤ 3 := by decide +kernel
def lvW : Tb := (joinT lvV (qS 0) 1 ⟨3, 0, 1, 0, 1⟩ 5 true).1
abbrev LvK (t : Tb) (id : Int) (md : Bool) (e : Int) : Value → Heap → Prop := TupS [TbR t, fun v _ => v = .int .i64 id, fun v _ => v = .bool md, fun v _ => v = .int .i64 e]
theorem LvK.mono {t : Tb} {id : Int} {md : Bool} {e : Int} : Kn.mono (.sat (LvK t id md e)) := TupS.mono fun φ h => by
  simp only [List.mem_cons, List.mem_nil_iff, or_false] at h
  rcases h with rfl | rfl | rfl | rfl
  · exact TbR.mn
  · exact eqv_mono
  · exact eqv_mono
  · exact eqv_mono
theorem lv_qz (i : Nat) : QuZ (lvQ i) := by unfold lvQ; split <;> exact qS_z _
abbrev LvJ (t : Tb) (id : Int) (md : Bool) : Value → Heap → Prop := TupS [TbR t, fun v _ => v = .int .i64 id, fun v _ => v = .bool md, fun v _ => v = .int .i64 0]
theorem LvJ.mono {t : Tb} {id : Int} {md : Bool} : Kn.mono (.sat (LvJ t id md)) := TupS.mono fun φ h => by
  simp only [List.mem_cons, List.mem_nil_iff, or_false] at h
  rcases h with rfl | rfl | rfl | rfl
  · exact TbR.mn
  · exact eqv_mono
  · exact eqv_mono
  · exact eqv_mono
theorem lv_tup {B H : Heap} {i : Nat} {v : Value} (hi : i < 4) (h : JoinP B (joinT (lvT i) (lvQ i) (lvI i).rv (lvI i) 5 false) (joinE (lvT i) (lvQ i) (lvI i).rv (lvI i) 5 false) v H) : LvJ (lvT (i + 1)) (([0, 0, 1, 2] : List Int)[i]?.getD 0) (decide (i ≠ 1)) v H := by
  obtain ⟨e1, e2⟩ := lv_join i hi
  have h3 := JoinP.tup h
  unfold JoinS at h3
  rw [e1, e2] at h3
  exact h3
attribute [local irreducible] V N X VO Par StepOK Has Ret RetL RetO RetT RetG Src
set_option maxHeartbeats 8000000 in
set_option maxRecDepth 20000 in
theorem lives_law {w : World} {B : Heap} (hB : B.Le (hp w)) : Ret Try.prog 10 [] w B (fun v _ => v = .bool true) := by
  refine y0 Try.func10 rfl Try.ntmps10 (Nat.le_of_ble_eq_true rfl) hB ?_
  refine zf ?_; refine zd (id := 0) ?_; refine za (ze rfl rfl rfl) rfl ?_; refine zh ?_; refine zj ?_; refine zf ?_; refine zd (id := 1) ?_; refine za (zp L rfl rfl (zg rfl) rfl rfl rfl (fun u H hH _ _ => pair_law hH)) rfl ?_; refine za (zc rfl rfl rfl) rfl ?_; refine za (y2 rfl rfl rfl rfl) rfl ?_; refine za (y2 rfl rfl rfl rfl) rfl ?_; refine za (qq L rfl rfl rfl rfl) rfl ?_; refine za (qq L rfl rfl rfl rfl) rfl ?_; refine za (qo L rfl rfl rfl rfl rfl rfl rfl rfl) rfl ?_; refine za (qo L rfl rfl rfl rfl rfl rfl rfl rfl) rfl ?_; refine zh ?_; refine zj ?_; refine zf ?_; refine zd (id := 2) ?_; refine za (qq L rfl rfl rfl rfl) rfl ?_; refine zh ?_; refine zj ?_; refine zf ?_; refine zd (id := 3) ?_; refine za (zt L (vs := [_, _, _, _, _, _]) (qh rfl) rfl rfl rfl rfl ⟨_, rfl⟩) rfl ?_; refine za (zt L (vs := [_, _, _, _, _, _]) (qh rfl) rfl rfl rfl rfl ⟨_, rfl⟩) rfl ?_; refine za (zt L (vs := [_, _, _, _, _, _]) (qh rfl) rfl rfl rfl rfl ⟨_, rfl⟩) rfl ?_; refine za (zt L (vs := [_, _, _, _, _, _]) (qh rfl) rfl rfl rfl rfl ⟨_, rfl⟩) rfl ?_; refine za (y1 L rfl rfl rfl rfl rfl rfl rfl rfl rfl) rfl ?_; refine za (ok_assigns' rfl rfl rfl) rfl ?_; refine zh ?_; refine zj ?_; refine zf ?_; refine zd (id := 4) ?_; refine za (y8 (cs := [_, _, _, _, _]) rfl rfl pl33 rfl rfl) rfl ?_; refine za (y8 (cs := [_, _, _, _, _]) rfl rfl pl33 rfl rfl) rfl ?_; refine za (y8 (cs := [_, _, _, _, _]) rfl rfl pl33 rfl rfl) rfl ?_; refine za (y8 (cs := [_, _, _, _, _]) rfl rfl pl33 rfl rfl) rfl ?_; refine za (y1 L rfl rfl rfl rfl rfl rfl rfl rfl rfl) rfl ?_; refine za (ok_assigns' rfl rfl rfl) rfl ?_; refine zh ?_; refine zj ?_; refine zf ?_; refine zd (id := 5) ?_; refine za (zt L (vs := [_, _]) (qh rfl) rfl rfl rfl rfl ⟨_, rfl⟩) rfl ?_; refine za (qq L rfl rfl rfl rfl) rfl ?_; refine za (qo L rfl rfl rfl rfl rfl rfl rfl rfl) rfl ?_; refine zh ?_; refine zj ?_; refine zf ?_; refine zf ?_; refine zd (id := 6) ?_; refine za (ze rfl rfl rfl) rfl ?_; refine zh ?_; refine zj ?_; refine q7 ?_
  refine V_clsX 3 TbX.mono ((none, 0, 0) : SlX) (show TbX (lvT 0) (none, 0, 0) B from ⟨[], rfl, fsb_nil rfl⟩) (r := fun x : SlX => Cell (tbxC (lvT 0) x) tyT) rfl ?_
  refine V_clsX 6 TbX.mono ((none, 0, 0) : SlX) (show TbX (lvT 0) (none, 0, 0) B from ⟨[], rfl, fsb_nil rfl⟩) (r := fun x : SlX => Cell (tbxC (lvT 0) x) tyT) rfl ?_
  refine V_loop (fun i : Nat => [(0, .is (.bool false)), (1, .own (Cell [.int .u8 (qS 0).kd, .string (qS 0).g.1.1, .string (qS 0).g.1.2, .string (qS 0).g.2, .string (qS 0).u.1, .string (qS 0).u.2] tyQ)), (2, .own (Cell [.int .u8 (qS 1).kd, .string (qS 1).g.1.1, .string (qS 1).g.1.2, .string (qS 1).g.2, .string (qS 1).u.1, .string (qS 1).u.2] tyQ)), (3, .own (ExR (fun x : SlX => Cell (tbxC (lvT i) x) tyT) (TbX (lvT i)) TbX.mono)), (4, .sat (SlB [.int .u8 (qS 0).kd, .string (qS 0).g.1.1, .string (qS 0).g.1.2, .string (qS 0).g.2, .string (qS 0).u.1, .string (qS 0).u.2, .int .u8 (qS 0).kd, .string (qS 0).g.1.1, .string (qS 0).g.1.2, .string (qS 0).g.2, .string (qS 0).u.1, .string (qS 0).u.2, .int .u8 (qS 0).kd, .string (qS 0).g.1.1, .string (qS 0).g.1.2, .string (qS 0).g.2, .string (qS 0).u.1, .string (qS 0).u.2, .int .u8 (qS 1).kd, .string (qS 1).g.1.1, .string (qS 1).g.1.2, .string (qS 1).g.2, .string (qS 1).u.1, .string (qS 1).u.2] tyQ 4)), (5, .sat (SlB [.int .i64 0, .int .i64 0, .int .i64 0, .int .i64 2, .int .u64 1, .int .i64 1, .int .i64 0, .int .i64 3, .int .i64 1, .int .u64 1, .int .i64 2, .int .i64 0, .int .i64 0, .int .i64 0, .int .u64 2, .int .i64 2, .int .i64 1, .int .i64 0, .int .i64 0, .int .u64 1] tyI 4)), (6, .own (ExR (fun x : SlX => Cell (tbxC (lvT (min i 1)) x) tyT) (TbX (lvT (min i 1))) TbX.mono)), (7, .is (.int .i64 i))]) (fun i => i ≤ 4) (fun i => 4 - i) 0 (Nat.zero_le _) ⟨rfl, rfl, rfl, rfl, rfl, rfl, rfl, rfl, trivial⟩ ?_
  rintro i hi
  by_cases hlt : i < 4
  · refine V_opnX 3 rfl fun ⟨p1, n1, c1⟩ H1 s1 ⟨zs, hz, hs⟩ => ?_
    dsimp only [tbxC] at hs ⊢
    obtain ⟨hn4, hl3⟩ := lv_n i (by omega)
    have hlen := fls_len hz
    have hn : itsN (lvT i).fl ≤ 4611686018427387904 := by omega
    rcases (by omega : i = 0 ∨ i = 1 ∨ i = 2 ∨ i = 3) with rfl | rfl | rfl | rfl
    · have hm := TbR.mn (t := lvT 1)
      refine zf ?_; refine zf ?_; refine zd (id := 7) ?_; refine za (zc rfl rfl rfl) rfl ?_; refine za (zy rfl rfl rfl rfl (decide_eq_true (by omega))) rfl ?_; refine zh ?_; refine zj ?_; refine zw rfl ?_; refine zu ?_; refine zj ?_; refine zf ?_; refine q7 ?_; refine zf ?_; refine q0 (id := 9) [] mixed (by kernel_rfl) ?_; refine zb (zt L (vs := [_, _]) (qh rfl) rfl rfl rfl rfl ⟨_, rfl⟩) rfl ?_; refine zb (qb rfl rfl rfl) rfl ?_; refine zb (zc rfl rfl rfl) rfl ?_; refine zb (ya L 0 rfl rfl rfl rfl rfl rfl rfl (by omega)) rfl ?_; refine zb (zt L (vs := [_, _, _, _, _, _]) (zn rfl) rfl rfl rfl rfl ⟨_, rfl⟩) rfl ?_; refine zb (qb rfl rfl rfl) rfl ?_; refine zb (zc rfl rfl rfl) rfl ?_; refine zb (ya L 0 rfl rfl rfl rfl rfl rfl rfl (by omega)) rfl ?_; refine zb (zk L rfl rfl rfl rfl) rfl ?_; refine zb (zl L (zn rfl) rfl rfl rfl rfl) rfl ?_; refine zb (qb rfl rfl rfl) rfl ?_; refine zb (zc rfl rfl rfl) rfl ?_; refine zb (ya L 0 rfl rfl rfl rfl rfl rfl rfl (by omega)) rfl ?_; refine zb (zt L (vs := [_, _, _, _, _]) (zn rfl) rfl rfl rfl rfl ⟨_, rfl⟩) rfl ?_; refine zb (ok_call (φ := LvJ (lvT 1) 0 true) L rfl rfl (zg rfl) rfl rfl rfl LvJ.mono (fun u H hH hle _ => Ret.mono (join_ret (q := lvQ 0) (x := lvI 0) hz (hs.le hle) (lv_tz 0).q (lv_qz _) hn (by omega) hH) fun v H' _ h => lv_tup (i := 0) (by decide) h)) rfl ?_; refine zb (qb rfl rfl rfl) rfl ?_; refine zb (yd rfl rfl rfl rfl (by assumption)) rfl ?_; refine zb (qz rfl rfl rfl rfl) rfl ?_; refine zb (qz rfl rfl rfl rfl) rfl ?_; refine zb (qz rfl rfl rfl rfl) rfl ?_; refine zb (qq L rfl rfl rfl rfl) rfl ?_; refine zb (ok_storeX L (X := SlX) (tbxC (lvT 1)) (TbX (lvT 1)) TbX.mono tbx_st (fun _ => ⟨rfl, rfl⟩) rfl rfl rfl rfl rfl) rfl ?_; refine zb (ze rfl rfl rfl) rfl ?_; refine zb (ze rfl rfl rfl) rfl ?_; refine zb (ze rfl rfl rfl) rfl ?_; refine qe ?_; refine zj ?_; refine zf ?_; refine zf ?_
      refine V_opnX 8 rfl fun ⟨p2, n2, c2⟩ H2 s2 h2 => ?_
      refine V_opnX 6 rfl fun ⟨p6, n6, c6⟩ H6 s6 _ => ?_
      replace h2 := TbX.mono _ _ _ h2 s6.le
      dsimp only [tbxC]
      refine zd (id := 10) ?_; refine za (zc rfl rfl rfl) rfl ?_; refine za (q9 rfl rfl rfl rfl (decide_eq_false (by omega))) rfl ?_; refine za (zc rfl rfl rfl) rfl ?_; refine za (zc rfl rfl rfl) rfl ?_; refine za (y1 L rfl rfl rfl rfl rfl rfl rfl rfl rfl) rfl ?_; refine za (zc rfl rfl rfl) rfl ?_; refine za (ya L 0 rfl rfl rfl rfl rfl rfl rfl (by omega)) rfl ?_; refine za (zl L (zn rfl) rfl rfl rfl rfl) rfl ?_; refine za (q9 rfl rfl rfl rfl (decide_eq_false (by omega))) rfl ?_; refine za (zm rfl rfl rfl rfl) rfl ?_; refine za (zc rfl rfl rfl) rfl ?_; refine za (zc rfl rfl rfl) rfl ?_; refine za (zc rfl rfl rfl) rfl ?_; refine za (q9 rfl rfl rfl rfl (decide_eq_true (by omega))) rfl ?_; refine za (ok_bneq rfl rfl rfl rfl bt4 rfl) rfl ?_; refine za (zm rfl rfl rfl rfl) rfl ?_; refine zh ?_; refine zj ?_; refine zo rfl ?_; refine zu ?_; refine zj ?_; refine zf ?_; refine zd (id := 12) ?_; refine za (zt L (vs := [_, _]) (qh rfl) rfl rfl rfl rfl ⟨_, rfl⟩) rfl ?_; refine za (qo L rfl rfl rfl rfl rfl rfl rfl rfl) rfl ?_; refine zh ?_; refine zj ?_; refine zf ?_; refine zd (id := 13) ?_; refine za (zc rfl rfl rfl) rfl ?_; refine za (qn rfl rfl rfl rfl (decide_eq_true (by omega))) rfl ?_; refine zh ?_; refine zj ?_; refine zw rfl ?_; refine zd (id := 14) ?_; refine za (zt L (vs := [_, _]) (qh rfl) rfl rfl rfl rfl ⟨_, rfl⟩) rfl ?_; refine za (qo L rfl rfl rfl rfl rfl rfl rfl rfl) rfl ?_; refine zh ?_; refine qs ?_; refine zj ?_; refine zd (id := 8) ?_; refine za (zc rfl rfl rfl) rfl ?_; refine za (q8 rfl rfl rfl rfl (wrap_i64 (by omega) (by omega))) rfl ?_; refine za (ze rfl rfl rfl) rfl ?_; refine zh ?_
      refine N_clsX 3 TbX.mono ((p2, n2, c2) : SlX) h2 (r := fun x : SlX => Cell (tbxC (lvT 1) x) tyT) rfl ?_
      refine N_clsX 6 TbX.mono ((p2, n2, c2) : SlX) h2 (r := fun x : SlX => Cell (tbxC (lvT 1) x) tyT) rfl ?_
      exact N_roundS (x := 0) 1 ((s1.trans s2).trans s6) (by decide) (by decide) ⟨rfl, rfl, rfl, rfl, rfl, rfl, rfl, rfl, trivial⟩
    · have hm := TbR.mn (t := lvT 2)
      refine zf ?_; refine zf ?_; refine zd (id := 7) ?_; refine za (zc rfl rfl rfl) rfl ?_; refine za (zy rfl rfl rfl rfl (decide_eq_true (by omega))) rfl ?_; refine zh ?_; refine zj ?_; refine zw rfl ?_; refine zu ?_; refine zj ?_; refine zf ?_; refine q7 ?_; refine zf ?_; refine q0 (id := 9) [] mixed (by kernel_rfl) ?_; refine zb (zt L (vs := [_, _]) (qh rfl) rfl rfl rfl rfl ⟨_, rfl⟩) rfl ?_; refine zb (qb rfl rfl rfl) rfl ?_; refine zb (zc rfl rfl rfl) rfl ?_; refine zb (ya L _ rfl rfl rfl rfl rfl rfl rfl (by omega)) rfl ?_; refine zb (zt L (vs := [_, _, _, _, _, _]) (zn rfl) rfl rfl rfl rfl ⟨_, rfl⟩) rfl ?_; refine zb (qb rfl rfl rfl) rfl ?_; refine zb (zc rfl rfl rfl) rfl ?_; refine zb (ya L _ rfl rfl rfl rfl rfl rfl rfl (by omega)) rfl ?_; refine zb (zk L rfl rfl rfl rfl) rfl ?_; refine zb (zl L (zn rfl) rfl rfl rfl rfl) rfl ?_; refine zb (qb rfl rfl rfl) rfl ?_; refine zb (zc rfl rfl rfl) rfl ?_; refine zb (ya L _ rfl rfl rfl rfl rfl rfl rfl (by omega)) rfl ?_; refine zb (zt L (vs := [_, _, _, _, _]) (zn rfl) rfl rfl rfl rfl ⟨_, rfl⟩) rfl ?_; refine zb (ok_call (φ := LvJ (lvT 2) 0 false) L rfl rfl (zg rfl) rfl rfl rfl LvJ.mono (fun u H hH hle _ => Ret.mono (join_ret (q := lvQ 1) (x := lvI 1) hz (hs.le hle) (lv_tz 1).q (lv_qz _) hn (by omega) hH) fun v H' _ h => lv_tup (i := 1) (by decide) h)) rfl ?_; refine zb (qb rfl rfl rfl) rfl ?_; refine zb (yd rfl rfl rfl rfl (by assumption)) rfl ?_; refine zb (qz rfl rfl rfl rfl) rfl ?_; refine zb (qz rfl rfl rfl rfl) rfl ?_; refine zb (qz rfl rfl rfl rfl) rfl ?_; refine zb (qq L rfl rfl rfl rfl) rfl ?_; refine zb (ok_storeX L (X := SlX) (tbxC (lvT 2)) (TbX (lvT 2)) TbX.mono tbx_st (fun _ => ⟨rfl, rfl⟩) rfl rfl rfl rfl rfl) rfl ?_; refine zb (ze rfl rfl rfl) rfl ?_; refine zb (ze rfl rfl rfl) rfl ?_; refine zb (ze rfl rfl rfl) rfl ?_; refine qe ?_; refine zj ?_; refine zf ?_; refine zf ?_
      refine V_opnX 8 rfl fun ⟨p2, n2, c2⟩ H2 s2 h2 => ?_
      dsimp only [tbxC]
      refine zd (id := 10) ?_; refine za (zc rfl rfl rfl) rfl ?_; refine za (q9 rfl rfl rfl rfl (decide_eq_false (by omega))) rfl ?_; refine za (zc rfl rfl rfl) rfl ?_; refine za (zc rfl rfl rfl) rfl ?_; refine za (y1 L rfl rfl rfl rfl rfl rfl rfl rfl rfl) rfl ?_; refine za (zc rfl rfl rfl) rfl ?_; refine za (ya L _ rfl rfl rfl rfl rfl rfl rfl (by omega)) rfl ?_; refine za (zl L (zn rfl) rfl rfl rfl rfl) rfl ?_; refine za (q9 rfl rfl rfl rfl (decide_eq_false (by omega))) rfl ?_; refine za (zm rfl rfl rfl rfl) rfl ?_; refine za (zc rfl rfl rfl) rfl ?_; refine za (zc rfl rfl rfl) rfl ?_; refine za (zc rfl rfl rfl) rfl ?_; refine za (q9 rfl rfl rfl rfl (decide_eq_false (by omega))) rfl ?_; refine za (ok_bneq rfl rfl rfl rfl bt4 rfl) rfl ?_; refine za (zm rfl rfl rfl rfl) rfl ?_; refine zh ?_; refine zj ?_; refine zo rfl ?_; refine zu ?_; refine zj ?_; refine zf ?_; refine zd (id := 12) ?_; refine za (zt L (vs := [_, _]) (qh rfl) rfl rfl rfl rfl ⟨_, rfl⟩) rfl ?_; refine za (qo L rfl rfl rfl rfl rfl rfl rfl rfl) rfl ?_; refine zh ?_; refine zj ?_; refine zf ?_; refine zd (id := 13) ?_; refine za (zc rfl rfl rfl) rfl ?_; refine za (qn rfl rfl rfl rfl (decide_eq_false (by omega))) rfl ?_; refine zh ?_; refine zj ?_; refine zo rfl ?_; refine zu ?_; refine qs ?_; refine zj ?_; refine zd (id := 8) ?_; refine za (zc rfl rfl rfl) rfl ?_; refine za (q8 rfl rfl rfl rfl (wrap_i64 (by omega) (by omega))) rfl ?_; refine za (ze rfl rfl rfl) rfl ?_; refine zh ?_
      refine N_clsX 3 TbX.mono ((p2, n2, c2) : SlX) h2 (r := fun x : SlX => Cell (tbxC (lvT 2) x) tyT) rfl ?_
      exact N_roundS (x := 1) 2 (s1.trans s2) (by decide) (by decide) ⟨rfl, rfl, rfl, rfl, rfl, rfl, rfl, rfl, trivial⟩
    · have hm := TbR.mn (t := lvT 3)
      refine zf ?_; refine zf ?_; refine zd (id := 7) ?_; refine za (zc rfl rfl rfl) rfl ?_; refine za (zy rfl rfl rfl rfl (decide_eq_true (by omega))) rfl ?_; refine zh ?_; refine zj ?_; refine zw rfl ?_; refine zu ?_; refine zj ?_; refine zf ?_; refine q7 ?_; refine zf ?_; refine q0 (id := 9) [] mixed (by kernel_rfl) ?_; refine zb (zt L (vs := [_, _]) (qh rfl) rfl rfl rfl rfl ⟨_, rfl⟩) rfl ?_; refine zb (qb rfl rfl rfl) rfl ?_; refine zb (zc rfl rfl rfl) rfl ?_; refine zb (ya L _ rfl rfl rfl rfl rfl rfl rfl (by omega)) rfl ?_; refine zb (zt L (vs := [_, _, _, _, _, _]) (zn rfl) rfl rfl rfl rfl ⟨_, rfl⟩) rfl ?_; refine zb (qb rfl rfl rfl) rfl ?_; refine zb (zc rfl rfl rfl) rfl ?_; refine zb (ya L _ rfl rfl rfl rfl rfl rfl rfl (by omega)) rfl ?_; refine zb (zk L rfl rfl rfl rfl) rfl ?_; refine zb (zl L (zn rfl) rfl rfl rfl rfl) rfl ?_; refine zb (qb rfl rfl rfl) rfl ?_; refine zb (zc rfl rfl rfl) rfl ?_; refine zb (ya L _ rfl rfl rfl rfl rfl rfl rfl (by omega)) rfl ?_; refine zb (zt L (vs := [_, _, _, _, _]) (zn rfl) rfl rfl rfl rfl ⟨_, rfl⟩) rfl ?_; refine zb (ok_call (φ := LvJ (lvT 3) 1 true) L rfl rfl (zg rfl) rfl rfl rfl LvJ.mono (fun u H hH hle _ => Ret.mono (join_ret (q := lvQ 2) (x := lvI 2) hz (hs.le hle) (lv_tz 2).q (lv_qz _) hn (by omega) hH) fun v H' _ h => lv_tup (i := 2) (by decide) h)) rfl ?_; refine zb (qb rfl rfl rfl) rfl ?_; refine zb (yd rfl rfl rfl rfl (by assumption)) rfl ?_; refine zb (qz rfl rfl rfl rfl) rfl ?_; refine zb (qz rfl rfl rfl rfl) rfl ?_; refine zb (qz rfl rfl rfl rfl) rfl ?_; refine zb (qq L rfl rfl rfl rfl) rfl ?_; refine zb (ok_storeX L (X := SlX) (tbxC (lvT 3)) (TbX (lvT 3)) TbX.mono tbx_st (fun _ => ⟨rfl, rfl⟩) rfl rfl rfl rfl rfl) rfl ?_; refine zb (ze rfl rfl rfl) rfl ?_; refine zb (ze rfl rfl rfl) rfl ?_; refine zb (ze rfl rfl rfl) rfl ?_; refine qe ?_; refine zj ?_; refine zf ?_; refine zf ?_
      refine V_opnX 8 rfl fun ⟨p2, n2, c2⟩ H2 s2 h2 => ?_
      dsimp only [tbxC]
      refine zd (id := 10) ?_; refine za (zc rfl rfl rfl) rfl ?_; refine za (q9 rfl rfl rfl rfl (decide_eq_false (by omega))) rfl ?_; refine za (zc rfl rfl rfl) rfl ?_; refine za (zc rfl rfl rfl) rfl ?_; refine za (y1 L rfl rfl rfl rfl rfl rfl rfl rfl rfl) rfl ?_; refine za (zc rfl rfl rfl) rfl ?_; refine za (ya L _ rfl rfl rfl rfl rfl rfl rfl (by omega)) rfl ?_; refine za (zl L (zn rfl) rfl rfl rfl rfl) rfl ?_; refine za (q9 rfl rfl rfl rfl (decide_eq_false (by omega))) rfl ?_; refine za (zm rfl rfl rfl rfl) rfl ?_; refine za (zc rfl rfl rfl) rfl ?_; refine za (zc rfl rfl rfl) rfl ?_; refine za (zc rfl rfl rfl) rfl ?_; refine za (q9 rfl rfl rfl rfl (decide_eq_true (by omega))) rfl ?_; refine za (ok_bneq rfl rfl rfl rfl bt4 rfl) rfl ?_; refine za (zm rfl rfl rfl rfl) rfl ?_; refine zh ?_; refine zj ?_; refine zo rfl ?_; refine zu ?_; refine zj ?_; refine zf ?_; refine zd (id := 12) ?_; refine za (zt L (vs := [_, _]) (qh rfl) rfl rfl rfl rfl ⟨_, rfl⟩) rfl ?_; refine za (qo L rfl rfl rfl rfl rfl rfl rfl rfl) rfl ?_; refine zh ?_; refine zj ?_; refine zf ?_; refine zd (id := 13) ?_; refine za (zc rfl rfl rfl) rfl ?_; refine za (qn rfl rfl rfl rfl (decide_eq_false (by omega))) rfl ?_; refine zh ?_; refine zj ?_; refine zo rfl ?_; refine zu ?_; refine qs ?_; refine zj ?_; refine zd (id := 8) ?_; refine za (zc rfl rfl rfl) rfl ?_; refine za (q8 rfl rfl rfl rfl (wrap_i64 (by omega) (by omega))) rfl ?_; refine za (ze rfl rfl rfl) rfl ?_; refine zh ?_
      refine N_clsX 3 TbX.mono ((p2, n2, c2) : SlX) h2 (r := fun x : SlX => Cell (tbxC (lvT 3) x) tyT) rfl ?_
      exact N_roundS (x := 2) 3 (s1.trans s2) (by decide) (by decide) ⟨rfl, rfl, rfl, rfl, rfl, rfl, rfl, rfl, trivial⟩
    · have hm := TbR.mn (t := lvT 4)
      refine zf ?_; refine zf ?_; refine zd (id := 7) ?_; refine za (zc rfl rfl rfl) rfl ?_; refine za (zy rfl rfl rfl rfl (decide_eq_true (by omega))) rfl ?_; refine zh ?_; refine zj ?_; refine zw rfl ?_; refine zu ?_; refine zj ?_; refine zf ?_; refine q7 ?_; refine zf ?_; refine q0 (id := 9) [] mixed (by kernel_rfl) ?_; refine zb (zt L (vs := [_, _]) (qh rfl) rfl rfl rfl rfl ⟨_, rfl⟩) rfl ?_; refine zb (qb rfl rfl rfl) rfl ?_; refine zb (zc rfl rfl rfl) rfl ?_; refine zb (ya L _ rfl rfl rfl rfl rfl rfl rfl (by omega)) rfl ?_; refine zb (zt L (vs := [_, _, _, _, _, _]) (zn rfl) rfl rfl rfl rfl ⟨_, rfl⟩) rfl ?_; refine zb (qb rfl rfl rfl) rfl ?_; refine zb (zc rfl rfl rfl) rfl ?_; refine zb (ya L _ rfl rfl rfl rfl rfl rfl rfl (by omega)) rfl ?_; refine zb (zk L rfl rfl rfl rfl) rfl ?_; refine zb (zl L (zn rfl) rfl rfl rfl rfl) rfl ?_; refine zb (qb rfl rfl rfl) rfl ?_; refine zb (zc rfl rfl rfl) rfl ?_; refine zb (ya L _ rfl rfl rfl rfl rfl rfl rfl (by omega)) rfl ?_; refine zb (zt L (vs := [_, _, _, _, _]) (zn rfl) rfl rfl rfl rfl ⟨_, rfl⟩) rfl ?_; refine zb (ok_call (φ := LvJ (lvT 4) 2 true) L rfl rfl (zg rfl) rfl rfl rfl LvJ.mono (fun u H hH hle _ => Ret.mono (join_ret (q := lvQ 3) (x := lvI 3) hz (hs.le hle) (lv_tz 3).q (lv_qz _) hn (by omega) hH) fun v H' _ h => lv_tup (i := 3) (by decide) h)) rfl ?_; refine zb (qb rfl rfl rfl) rfl ?_; refine zb (yd rfl rfl rfl rfl (by assumption)) rfl ?_; refine zb (qz rfl rfl rfl rfl) rfl ?_; refine zb (qz rfl rfl rfl rfl) rfl ?_; refine zb (qz rfl rfl rfl rfl) rfl ?_; refine zb (qq L rfl rfl rfl rfl) rfl ?_; refine zb (ok_storeX L (X := SlX) (tbxC (lvT 4)) (TbX (lvT 4)) TbX.mono tbx_st (fun _ => ⟨rfl, rfl⟩) rfl rfl rfl rfl rfl) rfl ?_; refine zb (ze rfl rfl rfl) rfl ?_; refine zb (ze rfl rfl rfl) rfl ?_; refine zb (ze rfl rfl rfl) rfl ?_; refine qe ?_; refine zj ?_; refine zf ?_; refine zf ?_
      refine V_opnX 8 rfl fun ⟨p2, n2, c2⟩ H2 s2 h2 => ?_
      dsimp only [tbxC]
      refine zd (id := 10) ?_; refine za (zc rfl rfl rfl) rfl ?_; refine za (q9 rfl rfl rfl rfl (decide_eq_false (by omega))) rfl ?_; refine za (zc rfl rfl rfl) rfl ?_; refine za (zc rfl rfl rfl) rfl ?_; refine za (y1 L rfl rfl rfl rfl rfl rfl rfl rfl rfl) rfl ?_; refine za (zc rfl rfl rfl) rfl ?_; refine za (ya L _ rfl rfl rfl rfl rfl rfl rfl (by omega)) rfl ?_; refine za (zl L (zn rfl) rfl rfl rfl rfl) rfl ?_; refine za (q9 rfl rfl rfl rfl (decide_eq_false (by omega))) rfl ?_; refine za (zm rfl rfl rfl rfl) rfl ?_; refine za (zc rfl rfl rfl) rfl ?_; refine za (zc rfl rfl rfl) rfl ?_; refine za (zc rfl rfl rfl) rfl ?_; refine za (q9 rfl rfl rfl rfl (decide_eq_true (by omega))) rfl ?_; refine za (ok_bneq rfl rfl rfl rfl bt4 rfl) rfl ?_; refine za (zm rfl rfl rfl rfl) rfl ?_; refine zh ?_; refine zj ?_; refine zo rfl ?_; refine zu ?_; refine zj ?_; refine zf ?_; refine zd (id := 12) ?_; refine za (zt L (vs := [_, _]) (qh rfl) rfl rfl rfl rfl ⟨_, rfl⟩) rfl ?_; refine za (qo L rfl rfl rfl rfl rfl rfl rfl rfl) rfl ?_; refine zh ?_; refine zj ?_; refine zf ?_; refine zd (id := 13) ?_; refine za (zc rfl rfl rfl) rfl ?_; refine za (qn rfl rfl rfl rfl (decide_eq_false (by omega))) rfl ?_; refine zh ?_; refine zj ?_; refine zo rfl ?_; refine zu ?_; refine qs ?_; refine zj ?_; refine zd (id := 8) ?_; refine za (zc rfl rfl rfl) rfl ?_; refine za (q8 rfl rfl rfl rfl (wrap_i64 (by omega) (by omega))) rfl ?_; refine za (ze rfl rfl rfl) rfl ?_; refine zh ?_
      refine N_clsX 3 TbX.mono ((p2, n2, c2) : SlX) h2 (r := fun x : SlX => Cell (tbxC (lvT 4) x) tyT) rfl ?_
      exact N_roundS (x := 3) 4 (s1.trans s2) (by decide) (by decide) ⟨rfl, rfl, rfl, rfl, rfl, rfl, rfl, rfl, trivial⟩
  · obtain rfl : i = 4 := by omega
    refine V_opnX 3 rfl fun ⟨p1, n1, c1⟩ H1 s1 ⟨zs, hz, hs⟩ => ?_
    dsimp only [tbxC] at hs ⊢
    obtain ⟨hn4, hl3⟩ := lv_n 4 (by decide)
    have hlen := fls_len hz
    have hn : itsN (lvT 4).fl ≤ 4611686018427387904 := by omega
    obtain ⟨r1, r2, r3, r4, r5, r6⟩ := lv_rest
    obtain ⟨k1, k2, k3, k4⟩ := lv_cnt
    have hmf := FlR.mn (f := findF (lvT 4) 0)
    refine zf ?_; refine zf ?_; refine zd (id := 7) ?_; refine za (zc rfl rfl rfl) rfl ?_; refine za (zy rfl rfl rfl rfl (decide_eq_false (by omega))) rfl ?_; refine zh ?_; refine zj ?_; refine zo rfl ?_; refine y6 ?_; refine qf ?_; refine qf ?_; refine y5 ?_; refine zj ?_; refine zf ?_; refine zd (id := 15) ?_; refine za (zt L (vs := [_, _]) (qh rfl) rfl rfl rfl rfl ⟨_, rfl⟩) rfl ?_; refine za (ok_call (φ := FindS (findF (lvT 4) 0) 0) L rfl rfl (zg rfl) rfl rfl rfl FindS.mono (fun u H hH hle _ => Ret.mono (find_ret hz (hs.le hle) (lv_tz 4).q hn hH) fun v H' _ h => (by have h2 := FindP.tup h; rw [r1] at h2; exact h2))) rfl ?_; refine za (qb rfl rfl rfl) rfl ?_; refine za (yd rfl rfl rfl rfl (by assumption)) rfl ?_; refine za (qz rfl rfl rfl rfl) rfl ?_; refine za (qq L rfl rfl rfl rfl) rfl ?_; refine za (ok_storeX L (X := SlX) (flxC (findF (lvT 4) 0)) (FlX (findF (lvT 4) 0)) FlX.mono flx_st flx_pl rfl rfl rfl rfl rfl) rfl ?_; refine za (ze rfl rfl rfl) rfl ?_; refine zh ?_; refine zj ?_; refine zf ?_
    refine zd (id := 16) ?_; refine za (zt L (vs := [_, _]) (qh rfl) rfl rfl rfl rfl ⟨_, rfl⟩) rfl ?_; refine za (zp (r := .tuple #[.int .i64 3, .int .i64 0]) L rfl rfl (zg rfl) rfl rfl rfl (fun u H hH hle _ => Ret.mono (waiting_ret hz (hs.le hle) (lv_tz 4).q hn hH) fun v H' _ h => (by rw [h, k1, if_pos rfl, k2]; rfl))) rfl ?_; refine za (zc rfl rfl rfl) rfl ?_; refine za (y2 rfl rfl rfl rfl) rfl ?_; refine za (y2 rfl rfl rfl rfl) rfl ?_; refine za (ze rfl rfl rfl) rfl ?_; refine za (ze rfl rfl rfl) rfl ?_; refine zh ?_; refine zj ?_; refine zf ?_
    have hmp := @SlV.mono tyP 2 ([(1, 3), (2, 1)] : List (Int × Nat)).length (([(1, 3), (2, 1)] : List (Int × Nat)).flatMap pnc) true
    refine zd (id := 17) ?_; refine za (zt L (vs := [_, _]) (qh rfl) rfl rfl rfl rfl ⟨_, rfl⟩) rfl ?_; refine za (ok_call (φ := PinsS [(1, 3), (2, 1)] 0) L rfl rfl (zg rfl) rfl rfl rfl PinsS.mono (fun u H hH hle _ => Ret.mono (pins_ret hz (hs.le hle) (lv_tz 4).q hn hH) fun v H' _ h => (by have h2 := PinsP.tup h; rw [k3, if_pos rfl, k4] at h2; exact h2))) rfl ?_; refine za (qb rfl rfl rfl) rfl ?_; refine za (yd rfl rfl rfl rfl (by assumption)) rfl ?_; refine za (qz rfl rfl rfl rfl) rfl ?_; refine za (ok_assigns' rfl rfl rfl) rfl ?_; refine za (ze rfl rfl rfl) rfl ?_; refine zh ?_; refine zj ?_; refine zf ?_; refine zf ?_
    refine V_opnX 12 rfl fun ⟨p2, n2, c2⟩ H2 s2 h2 => ?_
    dsimp only [flxC]
    refine V_box 12 rfl fun b12 hb12 => ?_
    obtain ⟨f1, f2, f3, f4, f5, f6⟩ := lv_find
    have hc1 : ((([(1, 3), (2, 1)] : List (Int × Nat)).flatMap pnc).drop (0 * 2)).take 2 = [.int .u64 1, .int .i64 3] := rfl
    have hc2 : ((([(1, 3), (2, 1)] : List (Int × Nat)).flatMap pnc).drop (1 * 2)).take 2 = [.int .u64 2, .int .i64 1] := rfl
    refine zd (id := 18) ?_; refine za (zc rfl rfl rfl) rfl ?_; refine za (q9 rfl rfl rfl rfl (decide_eq_false (by omega))) rfl ?_; refine za (zc rfl rfl rfl) rfl ?_; refine za (zc rfl rfl rfl) rfl ?_; refine za (q9 rfl rfl rfl rfl (decide_eq_false (by omega))) rfl ?_; refine za (zm rfl rfl rfl rfl) rfl ?_; refine za (zc rfl rfl rfl) rfl ?_; refine za (zc rfl rfl rfl) rfl ?_; refine za (q9 rfl rfl rfl rfl (decide_eq_false (by omega))) rfl ?_; refine za (zm rfl rfl rfl rfl) rfl ?_; refine za (zc rfl rfl rfl) rfl ?_; refine za (qm L rfl rfl rfl rfl) rfl ?_; refine za (zl L (src_box rfl (List.Mem.head _)) rfl rfl rfl rfl) rfl ?_; refine za (q9 rfl rfl rfl rfl rfl) rfl ?_; refine za (zm rfl rfl rfl rfl) rfl ?_; refine za (zc rfl rfl rfl) rfl ?_; refine za (qm L rfl rfl rfl rfl) rfl ?_; refine za (zl L (src_box rfl (List.Mem.head _)) rfl rfl rfl rfl) rfl ?_; refine za (q9 rfl rfl rfl rfl rfl) rfl ?_; refine za (zm rfl rfl rfl rfl) rfl ?_; refine za (zc rfl rfl rfl) rfl ?_; refine za (qm L rfl rfl rfl rfl) rfl ?_; refine za (zl L (src_box rfl (List.Mem.head _)) rfl rfl rfl rfl) rfl ?_; refine za (q9 rfl rfl rfl rfl rfl) rfl ?_; refine za (zm rfl rfl rfl rfl) rfl ?_; refine za (zc rfl rfl rfl) rfl ?_; refine za (zc rfl rfl rfl) rfl ?_; refine za (q9 rfl rfl rfl rfl (decide_eq_false (by omega))) rfl ?_; refine za (zm rfl rfl rfl rfl) rfl ?_; refine za (zc rfl rfl rfl) rfl ?_; refine za (qb rfl rfl rfl) rfl ?_; refine za (y7 L rfl rfl rfl rfl) rfl ?_; refine za (q9 rfl rfl rfl rfl rfl) rfl ?_; refine za (zm rfl rfl rfl rfl) rfl ?_; refine za (zc rfl rfl rfl) rfl ?_; refine za (qb rfl rfl rfl) rfl ?_; refine za (ql L _ rfl rfl rfl rfl rfl rfl rfl (by first | omega | decide) (by assumption)) rfl ?_; refine za (yb L (vs := [_, _]) rfl rfl rfl rfl rfl ⟨_, rfl⟩) rfl ?_; refine za (y8 (cs := [_, _]) rfl rfl pl74 rfl rfl) rfl ?_; refine za (ok_aneq rfl rfl rfl rfl eq74 rfl rfl) rfl ?_; refine za (zm rfl rfl rfl rfl) rfl ?_; refine za (zc rfl rfl rfl) rfl ?_; refine za (qb rfl rfl rfl) rfl ?_; refine za (ql L _ rfl rfl rfl rfl rfl rfl rfl (by first | omega | decide) (by assumption)) rfl ?_; refine za (yb L (vs := [_, _]) rfl rfl rfl rfl rfl ⟨_, rfl⟩) rfl ?_; refine za (y8 (cs := [_, _]) rfl rfl pl74 rfl rfl) rfl ?_; refine za (ok_aneq rfl rfl rfl rfl eq74 rfl rfl) rfl ?_; refine za (zm rfl rfl rfl rfl) rfl ?_; refine zh ?_; refine zj ?_; refine zo rfl ?_; refine zu ?_; refine zj ?_; refine zf ?_
    have hmc := TbR.mn (t := cmT (lvT 4) 0 7)
    have hs2 := hs.le s2.le
    refine zd (id := 20) ?_; refine za (zt L (vs := [_, _]) (qh rfl) rfl rfl rfl rfl ⟨_, rfl⟩) rfl ?_; refine za (ok_call (φ := RTabS (cmT (lvT 4) 0 7) 0) L rfl rfl (zg rfl) rfl rfl rfl RTabS.mono (fun u H hH hle _ => Ret.mono (commit_ret hz (hs2.le hle) (lv_tz 4).q hn (by omega) ⟨by decide, by decide⟩ hH) fun v H' _ h => (by have h2 := TabP.tup h; rw [r2] at h2; exact h2))) rfl ?_; refine za (qb rfl rfl rfl) rfl ?_; refine za (yd rfl rfl rfl rfl (by assumption)) rfl ?_; refine za (qz rfl rfl rfl rfl) rfl ?_; refine za (qq L rfl rfl rfl rfl) rfl ?_; refine za (ok_storeX L (X := SlX) (tbxC (cmT (lvT 4) 0 7)) (TbX (cmT (lvT 4) 0 7)) TbX.mono tbx_st (fun _ => ⟨rfl, rfl⟩) rfl rfl rfl rfl rfl) rfl ?_; refine za (ze rfl rfl rfl) rfl ?_; refine zh ?_; refine zj ?_; refine zf ?_
    refine V_opnX 18 rfl fun ⟨p3, n3, c3⟩ H3 s3 ⟨zs3, hz3, hs3⟩ => ?_
    dsimp only [tbxC] at hs3 ⊢
    obtain ⟨m1, m2, m3, m4⟩ := lv_n2
    have hl3 := fls_len hz3
    have hmu := TbR.mn (t := lvU)
    refine zd (id := 21) ?_; refine za (zt L (vs := [_, _]) (qh rfl) rfl rfl rfl rfl ⟨_, rfl⟩) rfl ?_; refine za (ok_call (φ := RTabS lvU 0) L rfl rfl (zg rfl) rfl rfl rfl RTabS.mono (fun u H hH hle _ => Ret.mono (commit_ret hz3 (hs3.le hle) (tz_cm (lv_tz 4)).q (by omega) (by omega) ⟨by decide, by decide⟩ hH) fun v H' _ h => (by have h2 := TabP.tup h; rw [r3] at h2; exact h2))) rfl ?_; refine za (qb rfl rfl rfl) rfl ?_; refine za (yd rfl rfl rfl rfl (by assumption)) rfl ?_; refine za (qz rfl rfl rfl rfl) rfl ?_; refine za (ok_storeX L (X := SlX) (tbxC lvU) (TbX lvU) TbX.mono tbx_st (fun _ => ⟨rfl, rfl⟩) rfl rfl rfl rfl rfl) rfl ?_; refine za (ze rfl rfl rfl) rfl ?_; refine zh ?_; refine zj ?_; refine zf ?_
    refine V_opnX 18 rfl fun ⟨p4, n4, c4⟩ H4 s4 ⟨zs4, hz4, hs4⟩ => ?_
    dsimp only [tbxC] at hs4 ⊢
    have hl4 := fls_len hz4
    have hmv := TbR.mn (t := lvV)
    have hmg := FlR.mn (f := findF lvU 0)
    refine zd (id := 22) ?_; refine za (zt L (vs := [_, _]) (qh rfl) rfl rfl rfl rfl ⟨_, rfl⟩) rfl ?_; refine za (ok_call (φ := LandS lvV (findF lvU 0) 0) L rfl rfl (zg rfl) rfl rfl rfl LandS.mono (fun u H hH hle _ => Ret.mono (land_ret hz4 (hs4.le hle) (tz_cm (tz_cm (lv_tz 4))).q (by omega) (by omega) hH) fun v H' _ h => (by have h2 := LandP.tup h; rw [r4] at h2; exact h2))) rfl ?_; refine za (qb rfl rfl rfl) rfl ?_; refine za (yd rfl rfl rfl rfl (by assumption)) rfl ?_; refine za (yd rfl rfl rfl rfl (by assumption)) rfl ?_; refine vo_opn 161 rfl fun fv H5 s5 ⟨sv5, e5, h5⟩ => ?_; subst e5; obtain ⟨p5, c5, e6⟩ := slv_sh h5; subst e6; refine za (qz rfl rfl rfl rfl) rfl ?_; refine za (ok_storeX L (X := SlX) (tbxC lvV) (TbX lvV) TbX.mono tbx_st (fun _ => ⟨rfl, rfl⟩) rfl rfl rfl rfl rfl) rfl ?_; refine box_store L (O1 := []) rfl rfl rfl rfl rfl rfl rfl rfl rfl ?_; refine za (ze rfl rfl rfl) rfl ?_; refine zh ?_; refine zj ?_; refine zf ?_
    refine V_opnX 18 rfl fun ⟨p6, n6, c6⟩ H6 s6 ⟨zs6, hz6, hs6⟩ => ?_
    dsimp only [tbxC] at hs6 ⊢
    obtain ⟨m5, m6⟩ := lv_n3
    have hl6 := fls_len hz6
    have hzv : TZ39 lvV := tz_ld (tz_cm (tz_cm (lv_tz 4)))
    have hmw := TbR.mn (t := ldT lvV 0)
    have hmh := FlR.mn (f := findF lvV 0)
    refine zd (id := 23) ?_; refine za (zt L (vs := [_, _]) (qh rfl) rfl rfl rfl rfl ⟨_, rfl⟩) rfl ?_; refine za (ok_call (φ := LandS (ldT lvV 0) (findF lvV 0) 8) L rfl rfl (zg rfl) rfl rfl rfl LandS.mono (fun u H hH hle _ => Ret.mono (land_ret hz6 (hs6.le hle) hzv.q (by omega) (by omega) hH) fun v H' _ h => (by have h2 := LandP.tup h; rw [r5] at h2; exact h2))) rfl ?_; refine za (qb rfl rfl rfl) rfl ?_; refine za (yd rfl rfl rfl rfl (by assumption)) rfl ?_; refine za (yd rfl rfl rfl rfl (by assumption)) rfl ?_; refine za (qz rfl rfl rfl rfl) rfl ?_; refine za (qq L rfl rfl rfl rfl) rfl ?_; refine za (qq L rfl rfl rfl rfl) rfl ?_; refine za (ok_storeX L (X := SlX) (tbxC (ldT lvV 0)) (TbX (ldT lvV 0)) TbX.mono tbx_st (fun _ => ⟨rfl, rfl⟩) rfl rfl rfl rfl rfl) rfl ?_; refine za (ok_storeX L (X := SlX) (flxC (findF lvV 0)) (FlX (findF lvV 0)) FlX.mono flx_st flx_pl rfl rfl rfl rfl rfl) rfl ?_; refine za (ze rfl rfl rfl) rfl ?_; refine zh ?_; refine zj ?_; refine zf ?_; refine zf ?_
    refine zd (id := 24) ?_; refine za (zc rfl rfl rfl) rfl ?_; refine za (q9 rfl rfl rfl rfl (decide_eq_false (by omega))) rfl ?_; refine za (zc rfl rfl rfl) rfl ?_; refine za (zc rfl rfl rfl) rfl ?_; refine za (q9 rfl rfl rfl rfl (decide_eq_false (by omega))) rfl ?_; refine za (zm rfl rfl rfl rfl) rfl ?_; refine za (zc rfl rfl rfl) rfl ?_; refine za (zc rfl rfl rfl) rfl ?_; refine za (q9 rfl rfl rfl rfl (decide_eq_false (by omega))) rfl ?_; refine za (zm rfl rfl rfl rfl) rfl ?_; refine za (zc rfl rfl rfl) rfl ?_; refine za (zc rfl rfl rfl) rfl ?_; refine za (q9 rfl rfl rfl rfl (decide_eq_false (by omega))) rfl ?_; refine za (zm rfl rfl rfl rfl) rfl ?_; refine za (zc rfl rfl rfl) rfl ?_; refine za (qm L rfl rfl rfl rfl) rfl ?_; refine za (zl L (src_box rfl (List.Mem.head _)) rfl rfl rfl rfl) rfl ?_; refine za (q9 rfl rfl rfl rfl (decide_eq_false (by omega))) rfl ?_; refine za (zm rfl rfl rfl rfl) rfl ?_; refine za (zc rfl rfl rfl) rfl ?_; refine za (qm L rfl rfl rfl rfl) rfl ?_; refine za (zl L (src_box rfl (List.Mem.head _)) rfl rfl rfl rfl) rfl ?_; refine za (q9 rfl rfl rfl rfl (decide_eq_false (by omega))) rfl ?_; refine za (zm rfl rfl rfl rfl) rfl ?_; refine za (zc rfl rfl rfl) rfl ?_; refine za (qm L rfl rfl rfl rfl) rfl ?_; refine za (zl L (src_box rfl (List.Mem.head _)) rfl rfl rfl rfl) rfl ?_; refine za (ok_lenL L rfl rfl rfl rfl) rfl ?_; refine za (q9 rfl rfl rfl rfl (decide_eq_false (by omega))) rfl ?_; refine za (zm rfl rfl rfl rfl) rfl ?_; refine zh ?_; refine zj ?_; refine zo rfl ?_; refine zu ?_; refine zj ?_; refine zf ?_
    obtain ⟨j1, j2, j3, j4⟩ := lv_ends
    have hw1 := TbR.mn (t := lvW)
    refine zd (id := 26) ?_; refine za (zt L (vs := [_, _]) (qh rfl) rfl rfl rfl rfl ⟨_, rfl⟩) rfl ?_; refine za (zt L (vs := [_, _, _, _, _, _]) (qh rfl) rfl rfl rfl rfl ⟨_, rfl⟩) rfl ?_; refine za (y8 (cs := [_, _, _, _, _]) rfl rfl pl33 rfl rfl) rfl ?_; refine za (ok_call (φ := LvK lvW 1 false 0) L rfl rfl (zg rfl) rfl rfl rfl LvK.mono (fun u H hH hle _ => Ret.mono (join_ret (q := qS 0) (x := ⟨3, 0, 1, 0, 1⟩) hz6 (hs6.le hle) hzv.q (qS_z 0) (by omega) (by omega) hH) fun v H' _ h => (by have h2 := JoinP.tup h; unfold JoinS at h2; rw [j1, j2] at h2; exact h2))) rfl ?_; refine za (qb rfl rfl rfl) rfl ?_; refine za (yd rfl rfl rfl rfl (by assumption)) rfl ?_; refine za (qz rfl rfl rfl rfl) rfl ?_; refine za (qz rfl rfl rfl rfl) rfl ?_; refine za (qz rfl rfl rfl rfl) rfl ?_; refine za (qq L rfl rfl rfl rfl) rfl ?_; refine za (ok_storeX L (X := SlX) (tbxC lvW) (TbX lvW) TbX.mono tbx_st (fun _ => ⟨rfl, rfl⟩) rfl rfl rfl rfl rfl) rfl ?_; refine za (ze rfl rfl rfl) rfl ?_; refine za (ze rfl rfl rfl) rfl ?_; refine za (ze rfl rfl rfl) rfl ?_; refine zh ?_; refine zj ?_; refine zf ?_
    refine V_opnX 6 rfl fun ⟨p7, n7, c7⟩ H7 s7 ⟨zs7, hz7, hs7⟩ => ?_
    dsimp only [tbxC] at hs7 ⊢
    replace hz7 : zs7.map Prod.fst = (lvT 1).fl := hz7
    obtain ⟨m7, m8⟩ := lv_n 1 (by decide)
    have hl7 := fls_len hz7
    have hw2 := TbR.mn (t := T0)
    refine q0 (id := 27) [] mixed (by kernel_rfl) ?_; refine zb (zt L (vs := [_, _]) (qh rfl) rfl rfl rfl rfl ⟨_, rfl⟩) rfl ?_; refine zb (zt L (vs := [_, _, _, _, _, _]) (qh rfl) rfl rfl rfl rfl ⟨_, rfl⟩) rfl ?_; refine zb (qb rfl rfl rfl) rfl ?_; refine zb (ya L 0 rfl rfl rfl rfl rfl rfl rfl (by omega)) rfl ?_; refine zb (zt L (vs := [_, _, _, _, _]) (zn rfl) rfl rfl rfl rfl ⟨_, rfl⟩) rfl ?_; refine zb (ok_call (φ := LvK T0 0 false 4) L rfl rfl (zg rfl) rfl rfl rfl LvK.mono (fun u H hH hle _ => Ret.mono (join_ret (q := qS 0) (x := lvI 0) hz7 (hs7.le hle) (lv_tz 1).q (qS_z 0) (by omega) (by omega) hH) fun v H' _ h => (by have h2 := JoinP.tup h; unfold JoinS at h2; rw [jT0 (by rw [j3]; decide), j3] at h2; exact h2))) rfl ?_; refine zb (qb rfl rfl rfl) rfl ?_; refine zb (yd rfl rfl rfl rfl (by assumption)) rfl ?_; refine zb (qz rfl rfl rfl rfl) rfl ?_; refine zb (qz rfl rfl rfl rfl) rfl ?_; refine zb (qz rfl rfl rfl rfl) rfl ?_; refine zb (ze rfl rfl rfl) rfl ?_; refine qe ?_; refine zj ?_; refine zf ?_
    have hs8 := hs2.le ((((s3.le.trans s4.le).trans s5.le).trans s6.le).trans s7.le)
    refine q0 (id := 28) [] mixed (by kernel_rfl) ?_; refine zb (zt L (vs := [_, _]) (qh rfl) rfl rfl rfl rfl ⟨_, rfl⟩) rfl ?_; refine zb (y8 (cs := [_, _, _, _, _, _]) rfl rfl pl30 rfl rfl) rfl ?_; refine zb (qb rfl rfl rfl) rfl ?_; refine zb (ya L 0 rfl rfl rfl rfl rfl rfl rfl (by omega)) rfl ?_; refine zb (zt L (vs := [_, _, _, _, _]) (zn rfl) rfl rfl rfl rfl ⟨_, rfl⟩) rfl ?_; refine zb (ok_call (φ := LvK T0 0 false 10) L rfl rfl (zg rfl) rfl rfl rfl LvK.mono (fun u H hH hle _ => Ret.mono (join_ret (q := ⟨0, ((⟨#[]⟩, ⟨#[]⟩), ⟨#[]⟩), U0⟩) (x := lvI 0) hz (hs8.le hle) (lv_tz 4).q (by exact ⟨⟨by decide, by decide⟩, by decide, by decide, by decide, by decide, by decide⟩) hn (by omega) hH) fun v H' _ h => (by have h2 := JoinP.tup h; unfold JoinS at h2; rw [jT0 (by rw [j4]; decide), j4] at h2; exact h2))) rfl ?_; refine zb (qb rfl rfl rfl) rfl ?_; refine zb (yd rfl rfl rfl rfl (by assumption)) rfl ?_; refine zb (qz rfl rfl rfl rfl) rfl ?_; refine zb (qz rfl rfl rfl rfl) rfl ?_; refine zb (qz rfl rfl rfl rfl) rfl ?_; refine zb (ze rfl rfl rfl) rfl ?_; refine qe ?_; refine zj ?_; refine zf ?_
    have hw3 := TbR.mn (t := cmT (lvT 4) 1 (-1))
    refine zd (id := 29) ?_; refine za (zt L (vs := [_, _]) (qh rfl) rfl rfl rfl rfl ⟨_, rfl⟩) rfl ?_; refine za (ok_call (φ := RTabS (cmT (lvT 4) 1 (-1)) 4) L rfl rfl (zg rfl) rfl rfl rfl RTabS.mono (fun u H hH hle _ => Ret.mono (commit_ret hz (hs8.le hle) (lv_tz 4).q hn (by omega) ⟨by decide, by decide⟩ hH) fun v H' _ h => (by have h2 := TabP.tup h; rw [r6] at h2; exact h2))) rfl ?_; refine za (qb rfl rfl rfl) rfl ?_; refine za (yd rfl rfl rfl rfl (by assumption)) rfl ?_; refine za (qz rfl rfl rfl rfl) rfl ?_; refine za (ze rfl rfl rfl) rfl ?_; refine zh ?_; refine zj ?_; refine zf ?_
    refine zd (id := 30) ?_; refine za (zc rfl rfl rfl) rfl ?_; refine za (qn rfl rfl rfl rfl (decide_eq_true (by omega))) rfl ?_; refine za (zc rfl rfl rfl) rfl ?_; refine za (zc rfl rfl rfl) rfl ?_; refine za (qn rfl rfl rfl rfl (decide_eq_true (by omega))) rfl ?_; refine za (zm rfl rfl rfl rfl) rfl ?_; refine za (zc rfl rfl rfl) rfl ?_; refine za (zc rfl rfl rfl) rfl ?_; refine za (ok_not rfl rfl rfl rfl) rfl ?_; refine za (zm rfl rfl rfl rfl) rfl ?_; refine za (zc rfl rfl rfl) rfl ?_; refine za (zc rfl rfl rfl) rfl ?_; refine za (qn rfl rfl rfl rfl (decide_eq_true (by omega))) rfl ?_; refine za (zm rfl rfl rfl rfl) rfl ?_; refine za (zc rfl rfl rfl) rfl ?_; refine za (zc rfl rfl rfl) rfl ?_; refine za (qn rfl rfl rfl rfl (decide_eq_true (by omega))) rfl ?_; refine za (zm rfl rfl rfl rfl) rfl ?_; refine za (zc rfl rfl rfl) rfl ?_; refine za (zc rfl rfl rfl) rfl ?_; refine za (qn rfl rfl rfl rfl (decide_eq_true (by omega))) rfl ?_; refine za (zm rfl rfl rfl rfl) rfl ?_; refine za (ze rfl rfl rfl) rfl ?_; refine zh ?_; refine zj ?_
    refine qd L (rs := [.tmp 0]) rfl (fun _ _ h => h) ((((((s1.trans s2).trans s3).trans s4).trans s5).trans s6).trans s7) fun u H hH hle => ?_
    rfl
end Go.V.L39
namespace Go.V.L39
open Go.Proofs Go.RowKit Go.V
structure TbI (B : Heap) (t : Tb) (s : Value) (zs : List (Fl × Value)) : Prop where
  fl : zs.map Prod.fst = t.fl
  sl : SlV tyF 14 (zs.flatMap flc) zs.length false s B
  is : ∀ (i : Nat) z, zs[i]? = some z → IsV z.1.is false z.2 B
  lz : ∀ f ∈ t.fl, f.is.length ≤ 4398046511104
  tz : TZ39 t
theorem TbI.le {B B' : Heap} {t : Tb} {s : Value} {zs : List (Fl × Value)} (h : TbI B t s zs) (hle : B.Le B') : TbI B' t s zs := ⟨h.fl, h.sl.le hle, fun i z hz => (h.is i z hz).le hle, h.lz, h.tz⟩
theorem itsN_max {m : Nat} : ∀ {l : List Fl}, (∀ f ∈ l, f.is.length ≤ m) → itsN l ≤ l.length * m
  | [], _ => Nat.zero_le _
  | f :: l, h => by
    have h1 := itsN_max (l := l) fun g hg => h g (List.mem_cons_of_mem _ hg)
    have h2 := h f (List.mem_cons_self ..)
    rw [List.length_cons, Nat.succ_mul]
    simp only [itsN, List.map_cons, List.sum_cons] at h1 ⊢
    omega
theorem TbI.fsb {B : Heap} {t : Tb} {s : Value} {zs : List (Fl × Value)} (h : TbI B t s zs) (hl : zs.length ≤ 30) : FsB zs false false s B ∧ itsN t.fl ≤ 131941395333120 := by
  refine ⟨⟨h.sl, h.is, by omega, fun i z hz => ?_⟩, ?_⟩
  · have := h.lz z.1 (by rw [← h.fl]; exact List.mem_map_of_mem (List.mem_of_getElem? hz))
    omega
  · have h1 := itsN_max h.lz
    have h2 := fls_len h.fl
    have h3 : t.fl.length * 4398046511104 ≤ 30 * 4398046511104 := Nat.mul_le_mul_right _ (by omega)
    omega
attribute [local irreducible] V N X VO Par StepOK Has Ret RetL RetO RetT RetG Src
theorem bnd_long {nx : Int} {xs : List Value} {n : Nat} {fu : Bool} {s : Value} (h : 30 < n) {w : World} {B : Heap} (hs : SlV tyF 14 xs n fu s B) (hB : B.Le (hp w)) :
    Ret Try.prog 9 [tbv nx s] w B (fun v _ => v = .bool false) := by
  refine y0 Try.func9 rfl Try.ntmps9 (Nat.le_of_ble_eq_true rfl) hB ?_
  refine zf ?_; refine zd (id := 0) ?_; refine za (qp rfl rfl rfl rfl) rfl ?_; refine za (ze rfl rfl rfl) rfl ?_; refine zh ?_; refine zj ?_; refine zf ?_; refine zd (id := 1) ?_; refine za (zk L rfl rfl rfl rfl) rfl ?_; refine za (StepOK.seeV (zl L (zn rfl) rfl rfl rfl rfl) (by assumption)) rfl ?_; refine za (y7 L rfl rfl rfl rfl) rfl ?_; refine za (ok_leq rfl rfl rfl rfl (decide_eq_false (by omega))) rfl ?_; refine za (zc rfl rfl rfl) rfl ?_; refine za (zi rfl (zg rfl) rfl) rfl ?_; refine za (zi rfl (zg rfl) rfl) rfl ?_; refine za (zi rfl (zg rfl) rfl) rfl ?_; refine za (zm rfl rfl rfl rfl) rfl ?_; refine za (ze rfl rfl rfl) rfl ?_; refine zh ?_; refine zj ?_
  refine qd L (rs := [.tmp 2]) rfl (fun _ _ h => h) Since.refl fun u H hH hle => ?_
  rfl
theorem bnd_law {t : Tb} {s : Value} {zs : List (Fl × Value)} {b : Bool} (hb : bndB t = b) {w : World} {B : Heap} (h : TbI B t s zs) (hB : B.Le (hp w)) :
    Ret Try.prog 9 [tbv t.nx s] w B (fun v _ => v = .bool b) := by
  by_cases hl : zs.length ≤ 30
  · obtain ⟨h1, h2⟩ := h.fsb hl
    exact bounded_law h.fl hb h1 (by omega) hB
  · obtain rfl : b = false := by
      rw [← hb]
      exact decide_eq_false fun hx => hl (by rw [fls_len h.fl]; exact hx.1)
    exact bnd_long (by omega) h.sl hB
theorem TbI.ok {B : Heap} {t : Tb} {s : Value} {zs : List (Fl × Value)} (h : TbI B t s zs) (hb : bndB t = true) : FsB zs false false s B ∧ itsN t.fl ≤ 60 ∧ zs.length ≤ 30 := by
  have h1 := of_decide_eq_true hb
  have h2 := fls_len h.fl
  exact ⟨(h.fsb (by omega)).1, h1.2, by omega⟩
end Go.V.L39
namespace Go.V
open Go.RowKit
inductive LeafK where
  | s
  | b
  | i (k : IntKind)
def LeafOK : LeafK → Value → Prop
  | .s, v => ∃ a : ByteArray, v = .string a ∧ a.size ≤ maxLen
  | .b, v => ∃ c, v = .bool c
  | .i k, v => ∃ n, v = .int k n ∧ (Lit.int k n).wf = true
def LeafsOK : List LeafK → List Value → Prop
  | [], [] => True
  | l :: ls, v :: vs => LeafOK l v ∧ LeafsOK ls vs
  | _, _ => False
theorem LeafsOK.append : ∀ {a b : List LeafK} {x y : List Value}, LeafsOK a x → LeafsOK b y → LeafsOK (a ++ b) (x ++ y)
  | [], _, [], _, _, h => h
  | [], _, _ :: _, _, h, _ => h.elim
  | _ :: _, _, [], _, h, _ => h.elim
  | _ :: _, _, _ :: _, _, h, k => ⟨h.1, LeafsOK.append h.2 k⟩
theorem LeafsOK.length : ∀ {a : List LeafK} {x : List Value}, LeafsOK a x → x.length = a.length
  | [], [], _ => rfl
  | [], _ :: _, h => h.elim
  | _ :: _, [], h => h.elim
  | _ :: _, _ :: _, h => by simp [LeafsOK.length h.2]
theorem leaf_s {ls : List LeafK} {vs : List Value} (h : LeafsOK (.s :: ls) vs) : ∃ a r, vs = .string a :: r ∧ a.size ≤ maxLen ∧ LeafsOK ls r := by
  cases vs with
  | nil => exact h.elim
  | cons v vs => obtain ⟨⟨a, rfl, ha⟩, h⟩ := h; exact ⟨a, vs, rfl, ha, h⟩
theorem leaf_i {k : IntKind} {ls : List LeafK} {vs : List Value} (h : LeafsOK (.i k :: ls) vs) : ∃ n r, vs = .int k n :: r ∧ (Lit.int k n).wf = true ∧ LeafsOK ls r := by
  cases vs with
  | nil => exact h.elim
  | cons v vs => obtain ⟨⟨a, rfl, ha⟩, h⟩ := h; exact ⟨a, vs, rfl, ha, h⟩
theorem leaf_nil {vs : List Value} (h : LeafsOK [] vs) : vs = [] := by
  cases vs with
  | nil => rfl
  | cons _ _ => exact h.elim
def leafF (P : Program) (rec : TypeId → Option (List LeafK)) : List Field → Nat → Option (List LeafK)
  | [], _ => some []
  | f :: fs, off => match rec f.type with
    | some ls => if f.offset = off ∧ P.cellsOf f.type = ls.length then
        match leafF P rec fs (off + ls.length) with
        | some r => some (ls ++ r)
        | none => none
      else none
    | none => none
def repL (ls : List LeafK) : Nat → List LeafK
  | 0 => []
  | n + 1 => ls ++ repL ls n
def leafI (P : Program) : Nat → TypeId → Option (List LeafK)
  | 0, _ => none
  | d + 1, t => match P.underlying t with
    | some .string => some [.s]
    | some (.int k) => some [.i k]
    | some .bool => some [.b]
    | some (.struct fs) => match leafF P (leafI P d) fs.toList 0 with
      | some ls => if P.cellsOf t = ls.length then some ls else none
      | none => none
    | some (.array n e) => match leafI P d e with
      | some ls => if P.cellsOf e = ls.length ∧ P.cellsOf t = (repL ls n).length then some (repL ls n) else none
      | none => none
    | _ => none
theorem mapM_all {α β : Type} {f : α → Option β} : ∀ {l : List α} {ys : List β}, l.mapM f = some ys → ∃ g : List β, g = ys ∧ (∀ x ∈ l, ∃ y, f x = some y ∧ y ∈ ys) ∧ (∀ y ∈ ys, ∃ x ∈ l, f x = some y)
  | [], ys, h => by
    simp at h; subst h
    exact ⟨_, rfl, by simp, by simp⟩
  | x :: l, ys, h => by
    rw [List.mapM_cons] at h
    cases hx : f x with
    | none => rw [hx] at h; cases h
    | some y =>
      rw [hx] at h
      cases hl : l.mapM f with
      | none => rw [hl] at h; cases h
      | some zs =>
        rw [hl] at h
        cases h
        obtain ⟨_, _, h1, h2⟩ := mapM_all hl
        refine ⟨_, rfl, fun z hz => ?_, fun z hz => ?_⟩
        · rcases List.mem_cons.1 hz with rfl | hz
          · exact ⟨y, hx, List.mem_cons_self ..⟩
          · obtain ⟨w, hw, hm⟩ := h1 z hz; exact ⟨w, hw, List.mem_cons_of_mem _ hm⟩
        · rcases List.mem_cons.1 hz with rfl | hz
          · exact ⟨x, List.mem_cons_self .., hx⟩
          · obtain ⟨w, hw, hm⟩ := h2 z hz; exact ⟨w, List.mem_cons_of_mem _ hw, hm⟩
theorem take_split (cs : List Value) (off m r : Nat) : (cs.drop off).take (m + r) = (cs.drop off).take m ++ (cs.drop (off + m)).take r := by
  rw [List.take_add, List.drop_drop]
section
variable {P : Program} {H : Type} {enc : TypeId × Value → H} {W : World} {sp : Nat → Bool} {held : Bool} {base : Nat}
theorem leaf_of_trod : ∀ (d : Nat) {t : TypeId} {ls : List LeafK}, leafI P d t = some ls → ∀ {fuel : Nat} {cs : List Value} {x : DataW H × List MemPlace},
    DataW.trod enc P W base sp held fuel t cs = some x → LeafsOK ls cs ∧ x.2 = []
  | 0, _, _, h, _, _, _, _ => by cases h
  | d + 1, t, ls, h, fuel, cs, x, hx => by
    have ih := @leaf_of_trod d
    cases fuel with
    | zero => simp [DataW.trod] at hx
    | succ fuel =>
      rw [leafI] at h
      unfold DataW.trod at hx
      cases hu : P.underlying t with
      | none => rw [hu] at h; cases h
      | some ds =>
        rw [hu] at h hx
        cases ds <;> first | (cases h; done) | skip
        · cases h
          match cs, hx with
          | [.bool b], hx => cases hx; exact ⟨⟨⟨b, rfl⟩, trivial⟩, rfl⟩
        · rename_i k
          cases h
          match cs, hx with
          | [.int k' m], hx =>
            simp only at hx
            split at hx
            · rename_i hk
              obtain ⟨rfl, hw⟩ := hk
              cases hx; exact ⟨⟨⟨m, rfl, hw⟩, trivial⟩, rfl⟩
            · cases hx
        · cases h
          match cs, hx with
          | [.string s], hx =>
            simp only at hx
            split at hx
            · rename_i hs; cases hx; exact ⟨⟨⟨s, rfl, hs⟩, trivial⟩, rfl⟩
            · cases hx
        · rename_i n e
          simp only at h hx
          split at h
          · rename_i l1 hl1
            split at h
            · rename_i hc
              cases h
              split at hx
              · rename_i hlen
                obtain ⟨xs, hxs, rfl⟩ := Option.map_eq_some_iff.1 hx
                obtain ⟨_, _, hall, hback⟩ := mapM_all hxs
                have each : ∀ i, i < n → LeafsOK l1 ((cs.drop (i * P.cellsOf e)).take (P.cellsOf e)) := fun i hi => by
                  obtain ⟨y, hy, _⟩ := hall i (List.mem_range.2 hi)
                  exact (ih hl1 hy).1
                have gen : ∀ m k, k + m = n → LeafsOK (repL l1 m) ((cs.drop (k * P.cellsOf e)).take (m * P.cellsOf e)) := by
                  intro m
                  induction m with
                  | zero => intro k _; simp [repL, LeafsOK]
                  | succ m ihm =>
                    intro k hk
                    rw [show (m + 1) * P.cellsOf e = P.cellsOf e + m * P.cellsOf e by rw [Nat.succ_mul]; omega, take_split]
                    refine LeafsOK.append (each k (by omega)) ?_
                    rw [show k * P.cellsOf e + P.cellsOf e = (k + 1) * P.cellsOf e by rw [Nat.succ_mul]]
                    exact ihm (k + 1) (by omega)
                refine ⟨?_, ?_⟩
                · have := gen n 0 (by omega)
                  have hrl : ∀ m, (repL l1 m).length = m * P.cellsOf e := by
                    intro m
                    induction m with
                    | zero => simp [repL]
                    | succ m ihm => simp only [repL, List.length_append, ihm, hc.1]; rw [Nat.succ_mul]; omega
                  rw [← hrl n, ← hc.2, ← hlen] at this
                  simpa using this
                · refine List.flatMap_eq_nil_iff.2 fun y hy => ?_
                  obtain ⟨i, _, hi⟩ := hback y hy
                  exact (ih hl1 hi).2
              · cases hx
            · cases h
          · cases h
        · rename_i fs
          simp only at h hx
          split at h
          · rename_i l1 hl1
            split at h
            · rename_i hc
              cases h
              split at hx
              · rename_i hlen
                obtain ⟨xs, hxs, rfl⟩ := Option.map_eq_some_iff.1 hx
                obtain ⟨_, _, hall, hback⟩ := mapM_all hxs
                have gen : ∀ (fl : List Field) (off : Nat) (ls : List LeafK), (∀ f ∈ fl, f ∈ fs.toList) → leafF P (leafI P d) fl off = some ls →
                    LeafsOK ls ((cs.drop off).take ls.length) ∧ ∀ f ∈ fl, ∃ l, leafI P d f.type = some l := by
                  intro fl
                  induction fl with
                  | nil => intro off ls _ h; cases h; simp [LeafsOK]
                  | cons f fl ihf =>
                    intro off ls hm h
                    simp only [leafF] at h
                    split at h
                    · rename_i l2 hl2
                      split at h
                      · rename_i hc2
                        obtain ⟨rfl, hc3⟩ := hc2
                        split at h
                        · rename_i r hr
                          cases h
                          obtain ⟨g1, g2⟩ := ihf _ _ (fun g hg => hm g (List.mem_cons_of_mem _ hg)) hr
                          refine ⟨?_, fun g hg => ?_⟩
                          · rw [List.length_append, take_split]
                            refine LeafsOK.append ?_ g1
                            obtain ⟨y, hy, _⟩ := hall f (hm f (List.mem_cons_self ..))
                            rw [← hc3]
                            exact (ih hl2 hy).1
                          · rcases List.mem_cons.1 hg with rfl | hg
                            · exact ⟨l2, hl2⟩
                            · exact g2 g hg
                        · cases h
                      · cases h
                    · cases h
                obtain ⟨g1, g2⟩ := gen fs.toList 0 _ (fun _ h => h) hl1
                refine ⟨?_, ?_⟩
                · rw [← hc, ← hlen] at g1; simpa using g1
                · refine List.flatMap_eq_nil_iff.2 fun y hy => ?_
                  obtain ⟨f, hf, hi⟩ := hback y hy
                  obtain ⟨l, hl⟩ := g2 f hf
                  exact (ih hl hi).2
              · cases hx
            · cases h
          · cases h
theorem open_one {t : TypeId} {k : IntKind} {b0 : Nat} {v : Value} {dd : DataW H} {ps : List MemPlace} (h : leafI P 20 t = some [.i k]) (hu : P.underlying t = some (.int k))
    (hval : Value.okWide P W .any b0 t v) (hd : DataW.Trod enc P W base sp held t v dd ps) : ∃ n, v = .int k n ∧ (Lit.int k n).wf = true ∧ ps = [] := by
  obtain ⟨fuel, hf⟩ := hd
  have h0 : Cell.ok P W .any b0 t v := by
    unfold Value.okWide at hval
    rw [hu] at hval
    unfold Cell.okWide at hval
    rw [hu] at hval
    exact hval
  unfold Cell.ok at h0
  rw [hu] at h0
  match v, h0 with
  | .int k' n, h0 =>
    obtain ⟨h1, h2⟩ := leaf_of_trod 20 h (by simpa [Value.cells] using hf)
    obtain ⟨n', r, g1, g2, g3⟩ := leaf_i h1
    cases g1
    exact ⟨n, rfl, g2, h2⟩
end
end Go.V
namespace Go.V
open Go.ChangeShapes Go.WideShapes Go.ChangeAt Go.ChangeMaps Go.RowKit
inductive Sh where
  | l (k : LeafK)
  | s (t e : TypeId) (ls : List LeafK)
def SlOK (H : Heap) (e : TypeId) (ls : List LeafK) (v : Value) : Prop := ∃ cs : List (List Value), (∀ c ∈ cs, LeafsOK ls c) ∧ cs.length ≤ maxLen ∧ SlV e ls.length cs.flatten cs.length false v H
def ShOK (H : Heap) : List Sh → List Value → Prop
  | [], vs => vs = []
  | .l k :: r, vs => ∃ v w, vs = v :: w ∧ LeafsOK [k] [v] ∧ ShOK H r w
  | .s _ e ls :: r, vs => ∃ v w, vs = v :: w ∧ SlOK H e ls v ∧ ShOK H r w
theorem ShOK.append {H : Heap} : ∀ {a b : List Sh} {x y : List Value}, ShOK H a x → ShOK H b y → ShOK H (a ++ b) (x ++ y)
  | [], _, _, _, hx, hy => by cases hx; exact hy
  | .l k :: a, _, _, _, ⟨v, w, e, h1, h2⟩, hy => by subst e; exact ⟨v, _, rfl, h1, ShOK.append h2 hy⟩
  | .s t e ls :: a, _, _, _, ⟨v, w, e', h1, h2⟩, hy => by subst e'; exact ⟨v, _, rfl, h1, ShOK.append h2 hy⟩
section
variable {P : Program} {H : Type} {enc : TypeId × Value → H} {W : World} {held : Bool}
end
end Go.V
namespace Go.V
open Go.ChangeShapes Go.WideShapes Go.ChangeAt Go.ChangeMaps Go.RowKit
section
variable {P : Program} {H : Type} {enc : TypeId × Value → H} {W : World} {held : Bool}
def Reads (enc : TypeId × Value → H) (P : Program) (W : World) (held : Bool) (t : TypeId) (n : Nat) (Φ : List Value → Prop) : Prop :=
  P.cellsOf t = n ∧ ∀ (fuel : Nat) (cs : List Value) (x : DataW H × List MemPlace), DataW.trod enc P W 0 (fun _ => true) held fuel t cs = some x → (x.1.weights P t).all (· ≤ reachBytes) = true → cs.length = n ∧ Φ cs
theorem reads_leaf {t : TypeId} {ls : List LeafK} (h : leafI P 20 t = some ls) (hc : P.cellsOf t = ls.length) : Reads enc P W held t ls.length (LeafsOK ls) :=
  ⟨hc, fun _ _ _ hx _ => ⟨(leaf_of_trod 20 h hx).1.length, (leaf_of_trod 20 h hx).1⟩⟩
def SlD (e : TypeId) (n by_ : Nat) (Φ : List Value → Prop) (Hh : Heap) (v : Value) : Prop := ∃ cs : List (List Value), (∀ c ∈ cs, c.length = n ∧ Φ c) ∧ cs.length ≤ maxLen ∧ cs.length * by_ ≤ reachBytes ∧ SlV e n cs.flatten cs.length false v Hh
theorem weights_all_mem {e : TypeId} : ∀ {l : List (DataW H)} {d : DataW H}, d ∈ l → ∀ n ∈ d.weights P e, n ∈ DataW.weightsAll P e l
  | d0 :: l, d, hd, n, hn => by
    simp only [DataW.weightsAll, List.mem_append]
    rcases List.mem_cons.1 hd with rfl | hd
    · exact .inl hn
    · exact .inr (weights_all_mem hd n hn)
theorem wt_sub {l m : List Nat} (h : l.all (· ≤ reachBytes) = true) (hs : ∀ n ∈ m, n ∈ l) : m.all (· ≤ reachBytes) = true :=
  List.all_eq_true.2 fun n hn => List.all_eq_true.1 h n (hs n hn)
theorem wt_at {ts : List TypeId} {ds : List (DataW H)} (h : (DataW.weightsEach P ts ds).all (· ≤ reachBytes) = true) (j : Nat) {t : TypeId} {d : DataW H} (ht : ts[j]? = some t) (hd : ds[j]? = some d) : (d.weights P t).all (· ≤ reachBytes) = true :=
  wt_sub h (DataW.weights_mem_each ht hd)
theorem reads_slice {t e : TypeId} {n : Nat} {Φ : List Value → Prop} (ht : P.underlying t = some (.slice e)) (hct : P.cellsOf t = 1) (he : Reads enc P W held e n Φ) (hn : 0 < n) :
    Reads enc P W held t 1 (fun vs => ∃ v, vs = [v] ∧ SlD e n (P.bytesOf e) Φ (hp W) v) := by
  refine ⟨hct, fun fuel cs x hf hw => ?_⟩
  rcases Deep.open_slice ht hf with ⟨rfl, _⟩ | ⟨a, len, cap, m, nn, D, Pl, rfl, _, h1, h2, hm, rfl, hx⟩
  · exact ⟨rfl, _, rfl, [], fun c h => (nomatch h), Nat.zero_le _, by simp, SlV.nil⟩
  refine ⟨rfl, _, rfl, ?_⟩
  simp only [if_true] at hm
  subst hm
  have hwe : (DataW.weights P t (DataW.slice ((List.range len).map D) ((List.range (m - len)).map fun j => D (len + j)))) = (len + (m - len)) * P.bytesOf e :: (DataW.weightsAll P e ((List.range len).map D) ++ DataW.weightsAll P e ((List.range (m - len)).map fun j => D (len + j))) := by
    rw [DataW.weights, ht]; simp
  simp only at hw
  rw [hwe] at hw
  have hb : (len + (m - len)) * P.bytesOf e ≤ reachBytes := by
    have := List.all_eq_true.1 hw _ (List.mem_cons_self ..)
    simpa using this
  have hwD : ∀ i, i < len → ((D i).weights P e).all (· ≤ reachBytes) = true := fun i hi => wt_sub hw fun k hk =>
    List.mem_cons_of_mem _ (List.mem_append_left _ (weights_all_mem (List.mem_map.2 ⟨i, List.mem_range.2 hi, rfl⟩) k hk))
  rcases Nat.eq_zero_or_pos m with h0 | h0
  · obtain rfl : len = 0 := by omega
    subst h0
    exact ⟨[], fun c h => (nomatch h), Nat.zero_le _, by simp, by simp, .inl ⟨rfl, _, rfl⟩⟩
  obtain ⟨he1, he2⟩ := he
  have hsp : a.spot = none ∧ ∃ c0 ty fr, W.heap[a.block]? = some (.cells c0 ty fr) := by
    obtain ⟨c, g1, _⟩ := hx 0 h0
    obtain ⟨_, g2, g3⟩ := World.cells?_some g1
    have g4 := g3 0 (by omega)
    have hc0 : ∃ v, c[0]? = some v := ⟨_, List.getElem?_eq_getElem (by omega)⟩
    obtain ⟨v, hv⟩ := hc0
    rw [hv] at g4
    have hadd : ((a.add (0 * P.cellsOf e)).add 0) = a := by
      rw [Nat.zero_mul]
      unfold Addr.add
      simp
    rw [hadd] at g4
    unfold World.cell? at g4
    split at g4
    · rename_i c1 ty fr hh
      split at g4
      · cases g4
      · rename_i hs
        exact ⟨by simpa using hs, _, _, _, hh⟩
    · cases g4
  obtain ⟨h3, cs, ty, fr, h4⟩ := hsp
  obtain ⟨C, hC⟩ := Deep.choose_lt (α := List Value) (n := m) (p := fun i c => W.cells? 0 (a.add (i * P.cellsOf e)) (P.cellsOf e) = some c ∧ (i < len → c.length = n ∧ Φ c)) (fun i hi => by
    obtain ⟨c, g1, g2⟩ := hx i hi
    exact ⟨c, g1, fun hl => he2 _ _ _ g2 (hwD i hl)⟩)
  have hln : ∀ i, i < len → (C i).length = n := fun i hi => ((hC i (by omega)).2 hi).1
  refine ⟨(List.range len).map C, fun c hc => ?_, by simp; omega, ?_, ?_⟩
  · obtain ⟨i, hi, rfl⟩ := List.mem_map.1 hc
    exact (hC i (by have := List.mem_range.1 hi; omega)).2 (List.mem_range.1 hi)
  · rw [List.length_map, List.length_range]
    exact Nat.le_trans (Nat.mul_le_mul_right _ (by omega)) hb
  · have hfl : ∀ k, k ≤ len → ((List.range k).map C).flatten.length = k * n := by
      intro k
      induction k with
      | zero => simp
      | succ k ih =>
        intro hk
        rw [List.range_succ, List.map_append, List.flatten_append, List.length_append, ih (by omega), Nat.succ_mul]
        simp [hln k (by omega)]
    refine ⟨by rw [hfl len (Nat.le_refl _), List.length_map, List.length_range], .inr ⟨a.block, a.off, m, cs, ty, fr, ?_, h4, ?_, by simpa using h1, fun h => by cases h⟩⟩
    · obtain ⟨ab, ao, asp⟩ := a
      simp only at h3
      subst h3
      simp
    · rw [hfl len (Nat.le_refl _)]
      have key : ∀ k, k ≤ len → (cs.toList.drop a.off).take (k * n) = ((List.range k).map C).flatten := by
        intro k
        induction k with
        | zero => simp
        | succ k ih =>
          intro hk
          rw [Nat.succ_mul, take_split, ih (by omega), List.range_succ, List.map_append, List.flatten_append]
          congr 1
          obtain ⟨_, g2, g3⟩ := World.cells?_some (hC k (by omega)).1
          simp only [List.map_cons, List.map_nil, List.flatten_cons, List.flatten_nil, List.append_nil]
          apply List.ext_getElem?
          intro j
          rcases Nat.lt_or_ge j n with hj | hj
          · have := g3 j (by omega)
            rw [← this, List.getElem?_take_of_lt hj, List.getElem?_drop]
            obtain ⟨ab, ao, asp⟩ := a
            simp only at h3
            subst h3
            rw [addr_add, addr_add, cell_of_heap h4]
            simp only [he1]
            rw [Array.getElem?_toList]
          · rw [List.getElem?_eq_none (by rw [List.length_take]; omega), List.getElem?_eq_none (by rw [hln k (by omega)]; exact hj)]
      exact key len (Nat.le_refl _)
def Parts : List (Nat × (List Value → Prop)) → List Value → Prop
  | [], vs => vs = []
  | (n, Φ) :: r, vs => ∃ a b, vs = a ++ b ∧ a.length = n ∧ Φ a ∧ Parts r b
inductive FieldsR (enc : TypeId × Value → H) (P : Program) (W : World) (held : Bool) : List Field → Nat → List (Nat × (List Value → Prop)) → Prop
  | nil {off : Nat} : FieldsR enc P W held [] off []
  | cons {f : Field} {fs : List Field} {off n : Nat} {Φ : List Value → Prop} {r : List (Nat × (List Value → Prop))} (ho : f.offset = off) (hr : Reads enc P W held f.type n Φ) (h : FieldsR enc P W held fs (off + n) r) : FieldsR enc P W held (f :: fs) off ((n, Φ) :: r)
def nsum : List (Nat × (List Value → Prop)) → Nat
  | [] => 0
  | p :: r => p.1 + nsum r
theorem reads_struct {t : TypeId} {fs : Array Field} {ps : List (Nat × (List Value → Prop))} (hu : P.underlying t = some (.struct fs)) (h : FieldsR enc P W held fs.toList 0 ps) (hc : P.cellsOf t = nsum ps) : Reads enc P W held t (nsum ps) (Parts ps) := by
  refine ⟨hc, fun fuel cs x hf hw => ?_⟩
  obtain ⟨xs, n, rfl, rfl, hl, hxl, hx⟩ := DataW.trod_struct hu hf
  have hwe : DataW.weights P t (DataW.agg (H := H) (xs.map (·.1))) = DataW.weightsEach P (fs.toList.map (·.type)) (xs.map (·.1)) := by
    rw [DataW.weights, hu]
  simp only at hw
  rw [hwe] at hw
  refine ⟨by rw [hl, hc], ?_⟩
  have gen : ∀ (fl : List Field) (i off : Nat) (ps : List (Nat × (List Value → Prop))), (∀ (j : Nat) f, fl[j]? = some f → fs[i + j]? = some f) → FieldsR enc P W held fl off ps → off + nsum ps = cs.length → Parts ps (cs.drop off) := by
    intro fl
    induction fl with
    | nil => intro i off ps _ h ho; cases h; simp only [nsum] at ho; simp only [Parts]; rw [List.drop_eq_nil_of_le (by omega)]
    | cons f fl ihf =>
      intro i off ps hm h ho
      cases h with
      | @cons _ _ _ n' Φ r h1 h2 h3 =>
      simp only [nsum] at ho
      have g0 := hm 0 f rfl
      rw [Nat.add_zero] at g0
      have g1 := hx i f g0
      have hi : i < xs.length := by
        rw [hxl]
        rcases Nat.lt_or_ge i fs.size with h | h
        · exact h
        · rw [Array.getElem?_eq_none h] at g0; cases g0
      rw [List.getElem?_eq_getElem hi, h1, h2.1] at g1
      have hwi : (xs[i].1.weights P f.type).all (· ≤ reachBytes) = true := wt_at hw i (by rw [List.getElem?_map, Array.getElem?_toList, g0]; rfl) (by rw [List.getElem?_map, List.getElem?_eq_getElem hi]; rfl)
      obtain ⟨g2, g3⟩ := h2.2 _ _ _ g1 hwi
      refine ⟨(cs.drop off).take n', cs.drop (off + n'), ?_, g2, g3, ihf (i + 1) (off + n') r (fun j f' hj => ?_) h3 (by omega)⟩
      · rw [← List.drop_drop, List.take_append_drop]
      · have := hm (j + 1) f' (by simpa using hj)
        rw [← this]; congr 1; omega
  have g := gen fs.toList 0 0 ps (fun j f hj => by rw [Nat.zero_add, ← Array.getElem?_toList]; exact hj) h (by rw [hl, hc]; omega)
  simpa using g
theorem open_agD {t : TypeId} {n b0 : Nat} {Φ : List Value → Prop} {v : Value} {dd : DataW H} {ps : List MemPlace} (h : Reads enc P W held t n Φ) (ha : (match P.underlying t with | some (.struct _) | some (.array _ _) => true | _ => false) = true)
    (hval : Value.okWide P W .any b0 t v) (hd : DataW.Trod enc P W 0 (fun _ => true) held t v dd ps) (hw : (dd.weights P t).all (· ≤ reachBytes) = true) : ∃ cs : List Value, v = .agg cs.toArray ∧ Φ cs := by
  obtain ⟨fuel, hf⟩ := hd
  have key : ∃ cs, v = .agg cs := by
    unfold Value.okWide at hval
    split at hval
    · obtain ⟨cs, h1, _⟩ := hval; exact ⟨cs, h1⟩
    · obtain ⟨cs, h1, _⟩ := hval; exact ⟨cs, h1⟩
    · rename_i h1 h2
      exfalso
      split at ha
      · rename_i x hx; exact h1 _ hx
      · rename_i x y hx; exact h2 _ _ hx
      · cases ha
  obtain ⟨cs, rfl⟩ := key
  exact ⟨cs.toList, by simp, (h.2 _ _ _ hf hw).2⟩
end
end Go.V
namespace Go.V.L39
open Go.Proofs Go.ChangeShapes Go.WideShapes Go.ChangeAt Go.ChangeMaps Go.RowKit Go.V
abbrev ItL : List LeafK := [.i .i64, .i .i64, .i .i64, .i .i64, .i .u64]
abbrev QuL : List LeafK := [.i .u8, .s, .s, .s, .s, .s]
abbrev ItsP (H : Heap) : List Value → Prop := fun vs => ∃ v, vs = [v] ∧ SlD tyI 5 (Try.prog.bytesOf tyI) (LeafsOK ItL) H v
abbrev FlPs (H : Heap) : List (Nat × (List Value → Prop)) := [(1, LeafsOK [.i .i64]), (1, LeafsOK [.i .u64]), (6, LeafsOK QuL), (1, LeafsOK [.i .i64]), (1, LeafsOK [.i .i64]), (1, LeafsOK [.i .i64]), (1, LeafsOK [.i .i64]), (1, LeafsOK [.i .i64]), (1, ItsP H)]
abbrev TbPs (H : Heap) : List (Nat × (List Value → Prop)) := [(1, LeafsOK [.i .i64]), (1, fun vs => ∃ v, vs = [v] ∧ SlD tyF 14 (Try.prog.bytesOf tyF) (Parts (FlPs H)) H v)]
section
variable {H : Type} {enc : TypeId × Value → H} {W : World} {held : Bool}
theorem reads_its : Reads enc Try.prog W held 47 1 (ItsP (hp W)) := reads_slice Try.underlying47 (by kernel_rfl) (reads_leaf (ls := ItL) (by kernel_rfl) (by kernel_rfl)) (by decide)
theorem reads_i64 : Reads enc Try.prog W held 3 1 (LeafsOK [.i .i64]) := reads_leaf (ls := [.i .i64]) (by kernel_rfl) (by kernel_rfl)
theorem reads_i64' : Reads enc Try.prog W held 2 1 (LeafsOK [.i .i64]) := reads_leaf (ls := [.i .i64]) (by kernel_rfl) (by kernel_rfl)
theorem reads_u64 : Reads enc Try.prog W held 31 1 (LeafsOK [.i .u64]) := reads_leaf (ls := [.i .u64]) (by kernel_rfl) (by kernel_rfl)
theorem reads_qu : Reads enc Try.prog W held tyQ 6 (LeafsOK QuL) := reads_leaf (ls := QuL) (by kernel_rfl) (by kernel_rfl)
theorem reads_fl : Reads enc Try.prog W held tyF 14 (Parts (FlPs (hp W))) := reads_struct Try.underlying49
  (.cons rfl reads_i64 (.cons rfl reads_u64 (.cons rfl reads_qu (.cons rfl reads_i64 (.cons rfl reads_i64 (.cons rfl reads_i64' (.cons rfl reads_i64 (.cons rfl reads_i64 (.cons rfl reads_its .nil))))))))) (by kernel_rfl)
theorem reads_fls : Reads enc Try.prog W held 22 1 (fun vs => ∃ v, vs = [v] ∧ SlD tyF 14 (Try.prog.bytesOf tyF) (Parts (FlPs (hp W))) (hp W) v) := reads_slice Try.underlying22 (by kernel_rfl) reads_fl (by decide)
theorem reads_tb : Reads enc Try.prog W held tyT 2 (Parts (TbPs (hp W))) := reads_struct Try.underlying24 (.cons rfl reads_i64 (.cons rfl reads_fls .nil)) (by kernel_rfl)
end
theorem by_it : Try.prog.bytesOf tyI = 40 := by kernel_rfl
theorem leaf_int {k : IntKind} {a : List Value} (h : LeafsOK [.i k] a) : ∃ z, a = [.int k z] ∧ (Lit.int k z).wf = true := by
  obtain ⟨z, r, rfl, h1, h2⟩ := leaf_i h
  obtain rfl := leaf_nil h2
  exact ⟨z, rfl, h1⟩
theorem max_len {n : Nat} (h : n ≤ maxLen) : n ≤ 9223372036854775807 := h
theorem qu_of {a : List Value} (h : LeafsOK QuL a) : ∃ q : Qu, a = quc q ∧ QuZ q := by
  obtain ⟨k, r, rfl, h0, h⟩ := leaf_i h
  obtain ⟨s1, r, rfl, h1, h⟩ := leaf_s h
  obtain ⟨s2, r, rfl, h2, h⟩ := leaf_s h
  obtain ⟨s3, r, rfl, h3, h⟩ := leaf_s h
  obtain ⟨s4, r, rfl, h4, h⟩ := leaf_s h
  obtain ⟨s5, r, rfl, h5, h⟩ := leaf_s h
  obtain rfl := leaf_nil h
  exact ⟨⟨k, ((s1, s2), s3), (s4, s5)⟩, rfl, Go.bounds_u8 h0, max_len h1, max_len h2, max_len h3, max_len h4, max_len h5⟩
theorem it_of {a : List Value} (h : LeafsOK ItL a) : ∃ x : It, a = itc x ∧ ItZ x := by
  obtain ⟨z1, r, rfl, h1, h⟩ := leaf_i h
  obtain ⟨z2, r, rfl, h2, h⟩ := leaf_i h
  obtain ⟨z3, r, rfl, h3, h⟩ := leaf_i h
  obtain ⟨z4, r, rfl, h4, h⟩ := leaf_i h
  obtain ⟨z5, r, rfl, h5, h⟩ := leaf_i h
  obtain rfl := leaf_nil h
  exact ⟨⟨z1, z2, z3, z4, z5⟩, rfl, Go.bounds_i64 h1, Go.bounds_i64 h2, Go.bounds_i64 h3, Go.bounds_i64 h4, Go.bounds_u64 h5⟩
theorem each_of {α : Type} {f : α → List Value} {Φ : List Value → Prop} {Ψ : α → Prop} (hf : ∀ c, Φ c → ∃ x, c = f x ∧ Ψ x) : ∀ (cs : List (List Value)), (∀ c ∈ cs, Φ c) → ∃ l : List α, cs.flatten = l.flatMap f ∧ l.length = cs.length ∧ ∀ x ∈ l, Ψ x
  | [], _ => ⟨[], rfl, rfl, fun x h => by cases h⟩
  | c :: cs, h => by
    obtain ⟨x, rfl, hx⟩ := hf c (h c (List.mem_cons_self ..))
    obtain ⟨l, h1, h2, h3⟩ := each_of hf cs fun d hd => h d (List.mem_cons_of_mem _ hd)
    exact ⟨x :: l, by rw [List.flatten_cons, List.flatMap_cons, h1], by rw [List.length_cons, List.length_cons, h2], fun y hy => by
      rcases List.mem_cons.1 hy with rfl | hy
      · exact hx
      · exact h3 y hy⟩
theorem its_of {H : Heap} {v : Value} (h : SlD tyI 5 (Try.prog.bytesOf tyI) (LeafsOK ItL) H v) : ∃ l : List It, IsV l false v H ∧ l.length ≤ 4398046511104 ∧ ∀ x ∈ l, ItZ x := by
  obtain ⟨cs, h1, h2, h3, h4⟩ := h
  obtain ⟨l, g1, g2, g3⟩ := each_of (f := itc) (Ψ := ItZ) (fun c hc => it_of hc) cs fun c hc => (h1 c hc).2
  rw [by_it] at h3
  rw [g1, ← g2] at h4
  exact ⟨l, h4, by unfold reachBytes at h3; omega, g3⟩
structure FlI (H : Heap) (z : Fl × Value) : Prop where
  is : IsV z.1.is false z.2 H
  ln : z.1.is.length ≤ 4398046511104
  z : FlZ z.1
theorem fl_of {H : Heap} {c : List Value} (h : Parts (FlPs H) c) : ∃ z : Fl × Value, c = flc z ∧ FlI H z := by
  obtain ⟨a1, b, rfl, -, h1, h⟩ := h
  obtain ⟨a2, b, rfl, -, h2, h⟩ := h
  obtain ⟨a3, b, rfl, -, h3, h⟩ := h
  obtain ⟨a4, b, rfl, -, h4, h⟩ := h
  obtain ⟨a5, b, rfl, -, h5, h⟩ := h
  obtain ⟨a6, b, rfl, -, h6, h⟩ := h
  obtain ⟨a7, b, rfl, -, h7, h⟩ := h
  obtain ⟨a8, b, rfl, -, h8, h⟩ := h
  obtain ⟨a9, b, rfl, -, ⟨v, rfl, h9⟩, rfl⟩ := h
  obtain ⟨z1, rfl, w1⟩ := leaf_int h1
  obtain ⟨z2, rfl, w2⟩ := leaf_int h2
  obtain ⟨q, rfl, w3⟩ := qu_of h3
  obtain ⟨z4, rfl, w4⟩ := leaf_int h4
  obtain ⟨z5, rfl, w5⟩ := leaf_int h5
  obtain ⟨z6, rfl, w6⟩ := leaf_int h6
  obtain ⟨z7, rfl, w7⟩ := leaf_int h7
  obtain ⟨z8, rfl, w8⟩ := leaf_int h8
  obtain ⟨l, g1, g2, g3⟩ := its_of h9
  exact ⟨(⟨z1, z2, q, z4, z5, z6, z7, z8, l⟩, v), rfl, g1, g2, Go.bounds_i64 w1, Go.bounds_u64 w2, w3, Go.bounds_i64 w4, Go.bounds_i64 w5, Go.bounds_i64 w6, Go.bounds_i64 w7, Go.bounds_i64 w8, g3⟩
theorem tb_of {H : Heap} {c : List Value} (h : Parts (TbPs H) c) : ∃ (t : Tb) (s : Value) (zs : List (Fl × Value)), c = [.int .i64 t.nx, s] ∧ TbI H t s zs ∧ TbZ t := by
  obtain ⟨a1, b, rfl, -, h1, h⟩ := h
  obtain ⟨a2, b, rfl, -, ⟨v, rfl, cs, g1, g2, g3, g4⟩, rfl⟩ := h
  obtain ⟨nx, rfl, w1⟩ := leaf_int h1
  obtain ⟨zs, e1, e2, e3⟩ := each_of (f := flc) (Ψ := FlI H) (fun c hc => fl_of hc) cs fun c hc => (g1 c hc).2
  rw [e1, ← e2] at g4
  refine ⟨⟨nx, zs.map Prod.fst⟩, v, zs, rfl, ⟨rfl, g4, fun i z hz => (e3 z (List.mem_of_getElem? hz)).is, fun f hf => ?_, fun f hf => ?_, fun f hf x hx => ?_⟩, Go.bounds_i64 w1, fun f hf => ?_⟩
  all_goals obtain ⟨z, hz, rfl⟩ := List.mem_map.1 hf
  · exact (e3 z hz).ln
  · exact (e3 z hz).z.q
  · exact ((e3 z hz).z.is x hx).rv.1
  · exact (e3 z hz).z
end Go.V.L39
