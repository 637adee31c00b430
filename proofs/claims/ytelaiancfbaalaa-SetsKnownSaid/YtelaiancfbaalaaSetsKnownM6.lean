/- SetsKnown returns true: no condition. -/
import Derived.Test.YtelaiancfbaalaaSetsKnownM5
import Derived.ProofKit
import Derived.HandedShaped
import Derived.OpenShut
import Derived.Carry
import Derived.Deep.Slices
import Derived.Test.YtelaiancfbaalaaRows
set_option linter.unusedVariables false
set_option linter.unusedSimpArgs false
/- SetsKnown (chapter 6). -/
namespace Go.V.L6
open Go.Proofs Go.RowKit Go.V Go.V.L2 Go.V.L3
theorem uS_take (l : List U) (k : Nat) : (l.flatMap ucs).take (k * 6) = (l.take k).flatMap ucs := by
  rcases Nat.lt_or_ge k l.length with h | h
  · conv => lhs; rw [← List.take_append_drop k l, List.flatMap_append]
    rw [List.take_left' (by rw [ups_len, List.length_take, Nat.min_eq_left (by omega)])]
  · rw [List.take_of_length_le (by rw [ups_len]; exact Nat.mul_le_mul_right _ h), List.take_of_length_le h]
attribute [local irreducible] V N X VO Par StepOK Has Ret RetL RetO RetT Src kl
set_option maxHeartbeats 16000000 in
set_option maxRecDepth 20000 in
theorem setsKnown_law {w : World} {B : Heap} (hB : B.Le (hp w)) (hM : GlobM B) : Ret Try.prog 8 [] w B (fun v _ => v = .bool true) := by
  have t0 : tE d0 = 0 := by decide +kernel
  have tz : TZ d0 := tz_ofB (by decide)
  have c0 : ((d3L.flatMap ucs).drop (0 * 6)).take 6 = ucs d0 := rfl
  have hlen : d3L.length = 3 := rfl
  have hsm : ∀ (w : World) (B : Heap), B.Le (hp w) → Ret Try.prog 31 [] w B (US d3L false) := fun w B h => small06_ret h
  generalize d3L = l3 at c0 hlen hsm
  refine V_enter Try.func8 rfl Try.ntmps8 (Nat.le_of_ble_eq_true rfl) hB ?_
  refine V_seq ?_; refine V_region (id := 0) ?_; refine vo_step (ok_assign rfl rfl rfl) rfl ?_; refine vo_nil ?_; refine N_seq ?_; refine V_seq ?_; refine V_region (id := 1) ?_; refine vo_step (ok_assign rfl rfl rfl) rfl ?_; refine vo_nil ?_; refine N_seq ?_; refine V_seq ?_; refine V_region (id := 2) ?_; refine vo_step (ok_assign rfl rfl rfl) rfl ?_; refine vo_nil ?_; refine N_seq ?_; refine V_seq ?_
  refine V_nilR 2 tyU 6 rfl ?_
  refine V_region (id := 3) ?_; refine vo_step (ok_call (φ := US l3 false) L rfl rfl (blt_lt rfl) rfl rfl rfl SlV.mono (fun u H hH _ _ => hsm u H hH)) rfl ?_; refine vo_step (ok_indexV L 0 rfl rfl rfl rfl rfl rfl rfl (by first | omega | decide) (by assumption)) rfl ?_; refine vo_step (ok_loadPA L (vs := [_, _, _, _, _, _]) rfl rfl rfl rfl rfl ⟨_, rfl⟩) rfl ?_; refine vo_step (ok_alloc L rfl rfl rfl rfl) rfl ?_; refine vo_step (ok_store L rfl rfl rfl rfl rfl rfl rfl rfl) rfl ?_; refine vo_nil ?_; refine N_seq ?_; refine V_seq ?_; refine V_seq ?_; refine V_region (id := 4) ?_; refine vo_step (ok_assign rfl rfl rfl) rfl ?_; refine vo_nil ?_; refine N_seq ?_; refine V_block ?_
  refine V_loop (fun s : Nat × ByteArray => [(1, .is (.string d36)), (2, .own (SlR tyU 6 (kl d0 s.1).length ((kl d0 s.1).flatMap ucs))), (3, .own (Cell (ucs (withID d0 s.2)) tyU)), (4, .is (.int .i64 s.1))]) (fun s => s.1 ≤ 4097) (fun s => 4097 - s.1) (0, ⟨#[120]⟩) (Nat.zero_le _) ⟨rfl, by show _ = some (Kn.own (SlR tyU 6 (kl d0 0).length ((kl d0 0).flatMap ucs))); rw [kl_zero]; rfl, rfl, rfl, trivial⟩ ?_
  rintro ⟨i, y⟩ hi
  dsimp only at hi ⊢
  have hki := kl_length d0 i
  by_cases hlt : i < 4097
  · have q1296 : IntKind.i64.wrap ((i : Int).tdiv 1296) = ((i / 1296 : Nat) : Int) := wrap_i64 (by rw [show (i : Int).tdiv 1296 = ((i / 1296 : Nat) : Int) from rfl]; omega) (by rw [show (i : Int).tdiv 1296 = ((i / 1296 : Nat) : Int) from rfl]; omega)
    have q36 : IntKind.i64.wrap ((i : Int).tdiv 36) = ((i / 36 : Nat) : Int) := wrap_i64 (by rw [show (i : Int).tdiv 36 = ((i / 36 : Nat) : Int) from rfl]; omega) (by rw [show (i : Int).tdiv 36 = ((i / 36 : Nat) : Int) from rfl]; omega)
    have r36 : Int.tmod ((i / 36 : Nat) : Int) 36 = ((i / 36 % 36 : Nat) : Int) := rfl
    have r1 : Int.tmod (i : Int) 36 = ((i % 36 : Nat) : Int) := rfl
    have s1 := dgt_size (i / 1296) (by omega)
    have s2 := dgt_size (i / 36 % 36) (by omega)
    have s3 := dgt_size (i % 36) (by omega)
    have habc : d36.size = 36 := rfl
    have h1 : (dgt (i / 1296)).size + (dgt (i / 36 % 36)).size ≤ 9223372036854775807 := by omega
    have h2 : (dgt (i / 1296) ++ dgt (i / 36 % 36)).size + (dgt (i % 36)).size ≤ 9223372036854775807 := by rw [ByteArray.size_append]; omega
    unfold dgt at h1 h2
    have a1 : IntKind.i64.wrap (((i / 1296 : Nat) : Int) + 1) = ((i / 1296 + 1 : Nat) : Int) := wrap_i64 (by omega) (by omega)
    have a2 : IntKind.i64.wrap (((i / 36 % 36 : Nat) : Int) + 1) = ((i / 36 % 36 + 1 : Nat) : Int) := wrap_i64 (by omega) (by omega)
    have a3 : IntKind.i64.wrap (((i % 36 : Nat) : Int) + 1) = ((i % 36 + 1 : Nat) : Int) := wrap_i64 (by omega) (by omega)
    refine V_seq ?_; refine V_seq ?_; refine V_region (id := 5) ?_; refine vo_step (ok_move rfl rfl rfl) rfl ?_; refine vo_step (ok_lss rfl rfl rfl rfl (decide_eq_true (by omega))) rfl ?_; refine vo_nil ?_; refine N_seq ?_; refine V_true rfl ?_; refine V_skip ?_; refine N_seq ?_; refine V_seq ?_; refine V_block ?_; refine V_seq ?_
    refine V_hold 3 900 rfl fun b8 => ?_
    refine V_regionD (id := 7) [(100060, [900])] mixed (by kernel_rfl) ?_; refine par_step (ok_move rfl rfl rfl) rfl ?_; refine par_step (ok_move rfl rfl rfl) rfl ?_; refine par_step (ok_quo rfl rfl rfl rfl (by omega) (by assumption)) rfl ?_; refine par_step (ok_move rfl rfl rfl) rfl ?_; refine par_step (ok_quo rfl rfl rfl rfl (by omega) (by assumption)) rfl ?_; refine par_step (ok_add rfl rfl rfl rfl (by assumption)) rfl ?_; refine par_step (ok_sliceS L _ _ rfl rfl rfl rfl ⟨rfl, rfl⟩ ⟨rfl, rfl⟩ (by omega) (by omega) rfl) rfl ?_; refine par_step (ok_move rfl rfl rfl) rfl ?_; refine par_step (ok_move rfl rfl rfl) rfl ?_; refine par_step (ok_quo rfl rfl rfl rfl (by omega) (by assumption)) rfl ?_; refine par_step (ok_rem rfl rfl rfl rfl (by omega) (by assumption)) rfl ?_; refine par_step (ok_move rfl rfl rfl) rfl ?_; refine par_step (ok_quo rfl rfl rfl rfl (by omega) (by assumption)) rfl ?_; refine par_step (ok_rem rfl rfl rfl rfl (by omega) (by assumption)) rfl ?_; refine par_step (ok_add rfl rfl rfl rfl (by assumption)) rfl ?_; refine par_step (ok_sliceS L _ _ rfl rfl rfl rfl ⟨rfl, rfl⟩ ⟨rfl, rfl⟩ (by omega) (by omega) rfl) rfl ?_; refine par_step (ok_sadd rfl rfl rfl rfl (by assumption) rfl) rfl ?_; refine par_step (ok_move rfl rfl rfl) rfl ?_; refine par_step (ok_move rfl rfl rfl) rfl ?_; refine par_step (ok_rem rfl rfl rfl rfl (by omega) (by assumption)) rfl ?_; refine par_step (ok_move rfl rfl rfl) rfl ?_; refine par_step (ok_rem rfl rfl rfl rfl (by omega) (by assumption)) rfl ?_; refine par_step (ok_add rfl rfl rfl rfl (by assumption)) rfl ?_; refine par_step (ok_sliceS L _ _ rfl rfl rfl rfl ⟨rfl, rfl⟩ ⟨rfl, rfl⟩ (by omega) (by omega) rfl) rfl ?_; refine par_step (ok_sadd rfl rfl rfl rfl (by assumption) rfl) rfl ?_; refine par_step (ok_fieldP L rfl rfl rfl rfl) rfl ?_; refine par_step (ok_fieldP L rfl rfl rfl rfl) rfl ?_; refine par_step (ok_fieldP L rfl rfl rfl rfl) rfl ?_; refine par_stepS (ok_storeH L (q := 900) rfl rfl rfl rfl rfl rfl rfl rfl rfl) rfl ?_; refine par_nil ?_; refine N_seq ?_
    refine V_release 3 900 rfl rfl ?_
    refine V_region (id := 8) ?_; refine vo_step2 (ok_moveO (.inl rfl) rfl rfl rfl rfl) ?_; refine vo_step (ok_loadA L (vs := [_, _, _, _, _, _]) (src_own rfl) rfl rfl rfl rfl ⟨_, rfl⟩) rfl ?_; refine vo_step (ok_buildSlice L rfl rfl rfl rfl rfl rfl rfl rfl rfl) rfl ?_; refine vo_step2 (ok_append L rfl rfl rfl (apd_B rfl) rfl el51 rfl rfl (by omega) (by omega)) ?_; refine vo_step2 (ok_moveO (.inr rfl) rfl rfl rfl rfl) ?_; refine vo_nil ?_; refine N_block ?_; refine N_seq ?_; refine V_region (id := 6) ?_; refine vo_step (ok_move rfl rfl rfl) rfl ?_; refine vo_step (ok_add rfl rfl rfl rfl (wrap_i64 (by omega) (by omega))) rfl ?_; refine vo_step (ok_assign rfl rfl rfl) rfl ?_; refine vo_nil ?_
    exact N_round (x := (i, y)) (i + 1, dig i) (by dsimp only; omega) (by dsimp only; omega) ⟨rfl, by dsimp only; rw [kl_succ]; exact ups_snoc rfl, rfl, rfl, trivial⟩
  · obtain rfl : i = 4097 := by omega
    clear hki hi hlt
    refine V_pubR 2 rfl ?_
    refine V_pub 3 rfl ?_
    have l5 := kl_length d0 4097
    have l4 := kl_length d0 4096
    have hcut : (((kl d0 4097).flatMap ucs).drop (0 * 6)).take ((4096 - 0) * 6) = (kl d0 4096).flatMap ucs := by
      rw [Nat.zero_mul, List.drop_zero, show (4096 - 0) * 6 = 4096 * 6 from rfl, uS_take, kl_take (by decide)]
    have hcv : ∀ {v : Value} {H : Heap}, SlV tyU 6 ((kl d0 4096).flatMap ucs) (4096 - 0) false v H → US (kl d0 4096) false v H := fun h => by
      unfold US
      rw [kl_length]
      exact h
    have o4 := ofU_kl0 t0
    have o5 := ofU_kl50 t0
    have o2 : ofU [] [] = (([] : List U), 0) := rfl
    have z4 : ∀ x ∈ kl d0 4096, TZ x := fun x hx => by obtain ⟨i, hi, rfl⟩ := kl_mem.1 hx; exact kt_z tz (by omega)
    have z5 : ∀ x ∈ kl d0 4097, TZ x := fun x hx => by obtain ⟨i, hi, rfl⟩ := kl_mem.1 hx; exact kt_z tz hi
    have w1 := withU_full t0
    have w2 := withU_old (kt_ok t0 (show 7 < 4097 by decide)) (kl_mem.2 ⟨7, by decide, rfl⟩ : kt d0 7 ∈ kl d0 4096)
    have w5 := withU_gone (kt_ok t0 (show 4096 < 4097 by decide)) (kl_notin (t := d0) (n := 4096) (by decide) (Nat.le_refl _))
    obtain ⟨A, Z, w3, w4, la, lz, hh1, hh2, hg, hsl⟩ := k6 t0
    have g0 := kl_get (t := d0) (n := 4097) (show 0 < 4097 by decide)
    have g7 := kl_get (t := d0) (n := 4097) (show 7 < 4097 by decide)
    have g9 := kl_get (t := d0) (n := 4097) (show 9 < 4097 by decide)
    have gt := kl_get (t := d0) (n := 4097) (show 4096 < 4097 by decide)
    have zt := kt_z tz (show 4096 < 4097 by decide)
    have z7 := kt_z tz (show 7 < 4097 by decide)
    have z0 := kt_z tz (show 0 < 4097 by decide)
    have e0 := kt_ok t0 (show 0 < 4097 by decide)
    have w6 : withU [] (kt d0 0) false = ([kt d0 0], 0) := by unfold withU; rw [if_pos e0]; rfl
    have w7 : withU [] (kt d0 0) true = ([], 0) := by unfold withU; rw [if_pos e0]; rfl
    have mN : matE [] nF = [] := by decide +kernel
    generalize hS9 : subL Z (kt d0 9).2 = S9 at hsl
    have hsb := hS9
    generalize kt d0 0 = y0 at *
    generalize kt d0 7 = y7 at *
    generalize kt d0 9 = y9 at *
    generalize kt d0 4096 = yt at *
    generalize kl d0 4096 = K4 at *
    generalize kl d0 4097 = K5 at *
    have c0 := us_at g0
    have c7 := us_at g7
    have c9 := us_at g9
    have ct := us_at gt
    clear g0 g7 g9 gt
    have m1 : Kn.mono (.sat (SetV [])) := SetV.mono
    have m2 : Kn.mono (.sat (SetV K4)) := SetV.mono
    have m3 : Kn.mono (.sat (SetV A)) := SetV.mono
    have m4 : Kn.mono (.sat (SetV Z)) := SetV.mono
    have m5 : Kn.mono (.sat (SetV [y0])) := SetV.mono
    refine V_seq ?_; refine V_seq ?_; refine V_region (id := 5) ?_; refine vo_step (ok_move rfl rfl rfl) rfl ?_; refine vo_step (ok_lss rfl rfl rfl rfl (decide_eq_false (by omega))) rfl ?_; refine vo_nil ?_; refine N_seq ?_; refine V_false rfl ?_; refine V_exit ?_; refine X_then ?_; refine X_then ?_; refine X_here ?_; refine N_seq ?_; refine V_seq ?_
    refine V_region (id := 9) ?_; refine vo_step (ok_moves' rfl rfl rfl) rfl ?_; refine vo_step (ok_sliceV L (kl := .i64) (pl := 0) (km := .i64) (pm := 0) 0 4096 false rfl rfl rfl rfl rfl rfl ⟨rfl, rfl⟩ (fun h => by cases h) (by omega) (by omega) hcut) rfl ?_; refine vo_step (ok_call (φ := WithP K4 0) L rfl rfl (blt_lt rfl) rfl rfl rfl WithP.mono (fun u H hH _ _ v1 h1 => sof_ret o4 (by omega) z4 hH (hcv h1))) rfl ?_; refine vo_opn 68 rfl ?_; rintro _ H1 hs1 ⟨tv, rfl, hT1⟩; obtain ⟨f1, p1, k1, q1, rfl, hp1⟩ := hT1.shape; refine vo_step (ok_move rfl rfl rfl) rfl ?_; refine vo_step (ok_extract rfl rfl rfl rfl) rfl ?_; refine vo_step (ok_extract rfl rfl rfl rfl) rfl ?_; refine vo_step (ok_alloc L rfl rfl rfl rfl) rfl ?_; refine vo_step (ok_store L rfl rfl rfl rfl rfl rfl (by assumption) rfl) rfl ?_; refine vo_step (ok_assign rfl rfl rfl) rfl ?_; refine vo_nil ?_; refine N_seq ?_; refine V_seq ?_; refine V_region (id := 10) ?_; refine vo_step (ok_moves' rfl rfl rfl) rfl ?_; refine vo_step (ok_call (φ := WithP [] 3) L rfl rfl (blt_lt rfl) rfl rfl rfl WithP.mono (fun u H hH _ _ v1 h1 => sof_ret o5 (by omega) z5 hH h1)) rfl ?_; refine vo_opn 73 rfl ?_; rintro _ H2 hs2 ⟨tv, rfl, hT2⟩; obtain ⟨f2, p2, k2, q2, rfl, hp2⟩ := hT2.shape; replace hT1 := hT1.le hs2.le; refine vo_step (ok_move rfl rfl rfl) rfl ?_; refine vo_step (ok_extract rfl rfl rfl rfl) rfl ?_; refine vo_step (ok_extract rfl rfl rfl rfl) rfl ?_; refine vo_step (ok_alloc L rfl rfl rfl rfl) rfl ?_; refine vo_step (ok_store L rfl rfl rfl rfl rfl rfl (by assumption) rfl) rfl ?_; refine vo_step (ok_assign rfl rfl rfl) rfl ?_; refine vo_nil ?_; refine N_seq ?_; refine V_seq ?_
    refine V_regionD (id := 11) [] mixed (by kernel_rfl) ?_; refine par_step (ok_loadA L (vs := [_, _, _, _]) (src_own rfl) rfl rfl rfl rfl ⟨_, rfl⟩) rfl ?_; refine par_step (ok_moves' rfl rfl rfl) rfl ?_; refine par_step (ok_indexV L 4096 rfl rfl rfl rfl rfl rfl rfl (by first | omega | decide) (by assumption)) rfl ?_; refine par_step (ok_loadPA L (vs := [_, _, _, _, _, _]) rfl rfl rfl rfl rfl ⟨_, rfl⟩) rfl ?_; refine par_step (ok_build (cs := [_, _, _, _, _, _, _]) rfl rfl pl81 rfl rfl) rfl ?_; refine par_step (ok_call (φ := WithS [] 3) L rfl rfl (blt_lt rfl) rfl rfl rfl WithS.mono (fun u H hH hle _ => with_ret w1 (by first | omega | decide) zt hH (hT1.le hle))) rfl ?_; refine par_step (ok_moves' rfl rfl rfl) rfl ?_; refine par_step (ok_extracts rfl rfl rfl rfl (by assumption)) rfl ?_; refine par_step (ok_extractx rfl rfl rfl rfl) rfl ?_; refine par_step (ok_alloc L rfl rfl rfl rfl) rfl ?_; refine par_step (ok_storeX L (X := SXp) (fun x => scs x.1) (sphi []) (sphi_mono _) set_st (fun x => ⟨rfl, x.2⟩) rfl rfl rfl rfl rfl) rfl ?_; refine par_step (ok_assign rfl rfl rfl) rfl ?_; refine par_nil ?_; refine N_seq ?_; refine V_seq ?_
    refine V_opnX 9 rfl fun ⟨⟨f3, p3, k3, q3⟩, hp3⟩ H3 hs3 hT3 => ?_
    have hT3 : SetV [] (.agg #[f3, .pointer p3, k3, .pointer q3]) H3 := hT3
    replace hT1 := hT1.le hs3.le
    replace hT2 := hT2.le hs3.le
    refine V_regionD (id := 12) [] mixed (by kernel_rfl) ?_; refine par_step (ok_loadA L (vs := [_, _, _, _]) (src_own rfl) rfl rfl rfl rfl ⟨_, rfl⟩) rfl ?_; refine par_step (ok_moves' rfl rfl rfl) rfl ?_; refine par_step (ok_indexV L 7 rfl rfl rfl rfl rfl rfl rfl (by first | omega | decide) (by assumption)) rfl ?_; refine par_step (ok_loadPA L (vs := [_, _, _, _, _, _]) rfl rfl rfl rfl rfl ⟨_, rfl⟩) rfl ?_; refine par_step (ok_build (cs := [_, _, _, _, _, _, _]) rfl rfl pl81 rfl rfl) rfl ?_; refine par_step (ok_call (φ := WithS K4 0) L rfl rfl (blt_lt rfl) rfl rfl rfl WithS.mono (fun u H hH hle _ => with_ret w2 (by first | omega | decide) z7 hH (hT1.le hle))) rfl ?_; refine par_step (ok_moves' rfl rfl rfl) rfl ?_; refine par_step (ok_extracts rfl rfl rfl rfl (by assumption)) rfl ?_; refine par_step (ok_extractx rfl rfl rfl rfl) rfl ?_; refine par_step (ok_alloc L rfl rfl rfl rfl) rfl ?_; refine par_step (ok_storeX L (X := SXp) (fun x => scs x.1) (sphi K4) (sphi_mono _) set_st (fun x => ⟨rfl, x.2⟩) rfl rfl rfl rfl rfl) rfl ?_; refine par_step (ok_assign rfl rfl rfl) rfl ?_; refine par_nil ?_; refine N_seq ?_; refine V_seq ?_
    refine V_opnX 11 rfl fun ⟨⟨f4, p4, k4, q4⟩, hp4⟩ H4 hs4 hT4 => ?_
    have hT4 : SetV K4 (.agg #[f4, .pointer p4, k4, .pointer q4]) H4 := hT4
    replace hT1 := hT1.le hs4.le
    replace hT2 := hT2.le hs4.le
    replace hT3 := hT3.le hs4.le
    refine V_regionD (id := 13) [] mixed (by kernel_rfl) ?_; refine par_step (ok_loadA L (vs := [_, _, _, _]) (src_own rfl) rfl rfl rfl rfl ⟨_, rfl⟩) rfl ?_; refine par_step (ok_moves' rfl rfl rfl) rfl ?_; refine par_step (ok_indexV L 7 rfl rfl rfl rfl rfl rfl rfl (by first | omega | decide) (by assumption)) rfl ?_; refine par_step (ok_loadPA L (vs := [_, _, _, _, _, _]) rfl rfl rfl rfl rfl ⟨_, rfl⟩) rfl ?_; refine par_step (ok_build (cs := [_, _, _, _, _, _, _]) rfl rfl pl81 rfl rfl) rfl ?_; refine par_step (ok_call (φ := WithS A 0) L rfl rfl (blt_lt rfl) rfl rfl rfl WithS.mono (fun u H hH hle _ => with_ret w3 (by first | omega | decide) z7 hH (hT1.le hle))) rfl ?_; refine par_step (ok_moves' rfl rfl rfl) rfl ?_; refine par_step (ok_extracts rfl rfl rfl rfl (by assumption)) rfl ?_; refine par_step (ok_extractx rfl rfl rfl rfl) rfl ?_; refine par_step (ok_alloc L rfl rfl rfl rfl) rfl ?_; refine par_step (ok_storeX L (X := SXp) (fun x => scs x.1) (sphi A) (sphi_mono _) set_st (fun x => ⟨rfl, x.2⟩) rfl rfl rfl rfl rfl) rfl ?_; refine par_step (ok_assign rfl rfl rfl) rfl ?_; refine par_nil ?_; refine N_seq ?_; refine V_seq ?_
    refine V_opnX 13 rfl fun ⟨⟨f5, p5, k5, q5⟩, hp5⟩ H5 hs5 hT5 => ?_
    have hT5 : SetV A (.agg #[f5, .pointer p5, k5, .pointer q5]) H5 := hT5
    replace hT1 := hT1.le hs5.le
    replace hT2 := hT2.le hs5.le
    replace hT3 := hT3.le hs5.le
    replace hT4 := hT4.le hs5.le
    refine V_regionD (id := 14) [] mixed (by kernel_rfl) ?_; refine par_step (ok_loadA L (vs := [_, _, _, _]) (src_own rfl) rfl rfl rfl rfl ⟨_, rfl⟩) rfl ?_; refine par_step (ok_moves' rfl rfl rfl) rfl ?_; refine par_step (ok_indexV L 4096 rfl rfl rfl rfl rfl rfl rfl (by first | omega | decide) (by assumption)) rfl ?_; refine par_step (ok_loadPA L (vs := [_, _, _, _, _, _]) rfl rfl rfl rfl rfl ⟨_, rfl⟩) rfl ?_; refine par_step (ok_build (cs := [_, _, _, _, _, _, _]) rfl rfl pl81 rfl rfl) rfl ?_; refine par_step (ok_call (φ := WithS Z 0) L rfl rfl (blt_lt rfl) rfl rfl rfl WithS.mono (fun u H hH hle _ => with_ret w4 (by first | omega | decide) zt hH (hT5.le hle))) rfl ?_; refine par_step (ok_moves' rfl rfl rfl) rfl ?_; refine par_step (ok_extracts rfl rfl rfl rfl (by assumption)) rfl ?_; refine par_step (ok_extractx rfl rfl rfl rfl) rfl ?_; refine par_step (ok_alloc L rfl rfl rfl rfl) rfl ?_; refine par_step (ok_storeX L (X := SXp) (fun x => scs x.1) (sphi Z) (sphi_mono _) set_st (fun x => ⟨rfl, x.2⟩) rfl rfl rfl rfl rfl) rfl ?_; refine par_step (ok_assign rfl rfl rfl) rfl ?_; refine par_nil ?_; refine N_seq ?_; refine V_seq ?_
    refine V_opnX 15 rfl fun ⟨⟨f6, p6, k6, q6⟩, hp6⟩ H6 hs6 hT6 => ?_
    have hT6 : SetV Z (.agg #[f6, .pointer p6, k6, .pointer q6]) H6 := hT6
    replace hT1 := hT1.le hs6.le
    replace hT2 := hT2.le hs6.le
    replace hT3 := hT3.le hs6.le
    replace hT4 := hT4.le hs6.le
    replace hT5 := hT5.le hs6.le
    refine V_regionD (id := 15) [] mixed (by kernel_rfl) ?_; refine par_step (ok_loadA L (vs := [_, _, _, _]) (src_own rfl) rfl rfl rfl rfl ⟨_, rfl⟩) rfl ?_; refine par_step (ok_moves' rfl rfl rfl) rfl ?_; refine par_step (ok_indexV L 4096 rfl rfl rfl rfl rfl rfl rfl (by first | omega | decide) (by assumption)) rfl ?_; refine par_step (ok_loadPA L (vs := [_, _, _, _, _, _]) rfl rfl rfl rfl rfl ⟨_, rfl⟩) rfl ?_; refine par_step (ok_build (cs := [_, _, _, _, _, _, _]) rfl rfl pl81 rfl rfl) rfl ?_; refine par_step (ok_call (φ := WithS K4 0) L rfl rfl (blt_lt rfl) rfl rfl rfl WithS.mono (fun u H hH hle _ => with_ret w5 (by first | omega | decide) zt hH (hT1.le hle))) rfl ?_; refine par_step (ok_moves' rfl rfl rfl) rfl ?_; refine par_step (ok_extracts rfl rfl rfl rfl (by assumption)) rfl ?_; refine par_step (ok_extractx rfl rfl rfl rfl) rfl ?_; refine par_step (ok_alloc L rfl rfl rfl rfl) rfl ?_; refine par_step (ok_storeX L (X := SXp) (fun x => scs x.1) (sphi K4) (sphi_mono _) set_st (fun x => ⟨rfl, x.2⟩) rfl rfl rfl rfl rfl) rfl ?_; refine par_step (ok_assign rfl rfl rfl) rfl ?_; refine par_nil ?_; refine N_seq ?_; refine V_seq ?_; refine V_seq ?_
    refine V_opnX 17 rfl fun ⟨⟨f7, p7, k7, q7⟩, hp7⟩ H7 hs7 hT7 => ?_
    have hT7 : SetV K4 (.agg #[f7, .pointer p7, k7, .pointer q7]) H7 := hT7
    replace hT1 := hT1.le hs7.le
    replace hT2 := hT2.le hs7.le
    replace hT3 := hT3.le hs7.le
    replace hT4 := hT4.le hs7.le
    replace hT5 := hT5.le hs7.le
    replace hT6 := hT6.le hs7.le
    refine V_regionD (id := 16) [] mixed (by kernel_rfl) ?_; refine par_step (ok_move rfl rfl rfl) rfl ?_; refine par_step (ok_move rfl rfl rfl) rfl ?_; refine par_step (ok_add rfl rfl rfl rfl (by assumption)) rfl ?_; refine par_step (ok_move rfl rfl rfl) rfl ?_; refine par_step (ok_add rfl rfl rfl rfl (by assumption)) rfl ?_; refine par_step (ok_move rfl rfl rfl) rfl ?_; refine par_step (ok_add rfl rfl rfl rfl (by assumption)) rfl ?_; refine par_step (ok_move rfl rfl rfl) rfl ?_; refine par_step (ok_add rfl rfl rfl rfl (by assumption)) rfl ?_; refine par_step (ok_neq rfl rfl rfl rfl (decide_eq_false (by omega))) rfl ?_; refine par_step (ok_move rfl rfl rfl) rfl ?_; refine par_step (ok_move rfl rfl rfl) rfl ?_; refine par_step (ok_neq rfl rfl rfl rfl (decide_eq_false (by omega))) rfl ?_; refine par_step (ok_pick rfl rfl rfl rfl) rfl ?_; refine par_step (ok_move rfl rfl rfl) rfl ?_; refine par_step (ok_move rfl rfl rfl) rfl ?_; refine par_step (ok_neq rfl rfl rfl rfl (decide_eq_false (by omega))) rfl ?_; refine par_step (ok_pick rfl rfl rfl rfl) rfl ?_; refine par_step (ok_move rfl rfl rfl) rfl ?_; refine par_step (ok_loadA L (vs := [_, _, _, _]) (src_own rfl) rfl rfl rfl rfl ⟨_, rfl⟩) rfl ?_; refine par_step (ok_callx L rfl rfl (blt_lt rfl) rfl rfl rfl (fun u H hH hle _ => slen_ret l4 hH (hT4.le hle))) rfl ?_; refine par_step (ok_neq rfl rfl rfl rfl (decide_eq_false (by omega))) rfl ?_; refine par_step (ok_pick rfl rfl rfl rfl) rfl ?_; refine par_step (ok_move rfl rfl rfl) rfl ?_; refine par_step (ok_loadA L (vs := [_, _, _, _]) (src_own rfl) rfl rfl rfl rfl ⟨_, rfl⟩) rfl ?_; refine par_step (ok_callx L rfl rfl (blt_lt rfl) rfl rfl rfl (fun u H hH hle _ => slen_ret l4 hH (hT7.le hle))) rfl ?_; refine par_step (ok_neq rfl rfl rfl rfl (decide_eq_false (by omega))) rfl ?_; refine par_step (ok_pick rfl rfl rfl rfl) rfl ?_; refine par_step (ok_move rfl rfl rfl) rfl ?_; refine par_step (ok_loadA L (vs := [_, _, _, _]) (src_own rfl) rfl rfl rfl rfl ⟨_, rfl⟩) rfl ?_; refine par_step (ok_callx L rfl rfl (blt_lt rfl) rfl rfl rfl (fun u H hH hle _ => slen_ret la hH (hT5.le hle))) rfl ?_; refine par_step (ok_neq rfl rfl rfl rfl (decide_eq_false (by omega))) rfl ?_; refine par_step (ok_pick rfl rfl rfl rfl) rfl ?_; refine par_step (ok_move rfl rfl rfl) rfl ?_; refine par_step (ok_loadA L (vs := [_, _, _, _]) (src_own rfl) rfl rfl rfl rfl ⟨_, rfl⟩) rfl ?_; refine par_step (ok_callx L rfl rfl (blt_lt rfl) rfl rfl rfl (fun u H hH hle _ => slen_ret lz hH (hT6.le hle))) rfl ?_; refine par_step (ok_neq rfl rfl rfl rfl (decide_eq_false (by omega))) rfl ?_; refine par_step (ok_pick rfl rfl rfl rfl) rfl ?_; refine par_step (ok_move rfl rfl rfl) rfl ?_; refine par_step (ok_loadA L (vs := [_, _, _, _]) (src_own rfl) rfl rfl rfl rfl ⟨_, rfl⟩) rfl ?_; refine par_step (ok_moves' rfl rfl rfl) rfl ?_; refine par_step (ok_indexV L 4096 rfl rfl rfl rfl rfl rfl rfl (by first | omega | decide) (by assumption)) rfl ?_; refine par_step (ok_loadPA L (vs := [_, _, _, _, _, _]) rfl rfl rfl rfl rfl ⟨_, rfl⟩) rfl ?_; refine par_step (ok_callx L rfl rfl (blt_lt rfl) rfl rfl rfl (fun u H hH hle _ => shas_ret hh1 hH (hT6.le hle))) rfl ?_; refine par_step (ok_not rfl rfl rfl rfl) rfl ?_; refine par_step (ok_pick rfl rfl rfl rfl) rfl ?_; refine par_step (ok_move rfl rfl rfl) rfl ?_; refine par_step (ok_loadA L (vs := [_, _, _, _]) (src_own rfl) rfl rfl rfl rfl ⟨_, rfl⟩) rfl ?_; refine par_step (ok_moves' rfl rfl rfl) rfl ?_; refine par_step (ok_indexV L 7 rfl rfl rfl rfl rfl rfl rfl (by first | omega | decide) (by assumption)) rfl ?_; refine par_step (ok_loadPA L (vs := [_, _, _, _, _, _]) rfl rfl rfl rfl rfl ⟨_, rfl⟩) rfl ?_; refine par_step (ok_callx L rfl rfl (blt_lt rfl) rfl rfl rfl (fun u H hH hle _ => shas_ret hh2 hH (hT6.le hle))) rfl ?_; refine par_step (ok_pick rfl rfl rfl rfl) rfl ?_; refine par_step (ok_move rfl rfl rfl) rfl ?_; refine par_step (ok_loadA L (vs := [_, _, _, _]) (src_own rfl) rfl rfl rfl rfl ⟨_, rfl⟩) rfl ?_; refine par_step (ok_fieldAt L rfl rfl rfl rfl) rfl ?_; refine par_step (ok_loadA L (vs := [_, _, _]) (src_at rfl) rfl rfl rfl rfl ⟨_, rfl⟩) rfl ?_; refine par_step (ok_call (φ := US Z true) L rfl rfl (blt_lt rfl) rfl rfl rfl SlV.mono (fun u H hH hle _ => sgoal_ret hg (by omega) hH (hT6.le hle))) rfl ?_; refine par_step (ok_lenV L rfl rfl rfl rfl) rfl ?_; refine par_step (ok_neq rfl rfl rfl rfl (decide_eq_false (by omega))) rfl ?_; refine par_step (ok_pick rfl rfl rfl rfl) rfl ?_; refine par_step (ok_move rfl rfl rfl) rfl ?_; refine par_step (ok_loadA L (vs := [_, _, _, _]) (src_own rfl) rfl rfl rfl rfl ⟨_, rfl⟩) rfl ?_; refine par_step (ok_moves' rfl rfl rfl) rfl ?_; refine par_step (ok_indexV L 9 rfl rfl rfl rfl rfl rfl rfl (by first | omega | decide) (by assumption)) rfl ?_; refine par_step (ok_fieldAP L rfl rfl rfl rfl) rfl ?_; refine par_step (ok_loadPA L (vs := [_, _, _]) rfl rfl rfl rfl rfl ⟨_, rfl⟩) rfl ?_; refine par_step (ok_call (φ := US S9 true) L rfl rfl (blt_lt rfl) rfl rfl rfl SlV.mono (fun u H hH hle _ => ssub_ret hsb (by omega) hH (hT6.le hle))) rfl ?_; refine par_step (ok_lenV L rfl rfl rfl rfl) rfl ?_; refine par_step (ok_neq rfl rfl rfl rfl (decide_eq_false (by omega))) rfl ?_; refine par_step (ok_pick rfl rfl rfl rfl) rfl ?_; refine par_nil ?_; refine N_seq ?_; refine V_false rfl ?_; refine V_skip ?_; refine N_seq ?_; refine V_seq ?_; refine V_region (id := 18) ?_; refine vo_step (ok_alloc L rfl rfl rfl rfl) rfl ?_; refine vo_nil ?_; refine N_seq ?_; refine V_seq ?_
    have hT0 : SetV [] nilSet H7 := SetV.nil
    refine V_regionD (id := 19) [] mixed (by kernel_rfl) ?_; refine par_step (ok_loadA L (vs := [_, _, _, _]) (src_own rfl) rfl rfl rfl rfl ⟨_, rfl⟩) rfl ?_; refine par_step (ok_moves' rfl rfl rfl) rfl ?_; refine par_step (ok_indexV L 0 rfl rfl rfl rfl rfl rfl rfl (by first | omega | decide) (by assumption)) rfl ?_; refine par_step (ok_loadPA L (vs := [_, _, _, _, _, _]) rfl rfl rfl rfl rfl ⟨_, rfl⟩) rfl ?_; refine par_step (ok_build (cs := [_, _, _, _, _, _, _]) rfl rfl pl81 rfl rfl) rfl ?_; refine par_step (ok_call (φ := WithS [y0] 0) L rfl rfl (blt_lt rfl) rfl rfl rfl WithS.mono (fun u H hH hle _ => with_ret w6 (by first | omega | decide) z0 hH (hT0.le hle))) rfl ?_; refine par_step (ok_moves' rfl rfl rfl) rfl ?_; refine par_step (ok_extracts rfl rfl rfl rfl (by assumption)) rfl ?_; refine par_step (ok_extractx rfl rfl rfl rfl) rfl ?_; refine par_step (ok_alloc L rfl rfl rfl rfl) rfl ?_; refine par_step (ok_storeX L (X := SXp) (fun x => scs x.1) (sphi [y0]) (sphi_mono _) set_st (fun x => ⟨rfl, x.2⟩) rfl rfl rfl rfl rfl) rfl ?_; refine par_step (ok_assign rfl rfl rfl) rfl ?_; refine par_nil ?_; refine N_seq ?_; refine V_seq ?_
    refine V_opnX 20 rfl fun ⟨⟨f8, p8, k8, q8⟩, hp8⟩ H8 hs8 hT8 => ?_
    have hT8 : SetV [y0] (.agg #[f8, .pointer p8, k8, .pointer q8]) H8 := hT8
    replace hT1 := hT1.le hs8.le
    replace hT2 := hT2.le hs8.le
    replace hT3 := hT3.le hs8.le
    replace hT4 := hT4.le hs8.le
    replace hT5 := hT5.le hs8.le
    replace hT6 := hT6.le hs8.le
    replace hT7 := hT7.le hs8.le
    replace hT0 := hT0.le hs8.le
    refine V_regionD (id := 20) [] mixed (by kernel_rfl) ?_; refine par_step (ok_loadA L (vs := [_, _, _, _]) (src_own rfl) rfl rfl rfl rfl ⟨_, rfl⟩) rfl ?_; refine par_step (ok_moves' rfl rfl rfl) rfl ?_; refine par_step (ok_indexV L 0 rfl rfl rfl rfl rfl rfl rfl (by first | omega | decide) (by assumption)) rfl ?_; refine par_step (ok_loadPA L (vs := [_, _, _, _, _, _]) rfl rfl rfl rfl rfl ⟨_, rfl⟩) rfl ?_; refine par_step (ok_build (cs := [_, _, _, _, _, _, _]) rfl rfl pl81 rfl rfl) rfl ?_; refine par_step (ok_call (φ := WithS [] 0) L rfl rfl (blt_lt rfl) rfl rfl rfl WithS.mono (fun u H hH hle _ => with_ret w7 (by first | omega | decide) z0 hH (hT0.le hle))) rfl ?_; refine par_step (ok_moves' rfl rfl rfl) rfl ?_; refine par_step (ok_extracts rfl rfl rfl rfl (by assumption)) rfl ?_; refine par_step (ok_extractx rfl rfl rfl rfl) rfl ?_; refine par_step (ok_alloc L rfl rfl rfl rfl) rfl ?_; refine par_step (ok_storeX L (X := SXp) (fun x => scs x.1) (sphi []) (sphi_mono _) set_st (fun x => ⟨rfl, x.2⟩) rfl rfl rfl rfl rfl) rfl ?_; refine par_step (ok_assign rfl rfl rfl) rfl ?_; refine par_nil ?_; refine N_seq ?_; refine V_seq ?_
    refine V_opnX 22 rfl fun ⟨⟨f9, p9, k9, q9⟩, hp9⟩ H9 hs9 hT9 => ?_
    have hT9 : SetV [] (.agg #[f9, .pointer p9, k9, .pointer q9]) H9 := hT9
    replace hT1 := hT1.le hs9.le
    replace hT2 := hT2.le hs9.le
    replace hT3 := hT3.le hs9.le
    replace hT4 := hT4.le hs9.le
    replace hT5 := hT5.le hs9.le
    replace hT6 := hT6.le hs9.le
    replace hT7 := hT7.le hs9.le
    replace hT0 := hT0.le hs9.le
    replace hT8 := hT8.le hs9.le
    refine V_region (id := 21) ?_; refine vo_step (ok_call (φ := WithP [] 0) L rfl rfl (blt_lt rfl) rfl rfl rfl WithP.mono (fun u H hH hle _ => sof_ret (fu := false) o2 (by decide) (fun t ht => by cases ht) hH SlV.nil)) rfl ?_; refine vo_opn 211 rfl ?_; rintro _ H10 hs10 ⟨tv, rfl, hT10⟩; obtain ⟨f10, p10, k10, q10, rfl, hp10⟩ := hT10.shape; replace hT1 := hT1.le hs10.le; replace hT2 := hT2.le hs10.le; replace hT3 := hT3.le hs10.le; replace hT4 := hT4.le hs10.le; replace hT5 := hT5.le hs10.le; replace hT6 := hT6.le hs10.le; replace hT7 := hT7.le hs10.le; replace hT0 := hT0.le hs10.le; replace hT8 := hT8.le hs10.le; replace hT9 := hT9.le hs10.le; refine vo_step (ok_move rfl rfl rfl) rfl ?_; refine vo_step (ok_extract rfl rfl rfl rfl) rfl ?_; refine vo_step (ok_extract rfl rfl rfl rfl) rfl ?_; refine vo_step (ok_alloc L rfl rfl rfl rfl) rfl ?_; refine vo_step (ok_store L rfl rfl rfl rfl rfl rfl (by assumption) rfl) rfl ?_; refine vo_step (ok_assign rfl rfl rfl) rfl ?_; refine vo_nil ?_; refine N_seq ?_; refine V_seq ?_
    have hMz : GlobM H10 := hM.mono (hs1.le.trans (hs2.le.trans (hs3.le.trans (hs4.le.trans (hs5.le.trans (hs6.le.trans (hs7.le.trans (hs8.le.trans (hs9.le.trans (hs10.le))))))))))
    refine V_regionD (id := 22) [] mixed (by kernel_rfl) ?_; refine par_step (ok_move rfl rfl rfl) rfl ?_; refine par_step (ok_move rfl rfl rfl) rfl ?_; refine par_step (ok_add rfl rfl rfl rfl (by assumption)) rfl ?_; refine par_step (ok_move rfl rfl rfl) rfl ?_; refine par_step (ok_add rfl rfl rfl rfl (by assumption)) rfl ?_; refine par_step (ok_eql rfl rfl rfl rfl (decide_eq_true (by omega))) rfl ?_; refine par_step (ok_move rfl rfl rfl) rfl ?_; refine par_step (ok_loadA L (vs := [_, _, _, _]) (src_own rfl) rfl rfl rfl rfl ⟨_, rfl⟩) rfl ?_; refine par_step (ok_callx L rfl rfl (blt_lt rfl) rfl rfl rfl (fun u H hH hle _ => slen_ret (n := 1) rfl hH (hT8.le hle))) rfl ?_; refine par_step (ok_eql rfl rfl rfl rfl (decide_eq_true (by omega))) rfl ?_; refine par_step (ok_pick rfl rfl rfl rfl) rfl ?_; refine par_step (ok_move rfl rfl rfl) rfl ?_; refine par_step (ok_loadA L (vs := [_, _, _, _]) (src_own rfl) rfl rfl rfl rfl ⟨_, rfl⟩) rfl ?_; refine par_step (ok_callx L rfl rfl (blt_lt rfl) rfl rfl rfl (fun u H hH hle _ => slen_ret (n := 0) rfl hH (hT9.le hle))) rfl ?_; refine par_step (ok_eql rfl rfl rfl rfl (decide_eq_true (by omega))) rfl ?_; refine par_step (ok_pick rfl rfl rfl rfl) rfl ?_; refine par_step (ok_move rfl rfl rfl) rfl ?_; refine par_step (ok_loadA L (vs := [_, _, _, _]) (src_own rfl) rfl rfl rfl rfl ⟨_, rfl⟩) rfl ?_; refine par_step (ok_loadA L (vs := [_, _, _, _]) (src_own rfl) rfl rfl rfl rfl ⟨_, rfl⟩) rfl ?_; refine par_step (ok_callx L rfl rfl (blt_lt rfl) rfl rfl rfl (fun u H hH hle _ => ssame_ret (a := []) (b := []) (by decide) (by decide) rfl hH (hT0.le hle) (hT10.le hle))) rfl ?_; refine par_step (ok_pick rfl rfl rfl rfl) rfl ?_; refine par_step (ok_move rfl rfl rfl) rfl ?_; refine par_step (ok_loadA L (vs := [_, _, _, _]) (src_own rfl) rfl rfl rfl rfl ⟨_, rfl⟩) rfl ?_; refine par_step (ok_moves' rfl rfl rfl) rfl ?_; refine par_step (ok_indexV L 0 rfl rfl rfl rfl rfl rfl rfl (by first | omega | decide) (by assumption)) rfl ?_; refine par_step (ok_loadPA L (vs := [_, _, _, _, _, _]) rfl rfl rfl rfl rfl ⟨_, rfl⟩) rfl ?_; refine par_step (ok_callx L rfl rfl (blt_lt rfl) rfl rfl rfl (fun u H hH hle _ => shas_ret (l := []) (b := false) (decide_eq_false (fun h => by cases h)) hH (hT0.le hle))) rfl ?_; refine par_step (ok_not rfl rfl rfl rfl) rfl ?_; refine par_step (ok_pick rfl rfl rfl rfl) rfl ?_; refine par_step (ok_move rfl rfl rfl) rfl ?_; refine par_step (ok_loadA L (vs := [_, _, _, _]) (src_own rfl) rfl rfl rfl rfl ⟨_, rfl⟩) rfl ?_; refine par_step (ok_call (φ := G3S [] true) L rfl rfl (blt_lt rfl) rfl rfl rfl SlV.mono (fun u H hH hle _ => sgoals_ret (l := []) rfl (by decide) hH (hT0.le hle))) rfl ?_; refine par_step (ok_lenV L rfl rfl rfl rfl) rfl ?_; refine par_step (ok_loadA L (vs := [_, _, _, _]) (src_own rfl) rfl rfl rfl rfl ⟨_, rfl⟩) rfl ?_; refine par_step (ok_call (φ := US [] true) L rfl rfl (blt_lt rfl) rfl rfl rfl SlV.mono (fun u H hH hle _ => slist_ret (l := []) (by decide) hH (hT0.le hle))) rfl ?_; refine par_step (ok_lenV L rfl rfl rfl rfl) rfl ?_; refine par_step (ok_add rfl rfl rfl rfl (by assumption)) rfl ?_; refine par_step (ok_loadA L (vs := [_, _, _, _]) (src_own rfl) rfl rfl rfl rfl ⟨_, rfl⟩) rfl ?_; refine par_step (ok_build (cs := [_, _, _, _, _, _, _]) rfl rfl pl36 rfl rfl) rfl ?_; refine par_step (ok_call (φ := US [] true) L rfl rfl (blt_lt rfl) rfl rfl rfl SlV.mono (fun u H hH hle _ => smatch_ret (l := []) (f := nF) mN (by decide) fm_nil hH (hT0.le hle))) rfl ?_; refine par_step (ok_lenV L rfl rfl rfl rfl) rfl ?_; refine par_step (ok_add rfl rfl rfl rfl (by assumption)) rfl ?_; refine par_step (ok_eql rfl rfl rfl rfl (decide_eq_true (by omega))) rfl ?_; refine par_step (ok_pick rfl rfl rfl rfl) rfl ?_; refine par_step (ok_move rfl rfl rfl) rfl ?_; refine par_step (ok_callx L rfl rfl (blt_lt rfl) rfl rfl rfl (fun u H hH hle _ => lives06_ret hH (hMz.mono hle))) rfl ?_; refine par_step (ok_pick rfl rfl rfl rfl) rfl ?_; refine par_step (ok_assign rfl rfl rfl) rfl ?_; refine par_nil ?_; refine N_seq ?_
    refine V_ret L (rs := [.tmp 0]) rfl (fun _ _ h => h) (hs1.trans (hs2.trans (hs3.trans (hs4.trans (hs5.trans (hs6.trans (hs7.trans (hs8.trans (hs9.trans (hs10)))))))))) fun u H hH hle => ?_
    rfl
end Go.V.L6
/- What is passed is opened: flat values (strings, numbers, truth values, structs and arrays of such) by a list of their leaves. -/
namespace Go.V
open Go.RowKit
inductive LeafK where
  | s
  | b
  | i (k : IntKind)
def LeafOK : LeafK → Value → Prop
  | .s, v => ∃ a : ByteArray, v = .string a ∧ a.size ≤ maxLen
  | .b, v => ∃ c, v = .bool c
  | .i k, v => ∃ n, v = .int k n ∧ (Lit.int k n).wf = true
def LeafsOK : List LeafK → List Value → Prop
  | [], [] => True
  | l :: ls, v :: vs => LeafOK l v ∧ LeafsOK ls vs
  | _, _ => False
theorem LeafsOK.append : ∀ {a b : List LeafK} {x y : List Value}, LeafsOK a x → LeafsOK b y → LeafsOK (a ++ b) (x ++ y)
  | [], _, [], _, _, h => h
  | [], _, _ :: _, _, h, _ => h.elim
  | _ :: _, _, [], _, h, _ => h.elim
  | _ :: _, _, _ :: _, _, h, k => ⟨h.1, LeafsOK.append h.2 k⟩
theorem LeafsOK.length : ∀ {a : List LeafK} {x : List Value}, LeafsOK a x → x.length = a.length
  | [], [], _ => rfl
  | [], _ :: _, h => h.elim
  | _ :: _, [], h => h.elim
  | _ :: _, _ :: _, h => by simp [LeafsOK.length h.2]
section
variable {P : Program} {H : Type} {enc : TypeId × Value → H} {W : World} {sp : Nat → Bool} {held : Bool} {base : Nat}
end
end Go.V
namespace Go.Proofs.Ytelaiancfbaalaa.setsKnown
open Go.ChangeShapes Go.WideShapes Go.ChangeAt Go.ChangeMaps Go.RowKit Go.V
theorem own : ownKnob Try.prog.godebug = none := by kernel_rfl
theorem laidOut : laidOutB Try.prog = true := by kernel_rfl
set_option maxRecDepth 100000 in
theorem lifted (os : Os) (started : os.Started) (H : Type) (enc : TypeId × Value → H) :
    ReturnsInHanded {} Try.checked os 8 .any (Rows.setsKnownSpec.pre6 enc Try.prog Try.f8 Rows.setsKnownRow.domain false) (Rows.setsKnownSpec.post enc Try.prog Try.f8 false true false false) := by
  refine returnsInHanded_of_change_shaped (C := Try.checked) own started (by kernel_rfl) Try.func8
    (ChangeSpec.witness6 (enc := enc) (C := Try.checked) false ⟨#[], #[], []⟩ 8 (by kernel_rfl) (by kernel_rfl) (by kernel_rfl) (by kernel_rfl)) ?_
  intro W base args ds gs before hval0 hW hcnd _ hsh _
  have hval : ∀ (j : Nat) t v, Try.f8.params[j]? = some t → args[j]? = some v → Value.okWide Try.prog W .any base t v := hval0
  have hW' := hW
  obtain ⟨p, q, hA0, hV, rfl, hfz, hnd⟩ := hW
  have hA : DataW.TrodAll enc Try.prog W 0 (fun _ => true) true Try.f8.params.toList args.toList ds p := hA0
  rw [Try.params8] at hA hval
  obtain ⟨rfl, rfl, rfl⟩ := trodAll_none hA
  obtain ⟨rfl, rfl⟩ := trodVars_none hV
  clear hA0 hval0
  obtain ⟨m0, hm0⟩ := Try.laysM145.s1_3 W hsh
  have hglob := GlobM.of_cell hm0
  have hplc := hW'.lt
  simp only [List.append_nil] at hW'
  have hlaw := Go.V.L6.setsKnown_law (w := W) (Heap.Le.refl _) hglob
  unfold Ret at hlaw
  refine hlaw.mono fun e W' hp => ?_
  obtain ⟨v, rfl, H', g, rfl⟩ := hp
  exact ⟨_, rfl, _, _, _, [], [], [], hW', trodAll_cons_mk (shut_bool Try.underlying4 _) trodAll_mk0, trodAll_mk0, rfl, g.below.frame _, fun h => by cases h⟩
theorem proved : Rows.SetsKnownSaid :=
  OpenClaim.holds_of_wide 8 Try.f8 rfl rfl rfl rfl rfl rfl rfl ⟨rfl, rfl, rfl, rfl, rfl⟩ rfl rfl rfl rfl rfl (by kernel_rfl) Try.func8 (by kernel_rfl)
    (of_decide_eq_true (by kernel_rfl)) (by unfold Func.isWrapper; first | (rw [if_pos (by decide +kernel)]; kernel_rfl) | (rw [if_neg (by decide +kernel)]; exact ⟨rfl, rfl⟩))
    (fun os started H enc _ => lifted os started H enc)
#print axioms proved
end Go.Proofs.Ytelaiancfbaalaa.setsKnown
