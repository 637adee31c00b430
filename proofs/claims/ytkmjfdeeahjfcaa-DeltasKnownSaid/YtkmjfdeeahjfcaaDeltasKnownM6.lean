/- DeltasKnown returns true: no condition. -/
import Derived.Test.YtkmjfdeeahjfcaaDeltasKnownM5
import Derived.ProofKit
import Derived.HandedShaped
import Derived.OpenShut
import Derived.Carry
import Derived.Deep.Slices
import Derived.Test.YtkmjfdeeahjfcaaRows
set_option linter.unusedVariables false
set_option linter.unusedSimpArgs false
/- DeltasKnown (chapter 7). -/
namespace Go.V.L8
open Go.Proofs Go.RowKit Go.V Go.V.L2 Go.V.L3 Go.V.L6
theorem withP_toS {l : List U} {e : Int} {v : Value} {H : Heap} (h : WithP l e v H) : WithS l e v H := by
  obtain ⟨tv, rfl, h⟩ := h
  exact tups2 h
theorem cs_cut7 (l : List CH) (k : Nat) : ((l.flatMap ccs).drop (0 * 7)).take ((k - 0) * 7) = (l.take k).flatMap ccs := by
  rw [Nat.zero_mul, List.drop_zero, Nat.sub_zero]
  rcases Nat.lt_or_ge k l.length with h | h
  · conv => lhs; rw [← List.take_append_drop k l, List.flatMap_append]
    rw [List.take_left' (by rw [flatMap_len ccs_len, List.length_take, Nat.min_eq_left (by omega)])]
  · rw [List.take_of_length_le (by rw [flatMap_len ccs_len]; exact Nat.mul_le_mul_right _ h), List.take_of_length_le h]
attribute [local irreducible] V N X VO Par StepOK Has Ret RetL RetO RetT RetG Src kl pl
set_option maxHeartbeats 32000000 in
set_option maxRecDepth 20000 in
theorem deltasKnown_law {w : World} {B : Heap} (hB : B.Le (hp w)) : Ret Try.prog 9 [] w B (fun v _ => v = .bool true) := by
  have t0 : tE d0 = 0 := by decide +kernel
  have t2 : tE d2 = 0 := by decide +kernel
  have tc : tE dC = 0 := by decide +kernel
  have tz : TZ d0 := tz_ofB (by decide)
  have tz2 : TZ d2 := tz_ofB (by decide)
  have tzC : TZ dC := tz_ofB (by decide)
  have tm2 := tm_of tz2
  have tmC := tm_of tzC
  have hb2 : ∀ i, i < 4097 → cmpT (kt d0 i) d2 < 0 := fun i _ => by
    rw [cmpT_1 (show (kt d0 i).1 ≠ d2.1 by show d0.1 ≠ d2.1; decide)]
    show cmp3 d0.1 d2.1 < 0
    decide +kernel
  have hbC : ∀ i, i < 4097 → cmpT (kt d0 i) dC < 0 := fun i _ => by
    rw [cmpT_1 (show (kt d0 i).1 ≠ dC.1 by show d0.1 ≠ dC.1; decide)]
    show cmp3 d0.1 dC.1 < 0
    decide +kernel
  refine V_enter Try.func9 rfl Try.ntmps9 (Nat.le_of_ble_eq_true rfl) hB ?_
  refine V_seq ?_; refine V_region (id := 0) ?_; refine vo_step (ok_assign rfl rfl rfl) rfl ?_; refine vo_nil ?_; refine N_seq ?_; refine V_seq ?_; refine V_region (id := 1) ?_; refine vo_step (ok_callx L rfl rfl (blt_lt rfl) rfl rfl rfl (fun u H hH _ _ => three7_ret hH)) rfl ?_; refine vo_step (ok_move rfl rfl rfl) rfl ?_; refine vo_step (ok_extract rfl rfl rfl rfl) rfl ?_; refine vo_step (ok_extract rfl rfl rfl rfl) rfl ?_; refine vo_step (ok_extract rfl rfl rfl rfl) rfl ?_; refine vo_step (ok_alloc L rfl rfl rfl rfl) rfl ?_; refine vo_step (ok_alloc L rfl rfl rfl rfl) rfl ?_; refine vo_step (ok_alloc L rfl rfl rfl rfl) rfl ?_; refine vo_step (ok_store L rfl rfl rfl rfl rfl rfl rfl rfl) rfl ?_; refine vo_step (ok_store L rfl rfl rfl rfl rfl rfl rfl rfl) rfl ?_; refine vo_step (ok_store L rfl rfl rfl rfl rfl rfl rfl rfl) rfl ?_; refine vo_nil ?_; refine N_seq ?_; refine V_seq ?_; refine V_region (id := 2) ?_; refine vo_step (ok_assign rfl rfl rfl) rfl ?_; refine vo_nil ?_; refine N_seq ?_; refine V_seq ?_; refine V_region (id := 3) ?_; refine vo_step (ok_assign rfl rfl rfl) rfl ?_; refine vo_nil ?_; refine N_seq ?_; refine V_seq ?_; refine V_seq ?_; refine V_region (id := 4) ?_; refine vo_step (ok_assign rfl rfl rfl) rfl ?_; refine vo_nil ?_; refine N_seq ?_; refine V_block ?_
  refine V_nilR 5 tyC 7 rfl ?_
  refine V_loop (fun i : Nat => [(1, .own (Cell (ucs d0) tyU)), (2, .own (Cell (ucs d2) tyU)), (3, .own (Cell (ucs dC) tyU)), (4, .is (.string d36)), (5, .own (SlR tyC 7 (pl d0 i).length ((pl d0 i).flatMap ccs))), (6, .is (.int .i64 i))]) (fun i => i ≤ 4097) (fun i => 4097 - i) 0 (Nat.zero_le _)
    ⟨rfl, rfl, rfl, rfl, by show _ = some (Kn.own (SlR tyC 7 (pl d0 0).length ((pl d0 0).flatMap ccs))); rw [show pl d0 0 = [] from by unfold pl; rw [kl_zero]; rfl]; rfl, rfl, trivial⟩ ?_
  rintro i hi
  have hpi := pl_length d0 i
  by_cases hlt : i < 4097
  · have q1296 : IntKind.i64.wrap ((i : Int).tdiv 1296) = ((i / 1296 : Nat) : Int) := wrap_i64 (by rw [show (i : Int).tdiv 1296 = ((i / 1296 : Nat) : Int) from rfl]; omega) (by rw [show (i : Int).tdiv 1296 = ((i / 1296 : Nat) : Int) from rfl]; omega)
    have q36 : IntKind.i64.wrap ((i : Int).tdiv 36) = ((i / 36 : Nat) : Int) := wrap_i64 (by rw [show (i : Int).tdiv 36 = ((i / 36 : Nat) : Int) from rfl]; omega) (by rw [show (i : Int).tdiv 36 = ((i / 36 : Nat) : Int) from rfl]; omega)
    have r36 : Int.tmod ((i / 36 : Nat) : Int) 36 = ((i / 36 % 36 : Nat) : Int) := rfl
    have r1 : Int.tmod (i : Int) 36 = ((i % 36 : Nat) : Int) := rfl
    have s1 := dgt_size (i / 1296) (by omega)
    have s2 := dgt_size (i / 36 % 36) (by omega)
    have s3 := dgt_size (i % 36) (by omega)
    have habc : d36.size = 36 := rfl
    have h1 : (dgt (i / 1296)).size + (dgt (i / 36 % 36)).size ≤ 9223372036854775807 := by omega
    have h2 : (dgt (i / 1296) ++ dgt (i / 36 % 36)).size + (dgt (i % 36)).size ≤ 9223372036854775807 := by rw [ByteArray.size_append]; omega
    unfold dgt at h1 h2
    have a1 : IntKind.i64.wrap (((i / 1296 : Nat) : Int) + 1) = ((i / 1296 + 1 : Nat) : Int) := wrap_i64 (by omega) (by omega)
    have a2 : IntKind.i64.wrap (((i / 36 % 36 : Nat) : Int) + 1) = ((i / 36 % 36 + 1 : Nat) : Int) := wrap_i64 (by omega) (by omega)
    have a3 : IntKind.i64.wrap (((i % 36 : Nat) : Int) + 1) = ((i % 36 + 1 : Nat) : Int) := wrap_i64 (by omega) (by omega)
    refine V_seq ?_; refine V_seq ?_; refine V_region (id := 5) ?_; refine vo_step (ok_move rfl rfl rfl) rfl ?_; refine vo_step (ok_lss rfl rfl rfl rfl (decide_eq_true (by omega))) rfl ?_; refine vo_nil ?_; refine N_seq ?_; refine V_true rfl ?_; refine V_skip ?_; refine N_seq ?_; refine V_seq ?_; refine V_block ?_; refine V_seq ?_; refine V_region (id := 7) ?_; refine vo_step (ok_loadA L (vs := [_, _, _, _, _, _]) (src_own rfl) rfl rfl rfl rfl ⟨_, rfl⟩) rfl ?_; refine vo_step (ok_alloc L rfl rfl rfl rfl) rfl ?_; refine vo_step (ok_store L rfl rfl rfl rfl rfl rfl rfl rfl) rfl ?_; refine vo_nil ?_; refine N_seq ?_; refine V_seq ?_
    refine V_hold 7 900 rfl fun b8 => ?_
    refine V_regionD (id := 8) [(100061, [900])] mixed (by kernel_rfl) ?_; refine par_step (ok_move rfl rfl rfl) rfl ?_; refine par_step (ok_move rfl rfl rfl) rfl ?_; refine par_step (ok_quo rfl rfl rfl rfl (by omega) (by assumption)) rfl ?_; refine par_step (ok_move rfl rfl rfl) rfl ?_; refine par_step (ok_quo rfl rfl rfl rfl (by omega) (by assumption)) rfl ?_; refine par_step (ok_add rfl rfl rfl rfl (by assumption)) rfl ?_; refine par_step (ok_sliceS L _ _ rfl rfl rfl rfl ⟨rfl, rfl⟩ ⟨rfl, rfl⟩ (by omega) (by omega) rfl) rfl ?_; refine par_step (ok_move rfl rfl rfl) rfl ?_; refine par_step (ok_move rfl rfl rfl) rfl ?_; refine par_step (ok_quo rfl rfl rfl rfl (by omega) (by assumption)) rfl ?_; refine par_step (ok_rem rfl rfl rfl rfl (by omega) (by assumption)) rfl ?_; refine par_step (ok_move rfl rfl rfl) rfl ?_; refine par_step (ok_quo rfl rfl rfl rfl (by omega) (by assumption)) rfl ?_; refine par_step (ok_rem rfl rfl rfl rfl (by omega) (by assumption)) rfl ?_; refine par_step (ok_add rfl rfl rfl rfl (by assumption)) rfl ?_; refine par_step (ok_sliceS L _ _ rfl rfl rfl rfl ⟨rfl, rfl⟩ ⟨rfl, rfl⟩ (by omega) (by omega) rfl) rfl ?_; refine par_step (ok_sadd rfl rfl rfl rfl (by assumption) rfl) rfl ?_; refine par_step (ok_move rfl rfl rfl) rfl ?_; refine par_step (ok_move rfl rfl rfl) rfl ?_; refine par_step (ok_rem rfl rfl rfl rfl (by omega) (by assumption)) rfl ?_; refine par_step (ok_move rfl rfl rfl) rfl ?_; refine par_step (ok_rem rfl rfl rfl rfl (by omega) (by assumption)) rfl ?_; refine par_step (ok_add rfl rfl rfl rfl (by assumption)) rfl ?_; refine par_step (ok_sliceS L _ _ rfl rfl rfl rfl ⟨rfl, rfl⟩ ⟨rfl, rfl⟩ (by omega) (by omega) rfl) rfl ?_; refine par_step (ok_sadd rfl rfl rfl rfl (by assumption) rfl) rfl ?_; refine par_step (ok_fieldP L rfl rfl rfl rfl) rfl ?_; refine par_step (ok_fieldP L rfl rfl rfl rfl) rfl ?_; refine par_step (ok_fieldP L rfl rfl rfl rfl) rfl ?_; refine par_stepS (ok_storeH L (q := 900) rfl rfl rfl rfl rfl rfl rfl rfl rfl) rfl ?_; refine par_nil ?_; refine N_seq ?_
    refine V_release 7 900 rfl rfl ?_
    refine V_region (id := 9) ?_; refine vo_step2 (ok_moveO (.inl rfl) rfl rfl rfl rfl) ?_; refine vo_step (ok_loadA L (vs := [_, _, _, _, _, _]) (src_own rfl) rfl rfl rfl rfl ⟨_, rfl⟩) rfl ?_; refine vo_step (ok_callx L rfl rfl (blt_lt rfl) rfl rfl rfl (fun u H hH _ _ => put7_ret (kt d0 i) hH)) rfl ?_; refine vo_step (ok_buildSlice L rfl rfl rfl rfl rfl rfl rfl rfl rfl) rfl ?_; refine vo_step2 (ok_append L rfl rfl rfl (apd_B rfl) rfl el67 rfl rfl (by omega) (by omega)) ?_; refine vo_step2 (ok_moveO (.inr rfl) rfl rfl rfl rfl) ?_; refine vo_nil ?_; refine N_block ?_; refine N_seq ?_; refine V_region (id := 6) ?_; refine vo_step (ok_move rfl rfl rfl) rfl ?_; refine vo_step (ok_add rfl rfl rfl rfl (wrap_i64 (by omega) (by omega))) rfl ?_; refine vo_step (ok_assign rfl rfl rfl) rfl ?_; refine vo_nil ?_
    exact N_round (x := i) (i + 1) hlt (by omega) ⟨rfl, rfl, rfl, rfl, by rw [pl_succ]; exact ks_snoc rfl, rfl, trivial⟩
  · obtain rfl : i = 4097 := by omega
    clear hi hlt
    refine V_pubR 5 rfl ?_
    obtain ⟨Z, M, f1, f2, f3, f4, lZ, sZ, f5, f6, lM, m5, f7, c5, f8⟩ := k7 t0 t2 tc hb2 hbC
    have zP : ∀ m ∈ pl d0 4097, TM m.1 := fun m h => by obtain ⟨j, hj, rfl⟩ := pl_mem h; exact tm_of (kt_z tz (by omega))
    have zP4 : ∀ m ∈ pl d0 4096, TM m.1 := fun m h => by obtain ⟨j, hj, rfl⟩ := pl_mem h; exact tm_of (kt_z tz (by omega))
    have lP4 := pl_length d0 4096
    have lK := kl_length d0 4096
    have sK := kl_sst (t := d0) (n := 4096) (by omega)
    have hcP := cs_cut7 (pl d0 4097) 4096
    rw [pl_take (by omega)] at hcP
    have hP4 : ∀ {v : Value} {H : Heap}, SlV tyC 7 ((pl d0 4096).flatMap ccs) (4096 - 0) false v H → KS tyC (pl d0 4096) false v H := fun h => by unfold KS; rw [lP4]; exact h
    have g0 := pl_get (t := d0) (n := 4097) (show 0 < 4097 by omega)
    have g5 := pl_get (t := d0) (n := 4097) (show 5 < 4097 by omega)
    have c0 := ks_at g0
    have c5' := ks_at g5
    have cm5 := ks_at m5
    have tm0 := tm_of (kt_z tz (show 0 < 4097 by omega))
    have tm5 := tm_of (kt_z tz (show 5 < 4097 by omega))
    have pair : ∀ (a b : CH), TM a.1 → TM b.1 → ∀ c ∈ [a, b], TM c.1 := fun a b ha hb c hc => by
      rcases List.mem_cons.1 hc with rfl | hc
      · exact ha
      · rw [List.mem_singleton] at hc; subst hc; exact hb
    have one : ∀ (a : CH), TM a.1 → ∀ c ∈ [a], TM c.1 := fun a ha c hc => by rw [List.mem_singleton] at hc; subst hc; exact ha
    clear g0 g5 m5
    generalize kt d0 0 = y0 at *
    generalize kt d0 5 = y5 at *
    generalize kl d0 4096 = K4 at *
    generalize pl d0 4096 = P4 at *
    generalize pl d0 4097 = P5 at *
    dsimp only at c0 c5' cm5
    have e0 := eqCH (t := (y0, true)) (v := (y0, true)) (decide_eq_true rfl)
    have e2 := eqCH (t := (d2, false)) (v := (d2, false)) (decide_eq_true rfl)
    obtain ⟨Q, hQ⟩ : ∃ Q : List CH, Q = [(y0, true), (d2, false)] := ⟨_, rfl⟩
    have lQ : Q.length = 2 := by rw [hQ]; rfl
    have i0 := ks_at (l := Q) (i := 0) (c := (y0, true)) (by rw [hQ]; rfl)
    have i1 := ks_at (l := Q) (i := 1) (c := (d2, false)) (by rw [hQ]; rfl)
    rw [← hQ] at f8
    dsimp only at i0 i1
    have m1 : Kn.mono (.sat (KS tyC M true)) := SlV.mono
    have m2 : Kn.mono (.sat (KS tyC [] true)) := SlV.mono
    have m3 : Kn.mono (.sat (SetV [])) := SetV.mono
    have m4 : Kn.mono (.sat (SetV K4)) := SetV.mono
    have m6 : Kn.mono (.sat (SetV Z)) := SetV.mono
    have hn : SetV [] nilSet B := SetV.nil
    refine V_seq ?_; refine V_seq ?_; refine V_region (id := 5) ?_; refine vo_step (ok_move rfl rfl rfl) rfl ?_; refine vo_step (ok_lss rfl rfl rfl rfl (decide_eq_false (by omega))) rfl ?_; refine vo_nil ?_; refine N_seq ?_; refine V_false rfl ?_; refine V_exit ?_; refine X_then ?_; refine X_then ?_; refine X_here ?_; refine N_seq ?_; refine V_seq ?_; refine V_region (id := 10) ?_; refine vo_step (ok_alloc L rfl rfl rfl rfl) rfl ?_; refine vo_nil ?_; refine N_seq ?_; refine V_seq ?_; refine V_regionD (id := 11) [] mixed (by kernel_rfl) ?_; refine par_step (ok_loadA L (vs := [_, _, _, _]) (src_own rfl) rfl rfl rfl rfl ⟨_, rfl⟩) rfl ?_; refine par_step (ok_moves' rfl rfl rfl) rfl ?_; refine par_step (ok_sliceV L (kl := .i64) (pl := 0) (km := .i64) (pm := 0) 0 4096 false rfl rfl rfl rfl rfl rfl ⟨rfl, rfl⟩ (fun h => by cases h) (by omega) (by omega) hcP) rfl ?_; refine par_step (ok_call (φ := WithS K4 0) L rfl rfl (blt_lt rfl) rfl rfl rfl WithS.mono (fun u H hH hle _ v1 g1 => (dapply_ret zP4 (by omega) (by decide) f1 hH (hn.le hle) (hP4 g1)).mono fun _ _ _ h => withP_toS h)) rfl ?_; refine par_step (ok_moves' rfl rfl rfl) rfl ?_; refine par_step (ok_extracts rfl rfl rfl rfl (by assumption)) rfl ?_; refine par_step (ok_extractx rfl rfl rfl rfl) rfl ?_; refine par_step (ok_alloc L rfl rfl rfl rfl) rfl ?_; refine par_step (ok_storeX L (X := SXp) (fun x => scs x.1) (sphi K4) (sphi_mono _) set_st (fun x => ⟨rfl, x.2⟩) rfl rfl rfl rfl rfl) rfl ?_; refine par_step (ok_assign rfl rfl rfl) rfl ?_; refine par_nil ?_; refine N_seq ?_; refine V_seq ?_
    refine V_opnX 9 rfl fun ⟨⟨g1, p1, k1, q1⟩, hp1⟩ H1 hs1 hT1 => ?_
    have hT1 : SetV K4 (.agg #[g1, .pointer p1, k1, .pointer q1]) H1 := hT1
    replace hn := hn.le hs1.le
    refine V_region (id := 12) ?_; refine vo_step (ok_loadA L (vs := [_, _, _, _]) (src_own rfl) rfl rfl rfl rfl ⟨_, rfl⟩) rfl ?_; refine vo_step (ok_moves' rfl rfl rfl) rfl ?_; refine vo_step (ok_call (φ := WithS [] 3) L rfl rfl (blt_lt rfl) rfl rfl rfl WithS.mono (fun u H hH hle _ v1 g1 => (dapply_ret zP (by omega) (by decide) f2 hH (hn.le hle) g1).mono fun _ _ _ h => withP_toS h)) rfl ?_; refine vo_step (ok_moves' rfl rfl rfl) rfl ?_; refine vo_step (ok_extracts rfl rfl rfl rfl (by assumption)) rfl ?_; refine vo_step (ok_extractx rfl rfl rfl rfl) rfl ?_; refine vo_step (ok_alloc L rfl rfl rfl rfl) rfl ?_; refine vo_step (ok_storeX L (X := SXp) (fun x => scs x.1) (sphi []) (sphi_mono _) set_st (fun x => ⟨rfl, x.2⟩) rfl rfl rfl rfl rfl) rfl ?_; refine vo_step (ok_assign rfl rfl rfl) rfl ?_; refine vo_nil ?_; refine N_seq ?_; refine V_seq ?_; refine V_regionD (id := 13) [] mixed (by kernel_rfl) ?_; refine par_step (ok_loadA L (vs := [_, _, _, _]) (src_own rfl) rfl rfl rfl rfl ⟨_, rfl⟩) rfl ?_; refine par_step (ok_loadA L (vs := [_, _, _, _, _, _]) (src_own rfl) rfl rfl rfl rfl ⟨_, rfl⟩) rfl ?_; refine par_step (ok_callx L rfl rfl (blt_lt rfl) rfl rfl rfl (fun u H hH _ _ => put7_ret _ hH)) rfl ?_; refine par_step (ok_moves' rfl rfl rfl) rfl ?_; refine par_step (ok_indexV L 0 rfl rfl rfl rfl rfl rfl rfl (by first | omega | decide) (by assumption)) rfl ?_; refine par_step (ok_fieldAP L rfl rfl rfl rfl) rfl ?_; refine par_step (ok_loadPA L (vs := [_, _, _, _, _, _]) rfl rfl rfl rfl rfl ⟨_, rfl⟩) rfl ?_; refine par_step (ok_callx L rfl rfl (blt_lt rfl) rfl rfl rfl (fun u H hH _ _ => drop7_ret _ hH)) rfl ?_; refine par_step (ok_buildSlice L rfl rfl rfl rfl rfl rfl rfl rfl rfl) rfl ?_; refine par_step (ok_call (φ := WithS [] 3) L rfl rfl (blt_lt rfl) rfl rfl rfl WithS.mono (fun u H hH hle _ v1 g1 => (dapply_ret (l := [(d2, false), (y0, true)]) (fu := true) (pair _ _ tm2 tm0) (by simp) (by omega) f3 hH (hT1.le hle) (g1.toV rfl)).mono fun _ _ _ h => withP_toS h)) rfl ?_; refine par_step (ok_moves' rfl rfl rfl) rfl ?_; refine par_step (ok_extracts rfl rfl rfl rfl (by assumption)) rfl ?_; refine par_step (ok_extractx rfl rfl rfl rfl) rfl ?_; refine par_step (ok_alloc L rfl rfl rfl rfl) rfl ?_; refine par_step (ok_storeX L (X := SXp) (fun x => scs x.1) (sphi []) (sphi_mono _) set_st (fun x => ⟨rfl, x.2⟩) rfl rfl rfl rfl rfl) rfl ?_; refine par_step (ok_assign rfl rfl rfl) rfl ?_; refine par_nil ?_; refine N_seq ?_; refine V_seq ?_
    refine V_regionD (id := 14) [] mixed (by kernel_rfl) ?_; refine par_step (ok_loadA L (vs := [_, _, _, _]) (src_own rfl) rfl rfl rfl rfl ⟨_, rfl⟩) rfl ?_; refine par_step (ok_moves' rfl rfl rfl) rfl ?_; refine par_step (ok_indexV L 0 rfl rfl rfl rfl rfl rfl rfl (by first | omega | decide) (by assumption)) rfl ?_; refine par_step (ok_fieldAP L rfl rfl rfl rfl) rfl ?_; refine par_step (ok_loadPA L (vs := [_, _, _, _, _, _]) rfl rfl rfl rfl rfl ⟨_, rfl⟩) rfl ?_; refine par_step (ok_callx L rfl rfl (blt_lt rfl) rfl rfl rfl (fun u H hH _ _ => drop7_ret _ hH)) rfl ?_; refine par_step (ok_loadA L (vs := [_, _, _, _, _, _]) (src_own rfl) rfl rfl rfl rfl ⟨_, rfl⟩) rfl ?_; refine par_step (ok_callx L rfl rfl (blt_lt rfl) rfl rfl rfl (fun u H hH _ _ => put7_ret _ hH)) rfl ?_; refine par_step (ok_buildSlice L rfl rfl rfl rfl rfl rfl rfl rfl rfl) rfl ?_; refine par_step (ok_call (φ := WithS Z 0) L rfl rfl (blt_lt rfl) rfl rfl rfl WithS.mono (fun u H hH hle _ v1 g1 => (dapply_ret (l := [(y0, true), (d2, false)]) (fu := true) (pair _ _ tm0 tm2) (by simp) (by omega) f4 hH (hT1.le hle) (g1.toV rfl)).mono fun _ _ _ h => withP_toS h)) rfl ?_; refine par_step (ok_moves' rfl rfl rfl) rfl ?_; refine par_step (ok_extracts rfl rfl rfl rfl (by assumption)) rfl ?_; refine par_step (ok_extractx rfl rfl rfl rfl) rfl ?_; refine par_step (ok_alloc L rfl rfl rfl rfl) rfl ?_; refine par_step (ok_storeX L (X := SXp) (fun x => scs x.1) (sphi Z) (sphi_mono _) set_st (fun x => ⟨rfl, x.2⟩) rfl rfl rfl rfl rfl) rfl ?_; refine par_step (ok_assign rfl rfl rfl) rfl ?_; refine par_nil ?_; refine N_seq ?_; refine V_seq ?_
    refine V_opnX 15 rfl fun ⟨⟨g2, p2, k2, q2⟩, hp2⟩ H2 hs2 hT2 => ?_
    have hT2 : SetV Z (.agg #[g2, .pointer p2, k2, .pointer q2]) H2 := hT2
    replace hT1 := hT1.le hs2.le
    refine V_regionD (id := 15) [] mixed (by kernel_rfl) ?_; refine par_step (ok_moves' rfl rfl rfl) rfl ?_; refine par_step (ok_sliceV L (kl := .i64) (pl := 0) (km := .i64) (pm := 0) 0 4096 false rfl rfl rfl rfl rfl rfl ⟨rfl, rfl⟩ (fun h => by cases h) (by omega) (by omega) hcP) rfl ?_; refine par_step (ok_loadA L (vs := [_, _, _, _, _, _]) (src_own rfl) rfl rfl rfl rfl ⟨_, rfl⟩) rfl ?_; refine par_step (ok_callx L rfl rfl (blt_lt rfl) rfl rfl rfl (fun u H hH _ _ => put7_ret _ hH)) rfl ?_; refine par_step (ok_buildSlice L rfl rfl rfl rfl rfl rfl rfl rfl rfl) rfl ?_; refine par_step (ok_call (φ := KE [] 3) L rfl rfl (blt_lt rfl) rfl rfl rfl KE.mono (fun u H hH _ _ v1 g1 v2 g2 => dcompose_ret (b := [(dC, false)]) (fb := true) zP4 (one _ tmC) (by omega) (by decide) f5 hH (hP4 g1) (g2.toV rfl))) rfl ?_; refine par_step (ok_moves' rfl rfl rfl) rfl ?_; refine par_step (ok_extracts rfl rfl rfl rfl (by assumption)) rfl ?_; refine par_step (ok_extractx rfl rfl rfl rfl) rfl ?_; refine par_step (ok_assigns' rfl rfl rfl) rfl ?_; refine par_step (ok_assign rfl rfl rfl) rfl ?_; refine par_nil ?_; refine N_seq ?_; refine V_seq ?_
    refine V_regionD (id := 16) [] mixed (by kernel_rfl) ?_; refine par_step (ok_moves' rfl rfl rfl) rfl ?_; refine par_step (ok_sliceV L (kl := .i64) (pl := 0) (km := .i64) (pm := 0) 0 4096 false rfl rfl rfl rfl rfl rfl ⟨rfl, rfl⟩ (fun h => by cases h) (by omega) (by omega) hcP) rfl ?_; refine par_step (ok_moves' rfl rfl rfl) rfl ?_; refine par_step (ok_indexV L 5 rfl rfl rfl rfl rfl rfl rfl (by first | omega | decide) (by assumption)) rfl ?_; refine par_step (ok_fieldAP L rfl rfl rfl rfl) rfl ?_; refine par_step (ok_loadPA L (vs := [_, _, _, _, _, _]) rfl rfl rfl rfl rfl ⟨_, rfl⟩) rfl ?_; refine par_step (ok_callx L rfl rfl (blt_lt rfl) rfl rfl rfl (fun u H hH _ _ => drop7_ret _ hH)) rfl ?_; refine par_step (ok_buildSlice L rfl rfl rfl rfl rfl rfl rfl rfl rfl) rfl ?_; refine par_step (ok_call (φ := KE M 0) L rfl rfl (blt_lt rfl) rfl rfl rfl KE.mono (fun u H hH _ _ v1 g1 v2 g2 => dcompose_ret (b := [(y5, true)]) (fb := true) zP4 (one _ tm5) (by omega) (by simp) f6 hH (hP4 g1) (g2.toV rfl))) rfl ?_; refine par_step (ok_moves' rfl rfl rfl) rfl ?_; refine par_step (ok_extracts rfl rfl rfl rfl (by assumption)) rfl ?_; refine par_step (ok_extractx rfl rfl rfl rfl) rfl ?_; refine par_step (ok_assigns' rfl rfl rfl) rfl ?_; refine par_step (ok_assign rfl rfl rfl) rfl ?_; refine par_nil ?_; refine N_seq ?_; refine V_seq ?_
    refine V_regionD (id := 17) [] mixed (by kernel_rfl) ?_; refine par_step (ok_loadA L (vs := [_, _, _, _]) (src_own rfl) rfl rfl rfl rfl ⟨_, rfl⟩) rfl ?_; refine par_step (ok_loadA L (vs := [_, _, _, _, _, _]) (src_own rfl) rfl rfl rfl rfl ⟨_, rfl⟩) rfl ?_; refine par_step (ok_callx L rfl rfl (blt_lt rfl) rfl rfl rfl (fun u H hH _ _ => put7_ret _ hH)) rfl ?_; refine par_step (ok_buildSlice L rfl rfl rfl rfl rfl rfl rfl rfl rfl) rfl ?_; refine par_step (ok_call (φ := KE [] 3) L rfl rfl (blt_lt rfl) rfl rfl rfl KE.mono (fun u H hH hle _ v1 g1 => dinvert_ret (l := [(d2, false)]) (fu := true) (one _ tm2) (by decide) (by omega) f7 hH (hT1.le hle) (g1.toV rfl))) rfl ?_; refine par_step (ok_moves' rfl rfl rfl) rfl ?_; refine par_step (ok_extracts rfl rfl rfl rfl (by assumption)) rfl ?_; refine par_step (ok_extractx rfl rfl rfl rfl) rfl ?_; refine par_step (ok_assigns' rfl rfl rfl) rfl ?_; refine par_step (ok_assign rfl rfl rfl) rfl ?_; refine par_nil ?_; refine N_seq ?_; refine V_seq ?_; refine V_seq ?_
    refine V_region (id := 18) ?_; refine vo_step (ok_move rfl rfl rfl) rfl ?_; refine vo_step (ok_move rfl rfl rfl) rfl ?_; refine vo_step (ok_add rfl rfl rfl rfl (by assumption)) rfl ?_; refine vo_step (ok_move rfl rfl rfl) rfl ?_; refine vo_step (ok_add rfl rfl rfl rfl (by assumption)) rfl ?_; refine vo_step (ok_neq rfl rfl rfl rfl (decide_eq_false (by omega))) rfl ?_; refine vo_step (ok_move rfl rfl rfl) rfl ?_; refine vo_step (ok_move rfl rfl rfl) rfl ?_; refine vo_step (ok_neq rfl rfl rfl rfl (decide_eq_false (by omega))) rfl ?_; refine vo_step (ok_pick rfl rfl rfl rfl) rfl ?_; refine vo_step (ok_move rfl rfl rfl) rfl ?_; refine vo_step (ok_move rfl rfl rfl) rfl ?_; refine vo_step (ok_neq rfl rfl rfl rfl (decide_eq_false (by omega))) rfl ?_; refine vo_step (ok_pick rfl rfl rfl rfl) rfl ?_; refine vo_step (ok_move rfl rfl rfl) rfl ?_; refine vo_step (ok_move rfl rfl rfl) rfl ?_; refine vo_step (ok_neq rfl rfl rfl rfl (decide_eq_false (by omega))) rfl ?_; refine vo_step (ok_pick rfl rfl rfl rfl) rfl ?_; refine vo_step (ok_move rfl rfl rfl) rfl ?_; refine vo_step (ok_move rfl rfl rfl) rfl ?_; refine vo_step (ok_neq rfl rfl rfl rfl (decide_eq_false (by omega))) rfl ?_; refine vo_step (ok_pick rfl rfl rfl rfl) rfl ?_; refine vo_step (ok_move rfl rfl rfl) rfl ?_; refine vo_step (ok_loadA L (vs := [_, _, _, _]) (src_own rfl) rfl rfl rfl rfl ⟨_, rfl⟩) rfl ?_; refine vo_step (ok_callx L rfl rfl (blt_lt rfl) rfl rfl rfl (fun u H hH hle _ => slen_ret lK hH (hT1.le hle))) rfl ?_; refine vo_step (ok_neq rfl rfl rfl rfl (decide_eq_false (by omega))) rfl ?_; refine vo_step (ok_pick rfl rfl rfl rfl) rfl ?_; refine vo_step (ok_move rfl rfl rfl) rfl ?_; refine vo_step (ok_loadA L (vs := [_, _, _, _]) (src_own rfl) rfl rfl rfl rfl ⟨_, rfl⟩) rfl ?_; refine vo_step (ok_callx L rfl rfl (blt_lt rfl) rfl rfl rfl (fun u H hH hle _ => slen_ret lZ hH (hT2.le hle))) rfl ?_; refine vo_step (ok_neq rfl rfl rfl rfl (decide_eq_false (by omega))) rfl ?_; refine vo_step (ok_pick rfl rfl rfl rfl) rfl ?_; refine vo_step (ok_move rfl rfl rfl) rfl ?_; refine vo_step (ok_moves' rfl rfl rfl) rfl ?_; refine vo_step (ok_lenV L rfl rfl rfl rfl) rfl ?_; refine vo_step (ok_neq rfl rfl rfl rfl (decide_eq_false (by omega))) rfl ?_; refine vo_step (ok_pick rfl rfl rfl rfl) rfl ?_; refine vo_step (ok_move rfl rfl rfl) rfl ?_; refine vo_step (ok_moves' rfl rfl rfl) rfl ?_; refine vo_step (ok_indexV L 5 rfl rfl rfl rfl rfl rfl rfl (by first | omega | decide) (by assumption)) rfl ?_; refine vo_step (ok_fieldAP L rfl rfl rfl rfl) rfl ?_; refine vo_step (ok_loadP1 L rfl rfl rfl rfl rfl) rfl ?_; refine vo_step (ok_not rfl rfl rfl rfl) rfl ?_; refine vo_step (ok_pick rfl rfl rfl rfl) rfl ?_; refine vo_step (ok_move rfl rfl rfl) rfl ?_; refine vo_step (ok_moves' rfl rfl rfl) rfl ?_; refine vo_step (ok_callx L rfl rfl (blt_lt rfl) rfl rfl rfl (fun u H hH _ _ v1 g1 => dcheck_ret zP (by omega) c5 hH g1)) rfl ?_; refine vo_step (ok_neq rfl rfl rfl rfl (decide_eq_false (by omega))) rfl ?_; refine vo_step (ok_pick rfl rfl rfl rfl) rfl ?_; refine vo_nil ?_; refine N_seq ?_; refine V_false rfl ?_; refine V_skip ?_; refine N_seq ?_; refine V_seq ?_; refine V_region (id := 20) ?_; refine vo_step (ok_loadA L (vs := [_, _, _, _]) (src_own rfl) rfl rfl rfl rfl ⟨_, rfl⟩) rfl ?_; refine vo_step (ok_loadA L (vs := [_, _, _, _]) (src_own rfl) rfl rfl rfl rfl ⟨_, rfl⟩) rfl ?_; refine vo_step (ok_call (φ := KS tyC Q true) L rfl rfl (blt_lt rfl) rfl rfl rfl SlV.mono (fun u H hH hle _ => dbetween_ret (by omega) (by omega) sK sZ f8 hH (hT1.le hle) (hT2.le hle))) rfl ?_; refine vo_step (ok_assigns' rfl rfl rfl) rfl ?_; refine vo_nil ?_; refine N_seq ?_; refine V_seq ?_
    refine V_regionD (id := 21) [] mixed (by kernel_rfl) ?_; refine par_step (ok_moves' rfl rfl rfl) rfl ?_; refine par_step (ok_lenV L rfl rfl rfl rfl) rfl ?_; refine par_step (ok_eql rfl rfl rfl rfl (decide_eq_true (by omega))) rfl ?_; refine par_step (ok_move rfl rfl rfl) rfl ?_; refine par_step (ok_moves' rfl rfl rfl) rfl ?_; refine par_step (ok_indexV L 0 rfl rfl rfl rfl rfl rfl rfl (by first | omega | decide) (by assumption)) rfl ?_; refine par_step (ok_loadPA L (vs := [_, _, _, _, _, _, _]) rfl rfl rfl rfl rfl ⟨_, rfl⟩) rfl ?_; refine par_step (ok_moves' rfl rfl rfl) rfl ?_; refine par_step (ok_indexV L 0 rfl rfl rfl rfl rfl rfl rfl (by first | omega | decide) (by assumption)) rfl ?_; refine par_step (ok_fieldAP L rfl rfl rfl rfl) rfl ?_; refine par_step (ok_loadPA L (vs := [_, _, _, _, _, _]) rfl rfl rfl rfl rfl ⟨_, rfl⟩) rfl ?_; refine par_step (ok_callx L rfl rfl (blt_lt rfl) rfl rfl rfl (fun u H hH _ _ => drop7_ret _ hH)) rfl ?_; refine par_step (ok_aeql rfl rfl rfl rfl eq67 (by assumption) rfl) rfl ?_; refine par_step (ok_pick rfl rfl rfl rfl) rfl ?_; refine par_step (ok_move rfl rfl rfl) rfl ?_; refine par_step (ok_moves' rfl rfl rfl) rfl ?_; refine par_step (ok_indexV L 1 rfl rfl rfl rfl rfl rfl rfl (by first | omega | decide) (by assumption)) rfl ?_; refine par_step (ok_loadPA L (vs := [_, _, _, _, _, _, _]) rfl rfl rfl rfl rfl ⟨_, rfl⟩) rfl ?_; refine par_step (ok_loadA L (vs := [_, _, _, _, _, _]) (src_own rfl) rfl rfl rfl rfl ⟨_, rfl⟩) rfl ?_; refine par_step (ok_callx L rfl rfl (blt_lt rfl) rfl rfl rfl (fun u H hH _ _ => put7_ret _ hH)) rfl ?_; refine par_step (ok_aeql rfl rfl rfl rfl eq67 (by assumption) rfl) rfl ?_; refine par_step (ok_pick rfl rfl rfl rfl) rfl ?_; refine par_step (ok_move rfl rfl rfl) rfl ?_; refine par_step (ok_callx L rfl rfl (blt_lt rfl) rfl rfl rfl (fun u H hH _ _ => lives7_ret hH)) rfl ?_; refine par_step (ok_pick rfl rfl rfl rfl) rfl ?_; refine par_step (ok_assign rfl rfl rfl) rfl ?_; refine par_nil ?_; refine N_seq ?_
    refine V_ret L (rs := [.tmp 0]) rfl (fun _ _ h => h) (hs1.trans hs2) fun u H hH hle => ?_
    rfl
end Go.V.L8
/- What is passed is opened: flat values (strings, numbers, truth values, structs and arrays of such) by a list of their leaves. -/
namespace Go.V
open Go.RowKit
inductive LeafK where
  | s
  | b
  | i (k : IntKind)
def LeafOK : LeafK → Value → Prop
  | .s, v => ∃ a : ByteArray, v = .string a ∧ a.size ≤ maxLen
  | .b, v => ∃ c, v = .bool c
  | .i k, v => ∃ n, v = .int k n ∧ (Lit.int k n).wf = true
def LeafsOK : List LeafK → List Value → Prop
  | [], [] => True
  | l :: ls, v :: vs => LeafOK l v ∧ LeafsOK ls vs
  | _, _ => False
theorem LeafsOK.append : ∀ {a b : List LeafK} {x y : List Value}, LeafsOK a x → LeafsOK b y → LeafsOK (a ++ b) (x ++ y)
  | [], _, [], _, _, h => h
  | [], _, _ :: _, _, h, _ => h.elim
  | _ :: _, _, [], _, h, _ => h.elim
  | _ :: _, _, _ :: _, _, h, k => ⟨h.1, LeafsOK.append h.2 k⟩
theorem LeafsOK.length : ∀ {a : List LeafK} {x : List Value}, LeafsOK a x → x.length = a.length
  | [], [], _ => rfl
  | [], _ :: _, h => h.elim
  | _ :: _, [], h => h.elim
  | _ :: _, _ :: _, h => by simp [LeafsOK.length h.2]
section
variable {P : Program} {H : Type} {enc : TypeId × Value → H} {W : World} {sp : Nat → Bool} {held : Bool} {base : Nat}
end
end Go.V
namespace Go.Proofs.Ytkmjfdeeahjfcaa.deltasKnown
open Go.ChangeShapes Go.WideShapes Go.ChangeAt Go.ChangeMaps Go.RowKit Go.V
theorem own : ownKnob Try.prog.godebug = none := by kernel_rfl
theorem laidOut : laidOutB Try.prog = true := by kernel_rfl
set_option maxRecDepth 100000 in
theorem lifted (os : Os) (started : os.Started) (H : Type) (enc : TypeId × Value → H) :
    ReturnsInHanded {} Try.checked os 9 .any (Rows.deltasKnownSpec.pre6 enc Try.prog Try.f9 Rows.deltasKnownRow.domain false) (Rows.deltasKnownSpec.post enc Try.prog Try.f9 false true false false) := by
  refine returnsInHanded_of_change_shaped (C := Try.checked) own started (by kernel_rfl) Try.func9
    (ChangeSpec.witness6 (enc := enc) (C := Try.checked) false ⟨#[], #[], []⟩ 8 (by kernel_rfl) (by kernel_rfl) (by kernel_rfl) (by kernel_rfl)) ?_
  intro W base args ds gs before hval0 hW hcnd _ hsh _
  have hval : ∀ (j : Nat) t v, Try.f9.params[j]? = some t → args[j]? = some v → Value.okWide Try.prog W .any base t v := hval0
  have hW' := hW
  obtain ⟨p, q, hA0, hV, rfl, hfz, hnd⟩ := hW
  have hA : DataW.TrodAll enc Try.prog W 0 (fun _ => true) true Try.f9.params.toList args.toList ds p := hA0
  rw [Try.params9] at hA hval
  obtain ⟨rfl, rfl, rfl⟩ := trodAll_none hA
  obtain ⟨rfl, rfl⟩ := trodVars_none hV
  clear hA0 hval0
  have hplc := hW'.lt
  simp only [List.append_nil] at hW'
  have hlaw := Go.V.L8.deltasKnown_law (w := W) (Heap.Le.refl _)
  unfold Ret at hlaw
  refine hlaw.mono fun e W' hp => ?_
  obtain ⟨v, rfl, H', g, rfl⟩ := hp
  exact ⟨_, rfl, _, _, _, [], [], [], hW', trodAll_cons_mk (shut_bool Try.underlying4 _) trodAll_mk0, trodAll_mk0, rfl, g.below.frame _, fun h => by cases h⟩
theorem proved : Rows.DeltasKnownSaid :=
  OpenClaim.holds_of_wide 9 Try.f9 rfl rfl rfl rfl rfl rfl rfl ⟨rfl, rfl, rfl, rfl, rfl⟩ rfl rfl rfl rfl rfl (by kernel_rfl) Try.func9 (by kernel_rfl)
    (of_decide_eq_true (by kernel_rfl)) (by unfold Func.isWrapper; first | (rw [if_pos (by decide +kernel)]; kernel_rfl) | (rw [if_neg (by decide +kernel)]; exact ⟨rfl, rfl⟩))
    (fun os started H enc _ => lifted os started H enc)
#print axioms proved
end Go.Proofs.Ytkmjfdeeahjfcaa.deltasKnown
