/- The walks of tuples (chapter 2): lists are copied, sorted, and freed of what stands twice. -/
import Derived.Test.YtpnmjelhnacmlaaSortT
import Derived.Test.YtpnmjelhnacmlaaRef02
namespace Go.V.L2
open Go.Proofs Go.RowKit Go.V
abbrev tcs (t : U) : List Value := [.string t.1.1.1, .string t.1.1.2, .string t.1.2, .string t.2.1.1, .string t.2.1.2, .string t.2.2]
theorem us_plain (l : List U) : (l.flatMap ucs).all plainV = true := by
  induction l with
  | nil => rfl
  | cons x l ih => rw [List.flatMap_cons, List.all_append, ih]; rfl
theorem us_len (l : List U) : (l.flatMap ucs).length = l.length * 6 := flatMap_len ucs_len l
theorem held_at {l : List U} {rest : List Value} {i : Nat} {t : U} (h : l[i]? = some t) (off : Nat) (ho : off = i * 6) : ∃ r, (l.flatMap ucs ++ rest).drop off = tcs t ++ r := by
  subst ho
  have h1 : ((l.flatMap ucs).drop (i * 6)).take 6 = tcs t := us_at h
  have h2 := get_lt h
  refine ⟨((l.flatMap ucs).drop (i * 6)).drop 6 ++ rest, ?_⟩
  rw [List.drop_append_of_le_length (by rw [us_len]; exact Nat.mul_le_mul_right _ (by omega)), ← List.append_assoc]
  congr 1
  rw [← h1, List.take_append_drop]
theorem held_set {ls : List U} {rest : List Value} {k : Nat} {z : U} (h : k < ls.length) (off : Nat) (ho : off = k * 6) : (ls.flatMap ucs ++ rest).take off ++ (tcs z ++ (ls.flatMap ucs ++ rest).drop (off + 6)) = (ls.set k z).flatMap ucs ++ rest := by
  subst ho
  have e1 : ls = ls.take k ++ (ls[k] :: ls.drop (k + 1)) := by rw [List.getElem_cons_drop, List.take_append_drop]
  have hk : (ls.take k).length = k := by rw [List.length_take]; omega
  have e2 : ls.set k z = ls.take k ++ (z :: ls.drop (k + 1)) := by
    conv => lhs; rw [e1]
    rw [List.set_append_right _ _ (by omega), hk, Nat.sub_self]; rfl
  rw [e2]
  generalize ls.take k = A at e1 hk
  generalize ls.drop (k + 1) = D at e1
  generalize ls[k] = y at e1
  subst e1
  have hA : (A.flatMap ucs).length = k * 6 := by rw [us_len, hk]
  simp only [List.flatMap_append, List.flatMap_cons, List.append_assoc]
  rw [List.take_left' hA, show k * 6 + 6 = (A.flatMap ucs).length + 6 by omega, ← List.drop_drop, List.drop_left, show (ucs y ++ (D.flatMap ucs ++ rest)).drop 6 = D.flatMap ucs ++ rest from List.drop_left' rfl]
  rfl
theorem held_clear {ls : List U} {rest zs : List Value} {k m off : Nat} (hm : ls.length = m) (hk : k ≤ m) (ho : off = k * 6) : (ls.flatMap ucs ++ rest).take off ++ (zs ++ (ls.flatMap ucs ++ rest).drop (off + (m - k) * 6)) = (ls.take k).flatMap ucs ++ (zs ++ rest) := by
  subst hm ho
  have h1 : k * 6 + (ls.length - k) * 6 = (ls.flatMap ucs).length := by rw [us_len]; omega
  rw [h1, List.drop_left]
  congr 1
  rw [List.take_append_of_le_length (by rw [us_len]; exact Nat.mul_le_mul_right _ hk)]
  conv => lhs; rw [← List.take_append_drop k ls, List.flatMap_append]
  rw [List.take_left' (by rw [us_len, List.length_take]; congr 1; omega)]
theorem dd_step {l : List U} {p : Nat} {y z : U} (hy : l[p]? = some y) (hz : l[p + 1]? = some z) : dd (l.take (p + 2)) = if z = y then dd (l.take (p + 1)) else dd (l.take (p + 1)) ++ [z] := by
  have e : l.take (p + 2) = l.take (p + 1) ++ [z] := by rw [List.take_add_one, hz]; rfl
  rw [e]
  refine dd_snoc _ y z ?_
  rw [List.take_add_one, hy]
  simp
attribute [local irreducible] V N X VO Par StepOK Has Ret RetL RetO Src
set_option maxHeartbeats 1000000 in
theorem clone_ret {l : List U} {fu : Bool} (hz : l.length ≤ 100000) {v : Value} {w : World} {B : Heap} (hB : B.Le (hp w)) (hv : US l fu v B) :
    RetO Try.prog 73 [v] w B (SlR tyU 6 l.length (l.flatMap ucs)) := by
  have hv0 := hv
  have hlen := us_len l
  have hpl := us_plain l
  obtain ⟨_, ⟨h0, rfl⟩ | ⟨b, off, cap, cs, ty0, fr, rfl, _⟩⟩ := hv
  · have hn : l = [] := List.eq_nil_of_length_eq_zero h0
    subst hn
    refine V_enterO Try.func73 rfl Try.ntmps73 (Nat.le_of_ble_eq_true rfl) hB ?_
    refine V_seq ?_; refine V_region (id := 0) ?_; refine vo_step (ok_assign rfl rfl rfl) rfl ?_; refine vo_nil ?_; refine N_seq ?_; refine V_seq ?_; refine V_seq ?_; refine V_region (id := 1) ?_; refine vo_step (ok_move rfl rfl rfl) rfl ?_; refine vo_step (ok_neql rfl rfl rfl rfl nk76 rfl) rfl ?_; refine vo_nil ?_; refine N_seq ?_; refine V_true rfl ?_; refine V_seq ?_; refine V_region (id := 2) ?_; refine vo_step (ok_assign rfl rfl rfl) rfl ?_; refine vo_nil ?_; refine N_seq ?_
    refine V_nilR 2 tyU 6 rfl ?_
    exact V_retO rfl (fun _ _ h => h) Since.refl rfl
  · refine V_enterO Try.func73 rfl Try.ntmps73 (Nat.le_of_ble_eq_true rfl) hB ?_
    refine V_seq ?_; refine V_region (id := 0) ?_; refine vo_step (ok_assign rfl rfl rfl) rfl ?_; refine vo_nil ?_; refine N_seq ?_; refine V_seq ?_; refine V_seq ?_; refine V_region (id := 1) ?_; refine vo_step (ok_move rfl rfl rfl) rfl ?_; refine vo_step (ok_neql rfl rfl rfl rfl nk76 rfl) rfl ?_; refine vo_nil ?_; refine N_seq ?_; refine V_false rfl ?_; refine V_skip ?_; refine N_seq ?_; refine V_seq ?_
    refine V_seen 0 (US l fu) rfl SlV.mono hv0 ?_
    refine V_region (id := 3) ?_; refine vo_step (ok_buildSlice0 L rfl rfl rfl rfl rfl) rfl ?_; refine vo_step (ok_moves' rfl rfl rfl) rfl ?_; refine vo_step2 (ok_append L rfl rfl rfl (apd_V rfl) rfl el81 (by assumption) (by assumption) (by omega) (by omega)) ?_; refine vo_step2 (ok_moveO (.inr rfl) rfl rfl rfl rfl) ?_; refine vo_nil ?_; refine N_seq ?_
    rw [Nat.zero_add, List.nil_append]
    exact V_retO rfl (fun _ _ h => h) Since.refl rfl
set_option maxHeartbeats 4000000 in
theorem compact_ret {l : List U} (hz : l.length ≤ 100000) {x : Value} {w : World} {B : Heap} {C : Nat → Prop} (hB : B.Le (hp w)) (hx : (SlR tyU 6 l.length (l.flatMap ucs)).P x B w C) (hC : ∀ k, C k → k < w.heap.size ∧ B k = none) :
    RetT Try.prog 75 [x] w B C (SlR tyU 6 (dd l).length ((dd l).flatMap ucs)) := by
  unfold RetT
  refine V_enterA 0 (x := x) (SlR tyU 6 l.length (l.flatMap ucs)) rfl Try.func75 rfl Try.ntmps75 (Nat.le_of_ble_eq_true rfl) hB hx hC ?_
  refine V_holdR 0 900 rfl (fun hm hn => ?_) fun b cap rest hl hmc hcm hcl => ?_
  · have h0 : l = [] := List.eq_nil_of_length_eq_zero hm
    subst h0
    refine V_seq ?_; refine V_region (id := 0) ?_; refine vo_step (ok_assign rfl rfl rfl) rfl ?_; refine vo_nil ?_; refine N_seq ?_; refine V_seq ?_; refine V_seq ?_; refine V_region (id := 1) ?_; refine vo_step (ok_move rfl rfl rfl) rfl ?_; refine vo_step (ok_lenL L rfl rfl rfl rfl) rfl ?_; refine vo_step (ok_lss rfl rfl rfl rfl (decide_eq_true (by omega))) rfl ?_; refine vo_nil ?_; refine N_seq ?_; refine V_true rfl ?_; refine V_seq ?_; refine V_region (id := 2) ?_; refine vo_step (ok_move rfl rfl rfl) rfl ?_; refine vo_step (ok_assign rfl rfl rfl) rfl ?_; refine vo_nil ?_; refine N_seq ?_
    refine V_nilR 2 tyU 6 rfl ?_
    exact V_retT rfl (fun _ _ h => h) Since.refl rfl
  · by_cases h2 : l.length < 2
    · have hdd : dd l = l := by
        rcases l with _ | ⟨a, _ | ⟨b, l⟩⟩
        · rfl
        · rfl
        · simp only [List.length_cons] at h2; omega
      rw [hdd]
      refine V_seq ?_; refine V_region (id := 0) ?_; refine vo_step (ok_assign rfl rfl rfl) rfl ?_; refine vo_nil ?_; refine N_seq ?_; refine V_seq ?_; refine V_seq ?_; refine V_region (id := 1) ?_; refine vo_step (ok_move rfl rfl rfl) rfl ?_; refine vo_step (ok_lenL L rfl rfl rfl rfl) rfl ?_; refine vo_step (ok_lss rfl rfl rfl rfl (decide_eq_true (by omega))) rfl ?_; refine vo_nil ?_; refine N_seq ?_; refine V_true rfl ?_; refine V_seq ?_; refine V_region (id := 2) ?_; refine vo_step (ok_move rfl rfl rfl) rfl ?_; refine vo_step (ok_assign rfl rfl rfl) rfl ?_; refine vo_nil ?_; refine N_seq ?_
      refine V_releaseR 2 900 rfl rfl rfl hl hmc hcm hcl ?_
      exact V_retT rfl (fun _ _ h => h) Since.refl rfl
    · refine V_seq ?_; refine V_region (id := 0) ?_; refine vo_step (ok_assign rfl rfl rfl) rfl ?_; refine vo_nil ?_; refine N_seq ?_; refine V_seq ?_; refine V_seq ?_; refine V_region (id := 1) ?_; refine vo_step (ok_move rfl rfl rfl) rfl ?_; refine vo_step (ok_lenL L rfl rfl rfl rfl) rfl ?_; refine vo_step (ok_lss rfl rfl rfl rfl (decide_eq_false (by omega))) rfl ?_; refine vo_nil ?_; refine N_seq ?_; refine V_false rfl ?_; refine V_skip ?_; refine N_seq ?_; refine V_seq ?_; refine V_seq ?_; refine V_region (id := 3) ?_; refine vo_step (ok_assign rfl rfl rfl) rfl ?_; refine vo_nil ?_; refine N_seq ?_; refine V_block ?_
      refine V_loop (fun i : Nat => [(0, .is (.slice (some ⟨b, 0, none⟩) l.length cap)), (3, .is (.int .i64 (i + 1 : Nat))), (900, .own (HeldR b (l.flatMap ucs ++ rest) tyU))])
        (fun i => i + 1 ≤ l.length ∧ dd (l.take (i + 1)) = l.take (i + 1)) (fun i => l.length - i) 0 ⟨by omega, by rcases l with _ | ⟨a, l⟩ <;> simp [dd]⟩ ⟨rfl, rfl, rfl, trivial⟩ ?_
      rintro i ⟨hi, hd⟩
      by_cases hlt : i + 1 < l.length
      · obtain ⟨y, hy⟩ := get_some (show i < l.length by omega)
        obtain ⟨z, hzz⟩ := get_some hlt
        have q1 := held_at (rest := rest) hzz (0 + (i + 1) * 6) (by omega)
        have q2 := held_at (rest := rest) hy (0 + i * 6) (by omega)
        have hsub : IntKind.i64.wrap (((i + 1 : Nat) : Int) - 1) = (i : Int) := wrap_i64 (by omega) (by omega) |>.trans (by omega)
        by_cases hzy : z = y
        · have hq := eqU (decide_eq_true hzy)
          have hne : ¬ cap = i + 1 := by omega
          refine V_seq ?_; refine V_seq ?_; refine V_region (id := 4) ?_; refine vo_step (ok_move rfl rfl rfl) rfl ?_; refine vo_step (ok_move rfl rfl rfl) rfl ?_; refine vo_step (ok_lenL L rfl rfl rfl rfl) rfl ?_; refine vo_step (ok_lss rfl rfl rfl rfl (decide_eq_true (by omega))) rfl ?_; refine vo_nil ?_; refine N_seq ?_; refine V_true rfl ?_; refine V_skip ?_; refine N_seq ?_; refine V_seq ?_; refine V_block ?_; refine V_seq ?_; refine V_regionD (id := 6) [(200019, [900]), (200024, [900])] mixed (by kernel_rfl) ?_; refine par_step (ok_move rfl rfl rfl) rfl ?_; refine par_step (ok_move rfl rfl rfl) rfl ?_; refine par_step (ok_indexAt L _ rfl rfl rfl rfl rfl rfl rfl (by omega)) rfl ?_; refine par_stepR (ok_loadHA L (q := 900) (vs := [_, _, _, _, _, _]) rfl rfl rfl rfl rfl rfl q1) rfl rfl ?_; refine par_step (ok_move rfl rfl rfl) rfl ?_; refine par_step (ok_move rfl rfl rfl) rfl ?_; refine par_step (ok_sub rfl rfl rfl rfl (by assumption)) rfl ?_; refine par_step (ok_indexAt L _ rfl rfl rfl rfl rfl rfl rfl (by omega)) rfl ?_; refine par_stepR (ok_loadHA L (q := 900) (vs := [_, _, _, _, _, _]) rfl rfl rfl rfl rfl rfl q2) rfl rfl ?_; refine par_step (ok_aeql rfl rfl rfl rfl eq81 (by assumption) rfl) rfl ?_; refine par_nil ?_; refine N_seq ?_; refine V_true rfl ?_; refine V_seq ?_; refine V_region (id := 7) ?_; refine vo_step (ok_move rfl rfl rfl) rfl ?_; refine vo_step (ok_move rfl rfl rfl) rfl ?_; refine vo_step (ok_sliceI L (kh := .i64) (ph := 0) _ _ rfl rfl rfl rfl rfl ⟨rfl, rfl⟩ rfl (by omega) (by omega)) rfl ?_; refine vo_step (ok_assign rfl rfl rfl) rfl ?_; refine vo_nil ?_; refine N_seq ?_; refine V_seq ?_; refine V_seq ?_; refine V_region (id := 8) ?_; refine vo_step (ok_assign rfl rfl rfl) rfl ?_; refine vo_nil ?_; refine N_seq ?_; refine V_block ?_
          rw [if_neg hne]
          have hdi : dd (l.take (i + 1 + 1)) = l.take (i + 1) := by rw [dd_step hy hzz, if_pos hzy, hd]
          refine V_loop (fun s : Nat × Nat × List U => [(0, .is (.slice (some ⟨b, 0, none⟩) l.length cap)), (3, .is (.int .i64 s.1)), (4, .is (.slice (some ⟨b, 0 + (i + 1) * 6, none⟩) (l.length - (i + 1)) (cap - (i + 1)))), (5, .is (.int .i64 (s.2.1 + 1 : Nat))), (900, .own (HeldR b (s.2.2.flatMap ucs ++ rest) tyU))])
            (fun s => s.2.2.length = l.length ∧ s.1 ≤ i + 1 + s.2.1 ∧ i + 1 + s.2.1 + 1 ≤ l.length ∧ s.2.2.take s.1 = dd (l.take (i + 1 + s.2.1 + 1)) ∧ s.2.2.drop (i + 1 + s.2.1) = l.drop (i + 1 + s.2.1)) (fun s => l.length - s.2.1) (i + 1, 0, l) ⟨rfl, Nat.le_refl _, hlt, hdi.symm, rfl⟩ ⟨rfl, rfl, rfl, rfl, rfl, trivial⟩ ?_
          clear hd hq hzy q1 q2 hsub hdi hy hzz y z
          rintro ⟨k, j, ls⟩ ⟨hls, hkp, hpl, htk, hdr⟩
          dsimp only at hls hkp hpl htk hdr ⊢
          by_cases hend : i + 1 + j + 1 < l.length
          · obtain ⟨y, hy⟩ := get_some (show i + 1 + j < l.length by omega)
            obtain ⟨z, hz2⟩ := get_some hend
            have e1 : ls[i + 1 + j]? = some y := by
              have := congrArg (·[0]?) hdr
              simp only [List.getElem?_drop, Nat.add_zero] at this
              rw [this, hy]
            have e2 : ls[i + 1 + j + 1]? = some z := by
              have := congrArg (·[1]?) hdr
              simp only [List.getElem?_drop] at this
              rw [this, hz2]
            have q1 := held_at (rest := rest) e2 (0 + (i + 1) * 6 + (j + 1) * 6) (by omega)
            have q2 := held_at (rest := rest) e1 (0 + (i + 1) * 6 + j * 6) (by omega)
            have hsub : IntKind.i64.wrap (((j + 1 : Nat) : Int) - 1) = (j : Int) := wrap_i64 (by omega) (by omega) |>.trans (by omega)
            have hst := dd_step hy hz2
            have hdr' : ls.drop (i + 1 + (j + 1)) = l.drop (i + 1 + (j + 1)) := by
              have := congrArg (List.drop 1) hdr
              rw [List.drop_drop, List.drop_drop] at this
              exact this
            by_cases hzy : z = y
            · have hq := eqU (decide_eq_true hzy)
              rw [if_pos hzy] at hst
              refine V_seq ?_; refine V_seq ?_; refine V_region (id := 9) ?_; refine vo_step (ok_move rfl rfl rfl) rfl ?_; refine vo_step (ok_move rfl rfl rfl) rfl ?_; refine vo_step (ok_lenL L rfl rfl rfl rfl) rfl ?_; refine vo_step (ok_lss rfl rfl rfl rfl (decide_eq_true (by omega))) rfl ?_; refine vo_nil ?_; refine N_seq ?_; refine V_true rfl ?_; refine V_skip ?_; refine N_seq ?_; refine V_seq ?_; refine V_block ?_; refine V_seq ?_; refine V_regionD (id := 11) [(200038, [900]), (200043, [900])] mixed (by kernel_rfl) ?_; refine par_step (ok_move rfl rfl rfl) rfl ?_; refine par_step (ok_move rfl rfl rfl) rfl ?_; refine par_step (ok_indexAt L _ rfl rfl rfl rfl rfl rfl rfl (by omega)) rfl ?_; refine par_stepR (ok_loadHA L (q := 900) (vs := [_, _, _, _, _, _]) rfl rfl rfl rfl rfl rfl q1) rfl rfl ?_; refine par_step (ok_move rfl rfl rfl) rfl ?_; refine par_step (ok_move rfl rfl rfl) rfl ?_; refine par_step (ok_sub rfl rfl rfl rfl (by assumption)) rfl ?_; refine par_step (ok_indexAt L _ rfl rfl rfl rfl rfl rfl rfl (by omega)) rfl ?_; refine par_stepR (ok_loadHA L (q := 900) (vs := [_, _, _, _, _, _]) rfl rfl rfl rfl rfl rfl q2) rfl rfl ?_; refine par_step (ok_aneq rfl rfl rfl rfl eq81 (by assumption) rfl) rfl ?_; refine par_nil ?_; refine N_seq ?_; refine V_false rfl ?_; refine V_skip ?_; refine N_block ?_; refine N_seq ?_; refine V_region (id := 10) ?_; refine vo_step (ok_move rfl rfl rfl) rfl ?_; refine vo_step (ok_add rfl rfl rfl rfl (wrap_i64 (by omega) (by omega))) rfl ?_; refine vo_step (ok_assign rfl rfl rfl) rfl ?_; refine vo_nil ?_
              exact N_round (x := (k, j, ls)) (k, j + 1, ls) ⟨hls, by dsimp only; omega, by dsimp only; omega, htk.trans hst.symm, hdr'⟩ (by dsimp only; omega) ⟨rfl, rfl, rfl, rfl, rfl, trivial⟩
            · have hq := eqU (decide_eq_false hzy)
              rw [if_neg hzy] at hst
              have hkl : k < ls.length := by omega
              have hset := held_set (rest := rest) (z := z) hkl (0 + k * 6) (by omega)
              have hble : Nat.ble (0 + k * 6 + 6) (ls.flatMap ucs ++ rest).length = true := Nat.ble_eq_true_of_le (by rw [List.length_append, us_len]; omega)
              refine V_seq ?_; refine V_seq ?_; refine V_region (id := 9) ?_; refine vo_step (ok_move rfl rfl rfl) rfl ?_; refine vo_step (ok_move rfl rfl rfl) rfl ?_; refine vo_step (ok_lenL L rfl rfl rfl rfl) rfl ?_; refine vo_step (ok_lss rfl rfl rfl rfl (decide_eq_true (by omega))) rfl ?_; refine vo_nil ?_; refine N_seq ?_; refine V_true rfl ?_; refine V_skip ?_; refine N_seq ?_; refine V_seq ?_; refine V_block ?_; refine V_seq ?_; refine V_regionD (id := 11) [(200038, [900]), (200043, [900])] mixed (by kernel_rfl) ?_; refine par_step (ok_move rfl rfl rfl) rfl ?_; refine par_step (ok_move rfl rfl rfl) rfl ?_; refine par_step (ok_indexAt L _ rfl rfl rfl rfl rfl rfl rfl (by omega)) rfl ?_; refine par_stepR (ok_loadHA L (q := 900) (vs := [_, _, _, _, _, _]) rfl rfl rfl rfl rfl rfl q1) rfl rfl ?_; refine par_step (ok_move rfl rfl rfl) rfl ?_; refine par_step (ok_move rfl rfl rfl) rfl ?_; refine par_step (ok_sub rfl rfl rfl rfl (by assumption)) rfl ?_; refine par_step (ok_indexAt L _ rfl rfl rfl rfl rfl rfl rfl (by omega)) rfl ?_; refine par_stepR (ok_loadHA L (q := 900) (vs := [_, _, _, _, _, _]) rfl rfl rfl rfl rfl rfl q2) rfl rfl ?_; refine par_step (ok_aneq rfl rfl rfl rfl eq81 (by assumption) rfl) rfl ?_; refine par_nil ?_; refine N_seq ?_; refine V_true rfl ?_; refine V_seq ?_; refine V_region (id := 12) ?_; refine vo_step (ok_move rfl rfl rfl) rfl ?_; refine vo_step (ok_move rfl rfl rfl) rfl ?_; refine vo_step (ok_move rfl rfl rfl) rfl ?_; refine vo_step (ok_move rfl rfl rfl) rfl ?_; refine vo_step (ok_indexAt L _ rfl rfl rfl rfl rfl rfl rfl (by omega)) rfl ?_; refine vo_stepR (ok_loadHA L (q := 900) (vs := [_, _, _, _, _, _]) rfl rfl rfl rfl rfl rfl q1) ?_; refine vo_step (ok_indexAt L _ rfl rfl rfl rfl rfl rfl rfl (by omega)) rfl ?_; refine vo_stepS (ok_storeH L (q := 900) rfl rfl rfl rfl rfl rfl hble rfl hset) ?_; refine vo_nil ?_; refine N_seq ?_; refine V_region (id := 13) ?_; refine vo_step (ok_move rfl rfl rfl) rfl ?_; refine vo_step (ok_add rfl rfl rfl rfl (wrap_i64 (by omega) (by omega))) rfl ?_; refine vo_step (ok_assign rfl rfl rfl) rfl ?_; refine vo_nil ?_; refine N_block ?_; refine N_seq ?_; refine V_region (id := 10) ?_; refine vo_step (ok_move rfl rfl rfl) rfl ?_; refine vo_step (ok_add rfl rfl rfl rfl (wrap_i64 (by omega) (by omega))) rfl ?_; refine vo_step (ok_assign rfl rfl rfl) rfl ?_; refine vo_nil ?_
              exact N_round (x := (k, j, ls)) (k + 1, j + 1, ls.set k z) ⟨by rw [List.length_set]; exact hls, by dsimp only; omega, by dsimp only; omega, by
                dsimp only
                rw [show i + 1 + (j + 1) + 1 = i + 1 + j + 2 by omega, hst, ← htk, List.take_add_one, List.getElem?_set_self hkl, List.take_set_of_le (Nat.le_refl _)]; rfl, by
                dsimp only
                rw [List.drop_set_of_lt (by omega)]; exact hdr'⟩ (by dsimp only; omega) ⟨rfl, rfl, rfl, rfl, rfl, trivial⟩
          · have hfull : l.take (i + 1 + j + 1) = l := List.take_of_length_le (by omega)
            rw [hfull] at htk
            have hkd : (dd l).length = k := by rw [← htk, List.length_take]; omega
            subst hkd
            have hzl : (Builtin.zeroCells (Value.cells (.agg #[.string ⟨#[]⟩, .string ⟨#[]⟩, .string ⟨#[]⟩, .string ⟨#[]⟩, .string ⟨#[]⟩, .string ⟨#[]⟩])) (l.length - (dd l).length)).toList.length = (l.length - (dd l).length) * 6 := by rw [Array.length_toList, size_zeroCells]; rfl
            have hcl2 := held_clear (rest := rest) (zs := (Builtin.zeroCells (Value.cells (.agg #[.string ⟨#[]⟩, .string ⟨#[]⟩, .string ⟨#[]⟩, .string ⟨#[]⟩, .string ⟨#[]⟩, .string ⟨#[]⟩])) (l.length - (dd l).length)).toList) hls (by omega) (show 0 + (dd l).length * 6 = (dd l).length * 6 by omega)
            rw [htk] at hcl2
            have hne2 : ¬ cap = (dd l).length := by omega
            have hne3 : ¬ cap = 0 := by omega
            have hbd : 0 + (dd l).length * 6 + (l.length - (dd l).length) * 6 ≤ (ls.flatMap ucs ++ rest).length := by rw [List.length_append, us_len]; omega
            refine V_seq ?_; refine V_seq ?_; refine V_region (id := 9) ?_; refine vo_step (ok_move rfl rfl rfl) rfl ?_; refine vo_step (ok_move rfl rfl rfl) rfl ?_; refine vo_step (ok_lenL L rfl rfl rfl rfl) rfl ?_; refine vo_step (ok_lss rfl rfl rfl rfl (decide_eq_false (by omega))) rfl ?_; refine vo_nil ?_; refine N_seq ?_; refine V_false rfl ?_; refine V_exit ?_; refine X_then ?_; refine X_then ?_; refine X_here ?_; refine N_seq ?_; refine V_seq ?_; refine V_region (id := 14) ?_; refine vo_step (ok_move rfl rfl rfl) rfl ?_; refine vo_step (ok_move rfl rfl rfl) rfl ?_; refine vo_step (ok_sliceI L (kh := .i64) (ph := 0) _ _ rfl rfl rfl rfl rfl ⟨rfl, rfl⟩ rfl (by omega) (by omega)) rfl ?_; rw [if_neg hne2]; refine vo_stepS (ok_clearH L (q := 900) rfl rfl rfl rfl el81 rfl rfl (.inr hbd) (fun _ => hcl2) (fun h => by omega)) ?_; refine vo_nil ?_; refine N_seq ?_; refine V_seq ?_; refine V_region (id := 15) ?_; refine vo_step (ok_move rfl rfl rfl) rfl ?_; refine vo_step (ok_move rfl rfl rfl) rfl ?_; refine vo_step (ok_sliceI L (kl := .i64) (pl := 0) 0 _ rfl rfl rfl rfl rfl rfl ⟨rfl, rfl⟩ (by omega) (by omega)) rfl ?_; refine vo_step (ok_assign rfl rfl rfl) rfl ?_; refine vo_nil ?_; refine N_seq ?_
            rw [if_neg hne3]
            refine V_releaseR (m := (dd l).length) (cap := cap) (s := 6) 2 900 rfl rfl rfl (us_len _) (by omega) hcm (by
              rw [us_len] at hl
              simp only [List.length_append, us_len, hzl] at hcl ⊢
              omega) ?_
            exact V_retT rfl (fun _ _ h => h) Since.refl rfl
        · have hq := eqU (decide_eq_false hzy)
          have hst := dd_step hy hzz
          rw [if_neg hzy, hd] at hst
          refine V_seq ?_; refine V_seq ?_; refine V_region (id := 4) ?_; refine vo_step (ok_move rfl rfl rfl) rfl ?_; refine vo_step (ok_move rfl rfl rfl) rfl ?_; refine vo_step (ok_lenL L rfl rfl rfl rfl) rfl ?_; refine vo_step (ok_lss rfl rfl rfl rfl (decide_eq_true (by omega))) rfl ?_; refine vo_nil ?_; refine N_seq ?_; refine V_true rfl ?_; refine V_skip ?_; refine N_seq ?_; refine V_seq ?_; refine V_block ?_; refine V_seq ?_; refine V_regionD (id := 6) [(200019, [900]), (200024, [900])] mixed (by kernel_rfl) ?_; refine par_step (ok_move rfl rfl rfl) rfl ?_; refine par_step (ok_move rfl rfl rfl) rfl ?_; refine par_step (ok_indexAt L _ rfl rfl rfl rfl rfl rfl rfl (by omega)) rfl ?_; refine par_stepR (ok_loadHA L (q := 900) (vs := [_, _, _, _, _, _]) rfl rfl rfl rfl rfl rfl q1) rfl rfl ?_; refine par_step (ok_move rfl rfl rfl) rfl ?_; refine par_step (ok_move rfl rfl rfl) rfl ?_; refine par_step (ok_sub rfl rfl rfl rfl (by assumption)) rfl ?_; refine par_step (ok_indexAt L _ rfl rfl rfl rfl rfl rfl rfl (by omega)) rfl ?_; refine par_stepR (ok_loadHA L (q := 900) (vs := [_, _, _, _, _, _]) rfl rfl rfl rfl rfl rfl q2) rfl rfl ?_; refine par_step (ok_aeql rfl rfl rfl rfl eq81 (by assumption) rfl) rfl ?_; refine par_nil ?_; refine N_seq ?_; refine V_false rfl ?_; refine V_skip ?_; refine N_block ?_; refine N_seq ?_; refine V_region (id := 5) ?_; refine vo_step (ok_move rfl rfl rfl) rfl ?_; refine vo_step (ok_add rfl rfl rfl rfl (wrap_i64 (by omega) (by omega))) rfl ?_; refine vo_step (ok_assign rfl rfl rfl) rfl ?_; refine vo_nil ?_
          exact N_round (x := i) (i + 1) ⟨hlt, by rw [hst, List.take_add_one (i := i + 1), hzz]; rfl⟩ (by omega) ⟨rfl, rfl, rfl, trivial⟩
      · have hie : i + 1 = l.length := by omega
        rw [hie, List.take_length] at hd
        rw [hd]
        refine V_seq ?_; refine V_seq ?_; refine V_region (id := 4) ?_; refine vo_step (ok_move rfl rfl rfl) rfl ?_; refine vo_step (ok_move rfl rfl rfl) rfl ?_; refine vo_step (ok_lenL L rfl rfl rfl rfl) rfl ?_; refine vo_step (ok_lss rfl rfl rfl rfl (decide_eq_false (by omega))) rfl ?_; refine vo_nil ?_; refine N_seq ?_; refine V_false rfl ?_; refine V_exit ?_; refine X_then ?_; refine X_then ?_; refine X_here ?_; refine N_seq ?_; refine V_seq ?_; refine V_region (id := 16) ?_; refine vo_step (ok_move rfl rfl rfl) rfl ?_; refine vo_step (ok_assign rfl rfl rfl) rfl ?_; refine vo_nil ?_; refine N_seq ?_
        refine V_releaseR 2 900 rfl rfl rfl hl hmc hcm hcl ?_
        exact V_retT rfl (fun _ _ h => h) Since.refl rfl
end Go.V.L2
