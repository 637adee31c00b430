/- The walk of GoalsKnown (chapter 23). -/
import Derived.Test.YtpnmjelhnacmlaaLawC23
namespace Go.V.L23
open Go.Proofs Go.RowKit Go.V
abbrev abc : ByteArray := ⟨#[97, 98, 99, 100, 101, 102, 103, 104, 105, 106, 107, 108, 109, 110, 111, 112]⟩
def dg (k : Nat) : ByteArray := abc.extract k (k + 1)
/-- The goal of a number. -/
def kg (i : Nat) : G := ((⟨#[115]⟩, dg (i % 16) ++ dg (i / 16 % 16) ++ dg (i / 256)), ⟨#[114]⟩)
def kl (n : Nat) : List G := (List.range n).map kg
theorem dg_eq : ∀ d, d < 16 → dg d = ⟨#[UInt8.ofNat (97 + d)]⟩ := by decide +kernel
theorem dg_ok : ∀ d, d < 16 → okB (UInt8.ofNat (97 + d)) = true := by decide +kernel
theorem dg_inj : ∀ d, d < 16 → ∀ e, e < 16 → UInt8.ofNat (97 + d) = UInt8.ofNat (97 + e) → d = e := by decide +kernel
theorem kg_eq {i : Nat} (h : i < 4096) : kg i = ((⟨#[115]⟩, ⟨#[UInt8.ofNat (97 + i % 16), UInt8.ofNat (97 + i / 16 % 16), UInt8.ofNat (97 + i / 256)]⟩), ⟨#[114]⟩) := by
  unfold kg
  rw [dg_eq _ (by omega), dg_eq _ (by omega), dg_eq _ (by omega)]
  rfl
theorem kg_inj {i j : Nat} (hi : i < 4096) (hj : j < 4096) (h : kg i = kg j) : i = j := by
  rw [kg_eq hi, kg_eq hj] at h
  simp only [Prod.mk.injEq, ByteArray.mk.injEq, Array.mk.injEq, List.cons.injEq, and_true, true_and] at h
  have h1 := dg_inj _ (by omega) _ (by omega) h.1
  have h2 := dg_inj _ (by omega) _ (by omega) h.2.1
  have h3 := dg_inj _ (by omega) _ (by omega) h.2.2
  omega
theorem chk3 {a b c : UInt8} (ha : okB a = true) (hb : okB b = true) (hc : okB c = true) : chk ⟨#[a, b, c]⟩ = 0 :=
  chk_all (show 1 ≤ 3 by decide) (show 3 ≤ 16 by decide) (by simp [ha, hb, hc])
theorem kg_ok {i : Nat} (h : i < 4096) : gE (kg i) = 0 ∧ GZ (kg i) := by
  rw [kg_eq h]
  have h1 := chk3 (dg_ok (i % 16) (by omega)) (dg_ok (i / 16 % 16) (by omega)) (dg_ok (i / 256) (by omega))
  have h2 : chk ⟨#[115]⟩ = 0 := by decide +kernel
  have h3 : chk ⟨#[114]⟩ = 0 := by decide +kernel
  refine ⟨?_, Nat.le_of_ble_eq_true rfl, Nat.le_of_ble_eq_true rfl, Nat.le_of_ble_eq_true rfl⟩
  unfold gE
  simp only [allE, h1, h2, h3, if_pos]
theorem kl_zero : kl 0 = [] := rfl
theorem kl_length (n : Nat) : (kl n).length = n := by simp [kl]
theorem kl_succ (n : Nat) : kl (n + 1) = kl n ++ [kg n] := by simp [kl, List.range_succ]
theorem kl_get {n i : Nat} (h : i < n) : (kl n)[i]? = some (kg i) := by simp [kl, List.getElem?_range h]
theorem kl_take {n k : Nat} (h : k ≤ n) : (kl n).take k = kl k := by
  unfold kl
  rw [← List.map_take, List.take_range, Nat.min_eq_left h]
theorem kl_mem {n : Nat} {g : G} (h : g ∈ kl n) : ∃ i, i < n ∧ g = kg i := by
  obtain ⟨i, hi, rfl⟩ := List.mem_map.1 h
  exact ⟨i, List.mem_range.1 hi, rfl⟩
theorem kl_nodup {n : Nat} (h : n ≤ 4096) : (kl n).Nodup := by
  unfold kl List.Nodup
  rw [List.pairwise_map]
  refine List.Pairwise.imp_of_mem (fun ha hb hne e => hne (kg_inj ?_ ?_ e)) List.nodup_range
  · have := List.mem_range.1 ha; omega
  · have := List.mem_range.1 hb; omega
theorem kl_ok {n : Nat} (h : n ≤ 4096) : ∀ g ∈ kl n, gE g = 0 ∧ GZ g := fun g hg => by
  obtain ⟨i, hi, rfl⟩ := kl_mem hg
  exact kg_ok (by omega)
theorem kl_of {n : Nat} (h : n ≤ 4096) : ofE [] (kl n) = 0 := ofE_once _ _ (fun g hg => (kl_ok h g hg).1) (kl_nodup h)
theorem ofE_twice : ∀ (r pre : List G) (g : G), (∀ x ∈ r, gE x = 0) → gE g = 0 → (pre ++ r).Nodup → g ∈ pre ++ r → ofE pre (r ++ [g]) = 7
  | [], pre, g, _, h0, _, hm => by
    rw [List.append_nil] at hm
    simp only [List.nil_append, ofE]
    rw [if_pos h0]
    cases hf : findL g pre 0 with
    | none => exact absurd hm (findL_none.1 hf)
    | some j => rfl
  | x :: r, pre, g, h, h0, hn, hm => by
    have h1 := List.nodup_append.1 hn
    have hx : findL x pre 0 = none := findL_none.2 fun hm => h1.2.2 x hm x (List.mem_cons_self ..) rfl
    simp only [List.cons_append, ofE]
    rw [if_pos (h x (List.mem_cons_self ..)), hx]
    exact ofE_twice r (pre ++ [x]) g (fun y hy => h y (List.mem_cons_of_mem _ hy)) h0 (by rw [List.append_assoc]; exact hn) (by rw [List.append_assoc]; exact hm)
theorem relL_all (a b : ByteArray) : ∀ (l : List G) (i : Nat), (∀ g ∈ l, g.1.1 = a ∧ g.2 = b) → (relL a b l i).length = l.length
  | [], _, _ => rfl
  | g :: l, i, h => by
    simp only [relL]
    rw [if_pos (h g (List.mem_cons_self ..)), List.length_cons, List.length_cons, relL_all a b l (i + 1) fun x hx => h x (List.mem_cons_of_mem _ hx)]
theorem dg_size (k : Nat) (h : k < 16) : (dg k).size = 1 := by rw [dg_eq k h]; rfl
theorem tups2 {φ : Value → Heap → Prop} {a tv : Value} {H : Heap} (h : φ tv H) : TupS [φ, fun v _ => v = a] (.tuple #[tv, a]) H :=
  ⟨[tv, a], rfl, rfl, fun i ψ x hi hx => by
    rcases i with _ | _ | i
    · simp only [List.getElem?_cons_zero, Option.some.injEq] at hi hx; subst hi hx; exact h
    · simp only [List.getElem?_cons_zero, List.getElem?_cons_succ, Option.some.injEq] at hi hx; subst hi hx; rfl
    · simp at hi⟩
theorem tups2_mono {φ : Value → Heap → Prop} {a : Value} (h : Kn.mono (.sat φ)) : Kn.mono (.sat (TupS [φ, fun v _ => v = a])) := TupS.mono fun ψ hψ => by
  simp only [List.mem_cons, List.mem_nil_iff, or_false] at hψ
  rcases hψ with rfl | rfl
  · exact h
  · exact fun _ _ _ h _ => h
theorem flat_plain : ∀ (l : List G), (l.flatMap gcs).all plainV = true
  | [] => rfl
  | g :: l => by rw [List.flatMap_cons, List.all_append, flat_plain l]; rfl
attribute [local irreducible] V N X VO Par StepOK Has Ret RetL RetO Src kl
theorem gof_eS {l : List G} {fu : Bool} {e : Int} {l' : List G} (he : ofE [] l = e) (hl' : (if e = 0 then l else []) = l') (hl : l.length ≤ 131072) (hz : ∀ g ∈ l, GZ g) {v : Value} {w : World} {B : Heap} (hB : B.Le (hp w)) (hv : GS l fu v B) :
    Ret Try.prog 23 [v] w B (TupS [TabV l', fun v _ => v = .int .i64 e]) :=
  (gof_e he hl' hl hz hB hv).mono fun v H _ ⟨tv, e, hT⟩ => by subst e; exact tups2 hT
set_option maxHeartbeats 8000000 in
set_option maxRecDepth 10000 in
theorem goalsKnown_law {w : World} {B : Heap} (hB : B.Le (hp w)) :
    Ret Try.prog 7 [] w B (fun v _ => v = .bool true) := by
  refine V_enter Try.func7 rfl Try.ntmps7 (Nat.le_of_ble_eq_true rfl) hB ?_
  refine V_seq ?_; refine V_region (id := 0) ?_; refine vo_step (ok_assign rfl rfl rfl) rfl ?_; refine vo_nil ?_; refine N_seq ?_; refine V_seq ?_; refine V_region (id := 1) ?_; refine vo_step (ok_alloc L rfl rfl rfl rfl) rfl ?_; refine vo_nil ?_; refine N_seq ?_; refine V_seq ?_; refine V_region (id := 2) ?_; refine vo_step (ok_loadA L (vs := [_, _, _, _]) (src_own rfl) rfl rfl rfl rfl ⟨_, rfl⟩) rfl ?_; refine vo_step (ok_callx L rfl rfl (blt_lt rfl) rfl rfl rfl (fun u H hH hle _ => gat_none (l := []) (i := 0) rfl hH TabV.nil)) rfl ?_; refine vo_step (ok_move rfl rfl rfl) rfl ?_; refine vo_step (ok_extract rfl rfl rfl rfl) rfl ?_; refine vo_step (ok_extract rfl rfl rfl rfl) rfl ?_; refine vo_step (ok_alloc L rfl rfl rfl rfl) rfl ?_; refine vo_step (ok_store L rfl rfl rfl rfl rfl rfl rfl rfl) rfl ?_; refine vo_step (ok_assign rfl rfl rfl) rfl ?_; refine vo_nil ?_; refine N_seq ?_; refine V_seq ?_; refine V_regionD (id := 3) [] mixed (by kernel_rfl) ?_; refine par_step (ok_loadA L (vs := [_, _, _, _]) (src_own rfl) rfl rfl rfl rfl ⟨_, rfl⟩) rfl ?_; refine par_step (ok_callx L rfl rfl (blt_lt rfl) rfl rfl rfl (fun u H hH _ _ => one23_ret 0 (by decide) hH)) rfl ?_; refine par_step (ok_callx L rfl rfl (blt_lt rfl) rfl rfl rfl (fun u H hH hle _ => gfind_none (l := []) (g := goalS 0) rfl hH TabV.nil)) rfl ?_; refine par_step (ok_move rfl rfl rfl) rfl ?_; refine par_step (ok_extract rfl rfl rfl rfl) rfl ?_; refine par_step (ok_extract rfl rfl rfl rfl) rfl ?_; refine par_step (ok_assign rfl rfl rfl) rfl ?_; refine par_step (ok_assign rfl rfl rfl) rfl ?_; refine par_nil ?_; refine N_seq ?_; refine V_seq ?_; refine V_seq ?_; refine V_region (id := 4) ?_; refine vo_step (ok_loadA L (vs := [_, _, _, _]) (src_own rfl) rfl rfl rfl rfl ⟨_, rfl⟩) rfl ?_; refine vo_step (ok_callx L rfl rfl (blt_lt rfl) rfl rfl rfl (fun u H hH hle _ => same23_ret (l := []) (fu := false) (by decide) hH TabV.nil SlV.nil)) rfl ?_; refine vo_step (ok_eql rfl rfl rfl rfl (decide_eq_false (by omega))) rfl ?_; refine vo_step (ok_move rfl rfl rfl) rfl ?_; refine vo_step (ok_move rfl rfl rfl) rfl ?_; refine vo_step (ok_neq rfl rfl rfl rfl (decide_eq_false (by omega))) rfl ?_; refine vo_step (ok_pick rfl rfl rfl rfl) rfl ?_; refine vo_step (ok_move rfl rfl rfl) rfl ?_; refine vo_step (ok_move rfl rfl rfl) rfl ?_; refine vo_step (ok_neq rfl rfl rfl rfl (decide_eq_false (by omega))) rfl ?_; refine vo_step (ok_pick rfl rfl rfl rfl) rfl ?_; refine vo_step (ok_move rfl rfl rfl) rfl ?_; refine vo_step (ok_move rfl rfl rfl) rfl ?_; refine vo_step (ok_pick rfl rfl rfl rfl) rfl ?_; refine vo_step (ok_move rfl rfl rfl) rfl ?_; refine vo_step (ok_loadA L (vs := [_, _, _, _]) (src_own rfl) rfl rfl rfl rfl ⟨_, rfl⟩) rfl ?_; refine vo_step (ok_call (φ := NS [] true) L rfl rfl (blt_lt rfl) rfl rfl rfl SlV.mono (fun u H hH hle _ => grel_ret (l := []) _ _ (by decide) hH TabV.nil)) rfl ?_; refine vo_step (ok_lenV L rfl rfl rfl rfl) rfl ?_; refine vo_step (ok_neq rfl rfl rfl rfl rfl) rfl ?_; refine vo_step (ok_pick rfl rfl rfl rfl) rfl ?_; refine vo_step (ok_move rfl rfl rfl) rfl ?_; refine vo_step (ok_loadA L (vs := [_, _, _, _]) (src_own rfl) rfl rfl rfl rfl ⟨_, rfl⟩) rfl ?_; refine vo_step (ok_loadA L (vs := [_, _, _, _]) (src_own rfl) rfl rfl rfl rfl ⟨_, rfl⟩) rfl ?_; refine vo_step (ok_callx L rfl rfl (blt_lt rfl) rfl rfl rfl (fun u H hH hle _ => ggoes_ret (a := []) (b := []) hH TabV.nil TabV.nil (by decide) (r := true) rfl)) rfl ?_; refine vo_step (ok_not rfl rfl rfl rfl) rfl ?_; refine vo_step (ok_pick rfl rfl rfl rfl) rfl ?_; refine vo_nil ?_; refine N_seq ?_; refine V_false rfl ?_; refine V_skip ?_; refine N_seq ?_; refine V_seq ?_; refine V_region (id := 6) ?_; refine vo_step (ok_assign rfl rfl rfl) rfl ?_; refine vo_nil ?_; refine N_seq ?_; refine V_seq ?_; refine V_seq ?_
  refine V_nilR 6 tyG 3 rfl ?_
  refine V_region (id := 7) ?_; refine vo_step (ok_assign rfl rfl rfl) rfl ?_; refine vo_nil ?_; refine N_seq ?_; refine V_block ?_
  refine V_loop (fun i : Nat => [(6, .own (SlR tyG 3 (kl i).length ((kl i).flatMap gcs))), (7, .is (.int .i64 i))]) (fun i => i ≤ 4096) (fun i => 4096 - i) 0 (Nat.zero_le _) ⟨by show _ = some (Kn.own (SlR tyG 3 (kl 0).length ((kl 0).flatMap gcs))); rw [kl_zero]; rfl, rfl, trivial⟩ ?_
  rintro i hi
  have hki := kl_length i
  by_cases hlt : i < 4096
  · have e16 : Int.tmod (i : Int) 16 = ((i % 16 : Nat) : Int) := rfl
    have d16 : IntKind.i64.wrap ((i : Int).tdiv 16) = ((i / 16 : Nat) : Int) := wrap_i64 (by rw [show (i : Int).tdiv 16 = ((i / 16 : Nat) : Int) from rfl]; omega) (by rw [show (i : Int).tdiv 16 = ((i / 16 : Nat) : Int) from rfl]; omega)
    have e16' : Int.tmod ((i / 16 : Nat) : Int) 16 = ((i / 16 % 16 : Nat) : Int) := rfl
    have d256 : IntKind.i64.wrap ((i : Int).tdiv 256) = ((i / 256 : Nat) : Int) := wrap_i64 (by rw [show (i : Int).tdiv 256 = ((i / 256 : Nat) : Int) from rfl]; omega) (by rw [show (i : Int).tdiv 256 = ((i / 256 : Nat) : Int) from rfl]; omega)
    have s1 := dg_size (i % 16) (by omega)
    have s2 := dg_size (i / 16 % 16) (by omega)
    have s3 := dg_size (i / 256) (by omega)
    have habc : abc.size = 16 := rfl
    have h1 : (dg (i % 16)).size + (dg (i / 16 % 16)).size ≤ 9223372036854775807 := by omega
    have h2 : (dg (i % 16) ++ dg (i / 16 % 16)).size + (dg (i / 256)).size ≤ 9223372036854775807 := by rw [ByteArray.size_append]; omega
    unfold dg at h1 h2
    have a1 : IntKind.i64.wrap (((i % 16 : Nat) : Int) + 1) = ((i % 16 + 1 : Nat) : Int) := wrap_i64 (by omega) (by omega)
    have a2 : IntKind.i64.wrap (((i / 16 % 16 : Nat) : Int) + 1) = ((i / 16 % 16 + 1 : Nat) : Int) := wrap_i64 (by omega) (by omega)
    have a3 : IntKind.i64.wrap (((i / 256 : Nat) : Int) + 1) = ((i / 256 + 1 : Nat) : Int) := wrap_i64 (by omega) (by omega)
    refine V_seq ?_; refine V_seq ?_; refine V_region (id := 8) ?_; refine vo_step (ok_move rfl rfl rfl) rfl ?_; refine vo_step (ok_lss rfl rfl rfl rfl (decide_eq_true (by omega))) rfl ?_; refine vo_nil ?_; refine N_seq ?_; refine V_true rfl ?_; refine V_skip ?_; refine N_seq ?_; refine V_seq ?_; refine V_block ?_; refine V_regionD (id := 10) [(83, [57]), (57, [6]), (6, [83])] mixed (by kernel_rfl) ?_; refine par_step2 (ok_moveO (.inl rfl) rfl rfl rfl rfl) rfl rfl ?_; refine par_step (ok_move rfl rfl rfl) rfl ?_; refine par_step (ok_rem rfl rfl rfl rfl (by omega) (by assumption)) rfl ?_; refine par_step (ok_move rfl rfl rfl) rfl ?_; refine par_step (ok_rem rfl rfl rfl rfl (by omega) (by assumption)) rfl ?_; refine par_step (ok_add rfl rfl rfl rfl (by assumption)) rfl ?_; refine par_step (ok_sliceS L _ _ rfl rfl rfl rfl ⟨rfl, rfl⟩ ⟨rfl, rfl⟩ (by omega) (Nat.le_trans (m := 16) (by omega) (Nat.le_of_ble_eq_true rfl)) rfl) rfl ?_; refine par_step (ok_move rfl rfl rfl) rfl ?_; refine par_step (ok_quo rfl rfl rfl rfl (by omega) (by assumption)) rfl ?_; refine par_step (ok_rem rfl rfl rfl rfl (by omega) (by assumption)) rfl ?_; refine par_step (ok_move rfl rfl rfl) rfl ?_; refine par_step (ok_quo rfl rfl rfl rfl (by omega) (by assumption)) rfl ?_; refine par_step (ok_rem rfl rfl rfl rfl (by omega) (by assumption)) rfl ?_; refine par_step (ok_add rfl rfl rfl rfl (by assumption)) rfl ?_; refine par_step (ok_sliceS L _ _ rfl rfl rfl rfl ⟨rfl, rfl⟩ ⟨rfl, rfl⟩ (by omega) (Nat.le_trans (m := 16) (by omega) (Nat.le_of_ble_eq_true rfl)) rfl) rfl ?_; refine par_step (ok_sadd rfl rfl rfl rfl (by assumption) rfl) rfl ?_; refine par_step (ok_move rfl rfl rfl) rfl ?_; refine par_step (ok_quo rfl rfl rfl rfl (by omega) (by assumption)) rfl ?_; refine par_step (ok_move rfl rfl rfl) rfl ?_; refine par_step (ok_quo rfl rfl rfl rfl (by omega) (by assumption)) rfl ?_; refine par_step (ok_add rfl rfl rfl rfl (by assumption)) rfl ?_; refine par_step (ok_sliceS L _ _ rfl rfl rfl rfl ⟨rfl, rfl⟩ ⟨rfl, rfl⟩ (by omega) (Nat.le_trans (m := 16) (by omega) (Nat.le_of_ble_eq_true rfl)) rfl) rfl ?_; refine par_step (ok_sadd rfl rfl rfl rfl (by assumption) rfl) rfl ?_; refine par_step (ok_build (cs := [_, _]) rfl rfl pl42 rfl rfl) rfl ?_; refine par_step (ok_build (cs := [_, _, _]) rfl rfl pl44 rfl rfl) rfl ?_; refine par_step (ok_buildSlice L rfl rfl rfl rfl rfl rfl rfl rfl rfl) rfl ?_; refine par_step2 (ok_append L rfl rfl rfl (apd_B rfl) rfl el44 rfl rfl (by omega) (by omega)) rfl rfl ?_; refine par_step2 (ok_moveO (.inr rfl) rfl rfl rfl rfl) rfl rfl ?_; refine par_nil ?_; refine N_block ?_; refine N_seq ?_; refine V_region (id := 9) ?_; refine vo_step (ok_move rfl rfl rfl) rfl ?_; refine vo_step (ok_add rfl rfl rfl rfl (wrap_i64 (by omega) (by omega))) rfl ?_; refine vo_step (ok_assign rfl rfl rfl) rfl ?_; refine vo_nil ?_
    exact N_round (x := i) (i + 1) hlt (by omega) ⟨by rw [kl_succ]; exact goods_snoc rfl, rfl, trivial⟩
  · obtain rfl : i = 4096 := by omega
    refine V_pubR 6 rfl ?_
    have o1 := kl_of (n := 4096) (by decide)
    have o2 := kl_of (n := 2048) (by decide)
    have z1 : ∀ g ∈ kl 4096, GZ g := fun g hg => (kl_ok (by decide) g hg).2
    have z2 : ∀ g ∈ kl 2048, GZ g := fun g hg => (kl_ok (by decide) g hg).2
    have l1 : (kl 4096).length ≤ 131072 := by rw [kl_length]; decide
    have l2 : (kl 2048).length ≤ 131072 := by rw [kl_length]; decide
    have ht : (kl 4096).take 2048 = kl 2048 := kl_take (by decide)
    have hg7 := kl_get (n := 4096) (i := 7) (by decide)
    have hc7 := gs_at hg7
    have hg5 := kl_get (n := 4096) (i := 4095) (by decide)
    have hc5 := gs_at hg5
    have hcut : (((kl 4096).flatMap gcs).drop (0 * 3)).take ((2048 - 0) * 3) = (kl 2048).flatMap gcs := by
      rw [flatMap_drop gcs_len, List.drop_zero, show (2048 - 0) * 3 = 2048 * 3 from rfl, flatMap_take gcs_len, ht]
    have hcl : ((kl 2048).flatMap gcs).length = (2048 - 0) * 3 := by rw [gs_len, kl_length]
    have hcp : ((kl 2048).flatMap gcs).all plainV = true := flat_plain _
    have hcv : ∀ {v : Value} {H : Heap}, SlV tyG 3 ((kl 2048).flatMap gcs) (2048 - 0) false v H → GS (kl 2048) false v H := fun h => by
      unfold GS
      rw [kl_length]
      exact h
    have o3 : ofE [] (kl 2048 ++ [kg 7]) = 7 := ofE_twice _ _ _ (fun g hg => (kl_ok (by decide) g hg).1) (kg_ok (by decide)).1 (kl_nodup (by decide)) (List.mem_of_getElem? (kl_get (n := 2048) (i := 7) (by decide)))
    have z3 : ∀ g ∈ kl 2048 ++ [kg 7], GZ g := fun g hg => by
      rcases List.mem_append.1 hg with hg | hg
      · exact z2 g hg
      · rw [List.mem_singleton] at hg; subst hg; exact (kg_ok (by decide)).2
    have l3 : (kl 2048 ++ [kg 7]).length ≤ 131072 := by rw [List.length_append, kl_length]; decide
    have hgs3 : ∀ {v : Value} {H : Heap}, SlV tyG 3 ((kl 2048).flatMap gcs ++ [.string (kg 7).1.1, .string (kg 7).1.2, .string (kg 7).2]) (2048 - 0 + 1) false v H → GS (kl 2048 ++ [kg 7]) false v H := fun h => by
      unfold GS
      rw [List.flatMap_append, List.length_append, kl_length]
      exact h
    have hmono := TabV.mono (l := [])
    have g1 : goesB (kl 4096) (kl 2048) = true := decide_eq_true (by rw [kl_length]; exact ht)
    have g2 : goesB (kl 2048) (kl 4096) = false := decide_eq_false fun e => by have := congrArg List.length e; rw [List.length_take, kl_length, kl_length] at this; omega
    have r1 := relL_all ⟨#[115]⟩ ⟨#[114]⟩ (kl 4096) 0 fun g hg => by obtain ⟨i, _, rfl⟩ := kl_mem hg; exact ⟨rfl, rfl⟩
    rw [kl_length] at r1
    have f1 : (fromL (kl 4096) 4000).length = 96 := by unfold fromL; rw [List.length_drop, kl_length]; rfl
    have hfd : findL (kg 4095) (kl 4096) 0 = some 4095 := by have := findL_nodup (i := 0) (kl_nodup (n := 4096) (by decide)) hg5; rwa [Nat.zero_add] at this
    have k1 := kl_length 4096
    have k2 := kl_length 2048
    clear hki hi hlt
    generalize kl 4096 = K4 at *
    generalize kl 2048 = K2 at *
    generalize kg 7 = g7 at *
    generalize kg 4095 = g4095 at *
    refine V_seq ?_; refine V_seq ?_; refine V_region (id := 8) ?_; refine vo_step (ok_move rfl rfl rfl) rfl ?_; refine vo_step (ok_lss rfl rfl rfl rfl (decide_eq_false (by omega))) rfl ?_; refine vo_nil ?_; refine N_seq ?_; refine V_false rfl ?_; refine V_exit ?_; refine X_then ?_; refine X_then ?_; refine X_here ?_; refine N_seq ?_; refine V_seq ?_; refine V_region (id := 11) ?_; refine vo_step (ok_moves' rfl rfl rfl) rfl ?_; refine vo_step (ok_call L rfl rfl (blt_lt rfl) rfl rfl rfl TupT.mono (fun u H hH hle _ v hv => gof_e (l' := K4) o1 rfl l1 z1 hH hv)) rfl ?_; refine vo_opn 86 rfl fun v86 H86 hs86 ⟨tv, e, hT86⟩ => ?_; subst e; obtain ⟨f8, p8, k8, q8, rfl, hpl8⟩ := hT86.shape; refine vo_step (ok_move rfl rfl rfl) rfl ?_; refine vo_step (ok_extract rfl rfl rfl rfl) rfl ?_; refine vo_step (ok_extract rfl rfl rfl rfl) rfl ?_; refine vo_step (ok_alloc L rfl rfl rfl rfl) rfl ?_; refine vo_step (ok_store L rfl rfl rfl rfl rfl rfl (by assumption) rfl) rfl ?_; refine vo_step (ok_assign rfl rfl rfl) rfl ?_; refine vo_nil ?_; refine N_seq ?_; refine V_seq ?_
    refine V_region (id := 12) ?_; refine vo_step (ok_moves' rfl rfl rfl) rfl ?_; refine vo_step (ok_sliceV L (kl := .i64) (pl := 0) (km := .i64) (pm := 0) 0 2048 false rfl rfl rfl rfl rfl rfl ⟨rfl, rfl⟩ (fun h => by cases h) (by omega) (by omega) (by assumption)) rfl ?_; refine vo_step (ok_call L rfl rfl (blt_lt rfl) rfl rfl rfl TupT.mono (fun u H hH hle _ v hv => gof_e (l' := K2) o2 rfl l2 z2 hH (hcv hv))) rfl ?_; refine vo_opn 92 rfl fun v92 H92 hs92 ⟨tv, e, hT92⟩ => ?_; subst e; obtain ⟨f10, p10, k10, q10, rfl, hpl10⟩ := hT92.shape; refine vo_step (ok_move rfl rfl rfl) rfl ?_; refine vo_step (ok_extract rfl rfl rfl rfl) rfl ?_; refine vo_step (ok_extract rfl rfl rfl rfl) rfl ?_; refine vo_step (ok_alloc L rfl rfl rfl rfl) rfl ?_; refine vo_step (ok_store L rfl rfl rfl rfl rfl rfl (by assumption) rfl) rfl ?_; refine vo_step (ok_assign rfl rfl rfl) rfl ?_; refine vo_nil ?_; refine N_seq ?_; refine V_seq ?_
    have hT := hT86.le hs92.le
    refine V_regionD (id := 13) [(103, [98]), (104, [103])] mixed (by kernel_rfl) ?_; refine par_step (ok_moves' rfl rfl rfl) rfl ?_; refine par_step (ok_sliceV L (kl := .i64) (pl := 0) (km := .i64) (pm := 0) 0 2048 false rfl rfl rfl rfl rfl rfl ⟨rfl, rfl⟩ (fun h => by cases h) (by omega) (by omega) (by assumption)) rfl ?_; refine par_step (ok_append0 L rfl rfl rfl (apd_V rfl) rfl el44 hcl hcp (by omega) (by omega)) rfl ?_; refine par_step (ok_moves' rfl rfl rfl) rfl ?_; refine par_step (ok_indexV L 7 rfl rfl rfl rfl rfl rfl rfl (by first | omega | decide) (by assumption)) rfl ?_; refine par_step (ok_loadPA L (vs := [_, _, _]) rfl rfl rfl rfl rfl ⟨_, rfl⟩) rfl ?_; refine par_step (ok_buildSlice L rfl rfl rfl rfl rfl rfl rfl rfl rfl) rfl ?_; refine par_step2 (ok_append L rfl rfl rfl (apd_B rfl) rfl el44 rfl rfl (by omega) (by omega)) rfl rfl ?_; refine par_step2 (ok_callPub (q := 103) L rfl rfl (blt_lt rfl) rfl rfl rfl rfl (tups2_mono TabV.mono) (fun u H hH hle _ v hv => gof_eS (l := K2 ++ [g7]) (l' := []) o3 rfl l3 z3 hH (hgs3 hv))) rfl rfl ?_; refine par_step (ok_moves' rfl rfl rfl) rfl ?_; refine par_step (ok_extracts rfl rfl rfl rfl (by assumption)) rfl ?_; refine par_step (ok_extractx rfl rfl rfl rfl) rfl ?_; refine par_step (ok_alloc L rfl rfl rfl rfl) rfl ?_; refine par_step (ok_storeX L (X := TXp) (fun x => tcs x.1) (fun x H => tphi [] x.1 H) (fun _ _ _ h hle => TabV.le h hle) tab_st (fun x => ⟨rfl, x.2⟩) rfl rfl rfl rfl rfl) rfl ?_; refine par_step (ok_assign rfl rfl rfl) rfl ?_; refine par_nil ?_; refine N_seq ?_; refine V_seq ?_; refine V_seq ?_
    refine V_region (id := 14) ?_; refine vo_step (ok_move rfl rfl rfl) rfl ?_; refine vo_step (ok_neq rfl rfl rfl rfl (decide_eq_false (by omega))) rfl ?_; refine vo_step (ok_move rfl rfl rfl) rfl ?_; refine vo_step (ok_move rfl rfl rfl) rfl ?_; refine vo_step (ok_neq rfl rfl rfl rfl (decide_eq_false (by omega))) rfl ?_; refine vo_step (ok_pick rfl rfl rfl rfl) rfl ?_; refine vo_step (ok_move rfl rfl rfl) rfl ?_; refine vo_step (ok_move rfl rfl rfl) rfl ?_; refine vo_step (ok_neq rfl rfl rfl rfl (decide_eq_false (by omega))) rfl ?_; refine vo_step (ok_pick rfl rfl rfl rfl) rfl ?_; refine vo_step (ok_move rfl rfl rfl) rfl ?_; refine vo_step (ok_loadA L (vs := [_, _, _, _]) (src_own rfl) rfl rfl rfl rfl ⟨_, rfl⟩) rfl ?_; refine vo_step (ok_loadA L (vs := [_, _, _, _]) (src_own rfl) rfl rfl rfl rfl ⟨_, rfl⟩) rfl ?_; refine vo_step (ok_callx L rfl rfl (blt_lt rfl) rfl rfl rfl (fun u H hH hle _ => ggoes_ret hH (hT.le hle) (hT92.le hle) l2 g1)) rfl ?_; refine vo_step (ok_not rfl rfl rfl rfl) rfl ?_; refine vo_step (ok_pick rfl rfl rfl rfl) rfl ?_; refine vo_step (ok_move rfl rfl rfl) rfl ?_; refine vo_step (ok_loadA L (vs := [_, _, _, _]) (src_own rfl) rfl rfl rfl rfl ⟨_, rfl⟩) rfl ?_; refine vo_step (ok_loadA L (vs := [_, _, _, _]) (src_own rfl) rfl rfl rfl rfl ⟨_, rfl⟩) rfl ?_; refine vo_step (ok_callx L rfl rfl (blt_lt rfl) rfl rfl rfl (fun u H hH hle _ => ggoes_ret hH (hT92.le hle) (hT.le hle) l1 g2)) rfl ?_; refine vo_step (ok_pick rfl rfl rfl rfl) rfl ?_; refine vo_step (ok_move rfl rfl rfl) rfl ?_; refine vo_step (ok_loadA L (vs := [_, _, _, _]) (src_own rfl) rfl rfl rfl rfl ⟨_, rfl⟩) rfl ?_; refine vo_step (ok_call L rfl rfl (blt_lt rfl) rfl rfl rfl SlV.mono (fun u H hH hle _ => grel_ret (l := K4) _ _ l1 hH (hT.le hle))) rfl ?_; refine vo_step (ok_lenV L rfl rfl rfl rfl) rfl ?_; refine vo_step (ok_neq rfl rfl rfl rfl (decide_eq_false (by omega))) rfl ?_; refine vo_step (ok_pick rfl rfl rfl rfl) rfl ?_; refine vo_step (ok_move rfl rfl rfl) rfl ?_; refine vo_step (ok_loadA L (vs := [_, _, _, _]) (src_own rfl) rfl rfl rfl rfl ⟨_, rfl⟩) rfl ?_; refine vo_step (ok_call L rfl rfl (blt_lt rfl) rfl rfl rfl SlV.mono (fun u H hH hle _ => gfrom_ret (l := K4) 4000 l1 hH (hT.le hle))) rfl ?_; refine vo_step (ok_lenV L rfl rfl rfl rfl) rfl ?_; refine vo_step (ok_neq rfl rfl rfl rfl (decide_eq_false (by omega))) rfl ?_; refine vo_step (ok_pick rfl rfl rfl rfl) rfl ?_; refine vo_nil ?_; refine N_seq ?_; refine V_false rfl ?_; refine V_skip ?_; refine N_seq ?_; refine V_seq ?_; refine V_regionD (id := 16) [] mixed (by kernel_rfl) ?_; refine par_step (ok_loadA L (vs := [_, _, _, _]) (src_own rfl) rfl rfl rfl rfl ⟨_, rfl⟩) rfl ?_; refine par_step (ok_moves' rfl rfl rfl) rfl ?_; refine par_step (ok_indexV L 4095 rfl rfl rfl rfl rfl rfl rfl (by first | omega | decide) (by assumption)) rfl ?_; refine par_step (ok_loadPA L (vs := [_, _, _]) rfl rfl rfl rfl rfl ⟨_, rfl⟩) rfl ?_; refine par_step (ok_callx L rfl rfl (blt_lt rfl) rfl rfl rfl (fun u H hH hle _ => gfind_some hfd hH (hT.le hle))) rfl ?_; refine par_step (ok_move rfl rfl rfl) rfl ?_; refine par_step (ok_extract rfl rfl rfl rfl) rfl ?_; refine par_step (ok_extract rfl rfl rfl rfl) rfl ?_; refine par_step (ok_assign rfl rfl rfl) rfl ?_; refine par_step (ok_assign rfl rfl rfl) rfl ?_; refine par_nil ?_; refine N_seq ?_; refine V_seq ?_; refine V_region (id := 17) ?_; refine vo_step (ok_move rfl rfl rfl) rfl ?_; refine vo_step (ok_eql rfl rfl rfl rfl (decide_eq_true (by omega))) rfl ?_; refine vo_step (ok_move rfl rfl rfl) rfl ?_; refine vo_step (ok_move rfl rfl rfl) rfl ?_; refine vo_step (ok_pick rfl rfl rfl rfl) rfl ?_; refine vo_step (ok_move rfl rfl rfl) rfl ?_; refine vo_step (ok_callx L rfl rfl (blt_lt rfl) rfl rfl rfl (fun u H hH _ _ => lives23_ret hH)) rfl ?_; refine vo_step (ok_pick rfl rfl rfl rfl) rfl ?_; refine vo_step (ok_assign rfl rfl rfl) rfl ?_; refine vo_nil ?_; refine N_seq ?_
    refine V_ret L (rs := [.tmp 0]) rfl (fun _ _ h => h) (hs86.trans hs92) fun u H hH hle => ?_
    rfl
end Go.V.L23
