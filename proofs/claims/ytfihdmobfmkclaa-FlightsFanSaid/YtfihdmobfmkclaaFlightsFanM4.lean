/- Texts on the way to FlightsFan, part 4: one behind another. -/
import Derived.Test.YtfihdmobfmkclaaFlightsFanM3
import Derived.Sort.AssemblyPlain
set_option linter.unusedVariables false
set_option linter.unusedSimpArgs false
/- The walks of flights (chapter 39): who waits, the queue of a client. (Printed by mkflma.py.) -/
namespace Go.V.L39
open Go.Proofs Go.RowKit Go.V
def ckE (t : Tb) (cl : Int) : Int := if chkE t ≠ 0 then chkE t else if 0 ≤ cl ∧ cl ≤ 15 then 0 else 4
theorem ckE_zero {t : Tb} {cl : Int} (h : ckE t cl = 0) : chkE t = 0 ∧ 0 ≤ cl ∧ cl ≤ 15 := by
  unfold ckE at h
  split at h
  · rename_i h1; exact absurd h h1
  · rename_i h1
    split at h
    · rename_i h2; exact ⟨by simpa using h1, h2⟩
    · cases h
theorem cntB_take {p : It → Bool} {l : List Fl} {i : Nat} {f : Fl} (h : l[i]? = some f) : cntB p (l.take (i + 1)) = cntB p (l.take i) + f.is.countP p := by
  rw [take_snoc h]; simp [cntB]
theorem countP_take {p : It → Bool} {l : List It} {i : Nat} {x : It} (h : l[i]? = some x) : (l.take (i + 1)).countP p = (l.take i).countP p + if p x = true then 1 else 0 := by
  rw [take_snoc h, List.countP_append, List.countP_cons, List.countP_nil, Nat.zero_add]
theorem countP_le_its {p : It → Bool} : ∀ {l : List Fl}, cntB p l ≤ itsN l
  | [] => Nat.le_refl _
  | f :: l => by
    have h1 := countP_le_its (p := p) (l := l)
    have h2 := List.countP_le_length (p := p) (l := f.is)
    unfold cntB itsN at *
    simp only [List.map_cons, List.sum_cons]
    omega
theorem cntB_app {p : It → Bool} {l m : List Fl} : cntB p (l ++ m) = cntB p l + cntB p m := by simp [cntB]
theorem cntB_le {p : It → Bool} (l : List Fl) (i : Nat) : cntB p (l.take i) ≤ cntB p l := by
  have h : cntB p l = cntB p (l.take i) + cntB p (l.drop i) := by
    conv => lhs; rw [← List.take_append_drop i l]
    exact cntB_app
  omega
theorem countP_take_le {p : It → Bool} (l : List It) (i : Nat) : (l.take i).countP p ≤ l.countP p := by
  conv => rhs; rw [← List.take_append_drop i l, List.countP_append]
  omega
def enc3 (f : Fl) : List Value := [.int .i64 f.id, .int .i64 f.cs, .int .i64 f.si]
/-- What Queue returns. -/
def QueP (l : List Fl) (e : Int) : Value → Heap → Prop := fun v H => ∃ sv, v = .tuple #[.agg #[sv], .int .i64 e] ∧ SlV tyE 3 (l.flatMap enc3) l.length true sv H
theorem QueP.mono {l : List Fl} {e : Int} : Kn.mono (.sat (QueP l e)) := fun _ _ _ ⟨sv, h1, h2⟩ hle => ⟨sv, h1, h2.le hle⟩
/-- One slice, in a list. -/
def OneL (e : TypeId) (s : Nat) (xs : List Value) (n : Nat) (te : TypeId) : Value → Heap → Prop := fun v H => ∃ sl fu, SlB [sl] te 1 v H ∧ SlV e s xs n fu sl H
theorem OneL.mono {e : TypeId} {s : Nat} {xs : List Value} {n : Nat} {te : TypeId} : Kn.mono (.sat (OneL e s xs n te)) := fun _ _ _ ⟨sl, fu, h1, h2⟩ hle => ⟨sl, fu, SlB.mono _ _ _ h1 hle, h2.le hle⟩
attribute [local irreducible] V N X VO Par StepOK Has Ret RetL RetO RetT RetG Src
theorem fcheck_ret {t : Tb} {zs : List (Fl × Value)} (hz : zs.map Prod.fst = t.fl) {fu fi : Bool} {s : Value} {cl : Int} {w : World} {B : Heap} (hs : FsB zs fu fi s B) (hZ : ∀ f ∈ t.fl, QuZ f.q) (hn : itsN t.fl ≤ 4611686018427387904) {e : Int} (he : ckE t cl = e) (hB : B.Le (hp w)) :
    Ret Try.prog 60 [tbv t.nx s, .int .i64 cl] w B (fun v _ => v = .int .i64 e) := by
  subst he
  obtain ⟨e1, hc⟩ : ∃ e, chkE t = e := ⟨_, rfl⟩
  unfold ckE
  rw [hc]
  refine V_enter Try.func60 rfl Try.ntmps60 (Nat.le_of_ble_eq_true rfl) hB ?_
  by_cases h0 : e1 = 0
  · subst h0
    rw [if_neg (by simp)]
    by_cases h1 : 0 ≤ cl ∧ cl ≤ 15
    · rw [if_pos h1]
      refine V_seq ?_; refine V_region (id := 0) ?_; refine vo_step (ok_box rfl rfl rfl rfl) rfl ?_; refine vo_step (ok_assign rfl rfl rfl) rfl ?_; refine vo_nil ?_; refine N_seq ?_; refine V_seq ?_; refine V_seq ?_; refine V_region (id := 1) ?_; refine vo_step (ok_loadA L (vs := [_, _]) (src_at rfl) rfl rfl rfl rfl ⟨_, rfl⟩) rfl ?_; refine vo_step (ok_callx L rfl rfl (blt_lt rfl) rfl rfl rfl (fun u H hH hle _ => check_ret hz (hs.le hle) hZ hn hc hH)) rfl ?_; refine vo_step (ok_assign rfl rfl rfl) rfl ?_; refine vo_nil ?_; refine N_seq ?_; refine V_seq ?_; refine V_region (id := 2) ?_; refine vo_step (ok_move rfl rfl rfl) rfl ?_; refine vo_step (ok_neq rfl rfl rfl rfl (decide_eq_false (by omega))) rfl ?_; refine vo_nil ?_; refine N_seq ?_; refine V_false rfl ?_; refine V_skip ?_; refine N_seq ?_; refine V_seq ?_; refine V_seq ?_; refine V_region (id := 4) ?_; refine vo_step (ok_move rfl rfl rfl) rfl ?_; refine vo_step (ok_callx L rfl rfl (blt_lt rfl) rfl rfl rfl (fun u H hH _ _ => withinT (by omega) (by omega) hH)) rfl ?_; refine vo_step (ok_not rfl rfl rfl rfl) rfl ?_; refine vo_nil ?_; refine N_seq ?_; refine V_false rfl ?_; refine V_skip ?_; refine N_seq ?_; refine V_seq ?_; refine V_region (id := 6) ?_; refine vo_step (ok_assign rfl rfl rfl) rfl ?_; refine vo_nil ?_; refine N_seq ?_
      refine V_ret L (rs := [.tmp 4]) rfl (fun _ _ h => h) Since.refl fun u H hH hle => ?_
      rfl
    · rw [if_neg h1]
      refine V_seq ?_; refine V_region (id := 0) ?_; refine vo_step (ok_box rfl rfl rfl rfl) rfl ?_; refine vo_step (ok_assign rfl rfl rfl) rfl ?_; refine vo_nil ?_; refine N_seq ?_; refine V_seq ?_; refine V_seq ?_; refine V_region (id := 1) ?_; refine vo_step (ok_loadA L (vs := [_, _]) (src_at rfl) rfl rfl rfl rfl ⟨_, rfl⟩) rfl ?_; refine vo_step (ok_callx L rfl rfl (blt_lt rfl) rfl rfl rfl (fun u H hH hle _ => check_ret hz (hs.le hle) hZ hn hc hH)) rfl ?_; refine vo_step (ok_assign rfl rfl rfl) rfl ?_; refine vo_nil ?_; refine N_seq ?_; refine V_seq ?_; refine V_region (id := 2) ?_; refine vo_step (ok_move rfl rfl rfl) rfl ?_; refine vo_step (ok_neq rfl rfl rfl rfl (decide_eq_false (by omega))) rfl ?_; refine vo_nil ?_; refine N_seq ?_; refine V_false rfl ?_; refine V_skip ?_; refine N_seq ?_; refine V_seq ?_; refine V_seq ?_; refine V_region (id := 4) ?_; refine vo_step (ok_move rfl rfl rfl) rfl ?_; refine vo_step (ok_callx L rfl rfl (blt_lt rfl) rfl rfl rfl (fun u H hH _ _ => withinF (by omega) hH)) rfl ?_; refine vo_step (ok_not rfl rfl rfl rfl) rfl ?_; refine vo_nil ?_; refine N_seq ?_; refine V_true rfl ?_; refine V_seq ?_; refine V_region (id := 5) ?_; refine vo_step (ok_assign rfl rfl rfl) rfl ?_; refine vo_nil ?_; refine N_seq ?_
      refine V_ret L (rs := [.tmp 4]) rfl (fun _ _ h => h) Since.refl fun u H hH hle => ?_
      rfl
  · rw [if_pos h0]
    refine V_seq ?_; refine V_region (id := 0) ?_; refine vo_step (ok_box rfl rfl rfl rfl) rfl ?_; refine vo_step (ok_assign rfl rfl rfl) rfl ?_; refine vo_nil ?_; refine N_seq ?_; refine V_seq ?_; refine V_seq ?_; refine V_region (id := 1) ?_; refine vo_step (ok_loadA L (vs := [_, _]) (src_at rfl) rfl rfl rfl rfl ⟨_, rfl⟩) rfl ?_; refine vo_step (ok_callx L rfl rfl (blt_lt rfl) rfl rfl rfl (fun u H hH hle _ => check_ret hz (hs.le hle) hZ hn hc hH)) rfl ?_; refine vo_step (ok_assign rfl rfl rfl) rfl ?_; refine vo_nil ?_; refine N_seq ?_; refine V_seq ?_; refine V_region (id := 2) ?_; refine vo_step (ok_move rfl rfl rfl) rfl ?_; refine vo_step (ok_neq rfl rfl rfl rfl (decide_eq_true (by omega))) rfl ?_; refine vo_nil ?_; refine N_seq ?_; refine V_true rfl ?_; refine V_seq ?_; refine V_region (id := 3) ?_; refine vo_step (ok_move rfl rfl rfl) rfl ?_; refine vo_step (ok_assign rfl rfl rfl) rfl ?_; refine vo_nil ?_; refine N_seq ?_
    refine V_ret L (rs := [.tmp 4]) rfl (fun _ _ h => h) Since.refl fun u H hH hle => ?_
    rfl
set_option maxHeartbeats 2000000 in
set_option maxRecDepth 20000 in
theorem waiting_ret {t : Tb} {zs : List (Fl × Value)} (hz : zs.map Prod.fst = t.fl) {fu fi : Bool} {s : Value} {cl : Int} {w : World} {B : Heap} (hs : FsB zs fu fi s B) (hZ : ∀ f ∈ t.fl, QuZ f.q) (hn : itsN t.fl ≤ 4611686018427387904) (hB : B.Le (hp w)) :
    Ret Try.prog 29 [tbv t.nx s, .int .i64 cl] w B (fun v _ => v = .tuple #[.int .i64 (if ckE t cl = 0 then (cntB (fun x => decide (x.cl = cl)) t.fl : Int) else 0), .int .i64 (ckE t cl)]) := by
  have hsl := hs.sl
  have hlen := fls_len hz
  have hzl := hs.ln
  obtain ⟨e, hck⟩ : ∃ e, ckE t cl = e := ⟨_, rfl⟩
  rw [hck]
  refine V_enter Try.func29 rfl Try.ntmps29 (Nat.le_of_ble_eq_true rfl) hB ?_
  by_cases h0 : e = 0
  · subst h0
    obtain ⟨hc, _⟩ := ckE_zero hck
    have h1024 := chk_its hc
    have hle := countP_le_its (p := fun x => decide (x.cl = cl)) (l := t.fl)
    rw [if_pos rfl]
    obtain ⟨p, hp⟩ : ∃ p : It → Bool, p = fun x => decide (x.cl = cl) := ⟨_, rfl⟩
    rw [← hp] at hle ⊢
    refine V_seq ?_; refine V_region (id := 0) ?_; refine vo_step (ok_box rfl rfl rfl rfl) rfl ?_; refine vo_step (ok_assign rfl rfl rfl) rfl ?_; refine vo_step (ok_assign rfl rfl rfl) rfl ?_; refine vo_nil ?_; refine N_seq ?_; refine V_seq ?_; refine V_seq ?_; refine V_region (id := 1) ?_; refine vo_step (ok_loadA L (vs := [_, _]) (src_at rfl) rfl rfl rfl rfl ⟨_, rfl⟩) rfl ?_; refine vo_step (ok_move rfl rfl rfl) rfl ?_; refine vo_step (ok_callx L rfl rfl (blt_lt rfl) rfl rfl rfl (fun u H hH hle _ => fcheck_ret hz (hs.le hle) hZ hn hck hH)) rfl ?_; refine vo_step (ok_assign rfl rfl rfl) rfl ?_; refine vo_nil ?_; refine N_seq ?_; refine V_seq ?_; refine V_region (id := 2) ?_; refine vo_step (ok_move rfl rfl rfl) rfl ?_; refine vo_step (ok_neq rfl rfl rfl rfl (decide_eq_false (by omega))) rfl ?_; refine vo_nil ?_; refine N_seq ?_; refine V_false rfl ?_; refine V_skip ?_; refine N_seq ?_; refine V_seq ?_; refine V_region (id := 4) ?_; refine vo_step (ok_assign rfl rfl rfl) rfl ?_; refine vo_nil ?_; refine N_seq ?_; refine V_seq ?_; refine V_seq ?_; refine V_region (id := 5) ?_; refine vo_step (ok_fieldAt L rfl rfl rfl rfl) rfl ?_; refine vo_step (StepOK.seeV (ok_load1 L (src_at rfl) rfl rfl rfl rfl) (by assumption)) rfl ?_; refine vo_step (ok_lenV L rfl rfl rfl rfl) rfl ?_; refine vo_step (ok_move rfl rfl rfl) rfl ?_; refine vo_nil ?_; refine N_seq ?_; refine V_block ?_
    refine V_loop (fun i : Nat => [(1, .is (.int .i64 cl)), (7, .is (.int .i64 (cntB p (t.fl.take i)))), (19, .sat (SlV tyF 14 (zs.flatMap flc) zs.length fu)), (20, .is (.int .i64 zs.length)), (21, .is (.int .i64 i))]) (fun i => i ≤ zs.length) (fun i => zs.length - i) 0 (Nat.zero_le _) ⟨rfl, rfl, rfl, rfl, rfl, trivial⟩ ?_
    rintro i hi
    by_cases hlt : i < zs.length
    · obtain ⟨f, pp, c, hzi, hli, hzv, hil, hc14⟩ := hs.at hz hlt
      have h1 := cntB_take (p := p) hli
      have h2 := cntB_le (p := p) t.fl (i + 1)
      refine V_seq ?_; refine V_region (id := 6) ?_; refine vo_step (ok_lss rfl rfl rfl rfl (decide_eq_true (by omega))) rfl ?_; refine vo_nil ?_; refine N_seq ?_; refine V_seq ?_; refine V_true rfl ?_; refine V_skip ?_; refine N_seq ?_; refine V_seq ?_; refine V_block ?_; refine V_seq ?_; refine V_region (id := 7) ?_; refine vo_step (ok_indexV L _ rfl rfl rfl rfl rfl rfl rfl (by first | omega | decide) (by assumption)) rfl ?_; refine vo_step (ok_loadPA L (vs := [_, _, _, _, _, _, _, _, _, _, _, _, _, _]) rfl rfl rfl rfl rfl ⟨_, rfl⟩) rfl ?_; refine vo_step (ok_alloc L rfl rfl rfl rfl) rfl ?_; refine vo_step (ok_store L rfl rfl rfl rfl rfl rfl rfl rfl) rfl ?_; refine vo_nil ?_; refine N_seq ?_; refine V_seq ?_
      refine V_pub 9 rfl ?_
      refine V_region (id := 8) ?_; refine vo_step (ok_fieldAt L rfl rfl rfl rfl) rfl ?_; refine vo_step (StepOK.seeV (ok_load1 L (src_at rfl) rfl rfl rfl rfl) (by assumption)) rfl ?_; refine vo_step (ok_lenV L rfl rfl rfl rfl) rfl ?_; refine vo_step (ok_move rfl rfl rfl) rfl ?_; refine vo_nil ?_; refine N_seq ?_; refine V_block ?_
      refine V_loop (fun k : Nat => [(1, .is (.int .i64 cl)), (7, .is (.int .i64 (cntB p (t.fl.take i) + (f.is.take k).countP p : Nat))), (19, .sat (SlV tyF 14 (zs.flatMap flc) zs.length fu)), (20, .is (.int .i64 zs.length)), (21, .is (.int .i64 i)), (26, .sat (IsV f.is fi)), (27, .is (.int .i64 f.is.length)), (28, .is (.int .i64 k))]) (fun k => k ≤ f.is.length) (fun k => f.is.length - k) 0 (Nat.zero_le _) ⟨rfl, rfl, rfl, rfl, rfl, rfl, rfl, rfl, trivial⟩ ?_
      rintro k hk
      by_cases hkl : k < f.is.length
      · obtain ⟨x, hx⟩ := get_some hkl
        have hc := it_at hx
        have h3 := countP_take (p := p) hx
        have h4 := countP_take_le (p := p) f.is (k + 1)
        by_cases hxc : x.cl = cl
        · have hpx : p x = true := by rw [hp]; exact decide_eq_true hxc
          rw [if_pos hpx] at h3
          have had : IntKind.i64.wrap (((cntB p (t.fl.take i) + (f.is.take k).countP p : Nat) : Int) + 1) = ((cntB p (t.fl.take i) + (f.is.take (k + 1)).countP p : Nat) : Int) := wrap_i64 (by omega) (by omega) |>.trans (by omega)
          refine V_seq ?_; refine V_region (id := 9) ?_; refine vo_step (ok_lss rfl rfl rfl rfl (decide_eq_true (by omega))) rfl ?_; refine vo_nil ?_; refine N_seq ?_; refine V_seq ?_; refine V_true rfl ?_; refine V_skip ?_; refine N_seq ?_; refine V_seq ?_; refine V_block ?_; refine V_seq ?_; refine V_region (id := 10) ?_; refine vo_step (ok_indexV L _ rfl rfl rfl rfl rfl rfl rfl (by first | omega | decide) (by assumption)) rfl ?_; refine vo_step (ok_loadPA L (vs := [_, _, _, _, _]) rfl rfl rfl rfl rfl ⟨_, rfl⟩) rfl ?_; refine vo_step (ok_alloc L rfl rfl rfl rfl) rfl ?_; refine vo_step (ok_store L rfl rfl rfl rfl rfl rfl rfl rfl) rfl ?_; refine vo_nil ?_; refine N_seq ?_; refine V_seq ?_
          refine V_pub 11 rfl ?_
          refine V_region (id := 11) ?_; refine vo_step (ok_fieldAt L rfl rfl rfl rfl) rfl ?_; refine vo_step (ok_load1 L (src_at rfl) rfl rfl rfl rfl) rfl ?_; refine vo_step (ok_move rfl rfl rfl) rfl ?_; refine vo_step (ok_eql rfl rfl rfl rfl (decide_eq_true (by omega))) rfl ?_; refine vo_nil ?_; refine N_seq ?_; refine V_true rfl ?_; refine V_region (id := 12) ?_; refine vo_step (ok_move rfl rfl rfl) rfl ?_; refine vo_step (ok_add rfl rfl rfl rfl (by assumption)) rfl ?_; refine vo_step (ok_assign rfl rfl rfl) rfl ?_; refine vo_nil ?_; refine N_block ?_; refine N_seq ?_; refine V_region (id := 13) ?_; refine vo_step (ok_add rfl rfl rfl rfl (wrap_i64 (by omega) (by omega))) rfl ?_; refine vo_step (ok_move rfl rfl rfl) rfl ?_; refine vo_nil ?_
          exact N_round (x := k) (k + 1) hkl (by omega) ⟨rfl, rfl, rfl, rfl, rfl, rfl, rfl, rfl, trivial⟩
        · have hpx : ¬ p x = true := by rw [hp]; simpa using hxc
          rw [if_neg hpx] at h3
          refine V_seq ?_; refine V_region (id := 9) ?_; refine vo_step (ok_lss rfl rfl rfl rfl (decide_eq_true (by omega))) rfl ?_; refine vo_nil ?_; refine N_seq ?_; refine V_seq ?_; refine V_true rfl ?_; refine V_skip ?_; refine N_seq ?_; refine V_seq ?_; refine V_block ?_; refine V_seq ?_; refine V_region (id := 10) ?_; refine vo_step (ok_indexV L _ rfl rfl rfl rfl rfl rfl rfl (by first | omega | decide) (by assumption)) rfl ?_; refine vo_step (ok_loadPA L (vs := [_, _, _, _, _]) rfl rfl rfl rfl rfl ⟨_, rfl⟩) rfl ?_; refine vo_step (ok_alloc L rfl rfl rfl rfl) rfl ?_; refine vo_step (ok_store L rfl rfl rfl rfl rfl rfl rfl rfl) rfl ?_; refine vo_nil ?_; refine N_seq ?_; refine V_seq ?_
          refine V_pub 11 rfl ?_
          refine V_region (id := 11) ?_; refine vo_step (ok_fieldAt L rfl rfl rfl rfl) rfl ?_; refine vo_step (ok_load1 L (src_at rfl) rfl rfl rfl rfl) rfl ?_; refine vo_step (ok_move rfl rfl rfl) rfl ?_; refine vo_step (ok_eql rfl rfl rfl rfl (decide_eq_false (by omega))) rfl ?_; refine vo_nil ?_; refine N_seq ?_; refine V_false rfl ?_; refine V_skip ?_; refine N_block ?_; refine N_seq ?_; refine V_region (id := 13) ?_; refine vo_step (ok_add rfl rfl rfl rfl (wrap_i64 (by omega) (by omega))) rfl ?_; refine vo_step (ok_move rfl rfl rfl) rfl ?_; refine vo_nil ?_
          exact N_round (x := k) (k + 1) hkl (by omega) ⟨rfl, by rw [h3]; rfl, rfl, rfl, rfl, rfl, rfl, rfl, trivial⟩
      · obtain rfl : k = f.is.length := by omega
        refine V_seq ?_; refine V_region (id := 9) ?_; refine vo_step (ok_lss rfl rfl rfl rfl (decide_eq_false (by omega))) rfl ?_; refine vo_nil ?_; refine N_seq ?_; refine V_seq ?_; refine V_false rfl ?_; refine V_exit ?_; refine X_then ?_; refine X_then ?_; refine X_here ?_; refine N_block ?_; refine N_seq ?_; refine V_region (id := 14) ?_; refine vo_step (ok_add rfl rfl rfl rfl (wrap_i64 (by omega) (by omega))) rfl ?_; refine vo_step (ok_move rfl rfl rfl) rfl ?_; refine vo_nil ?_
        exact N_round (x := i) (i + 1) hlt (by omega) ⟨rfl, by rw [h1, List.take_length]; rfl, rfl, rfl, rfl, trivial⟩
    · obtain rfl : i = zs.length := by omega
      rw [hlen, List.take_length]
      refine V_seq ?_; refine V_region (id := 6) ?_; refine vo_step (ok_lss rfl rfl rfl rfl (decide_eq_false (by omega))) rfl ?_; refine vo_nil ?_; refine N_seq ?_; refine V_seq ?_; refine V_false rfl ?_; refine V_exit ?_; refine X_then ?_; refine X_then ?_; refine X_here ?_; refine N_seq ?_; refine V_seq ?_; refine V_region (id := 15) ?_; refine vo_step (ok_move rfl rfl rfl) rfl ?_; refine vo_step (ok_assign rfl rfl rfl) rfl ?_; refine vo_step (ok_assign rfl rfl rfl) rfl ?_; refine vo_nil ?_; refine N_seq ?_
      refine V_ret L (rs := [.tmp 4, .tmp 5]) rfl (fun _ _ h => h) Since.refl fun u H hH hle => ?_
      rfl
  · rw [if_neg h0]
    refine V_seq ?_; refine V_region (id := 0) ?_; refine vo_step (ok_box rfl rfl rfl rfl) rfl ?_; refine vo_step (ok_assign rfl rfl rfl) rfl ?_; refine vo_step (ok_assign rfl rfl rfl) rfl ?_; refine vo_nil ?_; refine N_seq ?_; refine V_seq ?_; refine V_seq ?_; refine V_region (id := 1) ?_; refine vo_step (ok_loadA L (vs := [_, _]) (src_at rfl) rfl rfl rfl rfl ⟨_, rfl⟩) rfl ?_; refine vo_step (ok_move rfl rfl rfl) rfl ?_; refine vo_step (ok_callx L rfl rfl (blt_lt rfl) rfl rfl rfl (fun u H hH hle _ => fcheck_ret hz (hs.le hle) hZ hn hck hH)) rfl ?_; refine vo_step (ok_assign rfl rfl rfl) rfl ?_; refine vo_nil ?_; refine N_seq ?_; refine V_seq ?_; refine V_region (id := 2) ?_; refine vo_step (ok_move rfl rfl rfl) rfl ?_; refine vo_step (ok_neq rfl rfl rfl rfl (decide_eq_true (by omega))) rfl ?_; refine vo_nil ?_; refine N_seq ?_; refine V_true rfl ?_; refine V_seq ?_; refine V_region (id := 3) ?_; refine vo_step (ok_move rfl rfl rfl) rfl ?_; refine vo_step (ok_assign rfl rfl rfl) rfl ?_; refine vo_step (ok_assign rfl rfl rfl) rfl ?_; refine vo_nil ?_; refine N_seq ?_
    refine V_ret L (rs := [.tmp 4, .tmp 5]) rfl (fun _ _ h => h) Since.refl fun u H hH hle => ?_
    rfl
end Go.V.L39
/- The kit's floor of elements that are known by what they satisfy: appended; several blocks that are held. -/
namespace Go.V
open Go.Proofs Go.RowKit
section
variable {P : Program} {F : Fr} {B : Heap} {O : Boxes} {n : Nat} {ops : Array Oper} {κ : Kap} {d : Nat} {ty : TypeId} {pos : String} {aft : Array Edge} {g : Option (Nat × Bool)} {os : List Oper} {Q : Exit → Act → World → Prop}
/-- 'append(x, y...)': what is appended is known by what it satisfies. -/
theorem ok_appendS (L : Tabs P) {q w : Nat} {t e : TypeId} {s by_ nn m : Nat} {xs : List Value} {ψ : Value → Heap → Prop} (Θ : List Value → Heap → Prop) (hΘ : MonoX Θ) (hn : Nat.blt d n = true) (hg : gK ops κ ⟨some d, .call ⟨.builtin .append, #[.tmp q, .tmp w], #[t, t]⟩, ty, pos, aft, g⟩ = some true)
    (hq : κ q = some (.own (SlR e s nn xs))) (hw : κ w = some (.sat ψ)) (hψ : ∀ v H, ψ v H → ∃ news, SlB news e m v H ∧ Θ news H ∧ news.length = m * s ∧ news.all plainV = true) (ht : L.sl t = some e) (he : elI P e = some (s, by_)) (hb : (nn + m) * by_ ≤ 140737488355328) (h63 : nn + m ≤ 9223372036854775807) :
    StepOK2 P F B n ops O κ ⟨some d, .call ⟨.builtin .append, #[.tmp q, .tmp w], #[t, t]⟩, ty, pos, aft, g⟩ q nilK d (.own (ExR (fun news : List Value => SlR e s (nn + m) (xs ++ news)) Θ hΘ)) := by
  rintro κ' a u hlk hks ⟨H, fp, hh⟩
  unfold After
  rw [if_pos (wanted_gK hh hlk hg)]
  have en := hh.env hlk
  obtain ⟨i, z, hi, hz, hs1, hs2, hs3, hs4⟩ := elI_spec he
  have hk' : κ' q = some (.own (SlR e s nn xs)) := hks.trans hq
  obtain ⟨hown, hM⟩ := hh.slot q _ hk'
  obtain ⟨news, ⟨b, hv, hb2⟩, hθ, hl, h1⟩ := hψ _ _ (en.sat_ w ψ (by simp [Op.operands, Call.operands]) hw)
  have hy : (m = 0 ∧ news = [] ∧ ∃ l c, a.eval (.tmp w) = .slice none l c ∧ l = 0) ∨ ∃ ad c, a.eval (.tmp w) = .slice (some ad) m c ∧ ∀ j v, news[j]? = some v → u.cell? (ad.add j) = some v :=
    .inr ⟨_, _, hv, fun j v hj => by rw [addr_add, cell_of_heap (hh.sub _ _ hb2)]; simpa using hj⟩
  obtain ⟨x', u', C', hr, hown', hgr, hC'⟩ := appendR u (aty := ty) (Tabs.sl_spec ht) hi hz hs1 hs2 hs3 hs4 hh.sub hown (fun k hk => ⟨(hM k hk).1, (hM k hk).2.1⟩) hy hl (fun v hv => plain_one (List.all_eq_true.1 h1 v hv)) h63 hb
  have hrun : (execOp a.eval ⟨some d, .call ⟨.builtin .append, #[.tmp q, .tmp w], #[t, t]⟩, ty, pos, aft, g⟩).run P u = .ok (.value x') u' := by
    simp only [execOp, resolve, invoke, builtin, Sem.run_bind, Sem.run_pure, Result.andThen_ok, List.map_toArray, List.map_cons, List.map_nil, hr]
  rw [hrun]
  simp only [Upon]
  exact ⟨H, _, hh.usePut hk' hgr (by simp [Act.put]) rfl (fun t ht => eval_put_other ht) (by rw [eval_put_same (by rw [hh.size]; exact blt_lt hn)]; exact ⟨news, hθ, hown'⟩) hC'⟩
/-! ### several blocks -/
/-- Blocks, whatever their number, and what they hold. -/
def HeldL (S : List (Nat × List Value × TypeId)) : Res where
  P _ _ u C := (∀ y ∈ S, u.heap[y.1]? = some (.cells y.2.1.toArray y.2.2)) ∧ ∀ k, C k ↔ ∃ y ∈ S, y.1 = k
  st := fun ⟨h1, h2⟩ _ _ _ hk => ⟨fun y hy => (hk y.1 ((h2 y.1).2 ⟨y, hy, rfl⟩)).trans (h1 y hy), h2⟩
/-- One of the blocks is held by itself. -/
theorem V_splitL (q g1 : Nat) {b : Nat} {cs : List Value} {t' : TypeId} {S : List (Nat × List Value × TypeId)} {c : Code} (hne : q ≠ g1) (hd : ∀ y ∈ S, y.1 ≠ b) (hk : κ q = some (.own (HeldL ((b, cs, t') :: S))))
    (h : V P F B n O (upd (upd κ q (.own (HeldL S))) g1 (.own (HeldR b cs t'))) c Q) : V P F B n O κ c Q := fun a u hh => by
  obtain ⟨H, fp, hh⟩ := hh
  obtain ⟨⟨hcs, hC⟩, hM⟩ := hh.slot q _ hk
  have hCb : fp q b := (hC b).2 ⟨_, List.mem_cons_self .., rfl⟩
  have h2 := hh.putR (d := q) (r := HeldL S) (C := fun k => fp q k ∧ k ≠ b) (a' := a) rfl rfl (fun _ _ => rfl) ⟨fun y hy => hcs y (List.mem_cons_of_mem _ hy), fun k => by
    show fp q k ∧ k ≠ b ↔ _
    rw [hC]
    constructor
    · rintro ⟨⟨y, hy, rfl⟩, hne⟩
      rcases List.mem_cons.1 hy with rfl | hy
      · exact absurd rfl hne
      · exact ⟨y, hy, rfl⟩
    · rintro ⟨y, hy, rfl⟩
      exact ⟨⟨y, List.mem_cons_of_mem _ hy, rfl⟩, hd y hy⟩⟩ (fun k hk' => hM k hk'.1) (fun t r' hne' hk' k hf hc => hh.owns t q _ _ hne' hk' hk k hf hc.1)
  have h3 := h2.putR (d := g1) (r := HeldR b cs t') (C := fun k => k = b) (a' := a) rfl rfl (fun _ _ => rfl) ⟨hcs _ (List.mem_cons_self ..), fun _ => Iff.rfl⟩ (fun k hk' => by subst hk'; exact hM _ hCb) (fun t r' hne' hk' k hf hc => by
    subst hc
    by_cases e : t = q
    · subst e; rw [fpu_same] at hf; exact hf.2 rfl
    · rw [fpu_other _ _ e] at hf
      rw [upd_other _ _ e] at hk'
      exact hh.owns t q _ _ e hk' hk k hf hCb)
  exact h a u ⟨H, _, h3⟩
end
end Go.V
/- The walks of slices.Grow, slices.Concat and flights.own at one type of elements. -/
namespace Go.V.L39
open Go.Proofs Go.RowKit Go.V
abbrev tyO : TypeId := 26
attribute [local irreducible] V N X VO Par StepOK Has Ret RetL RetO RetT RetG Src
set_option maxRecDepth 20000 in
theorem growO_ret {n : Nat} (hn : n ≤ 100000) {w : World} {B : Heap} (hB : B.Le (hp w)) : RetO Try.prog 102 [.slice none 0 0, .int .i64 n] w B (SlR tyO 2 0 []) := by
  refine V_enterO Try.func102 rfl Try.ntmps102 (Nat.le_of_ble_eq_true rfl) hB ?_
  have hs : IntKind.i64.wrap ((n : Int) - 0) = (n : Int) := wrap_i64 (by omega) (by omega) |>.trans (by omega)
  by_cases h0 : 0 < n
  · refine V_seq ?_; refine V_region (id := 0) ?_; refine vo_step (ok_assign rfl rfl rfl) rfl ?_; refine vo_nil ?_; refine N_seq ?_; refine V_seq ?_; refine V_seq ?_; refine V_region (id := 1) ?_; refine vo_step (ok_move rfl rfl rfl) rfl ?_; refine vo_step (ok_lss rfl rfl rfl rfl (decide_eq_false (by omega))) rfl ?_; refine vo_nil ?_; refine N_seq ?_; refine V_false rfl ?_; refine V_skip ?_; refine N_seq ?_; refine V_seq ?_; refine V_seq ?_; refine V_region (id := 3) ?_; refine vo_step (ok_move rfl rfl rfl) rfl ?_; refine vo_step (ok_move rfl rfl rfl) rfl ?_; refine vo_step (ok_capL L rfl rfl rfl rfl) rfl ?_; refine vo_step (ok_move rfl rfl rfl) rfl ?_; refine vo_step (ok_lenL L rfl rfl rfl rfl) rfl ?_; refine vo_step (ok_sub rfl rfl rfl rfl (wrap_i64 (by omega) (by omega))) rfl ?_; refine vo_step (ok_sub rfl rfl rfl rfl (by assumption)) rfl ?_; refine vo_step (ok_assign rfl rfl rfl) rfl ?_; refine vo_nil ?_; refine N_seq ?_; refine V_seq ?_; refine V_region (id := 4) ?_; refine vo_step (ok_move rfl rfl rfl) rfl ?_; refine vo_step (ok_gtr rfl rfl rfl rfl (decide_eq_true (by omega))) rfl ?_; refine vo_nil ?_; refine N_seq ?_; refine V_true rfl ?_; refine V_region (id := 5) ?_; refine vo_step (ok_move rfl rfl rfl) rfl ?_; refine vo_step (ok_move rfl rfl rfl) rfl ?_; refine vo_step (ok_capL L rfl rfl rfl rfl) rfl ?_; refine vo_step (ok_sliceN L 0 rfl rfl rfl rfl rfl rfl rfl) rfl ?_; refine vo_step (ok_move rfl rfl rfl) rfl ?_; refine vo_step (ok_appendM L rfl rfl rfl rfl rfl Try.underlying3 el26 h0 (by omega) (by omega)) rfl ?_; refine vo_step (ok_move rfl rfl rfl) rfl ?_; refine vo_step (ok_lenL L rfl rfl rfl rfl) rfl ?_; refine vo_step2 (ok_slice0 L 0 rfl h0 rfl rfl rfl rfl rfl rfl) ?_; refine vo_step2 (ok_moveO (.inr rfl) rfl rfl rfl rfl) ?_; refine vo_nil ?_; refine N_seq ?_; refine V_seq ?_; refine V_region (id := 6) ?_; refine vo_step2 (ok_moveO (.inl rfl) rfl rfl rfl rfl) ?_; refine vo_step2 (ok_moveO (.inr rfl) rfl rfl rfl rfl) ?_; refine vo_nil ?_; refine N_seq ?_
    exact V_retO rfl (fun _ _ h => h) Since.refl rfl
  · obtain rfl : n = 0 := by omega
    refine V_seq ?_; refine V_region (id := 0) ?_; refine vo_step (ok_assign rfl rfl rfl) rfl ?_; refine vo_nil ?_; refine N_seq ?_; refine V_seq ?_; refine V_seq ?_; refine V_region (id := 1) ?_; refine vo_step (ok_move rfl rfl rfl) rfl ?_; refine vo_step (ok_lss rfl rfl rfl rfl (decide_eq_false (by omega))) rfl ?_; refine vo_nil ?_; refine N_seq ?_; refine V_false rfl ?_; refine V_skip ?_; refine N_seq ?_; refine V_seq ?_; refine V_seq ?_; refine V_region (id := 3) ?_; refine vo_step (ok_move rfl rfl rfl) rfl ?_; refine vo_step (ok_move rfl rfl rfl) rfl ?_; refine vo_step (ok_capL L rfl rfl rfl rfl) rfl ?_; refine vo_step (ok_move rfl rfl rfl) rfl ?_; refine vo_step (ok_lenL L rfl rfl rfl rfl) rfl ?_; refine vo_step (ok_sub rfl rfl rfl rfl (by assumption)) rfl ?_; refine vo_step (ok_sub rfl rfl rfl rfl (by assumption)) rfl ?_; refine vo_step (ok_assign rfl rfl rfl) rfl ?_; refine vo_nil ?_; refine N_seq ?_; refine V_seq ?_; refine V_region (id := 4) ?_; refine vo_step (ok_move rfl rfl rfl) rfl ?_; refine vo_step (ok_gtr rfl rfl rfl rfl (decide_eq_false (by omega))) rfl ?_; refine vo_nil ?_; refine N_seq ?_; refine V_false rfl ?_; refine V_skip ?_; refine N_seq ?_; refine V_seq ?_
    refine V_nilR 0 tyO 2 rfl ?_
    refine V_region (id := 6) ?_; refine vo_step2 (ok_moveO (.inl rfl) rfl rfl rfl rfl) ?_; refine vo_step2 (ok_moveO (.inr rfl) rfl rfl rfl rfl) ?_; refine vo_nil ?_; refine N_seq ?_
    exact V_retO rfl (fun _ _ h => h) Since.refl rfl
set_option maxHeartbeats 2000000 in
theorem concatO_ret {avs : List Value} {Xs : List (List Value × Nat)} {B : Heap} (hX : Lsts tyO 2 B avs Xs) (hk : avs.length ≤ 1000) (hn : nXs Xs ≤ 50000) {v : Value} {w : World} (hB : B.Le (hp w)) (hv : SlB avs 89 avs.length v B) :
    Ret Try.prog 82 [v] w B (SlV tyO 2 (cXs Xs) (nXs Xs) false) := by
  obtain ⟨k, hkk⟩ : ∃ k, k = avs.length := ⟨_, rfl⟩
  rw [← hkk] at hk hv
  obtain ⟨sz, hsz⟩ : ∃ sz : Nat → Nat, sz = fun i => nXs (Xs.take i) := ⟨_, rfl⟩
  obtain ⟨ac, hac⟩ : ∃ ac : Nat → List Value, ac = fun i => cXs (Xs.take i) := ⟨_, rfl⟩
  have step : ∀ i, i < k → ∃ x p c f l m, avs[i * 1]? = some x ∧ x = .slice p m c ∧ SlV tyO 2 l m f x B ∧ sz (i + 1) = sz i + m ∧ ac (i + 1) = ac i ++ l ∧ sz (i + 1) ≤ 50000 ∧ l.all plainV = true ∧ l.length = m * 2 := fun i hi => by
    subst hkk hsz hac
    obtain ⟨x, p, c, f, l, m, h1, h2, h3, h4, h5⟩ := hX.at hi
    refine ⟨x, p, c, f, l, m, by rw [Nat.mul_one]; exact h1, h2, h3, nXs_take h4, cXs_take h4, Nat.le_trans (nXs_le _ _) hn, h5, h3.1⟩
  have h0 : sz 0 = 0 := by subst hsz; rfl
  have a0 : ac 0 = [] := by subst hac; rfl
  have a2 : ac k = cXs Xs := by subst hac; dsimp only; rw [List.take_of_length_le (by rw [hkk, hX.1]; omega)]
  have s2 : sz k = nXs Xs := by subst hsz; dsimp only; rw [List.take_of_length_le (by rw [hkk, hX.1]; omega)]
  have hal : ∀ i, (ac i).length = sz i * 2 ∧ sz i ≤ 50000 := fun i => by
    subst hsz hac
    exact ⟨hX.len i, Nat.le_trans (nXs_le _ _) hn⟩
  rw [← a2, ← s2]
  have s3 : sz k ≤ 100000 := by have := (hal k).2; omega
  clear hsz hac hX hn a2 s2 hkk
  refine V_enter Try.func82 rfl Try.ntmps82 (Nat.le_of_ble_eq_true rfl) hB ?_
  refine V_seen 0 (SlB avs 89 k) rfl SlB.mono hv ?_
  refine V_seq ?_; refine V_region (id := 0) ?_; refine vo_step (ok_assign rfl rfl rfl) rfl ?_; refine vo_nil ?_; refine N_seq ?_; refine V_seq ?_; refine V_region (id := 1) ?_; refine vo_step (ok_assign rfl rfl rfl) rfl ?_; refine vo_nil ?_; refine N_seq ?_; refine V_seq ?_; refine V_seq ?_; refine V_region (id := 2) ?_; refine vo_step (ok_moves' rfl rfl rfl) rfl ?_; refine vo_step (ok_lenSl L rfl rfl rfl rfl) rfl ?_; refine vo_step (ok_move rfl rfl rfl) rfl ?_; refine vo_nil ?_; refine N_seq ?_; refine V_block ?_
  refine V_loop (fun i : Nat => [(0, .sat (SlB avs 89 k)), (3, .is (.int .i64 (sz i))), (9, .sat (SlB avs 89 k)), (10, .is (.int .i64 k)), (11, .is (.int .i64 i))]) (fun i => i ≤ k) (fun i => k - i) 0 (Nat.zero_le _) ⟨rfl, by rw [h0]; rfl, rfl, rfl, rfl, trivial⟩ ?_
  rintro i hi
  by_cases hlt : i < k
  · obtain ⟨x, p, c, f, l, m, hx, hxe, hk, hs, _, hb5, _, _⟩ := step i hlt
    subst hxe
    have had : IntKind.i64.wrap ((sz i : Int) + (m : Int)) = (sz (i + 1) : Int) := wrap_i64 (by omega) (by omega) |>.trans (by omega)
    refine V_seq ?_; refine V_region (id := 3) ?_; refine vo_step (ok_lss rfl rfl rfl rfl (decide_eq_true (by omega))) rfl ?_; refine vo_nil ?_; refine N_seq ?_; refine V_seq ?_; refine V_true rfl ?_; refine V_skip ?_; refine N_seq ?_; refine V_seq ?_; refine V_block ?_; refine V_seq ?_; refine V_region (id := 4) ?_; refine vo_step (ok_indexSl L _ rfl rfl rfl rfl rfl rfl rfl (by omega)) rfl ?_; refine vo_step (ok_load1c L (src_at rfl) rfl rfl rfl (by assumption)) rfl ?_; refine vo_step (ok_assign rfl rfl rfl) rfl ?_; refine vo_nil ?_; refine N_seq ?_; refine V_seq ?_; refine V_region (id := 5) ?_; refine vo_step (ok_move rfl rfl rfl) rfl ?_; refine vo_step (ok_move rfl rfl rfl) rfl ?_; refine vo_step (ok_lenL L rfl rfl rfl rfl) rfl ?_; refine vo_step (ok_add rfl rfl rfl rfl (by assumption)) rfl ?_; refine vo_step (ok_assign rfl rfl rfl) rfl ?_; refine vo_nil ?_; refine N_seq ?_; refine V_seq ?_; refine V_region (id := 6) ?_; refine vo_step (ok_move rfl rfl rfl) rfl ?_; refine vo_step (ok_lss rfl rfl rfl rfl (decide_eq_false (by omega))) rfl ?_; refine vo_nil ?_; refine N_seq ?_; refine V_false rfl ?_; refine V_skip ?_; refine N_block ?_; refine N_seq ?_; refine V_region (id := 8) ?_; refine vo_step (ok_add rfl rfl rfl rfl (wrap_i64 (by omega) (by omega))) rfl ?_; refine vo_step (ok_move rfl rfl rfl) rfl ?_; refine vo_nil ?_
    exact N_round (x := i) (i + 1) hlt (by omega) ⟨rfl, rfl, rfl, rfl, rfl, trivial⟩
  · obtain rfl : i = k := by omega
    refine V_seq ?_; refine V_region (id := 3) ?_; refine vo_step (ok_lss rfl rfl rfl rfl (decide_eq_false (by omega))) rfl ?_; refine vo_nil ?_; refine N_seq ?_; refine V_seq ?_; refine V_false rfl ?_; refine V_exit ?_; refine X_then ?_; refine X_then ?_; refine X_here ?_; refine N_seq ?_; refine V_seq ?_; refine V_region (id := 9) ?_; refine vo_step (ok_move rfl rfl rfl) rfl ?_; refine vo_step (ok_callO L rfl rfl (blt_lt rfl) rfl rfl rfl (fun u H hH _ _ => growO_ret s3 hH)) rfl ?_; refine vo_step2 (ok_moveO (.inr rfl) rfl rfl rfl rfl) ?_; refine vo_nil ?_; refine N_seq ?_; refine V_seq ?_; refine V_seq ?_; refine V_region (id := 10) ?_; refine vo_step (ok_moves' rfl rfl rfl) rfl ?_; refine vo_step (ok_lenSl L rfl rfl rfl rfl) rfl ?_; refine vo_step (ok_move rfl rfl rfl) rfl ?_; refine vo_nil ?_; refine N_seq ?_; refine V_block ?_
    refine V_loop (fun j : Nat => [(6, .own (SlR tyO 2 (sz j) (ac j))), (25, .sat (SlB avs 89 i)), (26, .is (.int .i64 i)), (27, .is (.int .i64 j))]) (fun j => j ≤ i) (fun j => i - j) 0 (Nat.zero_le _) ⟨by rw [a0, h0]; rfl, rfl, rfl, rfl, trivial⟩ ?_
    rintro j hj
    obtain ⟨hlj, hlj2⟩ := hal j
    by_cases hjl : j < i
    · obtain ⟨x, p, c, f, l, m, hx, _, hk, hs', ha', hb5, hpl, hlen⟩ := step j hjl
      refine V_seq ?_; refine V_region (id := 11) ?_; refine vo_step (ok_lss rfl rfl rfl rfl (decide_eq_true (by omega))) rfl ?_; refine vo_nil ?_; refine N_seq ?_; refine V_seq ?_; refine V_true rfl ?_; refine V_skip ?_; refine N_seq ?_; refine V_seq ?_; refine V_block ?_; refine V_seq ?_; refine V_region (id := 12) ?_; refine vo_step (ok_indexSl L _ rfl rfl rfl rfl rfl rfl rfl (by omega)) rfl ?_; refine vo_step (ok_load1c L (src_at rfl) rfl rfl rfl (by assumption)) rfl ?_; refine vo_step (ok_assign rfl rfl rfl) rfl ?_; refine vo_nil ?_; refine N_seq ?_
      refine V_seen 8 (SlV tyO 2 l m f) rfl SlV.mono hk ?_
      refine V_region (id := 13) ?_; refine vo_step2 (ok_moveO (.inl rfl) rfl rfl rfl rfl) ?_; refine vo_step (ok_moves' rfl rfl rfl) rfl ?_; refine vo_step2 (ok_append L rfl rfl rfl (apd_V rfl) rfl el26 (by assumption) (by assumption) (by omega) (by omega)) ?_; refine vo_step2 (ok_moveO (.inr rfl) rfl rfl rfl rfl) ?_; refine vo_nil ?_; refine N_block ?_; refine N_seq ?_; refine V_region (id := 14) ?_; refine vo_step (ok_add rfl rfl rfl rfl (wrap_i64 (by omega) (by omega))) rfl ?_; refine vo_step (ok_move rfl rfl rfl) rfl ?_; refine vo_nil ?_
      exact N_round (x := j) (j + 1) hjl (by omega) ⟨by rw [ha', hs']; rfl, rfl, rfl, rfl, trivial⟩
    · obtain rfl : j = i := by omega
      refine V_pubR 6 rfl ?_
      refine V_seq ?_; refine V_region (id := 11) ?_; refine vo_step (ok_lss rfl rfl rfl rfl (decide_eq_false (by omega))) rfl ?_; refine vo_nil ?_; refine N_seq ?_; refine V_seq ?_; refine V_false rfl ?_; refine V_exit ?_; refine X_then ?_; refine X_then ?_; refine X_here ?_; refine N_seq ?_; refine V_seq ?_; refine V_region (id := 15) ?_; refine vo_step (ok_moves' rfl rfl rfl) rfl ?_; refine vo_step (ok_assigns' rfl rfl rfl) rfl ?_; refine vo_nil ?_; refine N_seq ?_
      refine V_ret L (rs := [.tmp 2]) rfl (fun _ _ h => h) Since.refl fun u H hH hle => ?_
      exact fun v hv => hv
theorem ownO_ret {avs : List Value} {Xs : List (List Value × Nat)} {B : Heap} (hX : Lsts tyO 2 B avs Xs) (hk : avs.length ≤ 1000) (hn : nXs Xs ≤ 50000) {v : Value} {w : World} (hB : B.Le (hp w)) (hv : SlB avs 89 avs.length v B) :
    RetO Try.prog 62 [v] w B (SlE tyO 2 (nXs Xs) (cXs Xs)) := by
  have hpl := hX.plain
  have hlen : (cXs Xs).length = nXs Xs * 2 := by have := hX.len Xs.length; rwa [List.take_length] at this
  have hc : ∀ {u : World} {H : Heap}, H.Le (hp u) → B.Le H → Ret Try.prog 82 [v] u H (SlV tyO 2 (cXs Xs) (nXs Xs) false) := fun hH hle => concatO_ret (hX.le hle) hk hn hH (SlB.mono _ _ _ hv hle)
  generalize cXs Xs = cs at *
  generalize nXs Xs = m at *
  clear hX
  refine V_enterO Try.func62 rfl Try.ntmps62 (Nat.le_of_ble_eq_true rfl) hB ?_
  by_cases h0 : m = 0
  · subst h0
    obtain rfl : cs = [] := List.eq_nil_of_length_eq_zero (by omega)
    refine V_seq ?_; refine V_region (id := 0) ?_; refine vo_step (ok_assign rfl rfl rfl) rfl ?_; refine vo_nil ?_; refine N_seq ?_; refine V_seq ?_; refine V_region (id := 1) ?_; refine vo_step (ok_move rfl rfl rfl) rfl ?_; refine vo_step (ok_call L rfl rfl (blt_lt rfl) rfl rfl rfl SlV.mono (fun u H hH hle _ => hc hH hle)) rfl ?_; refine vo_step (ok_assigns' rfl rfl rfl) rfl ?_; refine vo_nil ?_; refine N_seq ?_; refine V_seq ?_; refine V_seq ?_; refine V_region (id := 2) ?_; refine vo_step (ok_moves' rfl rfl rfl) rfl ?_; refine vo_step (ok_lenV L rfl rfl rfl rfl) rfl ?_; refine vo_step (ok_eql rfl rfl rfl rfl (decide_eq_true (by omega))) rfl ?_; refine vo_nil ?_; refine N_seq ?_; refine V_true rfl ?_; refine V_seq ?_; refine V_region (id := 3) ?_; refine vo_step (ok_assign rfl rfl rfl) rfl ?_; refine vo_nil ?_; refine N_seq ?_
    refine V_nilE 2 tyO 2 rfl ?_
    exact V_retO rfl (fun _ _ h => h) Since.refl rfl
  · refine V_seq ?_; refine V_region (id := 0) ?_; refine vo_step (ok_assign rfl rfl rfl) rfl ?_; refine vo_nil ?_; refine N_seq ?_; refine V_seq ?_; refine V_region (id := 1) ?_; refine vo_step (ok_move rfl rfl rfl) rfl ?_; refine vo_step (ok_call L rfl rfl (blt_lt rfl) rfl rfl rfl SlV.mono (fun u H hH hle _ => hc hH hle)) rfl ?_; refine vo_step (ok_assigns' rfl rfl rfl) rfl ?_; refine vo_nil ?_; refine N_seq ?_; refine V_seq ?_; refine V_seq ?_; refine V_region (id := 2) ?_; refine vo_step (ok_moves' rfl rfl rfl) rfl ?_; refine vo_step (ok_lenV L rfl rfl rfl rfl) rfl ?_; refine vo_step (ok_eql rfl rfl rfl rfl (decide_eq_false (by omega))) rfl ?_; refine vo_nil ?_; refine N_seq ?_; refine V_false rfl ?_; refine V_skip ?_; refine N_seq ?_; refine V_seq ?_; refine V_region (id := 4) ?_; refine vo_step (ok_moves' rfl rfl rfl) rfl ?_; refine vo_step (ok_lenV L rfl rfl rfl rfl) rfl ?_; refine vo_step (ok_makeN L m rfl rfl rfl el26 rfl rfl rfl rfl (by omega) (by unfold maxLen; omega)) rfl ?_; refine vo_step2 (ok_moveO (.inr rfl) rfl rfl rfl rfl) ?_; refine vo_nil ?_; refine N_seq ?_; refine V_seq ?_
    refine V_holdE 4 901 (by omega) rfl fun b hzl => ?_
    refine V_region (id := 5) ?_; refine vo_step (ok_move rfl rfl rfl) rfl ?_; refine vo_step (ok_moves' rfl rfl rfl) rfl ?_; refine vo_step2 (ok_copyH L (q := 901) (by omega) rfl rfl rfl rfl (apd_V rfl) rfl el26 hzl hlen hpl) ?_; refine vo_nil ?_; refine N_seq ?_; refine V_seq ?_; refine V_region (id := 6) ?_; refine vo_step (ok_move rfl rfl rfl) rfl ?_; refine vo_step (ok_assign rfl rfl rfl) rfl ?_; refine vo_nil ?_; refine N_seq ?_
    refine V_relE 2 901 rfl rfl hlen (by unfold maxLen; omega) ?_
    exact V_retO rfl (fun _ _ h => h) Since.refl rfl
end Go.V.L39
/- The walks of slices.Grow, slices.Concat and flights.own at one type of elements. -/
namespace Go.V.L39
open Go.Proofs Go.RowKit Go.V
abbrev tyR : TypeId := 98
attribute [local irreducible] V N X VO Par StepOK Has Ret RetL RetO RetT RetG Src
set_option maxRecDepth 20000 in
theorem growR_ret {n : Nat} (hn : n ≤ 100000) {w : World} {B : Heap} (hB : B.Le (hp w)) : RetO Try.prog 103 [.slice none 0 0, .int .i64 n] w B (SlR tyR 9 0 []) := by
  refine V_enterO Try.func103 rfl Try.ntmps103 (Nat.le_of_ble_eq_true rfl) hB ?_
  have hs : IntKind.i64.wrap ((n : Int) - 0) = (n : Int) := wrap_i64 (by omega) (by omega) |>.trans (by omega)
  by_cases h0 : 0 < n
  · refine V_seq ?_; refine V_region (id := 0) ?_; refine vo_step (ok_assign rfl rfl rfl) rfl ?_; refine vo_nil ?_; refine N_seq ?_; refine V_seq ?_; refine V_seq ?_; refine V_region (id := 1) ?_; refine vo_step (ok_move rfl rfl rfl) rfl ?_; refine vo_step (ok_lss rfl rfl rfl rfl (decide_eq_false (by omega))) rfl ?_; refine vo_nil ?_; refine N_seq ?_; refine V_false rfl ?_; refine V_skip ?_; refine N_seq ?_; refine V_seq ?_; refine V_seq ?_; refine V_region (id := 3) ?_; refine vo_step (ok_move rfl rfl rfl) rfl ?_; refine vo_step (ok_move rfl rfl rfl) rfl ?_; refine vo_step (ok_capL L rfl rfl rfl rfl) rfl ?_; refine vo_step (ok_move rfl rfl rfl) rfl ?_; refine vo_step (ok_lenL L rfl rfl rfl rfl) rfl ?_; refine vo_step (ok_sub rfl rfl rfl rfl (wrap_i64 (by omega) (by omega))) rfl ?_; refine vo_step (ok_sub rfl rfl rfl rfl (by assumption)) rfl ?_; refine vo_step (ok_assign rfl rfl rfl) rfl ?_; refine vo_nil ?_; refine N_seq ?_; refine V_seq ?_; refine V_region (id := 4) ?_; refine vo_step (ok_move rfl rfl rfl) rfl ?_; refine vo_step (ok_gtr rfl rfl rfl rfl (decide_eq_true (by omega))) rfl ?_; refine vo_nil ?_; refine N_seq ?_; refine V_true rfl ?_; refine V_region (id := 5) ?_; refine vo_step (ok_move rfl rfl rfl) rfl ?_; refine vo_step (ok_move rfl rfl rfl) rfl ?_; refine vo_step (ok_capL L rfl rfl rfl rfl) rfl ?_; refine vo_step (ok_sliceN L 0 rfl rfl rfl rfl rfl rfl rfl) rfl ?_; refine vo_step (ok_move rfl rfl rfl) rfl ?_; refine vo_step (ok_appendM L rfl rfl rfl rfl rfl Try.underlying3 el98 h0 (by omega) (by omega)) rfl ?_; refine vo_step (ok_move rfl rfl rfl) rfl ?_; refine vo_step (ok_lenL L rfl rfl rfl rfl) rfl ?_; refine vo_step2 (ok_slice0 L 0 rfl h0 rfl rfl rfl rfl rfl rfl) ?_; refine vo_step2 (ok_moveO (.inr rfl) rfl rfl rfl rfl) ?_; refine vo_nil ?_; refine N_seq ?_; refine V_seq ?_; refine V_region (id := 6) ?_; refine vo_step2 (ok_moveO (.inl rfl) rfl rfl rfl rfl) ?_; refine vo_step2 (ok_moveO (.inr rfl) rfl rfl rfl rfl) ?_; refine vo_nil ?_; refine N_seq ?_
    exact V_retO rfl (fun _ _ h => h) Since.refl rfl
  · obtain rfl : n = 0 := by omega
    refine V_seq ?_; refine V_region (id := 0) ?_; refine vo_step (ok_assign rfl rfl rfl) rfl ?_; refine vo_nil ?_; refine N_seq ?_; refine V_seq ?_; refine V_seq ?_; refine V_region (id := 1) ?_; refine vo_step (ok_move rfl rfl rfl) rfl ?_; refine vo_step (ok_lss rfl rfl rfl rfl (decide_eq_false (by omega))) rfl ?_; refine vo_nil ?_; refine N_seq ?_; refine V_false rfl ?_; refine V_skip ?_; refine N_seq ?_; refine V_seq ?_; refine V_seq ?_; refine V_region (id := 3) ?_; refine vo_step (ok_move rfl rfl rfl) rfl ?_; refine vo_step (ok_move rfl rfl rfl) rfl ?_; refine vo_step (ok_capL L rfl rfl rfl rfl) rfl ?_; refine vo_step (ok_move rfl rfl rfl) rfl ?_; refine vo_step (ok_lenL L rfl rfl rfl rfl) rfl ?_; refine vo_step (ok_sub rfl rfl rfl rfl (by assumption)) rfl ?_; refine vo_step (ok_sub rfl rfl rfl rfl (by assumption)) rfl ?_; refine vo_step (ok_assign rfl rfl rfl) rfl ?_; refine vo_nil ?_; refine N_seq ?_; refine V_seq ?_; refine V_region (id := 4) ?_; refine vo_step (ok_move rfl rfl rfl) rfl ?_; refine vo_step (ok_gtr rfl rfl rfl rfl (decide_eq_false (by omega))) rfl ?_; refine vo_nil ?_; refine N_seq ?_; refine V_false rfl ?_; refine V_skip ?_; refine N_seq ?_; refine V_seq ?_
    refine V_nilR 0 tyR 9 rfl ?_
    refine V_region (id := 6) ?_; refine vo_step2 (ok_moveO (.inl rfl) rfl rfl rfl rfl) ?_; refine vo_step2 (ok_moveO (.inr rfl) rfl rfl rfl rfl) ?_; refine vo_nil ?_; refine N_seq ?_
    exact V_retO rfl (fun _ _ h => h) Since.refl rfl
set_option maxHeartbeats 2000000 in
theorem concatR_ret {avs : List Value} {Xs : List (List Value × Nat)} {B : Heap} (hX : Lsts tyR 9 B avs Xs) (hk : avs.length ≤ 1000) (hn : nXs Xs ≤ 50000) {v : Value} {w : World} (hB : B.Le (hp w)) (hv : SlB avs 93 avs.length v B) :
    Ret Try.prog 83 [v] w B (SlV tyR 9 (cXs Xs) (nXs Xs) false) := by
  obtain ⟨k, hkk⟩ : ∃ k, k = avs.length := ⟨_, rfl⟩
  rw [← hkk] at hk hv
  obtain ⟨sz, hsz⟩ : ∃ sz : Nat → Nat, sz = fun i => nXs (Xs.take i) := ⟨_, rfl⟩
  obtain ⟨ac, hac⟩ : ∃ ac : Nat → List Value, ac = fun i => cXs (Xs.take i) := ⟨_, rfl⟩
  have step : ∀ i, i < k → ∃ x p c f l m, avs[i * 1]? = some x ∧ x = .slice p m c ∧ SlV tyR 9 l m f x B ∧ sz (i + 1) = sz i + m ∧ ac (i + 1) = ac i ++ l ∧ sz (i + 1) ≤ 50000 ∧ l.all plainV = true ∧ l.length = m * 9 := fun i hi => by
    subst hkk hsz hac
    obtain ⟨x, p, c, f, l, m, h1, h2, h3, h4, h5⟩ := hX.at hi
    refine ⟨x, p, c, f, l, m, by rw [Nat.mul_one]; exact h1, h2, h3, nXs_take h4, cXs_take h4, Nat.le_trans (nXs_le _ _) hn, h5, h3.1⟩
  have h0 : sz 0 = 0 := by subst hsz; rfl
  have a0 : ac 0 = [] := by subst hac; rfl
  have a2 : ac k = cXs Xs := by subst hac; dsimp only; rw [List.take_of_length_le (by rw [hkk, hX.1]; omega)]
  have s2 : sz k = nXs Xs := by subst hsz; dsimp only; rw [List.take_of_length_le (by rw [hkk, hX.1]; omega)]
  have hal : ∀ i, (ac i).length = sz i * 9 ∧ sz i ≤ 50000 := fun i => by
    subst hsz hac
    exact ⟨hX.len i, Nat.le_trans (nXs_le _ _) hn⟩
  rw [← a2, ← s2]
  have s3 : sz k ≤ 100000 := by have := (hal k).2; omega
  clear hsz hac hX hn a2 s2 hkk
  refine V_enter Try.func83 rfl Try.ntmps83 (Nat.le_of_ble_eq_true rfl) hB ?_
  refine V_seen 0 (SlB avs 93 k) rfl SlB.mono hv ?_
  refine V_seq ?_; refine V_region (id := 0) ?_; refine vo_step (ok_assign rfl rfl rfl) rfl ?_; refine vo_nil ?_; refine N_seq ?_; refine V_seq ?_; refine V_region (id := 1) ?_; refine vo_step (ok_assign rfl rfl rfl) rfl ?_; refine vo_nil ?_; refine N_seq ?_; refine V_seq ?_; refine V_seq ?_; refine V_region (id := 2) ?_; refine vo_step (ok_moves' rfl rfl rfl) rfl ?_; refine vo_step (ok_lenSl L rfl rfl rfl rfl) rfl ?_; refine vo_step (ok_move rfl rfl rfl) rfl ?_; refine vo_nil ?_; refine N_seq ?_; refine V_block ?_
  refine V_loop (fun i : Nat => [(0, .sat (SlB avs 93 k)), (3, .is (.int .i64 (sz i))), (9, .sat (SlB avs 93 k)), (10, .is (.int .i64 k)), (11, .is (.int .i64 i))]) (fun i => i ≤ k) (fun i => k - i) 0 (Nat.zero_le _) ⟨rfl, by rw [h0]; rfl, rfl, rfl, rfl, trivial⟩ ?_
  rintro i hi
  by_cases hlt : i < k
  · obtain ⟨x, p, c, f, l, m, hx, hxe, hk, hs, _, hb5, _, _⟩ := step i hlt
    subst hxe
    have had : IntKind.i64.wrap ((sz i : Int) + (m : Int)) = (sz (i + 1) : Int) := wrap_i64 (by omega) (by omega) |>.trans (by omega)
    refine V_seq ?_; refine V_region (id := 3) ?_; refine vo_step (ok_lss rfl rfl rfl rfl (decide_eq_true (by omega))) rfl ?_; refine vo_nil ?_; refine N_seq ?_; refine V_seq ?_; refine V_true rfl ?_; refine V_skip ?_; refine N_seq ?_; refine V_seq ?_; refine V_block ?_; refine V_seq ?_; refine V_region (id := 4) ?_; refine vo_step (ok_indexSl L _ rfl rfl rfl rfl rfl rfl rfl (by omega)) rfl ?_; refine vo_step (ok_load1c L (src_at rfl) rfl rfl rfl (by assumption)) rfl ?_; refine vo_step (ok_assign rfl rfl rfl) rfl ?_; refine vo_nil ?_; refine N_seq ?_; refine V_seq ?_; refine V_region (id := 5) ?_; refine vo_step (ok_move rfl rfl rfl) rfl ?_; refine vo_step (ok_move rfl rfl rfl) rfl ?_; refine vo_step (ok_lenL L rfl rfl rfl rfl) rfl ?_; refine vo_step (ok_add rfl rfl rfl rfl (by assumption)) rfl ?_; refine vo_step (ok_assign rfl rfl rfl) rfl ?_; refine vo_nil ?_; refine N_seq ?_; refine V_seq ?_; refine V_region (id := 6) ?_; refine vo_step (ok_move rfl rfl rfl) rfl ?_; refine vo_step (ok_lss rfl rfl rfl rfl (decide_eq_false (by omega))) rfl ?_; refine vo_nil ?_; refine N_seq ?_; refine V_false rfl ?_; refine V_skip ?_; refine N_block ?_; refine N_seq ?_; refine V_region (id := 8) ?_; refine vo_step (ok_add rfl rfl rfl rfl (wrap_i64 (by omega) (by omega))) rfl ?_; refine vo_step (ok_move rfl rfl rfl) rfl ?_; refine vo_nil ?_
    exact N_round (x := i) (i + 1) hlt (by omega) ⟨rfl, rfl, rfl, rfl, rfl, trivial⟩
  · obtain rfl : i = k := by omega
    refine V_seq ?_; refine V_region (id := 3) ?_; refine vo_step (ok_lss rfl rfl rfl rfl (decide_eq_false (by omega))) rfl ?_; refine vo_nil ?_; refine N_seq ?_; refine V_seq ?_; refine V_false rfl ?_; refine V_exit ?_; refine X_then ?_; refine X_then ?_; refine X_here ?_; refine N_seq ?_; refine V_seq ?_; refine V_region (id := 9) ?_; refine vo_step (ok_move rfl rfl rfl) rfl ?_; refine vo_step (ok_callO L rfl rfl (blt_lt rfl) rfl rfl rfl (fun u H hH _ _ => growR_ret s3 hH)) rfl ?_; refine vo_step2 (ok_moveO (.inr rfl) rfl rfl rfl rfl) ?_; refine vo_nil ?_; refine N_seq ?_; refine V_seq ?_; refine V_seq ?_; refine V_region (id := 10) ?_; refine vo_step (ok_moves' rfl rfl rfl) rfl ?_; refine vo_step (ok_lenSl L rfl rfl rfl rfl) rfl ?_; refine vo_step (ok_move rfl rfl rfl) rfl ?_; refine vo_nil ?_; refine N_seq ?_; refine V_block ?_
    refine V_loop (fun j : Nat => [(6, .own (SlR tyR 9 (sz j) (ac j))), (25, .sat (SlB avs 93 i)), (26, .is (.int .i64 i)), (27, .is (.int .i64 j))]) (fun j => j ≤ i) (fun j => i - j) 0 (Nat.zero_le _) ⟨by rw [a0, h0]; rfl, rfl, rfl, rfl, trivial⟩ ?_
    rintro j hj
    obtain ⟨hlj, hlj2⟩ := hal j
    by_cases hjl : j < i
    · obtain ⟨x, p, c, f, l, m, hx, _, hk, hs', ha', hb5, hpl, hlen⟩ := step j hjl
      refine V_seq ?_; refine V_region (id := 11) ?_; refine vo_step (ok_lss rfl rfl rfl rfl (decide_eq_true (by omega))) rfl ?_; refine vo_nil ?_; refine N_seq ?_; refine V_seq ?_; refine V_true rfl ?_; refine V_skip ?_; refine N_seq ?_; refine V_seq ?_; refine V_block ?_; refine V_seq ?_; refine V_region (id := 12) ?_; refine vo_step (ok_indexSl L _ rfl rfl rfl rfl rfl rfl rfl (by omega)) rfl ?_; refine vo_step (ok_load1c L (src_at rfl) rfl rfl rfl (by assumption)) rfl ?_; refine vo_step (ok_assign rfl rfl rfl) rfl ?_; refine vo_nil ?_; refine N_seq ?_
      refine V_seen 8 (SlV tyR 9 l m f) rfl SlV.mono hk ?_
      refine V_region (id := 13) ?_; refine vo_step2 (ok_moveO (.inl rfl) rfl rfl rfl rfl) ?_; refine vo_step (ok_moves' rfl rfl rfl) rfl ?_; refine vo_step2 (ok_append L rfl rfl rfl (apd_V rfl) rfl el98 (by assumption) (by assumption) (by omega) (by omega)) ?_; refine vo_step2 (ok_moveO (.inr rfl) rfl rfl rfl rfl) ?_; refine vo_nil ?_; refine N_block ?_; refine N_seq ?_; refine V_region (id := 14) ?_; refine vo_step (ok_add rfl rfl rfl rfl (wrap_i64 (by omega) (by omega))) rfl ?_; refine vo_step (ok_move rfl rfl rfl) rfl ?_; refine vo_nil ?_
      exact N_round (x := j) (j + 1) hjl (by omega) ⟨by rw [ha', hs']; rfl, rfl, rfl, rfl, trivial⟩
    · obtain rfl : j = i := by omega
      refine V_pubR 6 rfl ?_
      refine V_seq ?_; refine V_region (id := 11) ?_; refine vo_step (ok_lss rfl rfl rfl rfl (decide_eq_false (by omega))) rfl ?_; refine vo_nil ?_; refine N_seq ?_; refine V_seq ?_; refine V_false rfl ?_; refine V_exit ?_; refine X_then ?_; refine X_then ?_; refine X_here ?_; refine N_seq ?_; refine V_seq ?_; refine V_region (id := 15) ?_; refine vo_step (ok_moves' rfl rfl rfl) rfl ?_; refine vo_step (ok_assigns' rfl rfl rfl) rfl ?_; refine vo_nil ?_; refine N_seq ?_
      refine V_ret L (rs := [.tmp 2]) rfl (fun _ _ h => h) Since.refl fun u H hH hle => ?_
      exact fun v hv => hv
theorem ownR_ret {avs : List Value} {Xs : List (List Value × Nat)} {B : Heap} (hX : Lsts tyR 9 B avs Xs) (hk : avs.length ≤ 1000) (hn : nXs Xs ≤ 50000) {v : Value} {w : World} (hB : B.Le (hp w)) (hv : SlB avs 93 avs.length v B) :
    RetO Try.prog 63 [v] w B (SlE tyR 9 (nXs Xs) (cXs Xs)) := by
  have hpl := hX.plain
  have hlen : (cXs Xs).length = nXs Xs * 9 := by have := hX.len Xs.length; rwa [List.take_length] at this
  have hc : ∀ {u : World} {H : Heap}, H.Le (hp u) → B.Le H → Ret Try.prog 83 [v] u H (SlV tyR 9 (cXs Xs) (nXs Xs) false) := fun hH hle => concatR_ret (hX.le hle) hk hn hH (SlB.mono _ _ _ hv hle)
  generalize cXs Xs = cs at *
  generalize nXs Xs = m at *
  clear hX
  refine V_enterO Try.func63 rfl Try.ntmps63 (Nat.le_of_ble_eq_true rfl) hB ?_
  by_cases h0 : m = 0
  · subst h0
    obtain rfl : cs = [] := List.eq_nil_of_length_eq_zero (by omega)
    refine V_seq ?_; refine V_region (id := 0) ?_; refine vo_step (ok_assign rfl rfl rfl) rfl ?_; refine vo_nil ?_; refine N_seq ?_; refine V_seq ?_; refine V_region (id := 1) ?_; refine vo_step (ok_move rfl rfl rfl) rfl ?_; refine vo_step (ok_call L rfl rfl (blt_lt rfl) rfl rfl rfl SlV.mono (fun u H hH hle _ => hc hH hle)) rfl ?_; refine vo_step (ok_assigns' rfl rfl rfl) rfl ?_; refine vo_nil ?_; refine N_seq ?_; refine V_seq ?_; refine V_seq ?_; refine V_region (id := 2) ?_; refine vo_step (ok_moves' rfl rfl rfl) rfl ?_; refine vo_step (ok_lenV L rfl rfl rfl rfl) rfl ?_; refine vo_step (ok_eql rfl rfl rfl rfl (decide_eq_true (by omega))) rfl ?_; refine vo_nil ?_; refine N_seq ?_; refine V_true rfl ?_; refine V_seq ?_; refine V_region (id := 3) ?_; refine vo_step (ok_assign rfl rfl rfl) rfl ?_; refine vo_nil ?_; refine N_seq ?_
    refine V_nilE 2 tyR 9 rfl ?_
    exact V_retO rfl (fun _ _ h => h) Since.refl rfl
  · refine V_seq ?_; refine V_region (id := 0) ?_; refine vo_step (ok_assign rfl rfl rfl) rfl ?_; refine vo_nil ?_; refine N_seq ?_; refine V_seq ?_; refine V_region (id := 1) ?_; refine vo_step (ok_move rfl rfl rfl) rfl ?_; refine vo_step (ok_call L rfl rfl (blt_lt rfl) rfl rfl rfl SlV.mono (fun u H hH hle _ => hc hH hle)) rfl ?_; refine vo_step (ok_assigns' rfl rfl rfl) rfl ?_; refine vo_nil ?_; refine N_seq ?_; refine V_seq ?_; refine V_seq ?_; refine V_region (id := 2) ?_; refine vo_step (ok_moves' rfl rfl rfl) rfl ?_; refine vo_step (ok_lenV L rfl rfl rfl rfl) rfl ?_; refine vo_step (ok_eql rfl rfl rfl rfl (decide_eq_false (by omega))) rfl ?_; refine vo_nil ?_; refine N_seq ?_; refine V_false rfl ?_; refine V_skip ?_; refine N_seq ?_; refine V_seq ?_; refine V_region (id := 4) ?_; refine vo_step (ok_moves' rfl rfl rfl) rfl ?_; refine vo_step (ok_lenV L rfl rfl rfl rfl) rfl ?_; refine vo_step (ok_makeN L m rfl rfl rfl el98 rfl rfl rfl rfl (by omega) (by unfold maxLen; omega)) rfl ?_; refine vo_step2 (ok_moveO (.inr rfl) rfl rfl rfl rfl) ?_; refine vo_nil ?_; refine N_seq ?_; refine V_seq ?_
    refine V_holdE 4 901 (by omega) rfl fun b hzl => ?_
    refine V_region (id := 5) ?_; refine vo_step (ok_move rfl rfl rfl) rfl ?_; refine vo_step (ok_moves' rfl rfl rfl) rfl ?_; refine vo_step2 (ok_copyH L (q := 901) (by omega) rfl rfl rfl rfl (apd_V rfl) rfl el98 hzl hlen hpl) ?_; refine vo_nil ?_; refine N_seq ?_; refine V_seq ?_; refine V_region (id := 6) ?_; refine vo_step (ok_move rfl rfl rfl) rfl ?_; refine vo_step (ok_assign rfl rfl rfl) rfl ?_; refine vo_nil ?_; refine N_seq ?_
    refine V_relE 2 901 rfl rfl hlen (by unfold maxLen; omega) ?_
    exact V_retO rfl (fun _ _ h => h) Since.refl rfl
end Go.V.L39
/- The walks of flights (chapter 39): tables are compared; replies. (Printed by mkflmc.py.) -/
namespace Go.V.L39
open Go.Proofs Go.RowKit Go.V
theorem list_eq_of {α : Type} {l m : List α} (hl : l.length = m.length) (h : ∀ (i : Nat) a b, l[i]? = some a → m[i]? = some b → a = b) : l = m := by
  refine List.ext_getElem? fun i => ?_
  cases ha : l[i]? with
  | none =>
    have : m.length ≤ i := by rw [← hl]; exact List.getElem?_eq_none_iff.1 ha
    rw [List.getElem?_eq_none this]
  | some a =>
    have hi := get_lt ha
    have hb : m[i]? = some m[i] := List.getElem?_eq_getElem (by omega)
    rw [hb, h i a _ ha hb]
attribute [local irreducible] V N X VO Par StepOK Has Ret RetL RetO RetT RetG Src
theorem eqIs_ret {l m : List It} (hlm : l.length ≤ 4611686018427387904) (hmm : m.length ≤ 4611686018427387904) {fl fm : Bool} {a b : Value} {r : Bool} (hr : decide (l = m) = r) {w : World} {B : Heap} (ha : IsV l fl a B) (hb : IsV m fm b B) (hB : B.Le (hp w)) :
    Ret Try.prog 67 [a, b] w B (fun v _ => v = .bool r) := by
  refine V_enter Try.func67 rfl Try.ntmps67 (Nat.le_of_ble_eq_true rfl) hB ?_
  refine V_seen 0 (IsV l fl) rfl SlV.mono ha ?_
  refine V_seen 1 (IsV m fm) rfl SlV.mono hb ?_
  by_cases hl : l.length = m.length
  · refine V_seq ?_; refine V_region (id := 0) ?_; refine vo_step (ok_assign rfl rfl rfl) rfl ?_; refine vo_nil ?_; refine N_seq ?_; refine V_seq ?_; refine V_seq ?_; refine V_region (id := 1) ?_; refine vo_step (ok_moves' rfl rfl rfl) rfl ?_; refine vo_step (ok_lenV L rfl rfl rfl rfl) rfl ?_; refine vo_step (ok_moves' rfl rfl rfl) rfl ?_; refine vo_step (ok_lenV L rfl rfl rfl rfl) rfl ?_; refine vo_step (ok_neq rfl rfl rfl rfl (decide_eq_false (by omega))) rfl ?_; refine vo_nil ?_; refine N_seq ?_; refine V_false rfl ?_; refine V_skip ?_; refine N_seq ?_; refine V_seq ?_; refine V_seq ?_; refine V_region (id := 3) ?_; refine vo_step (ok_moves' rfl rfl rfl) rfl ?_; refine vo_step (ok_lenV L rfl rfl rfl rfl) rfl ?_; refine vo_step (ok_move rfl rfl rfl) rfl ?_; refine vo_nil ?_; refine N_seq ?_; refine V_block ?_
    refine V_loop (fun i : Nat => [(0, .sat (IsV l fl)), (1, .sat (IsV m fm)), (12, .is (.int .i64 l.length)), (13, .is (.int .i64 i))]) (fun i => i ≤ l.length ∧ ∀ (j : Nat) x y, j < i → l[j]? = some x → m[j]? = some y → x = y) (fun i => l.length - i) 0 ⟨Nat.zero_le _, fun j x y h => absurd h (Nat.not_lt_zero _)⟩ ⟨rfl, rfl, rfl, rfl, trivial⟩ ?_
    rintro i ⟨hi, hs⟩
    by_cases hlt : i < l.length
    · obtain ⟨x, hx⟩ := get_some hlt
      obtain ⟨y, hy⟩ := get_some (show i < m.length by omega)
      have hc1 := it_at hx
      have hc2 := it_at hy
      by_cases hxy : x = y
      · have hq := eqIv (decide_eq_true hxy)
        refine V_seq ?_; refine V_region (id := 4) ?_; refine vo_step (ok_lss rfl rfl rfl rfl (decide_eq_true (by omega))) rfl ?_; refine vo_nil ?_; refine N_seq ?_; refine V_seq ?_; refine V_true rfl ?_; refine V_skip ?_; refine N_seq ?_; refine V_seq ?_; refine V_block ?_; refine V_seq ?_; refine V_region (id := 5) ?_; refine vo_step (ok_move rfl rfl rfl) rfl ?_; refine vo_step (ok_assign rfl rfl rfl) rfl ?_; refine vo_nil ?_; refine N_seq ?_; refine V_seq ?_; refine V_regionD (id := 6) [] mixed (by kernel_rfl) ?_; refine par_step (ok_moves' rfl rfl rfl) rfl ?_; refine par_step (ok_move rfl rfl rfl) rfl ?_; refine par_step (ok_indexV L _ rfl rfl rfl rfl rfl rfl rfl (by first | omega | decide) (by assumption)) rfl ?_; refine par_step (ok_loadPA L (vs := [_, _, _, _, _]) rfl rfl rfl rfl rfl ⟨_, rfl⟩) rfl ?_; refine par_step (ok_moves' rfl rfl rfl) rfl ?_; refine par_step (ok_move rfl rfl rfl) rfl ?_; refine par_step (ok_indexV L _ rfl rfl rfl rfl rfl rfl rfl (by first | omega | decide) (by assumption)) rfl ?_; refine par_step (ok_loadPA L (vs := [_, _, _, _, _]) rfl rfl rfl rfl rfl ⟨_, rfl⟩) rfl ?_; refine par_step (ok_aneq rfl rfl rfl rfl eq33 (by assumption) rfl) rfl ?_; refine par_nil ?_; refine N_seq ?_; refine V_false rfl ?_; refine V_skip ?_; refine N_block ?_; refine N_seq ?_; refine V_region (id := 8) ?_; refine vo_step (ok_add rfl rfl rfl rfl (wrap_i64 (by omega) (by omega))) rfl ?_; refine vo_step (ok_move rfl rfl rfl) rfl ?_; refine vo_nil ?_
        exact N_round (x := i) (i + 1) ⟨hlt, fun j x' y' hj h1 h2 => by
          rcases Nat.lt_or_ge j i with h | h
          · exact hs j x' y' h h1 h2
          · have : j = i := by omega
            subst this; rw [hx] at h1; rw [hy] at h2; cases h1; cases h2; exact hxy⟩ (by omega) ⟨rfl, rfl, rfl, rfl, trivial⟩
      · have hq := eqIv (decide_eq_false hxy)
        obtain rfl : r = false := by rw [← hr]; exact decide_eq_false fun e => hxy (by subst e; rw [hx] at hy; exact Option.some.inj hy)
        refine V_seq ?_; refine V_region (id := 4) ?_; refine vo_step (ok_lss rfl rfl rfl rfl (decide_eq_true (by omega))) rfl ?_; refine vo_nil ?_; refine N_seq ?_; refine V_seq ?_; refine V_true rfl ?_; refine V_skip ?_; refine N_seq ?_; refine V_seq ?_; refine V_block ?_; refine V_seq ?_; refine V_region (id := 5) ?_; refine vo_step (ok_move rfl rfl rfl) rfl ?_; refine vo_step (ok_assign rfl rfl rfl) rfl ?_; refine vo_nil ?_; refine N_seq ?_; refine V_seq ?_; refine V_regionD (id := 6) [] mixed (by kernel_rfl) ?_; refine par_step (ok_moves' rfl rfl rfl) rfl ?_; refine par_step (ok_move rfl rfl rfl) rfl ?_; refine par_step (ok_indexV L _ rfl rfl rfl rfl rfl rfl rfl (by first | omega | decide) (by assumption)) rfl ?_; refine par_step (ok_loadPA L (vs := [_, _, _, _, _]) rfl rfl rfl rfl rfl ⟨_, rfl⟩) rfl ?_; refine par_step (ok_moves' rfl rfl rfl) rfl ?_; refine par_step (ok_move rfl rfl rfl) rfl ?_; refine par_step (ok_indexV L _ rfl rfl rfl rfl rfl rfl rfl (by first | omega | decide) (by assumption)) rfl ?_; refine par_step (ok_loadPA L (vs := [_, _, _, _, _]) rfl rfl rfl rfl rfl ⟨_, rfl⟩) rfl ?_; refine par_step (ok_aneq rfl rfl rfl rfl eq33 (by assumption) rfl) rfl ?_; refine par_nil ?_; refine N_seq ?_; refine V_true rfl ?_; refine V_seq ?_; refine V_region (id := 7) ?_; refine vo_step (ok_assign rfl rfl rfl) rfl ?_; refine vo_nil ?_; refine N_seq ?_
        refine V_ret L (rs := [.tmp 4]) rfl (fun _ _ h => h) Since.refl fun u H hH hle => ?_
        rfl
    · obtain rfl : r = true := by rw [← hr]; exact decide_eq_true (list_eq_of hl fun j x y h1 h2 => hs j x y (by have := get_lt h1; omega) h1 h2)
      refine V_seq ?_; refine V_region (id := 4) ?_; refine vo_step (ok_lss rfl rfl rfl rfl (decide_eq_false (by omega))) rfl ?_; refine vo_nil ?_; refine N_seq ?_; refine V_seq ?_; refine V_false rfl ?_; refine V_exit ?_; refine X_then ?_; refine X_then ?_; refine X_here ?_; refine N_seq ?_; refine V_seq ?_; refine V_region (id := 9) ?_; refine vo_step (ok_assign rfl rfl rfl) rfl ?_; refine vo_nil ?_; refine N_seq ?_
      refine V_ret L (rs := [.tmp 4]) rfl (fun _ _ h => h) Since.refl fun u H hH hle => ?_
      rfl
  · obtain rfl : r = false := by rw [← hr]; exact decide_eq_false fun e => hl (by rw [e])
    refine V_seq ?_; refine V_region (id := 0) ?_; refine vo_step (ok_assign rfl rfl rfl) rfl ?_; refine vo_nil ?_; refine N_seq ?_; refine V_seq ?_; refine V_seq ?_; refine V_region (id := 1) ?_; refine vo_step (ok_moves' rfl rfl rfl) rfl ?_; refine vo_step (ok_lenV L rfl rfl rfl rfl) rfl ?_; refine vo_step (ok_moves' rfl rfl rfl) rfl ?_; refine vo_step (ok_lenV L rfl rfl rfl rfl) rfl ?_; refine vo_step (ok_neq rfl rfl rfl rfl (decide_eq_true (by omega))) rfl ?_; refine vo_nil ?_; refine N_seq ?_; refine V_true rfl ?_; refine V_seq ?_; refine V_region (id := 2) ?_; refine vo_step (ok_assign rfl rfl rfl) rfl ?_; refine vo_nil ?_; refine N_seq ?_
    refine V_ret L (rs := [.tmp 4]) rfl (fun _ _ h => h) Since.refl fun u H hH hle => ?_
    rfl
theorem s1_ret {f g : Fl} (hlf : f.is.length ≤ 4611686018427387904) (hlg : g.is.length ≤ 4611686018427387904) {p1 p2 : Option Addr} {c1 c2 : Nat} {ff fg : Bool} {r : Bool} (hr : decide (f = g) = r) {w : World} {B : Heap} (hf : IsV f.is ff (.slice p1 f.is.length c1) B) (hg : IsV g.is fg (.slice p2 g.is.length c2) B) (hB : B.Le (hp w)) :
    Ret Try.prog 66 [flv f (.slice p1 f.is.length c1), flv g (.slice p2 g.is.length c2)] w B (fun v _ => v = .bool r) := by
  have hfg := Fl.eq_iff (a := f) (b := g)
  refine V_enter Try.func66 rfl Try.ntmps66 (Nat.le_of_ble_eq_true rfl) hB ?_
  by_cases e1 : f.id = g.id
  · by_cases e2 : f.rv = g.rv
    · by_cases e3 : f.q = g.q
      · by_cases e4 : f.cl = g.cl
        · by_cases e5 : f.cs = g.cs
          · by_cases e6 : f.si = g.si
            · by_cases e7 : f.ve = g.ve
              · by_cases e8 : f.sp = g.sp
                · have hq := eqQv (decide_eq_true e3)
                  by_cases e9 : f.is = g.is
                  · obtain rfl : r = true := by rw [← hr]; exact decide_eq_true (hfg.1 ⟨e1, e2, e3, e4, e5, e6, e7, e8, e9⟩)
                    refine V_seq ?_; refine V_region (id := 0) ?_; refine vo_step (ok_box rfl rfl rfl rfl) rfl ?_; refine vo_step (ok_box rfl rfl rfl rfl) rfl ?_; refine vo_step (ok_assign rfl rfl rfl) rfl ?_; refine vo_nil ?_; refine N_seq ?_; refine V_seq ?_; refine V_region (id := 1) ?_; refine vo_step (ok_fieldAt L rfl rfl rfl rfl) rfl ?_; refine vo_step (ok_load1 L (src_at rfl) rfl rfl rfl rfl) rfl ?_; refine vo_step (ok_fieldAt L rfl rfl rfl rfl) rfl ?_; refine vo_step (ok_load1 L (src_at rfl) rfl rfl rfl rfl) rfl ?_; refine vo_step (ok_eql rfl rfl rfl rfl (decide_eq_true (by omega))) rfl ?_; refine vo_step (ok_move rfl rfl rfl) rfl ?_; refine vo_step (ok_fieldAt L rfl rfl rfl rfl) rfl ?_; refine vo_step (ok_load1 L (src_at rfl) rfl rfl rfl rfl) rfl ?_; refine vo_step (ok_fieldAt L rfl rfl rfl rfl) rfl ?_; refine vo_step (ok_load1 L (src_at rfl) rfl rfl rfl rfl) rfl ?_; refine vo_step (ok_eql rfl rfl rfl rfl (decide_eq_true (by omega))) rfl ?_; refine vo_step (ok_pick rfl rfl rfl rfl) rfl ?_; refine vo_step (ok_move rfl rfl rfl) rfl ?_; refine vo_step (ok_fieldAt L rfl rfl rfl rfl) rfl ?_; refine vo_step (ok_loadA L (vs := [_, _, _, _, _, _]) (src_at rfl) rfl rfl rfl rfl ⟨_, rfl⟩) rfl ?_; refine vo_step (ok_fieldAt L rfl rfl rfl rfl) rfl ?_; refine vo_step (ok_loadA L (vs := [_, _, _, _, _, _]) (src_at rfl) rfl rfl rfl rfl ⟨_, rfl⟩) rfl ?_; refine vo_step (ok_aeql rfl rfl rfl rfl eq30 (by assumption) rfl) rfl ?_; refine vo_step (ok_pick rfl rfl rfl rfl) rfl ?_; refine vo_step (ok_move rfl rfl rfl) rfl ?_; refine vo_step (ok_fieldAt L rfl rfl rfl rfl) rfl ?_; refine vo_step (ok_load1 L (src_at rfl) rfl rfl rfl rfl) rfl ?_; refine vo_step (ok_fieldAt L rfl rfl rfl rfl) rfl ?_; refine vo_step (ok_load1 L (src_at rfl) rfl rfl rfl rfl) rfl ?_; refine vo_step (ok_eql rfl rfl rfl rfl (decide_eq_true (by omega))) rfl ?_; refine vo_step (ok_pick rfl rfl rfl rfl) rfl ?_; refine vo_step (ok_move rfl rfl rfl) rfl ?_; refine vo_step (ok_fieldAt L rfl rfl rfl rfl) rfl ?_; refine vo_step (ok_load1 L (src_at rfl) rfl rfl rfl rfl) rfl ?_; refine vo_step (ok_fieldAt L rfl rfl rfl rfl) rfl ?_; refine vo_step (ok_load1 L (src_at rfl) rfl rfl rfl rfl) rfl ?_; refine vo_step (ok_eql rfl rfl rfl rfl (decide_eq_true (by omega))) rfl ?_; refine vo_step (ok_pick rfl rfl rfl rfl) rfl ?_; refine vo_step (ok_move rfl rfl rfl) rfl ?_; refine vo_step (ok_fieldAt L rfl rfl rfl rfl) rfl ?_; refine vo_step (ok_load1 L (src_at rfl) rfl rfl rfl rfl) rfl ?_; refine vo_step (ok_fieldAt L rfl rfl rfl rfl) rfl ?_; refine vo_step (ok_load1 L (src_at rfl) rfl rfl rfl rfl) rfl ?_; refine vo_step (ok_eql rfl rfl rfl rfl (decide_eq_true (by omega))) rfl ?_; refine vo_step (ok_pick rfl rfl rfl rfl) rfl ?_; refine vo_step (ok_move rfl rfl rfl) rfl ?_; refine vo_step (ok_fieldAt L rfl rfl rfl rfl) rfl ?_; refine vo_step (ok_load1 L (src_at rfl) rfl rfl rfl rfl) rfl ?_; refine vo_step (ok_fieldAt L rfl rfl rfl rfl) rfl ?_; refine vo_step (ok_load1 L (src_at rfl) rfl rfl rfl rfl) rfl ?_; refine vo_step (ok_eql rfl rfl rfl rfl (decide_eq_true (by omega))) rfl ?_; refine vo_step (ok_pick rfl rfl rfl rfl) rfl ?_; refine vo_step (ok_move rfl rfl rfl) rfl ?_; refine vo_step (ok_fieldAt L rfl rfl rfl rfl) rfl ?_; refine vo_step (ok_load1 L (src_at rfl) rfl rfl rfl rfl) rfl ?_; refine vo_step (ok_fieldAt L rfl rfl rfl rfl) rfl ?_; refine vo_step (ok_load1 L (src_at rfl) rfl rfl rfl rfl) rfl ?_; refine vo_step (ok_eql rfl rfl rfl rfl (decide_eq_true (by omega))) rfl ?_; refine vo_step (ok_pick rfl rfl rfl rfl) rfl ?_; refine vo_step (ok_move rfl rfl rfl) rfl ?_; refine vo_step (ok_fieldAt L rfl rfl rfl rfl) rfl ?_; refine vo_step (ok_load1 L (src_at rfl) rfl rfl rfl rfl) rfl ?_; refine vo_step (ok_fieldAt L rfl rfl rfl rfl) rfl ?_; refine vo_step (ok_load1 L (src_at rfl) rfl rfl rfl rfl) rfl ?_; refine vo_step (ok_callx L rfl rfl (blt_lt rfl) rfl rfl rfl (fun u H hH hle _ => eqIs_ret hlf hlg (by first | exact decide_eq_true e9 | exact decide_eq_false e9) (hf.le hle) (hg.le hle) hH)) rfl ?_; refine vo_step (ok_pick rfl rfl rfl rfl) rfl ?_; refine vo_step (ok_assign rfl rfl rfl) rfl ?_; refine vo_nil ?_; refine N_seq ?_
                    refine V_ret L (rs := [.tmp 4]) rfl (fun _ _ h => h) Since.refl fun u H hH hle => ?_
                    rfl
                  · obtain rfl : r = false := by rw [← hr]; exact decide_eq_false fun e => e9 (by rw [e])
                    refine V_seq ?_; refine V_region (id := 0) ?_; refine vo_step (ok_box rfl rfl rfl rfl) rfl ?_; refine vo_step (ok_box rfl rfl rfl rfl) rfl ?_; refine vo_step (ok_assign rfl rfl rfl) rfl ?_; refine vo_nil ?_; refine N_seq ?_; refine V_seq ?_; refine V_region (id := 1) ?_; refine vo_step (ok_fieldAt L rfl rfl rfl rfl) rfl ?_; refine vo_step (ok_load1 L (src_at rfl) rfl rfl rfl rfl) rfl ?_; refine vo_step (ok_fieldAt L rfl rfl rfl rfl) rfl ?_; refine vo_step (ok_load1 L (src_at rfl) rfl rfl rfl rfl) rfl ?_; refine vo_step (ok_eql rfl rfl rfl rfl (decide_eq_true (by omega))) rfl ?_; refine vo_step (ok_move rfl rfl rfl) rfl ?_; refine vo_step (ok_fieldAt L rfl rfl rfl rfl) rfl ?_; refine vo_step (ok_load1 L (src_at rfl) rfl rfl rfl rfl) rfl ?_; refine vo_step (ok_fieldAt L rfl rfl rfl rfl) rfl ?_; refine vo_step (ok_load1 L (src_at rfl) rfl rfl rfl rfl) rfl ?_; refine vo_step (ok_eql rfl rfl rfl rfl (decide_eq_true (by omega))) rfl ?_; refine vo_step (ok_pick rfl rfl rfl rfl) rfl ?_; refine vo_step (ok_move rfl rfl rfl) rfl ?_; refine vo_step (ok_fieldAt L rfl rfl rfl rfl) rfl ?_; refine vo_step (ok_loadA L (vs := [_, _, _, _, _, _]) (src_at rfl) rfl rfl rfl rfl ⟨_, rfl⟩) rfl ?_; refine vo_step (ok_fieldAt L rfl rfl rfl rfl) rfl ?_; refine vo_step (ok_loadA L (vs := [_, _, _, _, _, _]) (src_at rfl) rfl rfl rfl rfl ⟨_, rfl⟩) rfl ?_; refine vo_step (ok_aeql rfl rfl rfl rfl eq30 (by assumption) rfl) rfl ?_; refine vo_step (ok_pick rfl rfl rfl rfl) rfl ?_; refine vo_step (ok_move rfl rfl rfl) rfl ?_; refine vo_step (ok_fieldAt L rfl rfl rfl rfl) rfl ?_; refine vo_step (ok_load1 L (src_at rfl) rfl rfl rfl rfl) rfl ?_; refine vo_step (ok_fieldAt L rfl rfl rfl rfl) rfl ?_; refine vo_step (ok_load1 L (src_at rfl) rfl rfl rfl rfl) rfl ?_; refine vo_step (ok_eql rfl rfl rfl rfl (decide_eq_true (by omega))) rfl ?_; refine vo_step (ok_pick rfl rfl rfl rfl) rfl ?_; refine vo_step (ok_move rfl rfl rfl) rfl ?_; refine vo_step (ok_fieldAt L rfl rfl rfl rfl) rfl ?_; refine vo_step (ok_load1 L (src_at rfl) rfl rfl rfl rfl) rfl ?_; refine vo_step (ok_fieldAt L rfl rfl rfl rfl) rfl ?_; refine vo_step (ok_load1 L (src_at rfl) rfl rfl rfl rfl) rfl ?_; refine vo_step (ok_eql rfl rfl rfl rfl (decide_eq_true (by omega))) rfl ?_; refine vo_step (ok_pick rfl rfl rfl rfl) rfl ?_; refine vo_step (ok_move rfl rfl rfl) rfl ?_; refine vo_step (ok_fieldAt L rfl rfl rfl rfl) rfl ?_; refine vo_step (ok_load1 L (src_at rfl) rfl rfl rfl rfl) rfl ?_; refine vo_step (ok_fieldAt L rfl rfl rfl rfl) rfl ?_; refine vo_step (ok_load1 L (src_at rfl) rfl rfl rfl rfl) rfl ?_; refine vo_step (ok_eql rfl rfl rfl rfl (decide_eq_true (by omega))) rfl ?_; refine vo_step (ok_pick rfl rfl rfl rfl) rfl ?_; refine vo_step (ok_move rfl rfl rfl) rfl ?_; refine vo_step (ok_fieldAt L rfl rfl rfl rfl) rfl ?_; refine vo_step (ok_load1 L (src_at rfl) rfl rfl rfl rfl) rfl ?_; refine vo_step (ok_fieldAt L rfl rfl rfl rfl) rfl ?_; refine vo_step (ok_load1 L (src_at rfl) rfl rfl rfl rfl) rfl ?_; refine vo_step (ok_eql rfl rfl rfl rfl (decide_eq_true (by omega))) rfl ?_; refine vo_step (ok_pick rfl rfl rfl rfl) rfl ?_; refine vo_step (ok_move rfl rfl rfl) rfl ?_; refine vo_step (ok_fieldAt L rfl rfl rfl rfl) rfl ?_; refine vo_step (ok_load1 L (src_at rfl) rfl rfl rfl rfl) rfl ?_; refine vo_step (ok_fieldAt L rfl rfl rfl rfl) rfl ?_; refine vo_step (ok_load1 L (src_at rfl) rfl rfl rfl rfl) rfl ?_; refine vo_step (ok_eql rfl rfl rfl rfl (decide_eq_true (by omega))) rfl ?_; refine vo_step (ok_pick rfl rfl rfl rfl) rfl ?_; refine vo_step (ok_move rfl rfl rfl) rfl ?_; refine vo_step (ok_fieldAt L rfl rfl rfl rfl) rfl ?_; refine vo_step (ok_load1 L (src_at rfl) rfl rfl rfl rfl) rfl ?_; refine vo_step (ok_fieldAt L rfl rfl rfl rfl) rfl ?_; refine vo_step (ok_load1 L (src_at rfl) rfl rfl rfl rfl) rfl ?_; refine vo_step (ok_callx L rfl rfl (blt_lt rfl) rfl rfl rfl (fun u H hH hle _ => eqIs_ret hlf hlg (by first | exact decide_eq_true e9 | exact decide_eq_false e9) (hf.le hle) (hg.le hle) hH)) rfl ?_; refine vo_step (ok_pick rfl rfl rfl rfl) rfl ?_; refine vo_step (ok_assign rfl rfl rfl) rfl ?_; refine vo_nil ?_; refine N_seq ?_
                    refine V_ret L (rs := [.tmp 4]) rfl (fun _ _ h => h) Since.refl fun u H hH hle => ?_
                    rfl
                · have hq := eqQv (decide_eq_true e3)
                  obtain rfl : r = false := by rw [← hr]; exact decide_eq_false fun e => e8 (by rw [e])
                  refine V_seq ?_; refine V_region (id := 0) ?_; refine vo_step (ok_box rfl rfl rfl rfl) rfl ?_; refine vo_step (ok_box rfl rfl rfl rfl) rfl ?_; refine vo_step (ok_assign rfl rfl rfl) rfl ?_; refine vo_nil ?_; refine N_seq ?_; refine V_seq ?_; refine V_region (id := 1) ?_; refine vo_step (ok_fieldAt L rfl rfl rfl rfl) rfl ?_; refine vo_step (ok_load1 L (src_at rfl) rfl rfl rfl rfl) rfl ?_; refine vo_step (ok_fieldAt L rfl rfl rfl rfl) rfl ?_; refine vo_step (ok_load1 L (src_at rfl) rfl rfl rfl rfl) rfl ?_; refine vo_step (ok_eql rfl rfl rfl rfl (decide_eq_true (by omega))) rfl ?_; refine vo_step (ok_move rfl rfl rfl) rfl ?_; refine vo_step (ok_fieldAt L rfl rfl rfl rfl) rfl ?_; refine vo_step (ok_load1 L (src_at rfl) rfl rfl rfl rfl) rfl ?_; refine vo_step (ok_fieldAt L rfl rfl rfl rfl) rfl ?_; refine vo_step (ok_load1 L (src_at rfl) rfl rfl rfl rfl) rfl ?_; refine vo_step (ok_eql rfl rfl rfl rfl (decide_eq_true (by omega))) rfl ?_; refine vo_step (ok_pick rfl rfl rfl rfl) rfl ?_; refine vo_step (ok_move rfl rfl rfl) rfl ?_; refine vo_step (ok_fieldAt L rfl rfl rfl rfl) rfl ?_; refine vo_step (ok_loadA L (vs := [_, _, _, _, _, _]) (src_at rfl) rfl rfl rfl rfl ⟨_, rfl⟩) rfl ?_; refine vo_step (ok_fieldAt L rfl rfl rfl rfl) rfl ?_; refine vo_step (ok_loadA L (vs := [_, _, _, _, _, _]) (src_at rfl) rfl rfl rfl rfl ⟨_, rfl⟩) rfl ?_; refine vo_step (ok_aeql rfl rfl rfl rfl eq30 (by assumption) rfl) rfl ?_; refine vo_step (ok_pick rfl rfl rfl rfl) rfl ?_; refine vo_step (ok_move rfl rfl rfl) rfl ?_; refine vo_step (ok_fieldAt L rfl rfl rfl rfl) rfl ?_; refine vo_step (ok_load1 L (src_at rfl) rfl rfl rfl rfl) rfl ?_; refine vo_step (ok_fieldAt L rfl rfl rfl rfl) rfl ?_; refine vo_step (ok_load1 L (src_at rfl) rfl rfl rfl rfl) rfl ?_; refine vo_step (ok_eql rfl rfl rfl rfl (decide_eq_true (by omega))) rfl ?_; refine vo_step (ok_pick rfl rfl rfl rfl) rfl ?_; refine vo_step (ok_move rfl rfl rfl) rfl ?_; refine vo_step (ok_fieldAt L rfl rfl rfl rfl) rfl ?_; refine vo_step (ok_load1 L (src_at rfl) rfl rfl rfl rfl) rfl ?_; refine vo_step (ok_fieldAt L rfl rfl rfl rfl) rfl ?_; refine vo_step (ok_load1 L (src_at rfl) rfl rfl rfl rfl) rfl ?_; refine vo_step (ok_eql rfl rfl rfl rfl (decide_eq_true (by omega))) rfl ?_; refine vo_step (ok_pick rfl rfl rfl rfl) rfl ?_; refine vo_step (ok_move rfl rfl rfl) rfl ?_; refine vo_step (ok_fieldAt L rfl rfl rfl rfl) rfl ?_; refine vo_step (ok_load1 L (src_at rfl) rfl rfl rfl rfl) rfl ?_; refine vo_step (ok_fieldAt L rfl rfl rfl rfl) rfl ?_; refine vo_step (ok_load1 L (src_at rfl) rfl rfl rfl rfl) rfl ?_; refine vo_step (ok_eql rfl rfl rfl rfl (decide_eq_true (by omega))) rfl ?_; refine vo_step (ok_pick rfl rfl rfl rfl) rfl ?_; refine vo_step (ok_move rfl rfl rfl) rfl ?_; refine vo_step (ok_fieldAt L rfl rfl rfl rfl) rfl ?_; refine vo_step (ok_load1 L (src_at rfl) rfl rfl rfl rfl) rfl ?_; refine vo_step (ok_fieldAt L rfl rfl rfl rfl) rfl ?_; refine vo_step (ok_load1 L (src_at rfl) rfl rfl rfl rfl) rfl ?_; refine vo_step (ok_eql rfl rfl rfl rfl (decide_eq_true (by omega))) rfl ?_; refine vo_step (ok_pick rfl rfl rfl rfl) rfl ?_; refine vo_step (ok_move rfl rfl rfl) rfl ?_; refine vo_step (ok_fieldAt L rfl rfl rfl rfl) rfl ?_; refine vo_step (ok_load1 L (src_at rfl) rfl rfl rfl rfl) rfl ?_; refine vo_step (ok_fieldAt L rfl rfl rfl rfl) rfl ?_; refine vo_step (ok_load1 L (src_at rfl) rfl rfl rfl rfl) rfl ?_; refine vo_step (ok_eql rfl rfl rfl rfl (decide_eq_false (by omega))) rfl ?_; refine vo_step (ok_pick rfl rfl rfl rfl) rfl ?_; refine vo_step (ok_move rfl rfl rfl) rfl ?_; refine vo_step (ok_skip rfl (blt_lt rfl) rfl) rfl ?_; refine vo_step (ok_skip rfl (blt_lt rfl) rfl) rfl ?_; refine vo_step (ok_skip rfl (blt_lt rfl) rfl) rfl ?_; refine vo_step (ok_skip rfl (blt_lt rfl) rfl) rfl ?_; refine vo_step (ok_skip rfl (blt_lt rfl) rfl) rfl ?_; refine vo_step (ok_pick rfl rfl rfl rfl) rfl ?_; refine vo_step (ok_assign rfl rfl rfl) rfl ?_; refine vo_nil ?_; refine N_seq ?_
                  refine V_ret L (rs := [.tmp 4]) rfl (fun _ _ h => h) Since.refl fun u H hH hle => ?_
                  rfl
              · have hq := eqQv (decide_eq_true e3)
                obtain rfl : r = false := by rw [← hr]; exact decide_eq_false fun e => e7 (by rw [e])
                refine V_seq ?_; refine V_region (id := 0) ?_; refine vo_step (ok_box rfl rfl rfl rfl) rfl ?_; refine vo_step (ok_box rfl rfl rfl rfl) rfl ?_; refine vo_step (ok_assign rfl rfl rfl) rfl ?_; refine vo_nil ?_; refine N_seq ?_; refine V_seq ?_; refine V_region (id := 1) ?_; refine vo_step (ok_fieldAt L rfl rfl rfl rfl) rfl ?_; refine vo_step (ok_load1 L (src_at rfl) rfl rfl rfl rfl) rfl ?_; refine vo_step (ok_fieldAt L rfl rfl rfl rfl) rfl ?_; refine vo_step (ok_load1 L (src_at rfl) rfl rfl rfl rfl) rfl ?_; refine vo_step (ok_eql rfl rfl rfl rfl (decide_eq_true (by omega))) rfl ?_; refine vo_step (ok_move rfl rfl rfl) rfl ?_; refine vo_step (ok_fieldAt L rfl rfl rfl rfl) rfl ?_; refine vo_step (ok_load1 L (src_at rfl) rfl rfl rfl rfl) rfl ?_; refine vo_step (ok_fieldAt L rfl rfl rfl rfl) rfl ?_; refine vo_step (ok_load1 L (src_at rfl) rfl rfl rfl rfl) rfl ?_; refine vo_step (ok_eql rfl rfl rfl rfl (decide_eq_true (by omega))) rfl ?_; refine vo_step (ok_pick rfl rfl rfl rfl) rfl ?_; refine vo_step (ok_move rfl rfl rfl) rfl ?_; refine vo_step (ok_fieldAt L rfl rfl rfl rfl) rfl ?_; refine vo_step (ok_loadA L (vs := [_, _, _, _, _, _]) (src_at rfl) rfl rfl rfl rfl ⟨_, rfl⟩) rfl ?_; refine vo_step (ok_fieldAt L rfl rfl rfl rfl) rfl ?_; refine vo_step (ok_loadA L (vs := [_, _, _, _, _, _]) (src_at rfl) rfl rfl rfl rfl ⟨_, rfl⟩) rfl ?_; refine vo_step (ok_aeql rfl rfl rfl rfl eq30 (by assumption) rfl) rfl ?_; refine vo_step (ok_pick rfl rfl rfl rfl) rfl ?_; refine vo_step (ok_move rfl rfl rfl) rfl ?_; refine vo_step (ok_fieldAt L rfl rfl rfl rfl) rfl ?_; refine vo_step (ok_load1 L (src_at rfl) rfl rfl rfl rfl) rfl ?_; refine vo_step (ok_fieldAt L rfl rfl rfl rfl) rfl ?_; refine vo_step (ok_load1 L (src_at rfl) rfl rfl rfl rfl) rfl ?_; refine vo_step (ok_eql rfl rfl rfl rfl (decide_eq_true (by omega))) rfl ?_; refine vo_step (ok_pick rfl rfl rfl rfl) rfl ?_; refine vo_step (ok_move rfl rfl rfl) rfl ?_; refine vo_step (ok_fieldAt L rfl rfl rfl rfl) rfl ?_; refine vo_step (ok_load1 L (src_at rfl) rfl rfl rfl rfl) rfl ?_; refine vo_step (ok_fieldAt L rfl rfl rfl rfl) rfl ?_; refine vo_step (ok_load1 L (src_at rfl) rfl rfl rfl rfl) rfl ?_; refine vo_step (ok_eql rfl rfl rfl rfl (decide_eq_true (by omega))) rfl ?_; refine vo_step (ok_pick rfl rfl rfl rfl) rfl ?_; refine vo_step (ok_move rfl rfl rfl) rfl ?_; refine vo_step (ok_fieldAt L rfl rfl rfl rfl) rfl ?_; refine vo_step (ok_load1 L (src_at rfl) rfl rfl rfl rfl) rfl ?_; refine vo_step (ok_fieldAt L rfl rfl rfl rfl) rfl ?_; refine vo_step (ok_load1 L (src_at rfl) rfl rfl rfl rfl) rfl ?_; refine vo_step (ok_eql rfl rfl rfl rfl (decide_eq_true (by omega))) rfl ?_; refine vo_step (ok_pick rfl rfl rfl rfl) rfl ?_; refine vo_step (ok_move rfl rfl rfl) rfl ?_; refine vo_step (ok_fieldAt L rfl rfl rfl rfl) rfl ?_; refine vo_step (ok_load1 L (src_at rfl) rfl rfl rfl rfl) rfl ?_; refine vo_step (ok_fieldAt L rfl rfl rfl rfl) rfl ?_; refine vo_step (ok_load1 L (src_at rfl) rfl rfl rfl rfl) rfl ?_; refine vo_step (ok_eql rfl rfl rfl rfl (decide_eq_false (by omega))) rfl ?_; refine vo_step (ok_pick rfl rfl rfl rfl) rfl ?_; refine vo_step (ok_move rfl rfl rfl) rfl ?_; refine vo_step (ok_skip rfl (blt_lt rfl) rfl) rfl ?_; refine vo_step (ok_skip rfl (blt_lt rfl) rfl) rfl ?_; refine vo_step (ok_skip rfl (blt_lt rfl) rfl) rfl ?_; refine vo_step (ok_skip rfl (blt_lt rfl) rfl) rfl ?_; refine vo_step (ok_skip rfl (blt_lt rfl) rfl) rfl ?_; refine vo_step (ok_pick rfl rfl rfl rfl) rfl ?_; refine vo_step (ok_move rfl rfl rfl) rfl ?_; refine vo_step (ok_skip rfl (blt_lt rfl) rfl) rfl ?_; refine vo_step (ok_skip rfl (blt_lt rfl) rfl) rfl ?_; refine vo_step (ok_skip rfl (blt_lt rfl) rfl) rfl ?_; refine vo_step (ok_skip rfl (blt_lt rfl) rfl) rfl ?_; refine vo_step (ok_skip rfl (blt_lt rfl) rfl) rfl ?_; refine vo_step (ok_pick rfl rfl rfl rfl) rfl ?_; refine vo_step (ok_assign rfl rfl rfl) rfl ?_; refine vo_nil ?_; refine N_seq ?_
                refine V_ret L (rs := [.tmp 4]) rfl (fun _ _ h => h) Since.refl fun u H hH hle => ?_
                rfl
            · have hq := eqQv (decide_eq_true e3)
              obtain rfl : r = false := by rw [← hr]; exact decide_eq_false fun e => e6 (by rw [e])
              refine V_seq ?_; refine V_region (id := 0) ?_; refine vo_step (ok_box rfl rfl rfl rfl) rfl ?_; refine vo_step (ok_box rfl rfl rfl rfl) rfl ?_; refine vo_step (ok_assign rfl rfl rfl) rfl ?_; refine vo_nil ?_; refine N_seq ?_; refine V_seq ?_; refine V_region (id := 1) ?_; refine vo_step (ok_fieldAt L rfl rfl rfl rfl) rfl ?_; refine vo_step (ok_load1 L (src_at rfl) rfl rfl rfl rfl) rfl ?_; refine vo_step (ok_fieldAt L rfl rfl rfl rfl) rfl ?_; refine vo_step (ok_load1 L (src_at rfl) rfl rfl rfl rfl) rfl ?_; refine vo_step (ok_eql rfl rfl rfl rfl (decide_eq_true (by omega))) rfl ?_; refine vo_step (ok_move rfl rfl rfl) rfl ?_; refine vo_step (ok_fieldAt L rfl rfl rfl rfl) rfl ?_; refine vo_step (ok_load1 L (src_at rfl) rfl rfl rfl rfl) rfl ?_; refine vo_step (ok_fieldAt L rfl rfl rfl rfl) rfl ?_; refine vo_step (ok_load1 L (src_at rfl) rfl rfl rfl rfl) rfl ?_; refine vo_step (ok_eql rfl rfl rfl rfl (decide_eq_true (by omega))) rfl ?_; refine vo_step (ok_pick rfl rfl rfl rfl) rfl ?_; refine vo_step (ok_move rfl rfl rfl) rfl ?_; refine vo_step (ok_fieldAt L rfl rfl rfl rfl) rfl ?_; refine vo_step (ok_loadA L (vs := [_, _, _, _, _, _]) (src_at rfl) rfl rfl rfl rfl ⟨_, rfl⟩) rfl ?_; refine vo_step (ok_fieldAt L rfl rfl rfl rfl) rfl ?_; refine vo_step (ok_loadA L (vs := [_, _, _, _, _, _]) (src_at rfl) rfl rfl rfl rfl ⟨_, rfl⟩) rfl ?_; refine vo_step (ok_aeql rfl rfl rfl rfl eq30 (by assumption) rfl) rfl ?_; refine vo_step (ok_pick rfl rfl rfl rfl) rfl ?_; refine vo_step (ok_move rfl rfl rfl) rfl ?_; refine vo_step (ok_fieldAt L rfl rfl rfl rfl) rfl ?_; refine vo_step (ok_load1 L (src_at rfl) rfl rfl rfl rfl) rfl ?_; refine vo_step (ok_fieldAt L rfl rfl rfl rfl) rfl ?_; refine vo_step (ok_load1 L (src_at rfl) rfl rfl rfl rfl) rfl ?_; refine vo_step (ok_eql rfl rfl rfl rfl (decide_eq_true (by omega))) rfl ?_; refine vo_step (ok_pick rfl rfl rfl rfl) rfl ?_; refine vo_step (ok_move rfl rfl rfl) rfl ?_; refine vo_step (ok_fieldAt L rfl rfl rfl rfl) rfl ?_; refine vo_step (ok_load1 L (src_at rfl) rfl rfl rfl rfl) rfl ?_; refine vo_step (ok_fieldAt L rfl rfl rfl rfl) rfl ?_; refine vo_step (ok_load1 L (src_at rfl) rfl rfl rfl rfl) rfl ?_; refine vo_step (ok_eql rfl rfl rfl rfl (decide_eq_true (by omega))) rfl ?_; refine vo_step (ok_pick rfl rfl rfl rfl) rfl ?_; refine vo_step (ok_move rfl rfl rfl) rfl ?_; refine vo_step (ok_fieldAt L rfl rfl rfl rfl) rfl ?_; refine vo_step (ok_load1 L (src_at rfl) rfl rfl rfl rfl) rfl ?_; refine vo_step (ok_fieldAt L rfl rfl rfl rfl) rfl ?_; refine vo_step (ok_load1 L (src_at rfl) rfl rfl rfl rfl) rfl ?_; refine vo_step (ok_eql rfl rfl rfl rfl (decide_eq_false (by omega))) rfl ?_; refine vo_step (ok_pick rfl rfl rfl rfl) rfl ?_; refine vo_step (ok_move rfl rfl rfl) rfl ?_; refine vo_step (ok_skip rfl (blt_lt rfl) rfl) rfl ?_; refine vo_step (ok_skip rfl (blt_lt rfl) rfl) rfl ?_; refine vo_step (ok_skip rfl (blt_lt rfl) rfl) rfl ?_; refine vo_step (ok_skip rfl (blt_lt rfl) rfl) rfl ?_; refine vo_step (ok_skip rfl (blt_lt rfl) rfl) rfl ?_; refine vo_step (ok_pick rfl rfl rfl rfl) rfl ?_; refine vo_step (ok_move rfl rfl rfl) rfl ?_; refine vo_step (ok_skip rfl (blt_lt rfl) rfl) rfl ?_; refine vo_step (ok_skip rfl (blt_lt rfl) rfl) rfl ?_; refine vo_step (ok_skip rfl (blt_lt rfl) rfl) rfl ?_; refine vo_step (ok_skip rfl (blt_lt rfl) rfl) rfl ?_; refine vo_step (ok_skip rfl (blt_lt rfl) rfl) rfl ?_; refine vo_step (ok_pick rfl rfl rfl rfl) rfl ?_; refine vo_step (ok_move rfl rfl rfl) rfl ?_; refine vo_step (ok_skip rfl (blt_lt rfl) rfl) rfl ?_; refine vo_step (ok_skip rfl (blt_lt rfl) rfl) rfl ?_; refine vo_step (ok_skip rfl (blt_lt rfl) rfl) rfl ?_; refine vo_step (ok_skip rfl (blt_lt rfl) rfl) rfl ?_; refine vo_step (ok_skip rfl (blt_lt rfl) rfl) rfl ?_; refine vo_step (ok_pick rfl rfl rfl rfl) rfl ?_; refine vo_step (ok_assign rfl rfl rfl) rfl ?_; refine vo_nil ?_; refine N_seq ?_
              refine V_ret L (rs := [.tmp 4]) rfl (fun _ _ h => h) Since.refl fun u H hH hle => ?_
              rfl
          · have hq := eqQv (decide_eq_true e3)
            obtain rfl : r = false := by rw [← hr]; exact decide_eq_false fun e => e5 (by rw [e])
            refine V_seq ?_; refine V_region (id := 0) ?_; refine vo_step (ok_box rfl rfl rfl rfl) rfl ?_; refine vo_step (ok_box rfl rfl rfl rfl) rfl ?_; refine vo_step (ok_assign rfl rfl rfl) rfl ?_; refine vo_nil ?_; refine N_seq ?_; refine V_seq ?_; refine V_region (id := 1) ?_; refine vo_step (ok_fieldAt L rfl rfl rfl rfl) rfl ?_; refine vo_step (ok_load1 L (src_at rfl) rfl rfl rfl rfl) rfl ?_; refine vo_step (ok_fieldAt L rfl rfl rfl rfl) rfl ?_; refine vo_step (ok_load1 L (src_at rfl) rfl rfl rfl rfl) rfl ?_; refine vo_step (ok_eql rfl rfl rfl rfl (decide_eq_true (by omega))) rfl ?_; refine vo_step (ok_move rfl rfl rfl) rfl ?_; refine vo_step (ok_fieldAt L rfl rfl rfl rfl) rfl ?_; refine vo_step (ok_load1 L (src_at rfl) rfl rfl rfl rfl) rfl ?_; refine vo_step (ok_fieldAt L rfl rfl rfl rfl) rfl ?_; refine vo_step (ok_load1 L (src_at rfl) rfl rfl rfl rfl) rfl ?_; refine vo_step (ok_eql rfl rfl rfl rfl (decide_eq_true (by omega))) rfl ?_; refine vo_step (ok_pick rfl rfl rfl rfl) rfl ?_; refine vo_step (ok_move rfl rfl rfl) rfl ?_; refine vo_step (ok_fieldAt L rfl rfl rfl rfl) rfl ?_; refine vo_step (ok_loadA L (vs := [_, _, _, _, _, _]) (src_at rfl) rfl rfl rfl rfl ⟨_, rfl⟩) rfl ?_; refine vo_step (ok_fieldAt L rfl rfl rfl rfl) rfl ?_; refine vo_step (ok_loadA L (vs := [_, _, _, _, _, _]) (src_at rfl) rfl rfl rfl rfl ⟨_, rfl⟩) rfl ?_; refine vo_step (ok_aeql rfl rfl rfl rfl eq30 (by assumption) rfl) rfl ?_; refine vo_step (ok_pick rfl rfl rfl rfl) rfl ?_; refine vo_step (ok_move rfl rfl rfl) rfl ?_; refine vo_step (ok_fieldAt L rfl rfl rfl rfl) rfl ?_; refine vo_step (ok_load1 L (src_at rfl) rfl rfl rfl rfl) rfl ?_; refine vo_step (ok_fieldAt L rfl rfl rfl rfl) rfl ?_; refine vo_step (ok_load1 L (src_at rfl) rfl rfl rfl rfl) rfl ?_; refine vo_step (ok_eql rfl rfl rfl rfl (decide_eq_true (by omega))) rfl ?_; refine vo_step (ok_pick rfl rfl rfl rfl) rfl ?_; refine vo_step (ok_move rfl rfl rfl) rfl ?_; refine vo_step (ok_fieldAt L rfl rfl rfl rfl) rfl ?_; refine vo_step (ok_load1 L (src_at rfl) rfl rfl rfl rfl) rfl ?_; refine vo_step (ok_fieldAt L rfl rfl rfl rfl) rfl ?_; refine vo_step (ok_load1 L (src_at rfl) rfl rfl rfl rfl) rfl ?_; refine vo_step (ok_eql rfl rfl rfl rfl (decide_eq_false (by omega))) rfl ?_; refine vo_step (ok_pick rfl rfl rfl rfl) rfl ?_; refine vo_step (ok_move rfl rfl rfl) rfl ?_; refine vo_step (ok_skip rfl (blt_lt rfl) rfl) rfl ?_; refine vo_step (ok_skip rfl (blt_lt rfl) rfl) rfl ?_; refine vo_step (ok_skip rfl (blt_lt rfl) rfl) rfl ?_; refine vo_step (ok_skip rfl (blt_lt rfl) rfl) rfl ?_; refine vo_step (ok_skip rfl (blt_lt rfl) rfl) rfl ?_; refine vo_step (ok_pick rfl rfl rfl rfl) rfl ?_; refine vo_step (ok_move rfl rfl rfl) rfl ?_; refine vo_step (ok_skip rfl (blt_lt rfl) rfl) rfl ?_; refine vo_step (ok_skip rfl (blt_lt rfl) rfl) rfl ?_; refine vo_step (ok_skip rfl (blt_lt rfl) rfl) rfl ?_; refine vo_step (ok_skip rfl (blt_lt rfl) rfl) rfl ?_; refine vo_step (ok_skip rfl (blt_lt rfl) rfl) rfl ?_; refine vo_step (ok_pick rfl rfl rfl rfl) rfl ?_; refine vo_step (ok_move rfl rfl rfl) rfl ?_; refine vo_step (ok_skip rfl (blt_lt rfl) rfl) rfl ?_; refine vo_step (ok_skip rfl (blt_lt rfl) rfl) rfl ?_; refine vo_step (ok_skip rfl (blt_lt rfl) rfl) rfl ?_; refine vo_step (ok_skip rfl (blt_lt rfl) rfl) rfl ?_; refine vo_step (ok_skip rfl (blt_lt rfl) rfl) rfl ?_; refine vo_step (ok_pick rfl rfl rfl rfl) rfl ?_; refine vo_step (ok_move rfl rfl rfl) rfl ?_; refine vo_step (ok_skip rfl (blt_lt rfl) rfl) rfl ?_; refine vo_step (ok_skip rfl (blt_lt rfl) rfl) rfl ?_; refine vo_step (ok_skip rfl (blt_lt rfl) rfl) rfl ?_; refine vo_step (ok_skip rfl (blt_lt rfl) rfl) rfl ?_; refine vo_step (ok_skip rfl (blt_lt rfl) rfl) rfl ?_; refine vo_step (ok_pick rfl rfl rfl rfl) rfl ?_; refine vo_step (ok_assign rfl rfl rfl) rfl ?_; refine vo_nil ?_; refine N_seq ?_
            refine V_ret L (rs := [.tmp 4]) rfl (fun _ _ h => h) Since.refl fun u H hH hle => ?_
            rfl
        · have hq := eqQv (decide_eq_true e3)
          obtain rfl : r = false := by rw [← hr]; exact decide_eq_false fun e => e4 (by rw [e])
          refine V_seq ?_; refine V_region (id := 0) ?_; refine vo_step (ok_box rfl rfl rfl rfl) rfl ?_; refine vo_step (ok_box rfl rfl rfl rfl) rfl ?_; refine vo_step (ok_assign rfl rfl rfl) rfl ?_; refine vo_nil ?_; refine N_seq ?_; refine V_seq ?_; refine V_region (id := 1) ?_; refine vo_step (ok_fieldAt L rfl rfl rfl rfl) rfl ?_; refine vo_step (ok_load1 L (src_at rfl) rfl rfl rfl rfl) rfl ?_; refine vo_step (ok_fieldAt L rfl rfl rfl rfl) rfl ?_; refine vo_step (ok_load1 L (src_at rfl) rfl rfl rfl rfl) rfl ?_; refine vo_step (ok_eql rfl rfl rfl rfl (decide_eq_true (by omega))) rfl ?_; refine vo_step (ok_move rfl rfl rfl) rfl ?_; refine vo_step (ok_fieldAt L rfl rfl rfl rfl) rfl ?_; refine vo_step (ok_load1 L (src_at rfl) rfl rfl rfl rfl) rfl ?_; refine vo_step (ok_fieldAt L rfl rfl rfl rfl) rfl ?_; refine vo_step (ok_load1 L (src_at rfl) rfl rfl rfl rfl) rfl ?_; refine vo_step (ok_eql rfl rfl rfl rfl (decide_eq_true (by omega))) rfl ?_; refine vo_step (ok_pick rfl rfl rfl rfl) rfl ?_; refine vo_step (ok_move rfl rfl rfl) rfl ?_; refine vo_step (ok_fieldAt L rfl rfl rfl rfl) rfl ?_; refine vo_step (ok_loadA L (vs := [_, _, _, _, _, _]) (src_at rfl) rfl rfl rfl rfl ⟨_, rfl⟩) rfl ?_; refine vo_step (ok_fieldAt L rfl rfl rfl rfl) rfl ?_; refine vo_step (ok_loadA L (vs := [_, _, _, _, _, _]) (src_at rfl) rfl rfl rfl rfl ⟨_, rfl⟩) rfl ?_; refine vo_step (ok_aeql rfl rfl rfl rfl eq30 (by assumption) rfl) rfl ?_; refine vo_step (ok_pick rfl rfl rfl rfl) rfl ?_; refine vo_step (ok_move rfl rfl rfl) rfl ?_; refine vo_step (ok_fieldAt L rfl rfl rfl rfl) rfl ?_; refine vo_step (ok_load1 L (src_at rfl) rfl rfl rfl rfl) rfl ?_; refine vo_step (ok_fieldAt L rfl rfl rfl rfl) rfl ?_; refine vo_step (ok_load1 L (src_at rfl) rfl rfl rfl rfl) rfl ?_; refine vo_step (ok_eql rfl rfl rfl rfl (decide_eq_false (by omega))) rfl ?_; refine vo_step (ok_pick rfl rfl rfl rfl) rfl ?_; refine vo_step (ok_move rfl rfl rfl) rfl ?_; refine vo_step (ok_skip rfl (blt_lt rfl) rfl) rfl ?_; refine vo_step (ok_skip rfl (blt_lt rfl) rfl) rfl ?_; refine vo_step (ok_skip rfl (blt_lt rfl) rfl) rfl ?_; refine vo_step (ok_skip rfl (blt_lt rfl) rfl) rfl ?_; refine vo_step (ok_skip rfl (blt_lt rfl) rfl) rfl ?_; refine vo_step (ok_pick rfl rfl rfl rfl) rfl ?_; refine vo_step (ok_move rfl rfl rfl) rfl ?_; refine vo_step (ok_skip rfl (blt_lt rfl) rfl) rfl ?_; refine vo_step (ok_skip rfl (blt_lt rfl) rfl) rfl ?_; refine vo_step (ok_skip rfl (blt_lt rfl) rfl) rfl ?_; refine vo_step (ok_skip rfl (blt_lt rfl) rfl) rfl ?_; refine vo_step (ok_skip rfl (blt_lt rfl) rfl) rfl ?_; refine vo_step (ok_pick rfl rfl rfl rfl) rfl ?_; refine vo_step (ok_move rfl rfl rfl) rfl ?_; refine vo_step (ok_skip rfl (blt_lt rfl) rfl) rfl ?_; refine vo_step (ok_skip rfl (blt_lt rfl) rfl) rfl ?_; refine vo_step (ok_skip rfl (blt_lt rfl) rfl) rfl ?_; refine vo_step (ok_skip rfl (blt_lt rfl) rfl) rfl ?_; refine vo_step (ok_skip rfl (blt_lt rfl) rfl) rfl ?_; refine vo_step (ok_pick rfl rfl rfl rfl) rfl ?_; refine vo_step (ok_move rfl rfl rfl) rfl ?_; refine vo_step (ok_skip rfl (blt_lt rfl) rfl) rfl ?_; refine vo_step (ok_skip rfl (blt_lt rfl) rfl) rfl ?_; refine vo_step (ok_skip rfl (blt_lt rfl) rfl) rfl ?_; refine vo_step (ok_skip rfl (blt_lt rfl) rfl) rfl ?_; refine vo_step (ok_skip rfl (blt_lt rfl) rfl) rfl ?_; refine vo_step (ok_pick rfl rfl rfl rfl) rfl ?_; refine vo_step (ok_move rfl rfl rfl) rfl ?_; refine vo_step (ok_skip rfl (blt_lt rfl) rfl) rfl ?_; refine vo_step (ok_skip rfl (blt_lt rfl) rfl) rfl ?_; refine vo_step (ok_skip rfl (blt_lt rfl) rfl) rfl ?_; refine vo_step (ok_skip rfl (blt_lt rfl) rfl) rfl ?_; refine vo_step (ok_skip rfl (blt_lt rfl) rfl) rfl ?_; refine vo_step (ok_pick rfl rfl rfl rfl) rfl ?_; refine vo_step (ok_assign rfl rfl rfl) rfl ?_; refine vo_nil ?_; refine N_seq ?_
          refine V_ret L (rs := [.tmp 4]) rfl (fun _ _ h => h) Since.refl fun u H hH hle => ?_
          rfl
      · have hq := eqQv (decide_eq_false e3)
        obtain rfl : r = false := by rw [← hr]; exact decide_eq_false fun e => e3 (by rw [e])
        refine V_seq ?_; refine V_region (id := 0) ?_; refine vo_step (ok_box rfl rfl rfl rfl) rfl ?_; refine vo_step (ok_box rfl rfl rfl rfl) rfl ?_; refine vo_step (ok_assign rfl rfl rfl) rfl ?_; refine vo_nil ?_; refine N_seq ?_; refine V_seq ?_; refine V_region (id := 1) ?_; refine vo_step (ok_fieldAt L rfl rfl rfl rfl) rfl ?_; refine vo_step (ok_load1 L (src_at rfl) rfl rfl rfl rfl) rfl ?_; refine vo_step (ok_fieldAt L rfl rfl rfl rfl) rfl ?_; refine vo_step (ok_load1 L (src_at rfl) rfl rfl rfl rfl) rfl ?_; refine vo_step (ok_eql rfl rfl rfl rfl (decide_eq_true (by omega))) rfl ?_; refine vo_step (ok_move rfl rfl rfl) rfl ?_; refine vo_step (ok_fieldAt L rfl rfl rfl rfl) rfl ?_; refine vo_step (ok_load1 L (src_at rfl) rfl rfl rfl rfl) rfl ?_; refine vo_step (ok_fieldAt L rfl rfl rfl rfl) rfl ?_; refine vo_step (ok_load1 L (src_at rfl) rfl rfl rfl rfl) rfl ?_; refine vo_step (ok_eql rfl rfl rfl rfl (decide_eq_true (by omega))) rfl ?_; refine vo_step (ok_pick rfl rfl rfl rfl) rfl ?_; refine vo_step (ok_move rfl rfl rfl) rfl ?_; refine vo_step (ok_fieldAt L rfl rfl rfl rfl) rfl ?_; refine vo_step (ok_loadA L (vs := [_, _, _, _, _, _]) (src_at rfl) rfl rfl rfl rfl ⟨_, rfl⟩) rfl ?_; refine vo_step (ok_fieldAt L rfl rfl rfl rfl) rfl ?_; refine vo_step (ok_loadA L (vs := [_, _, _, _, _, _]) (src_at rfl) rfl rfl rfl rfl ⟨_, rfl⟩) rfl ?_; refine vo_step (ok_aeql rfl rfl rfl rfl eq30 (by assumption) rfl) rfl ?_; refine vo_step (ok_pick rfl rfl rfl rfl) rfl ?_; refine vo_step (ok_move rfl rfl rfl) rfl ?_; refine vo_step (ok_skip rfl (blt_lt rfl) rfl) rfl ?_; refine vo_step (ok_skip rfl (blt_lt rfl) rfl) rfl ?_; refine vo_step (ok_skip rfl (blt_lt rfl) rfl) rfl ?_; refine vo_step (ok_skip rfl (blt_lt rfl) rfl) rfl ?_; refine vo_step (ok_skip rfl (blt_lt rfl) rfl) rfl ?_; refine vo_step (ok_pick rfl rfl rfl rfl) rfl ?_; refine vo_step (ok_move rfl rfl rfl) rfl ?_; refine vo_step (ok_skip rfl (blt_lt rfl) rfl) rfl ?_; refine vo_step (ok_skip rfl (blt_lt rfl) rfl) rfl ?_; refine vo_step (ok_skip rfl (blt_lt rfl) rfl) rfl ?_; refine vo_step (ok_skip rfl (blt_lt rfl) rfl) rfl ?_; refine vo_step (ok_skip rfl (blt_lt rfl) rfl) rfl ?_; refine vo_step (ok_pick rfl rfl rfl rfl) rfl ?_; refine vo_step (ok_move rfl rfl rfl) rfl ?_; refine vo_step (ok_skip rfl (blt_lt rfl) rfl) rfl ?_; refine vo_step (ok_skip rfl (blt_lt rfl) rfl) rfl ?_; refine vo_step (ok_skip rfl (blt_lt rfl) rfl) rfl ?_; refine vo_step (ok_skip rfl (blt_lt rfl) rfl) rfl ?_; refine vo_step (ok_skip rfl (blt_lt rfl) rfl) rfl ?_; refine vo_step (ok_pick rfl rfl rfl rfl) rfl ?_; refine vo_step (ok_move rfl rfl rfl) rfl ?_; refine vo_step (ok_skip rfl (blt_lt rfl) rfl) rfl ?_; refine vo_step (ok_skip rfl (blt_lt rfl) rfl) rfl ?_; refine vo_step (ok_skip rfl (blt_lt rfl) rfl) rfl ?_; refine vo_step (ok_skip rfl (blt_lt rfl) rfl) rfl ?_; refine vo_step (ok_skip rfl (blt_lt rfl) rfl) rfl ?_; refine vo_step (ok_pick rfl rfl rfl rfl) rfl ?_; refine vo_step (ok_move rfl rfl rfl) rfl ?_; refine vo_step (ok_skip rfl (blt_lt rfl) rfl) rfl ?_; refine vo_step (ok_skip rfl (blt_lt rfl) rfl) rfl ?_; refine vo_step (ok_skip rfl (blt_lt rfl) rfl) rfl ?_; refine vo_step (ok_skip rfl (blt_lt rfl) rfl) rfl ?_; refine vo_step (ok_skip rfl (blt_lt rfl) rfl) rfl ?_; refine vo_step (ok_pick rfl rfl rfl rfl) rfl ?_; refine vo_step (ok_move rfl rfl rfl) rfl ?_; refine vo_step (ok_skip rfl (blt_lt rfl) rfl) rfl ?_; refine vo_step (ok_skip rfl (blt_lt rfl) rfl) rfl ?_; refine vo_step (ok_skip rfl (blt_lt rfl) rfl) rfl ?_; refine vo_step (ok_skip rfl (blt_lt rfl) rfl) rfl ?_; refine vo_step (ok_skip rfl (blt_lt rfl) rfl) rfl ?_; refine vo_step (ok_pick rfl rfl rfl rfl) rfl ?_; refine vo_step (ok_assign rfl rfl rfl) rfl ?_; refine vo_nil ?_; refine N_seq ?_
        refine V_ret L (rs := [.tmp 4]) rfl (fun _ _ h => h) Since.refl fun u H hH hle => ?_
        rfl
    · obtain rfl : r = false := by rw [← hr]; exact decide_eq_false fun e => e2 (by rw [e])
      refine V_seq ?_; refine V_region (id := 0) ?_; refine vo_step (ok_box rfl rfl rfl rfl) rfl ?_; refine vo_step (ok_box rfl rfl rfl rfl) rfl ?_; refine vo_step (ok_assign rfl rfl rfl) rfl ?_; refine vo_nil ?_; refine N_seq ?_; refine V_seq ?_; refine V_region (id := 1) ?_; refine vo_step (ok_fieldAt L rfl rfl rfl rfl) rfl ?_; refine vo_step (ok_load1 L (src_at rfl) rfl rfl rfl rfl) rfl ?_; refine vo_step (ok_fieldAt L rfl rfl rfl rfl) rfl ?_; refine vo_step (ok_load1 L (src_at rfl) rfl rfl rfl rfl) rfl ?_; refine vo_step (ok_eql rfl rfl rfl rfl (decide_eq_true (by omega))) rfl ?_; refine vo_step (ok_move rfl rfl rfl) rfl ?_; refine vo_step (ok_fieldAt L rfl rfl rfl rfl) rfl ?_; refine vo_step (ok_load1 L (src_at rfl) rfl rfl rfl rfl) rfl ?_; refine vo_step (ok_fieldAt L rfl rfl rfl rfl) rfl ?_; refine vo_step (ok_load1 L (src_at rfl) rfl rfl rfl rfl) rfl ?_; refine vo_step (ok_eql rfl rfl rfl rfl (decide_eq_false (by omega))) rfl ?_; refine vo_step (ok_pick rfl rfl rfl rfl) rfl ?_; refine vo_step (ok_move rfl rfl rfl) rfl ?_; refine vo_step (ok_skip rfl (blt_lt rfl) rfl) rfl ?_; refine vo_step (ok_skip rfl (blt_lt rfl) rfl) rfl ?_; refine vo_step (ok_skip rfl (blt_lt rfl) rfl) rfl ?_; refine vo_step (ok_skip rfl (blt_lt rfl) rfl) rfl ?_; refine vo_step (ok_skip rfl (blt_lt rfl) rfl) rfl ?_; refine vo_step (ok_pick rfl rfl rfl rfl) rfl ?_; refine vo_step (ok_move rfl rfl rfl) rfl ?_; refine vo_step (ok_skip rfl (blt_lt rfl) rfl) rfl ?_; refine vo_step (ok_skip rfl (blt_lt rfl) rfl) rfl ?_; refine vo_step (ok_skip rfl (blt_lt rfl) rfl) rfl ?_; refine vo_step (ok_skip rfl (blt_lt rfl) rfl) rfl ?_; refine vo_step (ok_skip rfl (blt_lt rfl) rfl) rfl ?_; refine vo_step (ok_pick rfl rfl rfl rfl) rfl ?_; refine vo_step (ok_move rfl rfl rfl) rfl ?_; refine vo_step (ok_skip rfl (blt_lt rfl) rfl) rfl ?_; refine vo_step (ok_skip rfl (blt_lt rfl) rfl) rfl ?_; refine vo_step (ok_skip rfl (blt_lt rfl) rfl) rfl ?_; refine vo_step (ok_skip rfl (blt_lt rfl) rfl) rfl ?_; refine vo_step (ok_skip rfl (blt_lt rfl) rfl) rfl ?_; refine vo_step (ok_pick rfl rfl rfl rfl) rfl ?_; refine vo_step (ok_move rfl rfl rfl) rfl ?_; refine vo_step (ok_skip rfl (blt_lt rfl) rfl) rfl ?_; refine vo_step (ok_skip rfl (blt_lt rfl) rfl) rfl ?_; refine vo_step (ok_skip rfl (blt_lt rfl) rfl) rfl ?_; refine vo_step (ok_skip rfl (blt_lt rfl) rfl) rfl ?_; refine vo_step (ok_skip rfl (blt_lt rfl) rfl) rfl ?_; refine vo_step (ok_pick rfl rfl rfl rfl) rfl ?_; refine vo_step (ok_move rfl rfl rfl) rfl ?_; refine vo_step (ok_skip rfl (blt_lt rfl) rfl) rfl ?_; refine vo_step (ok_skip rfl (blt_lt rfl) rfl) rfl ?_; refine vo_step (ok_skip rfl (blt_lt rfl) rfl) rfl ?_; refine vo_step (ok_skip rfl (blt_lt rfl) rfl) rfl ?_; refine vo_step (ok_skip rfl (blt_lt rfl) rfl) rfl ?_; refine vo_step (ok_pick rfl rfl rfl rfl) rfl ?_; refine vo_step (ok_move rfl rfl rfl) rfl ?_; refine vo_step (ok_skip rfl (blt_lt rfl) rfl) rfl ?_; refine vo_step (ok_skip rfl (blt_lt rfl) rfl) rfl ?_; refine vo_step (ok_skip rfl (blt_lt rfl) rfl) rfl ?_; refine vo_step (ok_skip rfl (blt_lt rfl) rfl) rfl ?_; refine vo_step (ok_skip rfl (blt_lt rfl) rfl) rfl ?_; refine vo_step (ok_pick rfl rfl rfl rfl) rfl ?_; refine vo_step (ok_move rfl rfl rfl) rfl ?_; refine vo_step (ok_skip rfl (blt_lt rfl) rfl) rfl ?_; refine vo_step (ok_skip rfl (blt_lt rfl) rfl) rfl ?_; refine vo_step (ok_skip rfl (blt_lt rfl) rfl) rfl ?_; refine vo_step (ok_skip rfl (blt_lt rfl) rfl) rfl ?_; refine vo_step (ok_skip rfl (blt_lt rfl) rfl) rfl ?_; refine vo_step (ok_pick rfl rfl rfl rfl) rfl ?_; refine vo_step (ok_assign rfl rfl rfl) rfl ?_; refine vo_nil ?_; refine N_seq ?_
      refine V_ret L (rs := [.tmp 4]) rfl (fun _ _ h => h) Since.refl fun u H hH hle => ?_
      rfl
  · obtain rfl : r = false := by rw [← hr]; exact decide_eq_false fun e => e1 (by rw [e])
    refine V_seq ?_; refine V_region (id := 0) ?_; refine vo_step (ok_box rfl rfl rfl rfl) rfl ?_; refine vo_step (ok_box rfl rfl rfl rfl) rfl ?_; refine vo_step (ok_assign rfl rfl rfl) rfl ?_; refine vo_nil ?_; refine N_seq ?_; refine V_seq ?_; refine V_region (id := 1) ?_; refine vo_step (ok_fieldAt L rfl rfl rfl rfl) rfl ?_; refine vo_step (ok_load1 L (src_at rfl) rfl rfl rfl rfl) rfl ?_; refine vo_step (ok_fieldAt L rfl rfl rfl rfl) rfl ?_; refine vo_step (ok_load1 L (src_at rfl) rfl rfl rfl rfl) rfl ?_; refine vo_step (ok_eql rfl rfl rfl rfl (decide_eq_false (by omega))) rfl ?_; refine vo_step (ok_move rfl rfl rfl) rfl ?_; refine vo_step (ok_skip rfl (blt_lt rfl) rfl) rfl ?_; refine vo_step (ok_skip rfl (blt_lt rfl) rfl) rfl ?_; refine vo_step (ok_skip rfl (blt_lt rfl) rfl) rfl ?_; refine vo_step (ok_skip rfl (blt_lt rfl) rfl) rfl ?_; refine vo_step (ok_skip rfl (blt_lt rfl) rfl) rfl ?_; refine vo_step (ok_pick rfl rfl rfl rfl) rfl ?_; refine vo_step (ok_move rfl rfl rfl) rfl ?_; refine vo_step (ok_skip rfl (blt_lt rfl) rfl) rfl ?_; refine vo_step (ok_skip rfl (blt_lt rfl) rfl) rfl ?_; refine vo_step (ok_skip rfl (blt_lt rfl) rfl) rfl ?_; refine vo_step (ok_skip rfl (blt_lt rfl) rfl) rfl ?_; refine vo_step (ok_skip rfl (blt_lt rfl) rfl) rfl ?_; refine vo_step (ok_pick rfl rfl rfl rfl) rfl ?_; refine vo_step (ok_move rfl rfl rfl) rfl ?_; refine vo_step (ok_skip rfl (blt_lt rfl) rfl) rfl ?_; refine vo_step (ok_skip rfl (blt_lt rfl) rfl) rfl ?_; refine vo_step (ok_skip rfl (blt_lt rfl) rfl) rfl ?_; refine vo_step (ok_skip rfl (blt_lt rfl) rfl) rfl ?_; refine vo_step (ok_skip rfl (blt_lt rfl) rfl) rfl ?_; refine vo_step (ok_pick rfl rfl rfl rfl) rfl ?_; refine vo_step (ok_move rfl rfl rfl) rfl ?_; refine vo_step (ok_skip rfl (blt_lt rfl) rfl) rfl ?_; refine vo_step (ok_skip rfl (blt_lt rfl) rfl) rfl ?_; refine vo_step (ok_skip rfl (blt_lt rfl) rfl) rfl ?_; refine vo_step (ok_skip rfl (blt_lt rfl) rfl) rfl ?_; refine vo_step (ok_skip rfl (blt_lt rfl) rfl) rfl ?_; refine vo_step (ok_pick rfl rfl rfl rfl) rfl ?_; refine vo_step (ok_move rfl rfl rfl) rfl ?_; refine vo_step (ok_skip rfl (blt_lt rfl) rfl) rfl ?_; refine vo_step (ok_skip rfl (blt_lt rfl) rfl) rfl ?_; refine vo_step (ok_skip rfl (blt_lt rfl) rfl) rfl ?_; refine vo_step (ok_skip rfl (blt_lt rfl) rfl) rfl ?_; refine vo_step (ok_skip rfl (blt_lt rfl) rfl) rfl ?_; refine vo_step (ok_pick rfl rfl rfl rfl) rfl ?_; refine vo_step (ok_move rfl rfl rfl) rfl ?_; refine vo_step (ok_skip rfl (blt_lt rfl) rfl) rfl ?_; refine vo_step (ok_skip rfl (blt_lt rfl) rfl) rfl ?_; refine vo_step (ok_skip rfl (blt_lt rfl) rfl) rfl ?_; refine vo_step (ok_skip rfl (blt_lt rfl) rfl) rfl ?_; refine vo_step (ok_skip rfl (blt_lt rfl) rfl) rfl ?_; refine vo_step (ok_pick rfl rfl rfl rfl) rfl ?_; refine vo_step (ok_move rfl rfl rfl) rfl ?_; refine vo_step (ok_skip rfl (blt_lt rfl) rfl) rfl ?_; refine vo_step (ok_skip rfl (blt_lt rfl) rfl) rfl ?_; refine vo_step (ok_skip rfl (blt_lt rfl) rfl) rfl ?_; refine vo_step (ok_skip rfl (blt_lt rfl) rfl) rfl ?_; refine vo_step (ok_skip rfl (blt_lt rfl) rfl) rfl ?_; refine vo_step (ok_pick rfl rfl rfl rfl) rfl ?_; refine vo_step (ok_move rfl rfl rfl) rfl ?_; refine vo_step (ok_skip rfl (blt_lt rfl) rfl) rfl ?_; refine vo_step (ok_skip rfl (blt_lt rfl) rfl) rfl ?_; refine vo_step (ok_skip rfl (blt_lt rfl) rfl) rfl ?_; refine vo_step (ok_skip rfl (blt_lt rfl) rfl) rfl ?_; refine vo_step (ok_skip rfl (blt_lt rfl) rfl) rfl ?_; refine vo_step (ok_pick rfl rfl rfl rfl) rfl ?_; refine vo_step (ok_assign rfl rfl rfl) rfl ?_; refine vo_nil ?_; refine N_seq ?_
    refine V_ret L (rs := [.tmp 4]) rfl (fun _ _ h => h) Since.refl fun u H hH hle => ?_
    rfl
theorem eqF_ret {zs ys : List (Fl × Value)} {l m : List Fl} (hzl : zs.map Prod.fst = l) (hym : ys.map Prod.fst = m) {fu fi gu gi : Bool} {s s2 : Value} {r : Bool} (hr : decide (l = m) = r) {w : World} {B : Heap} (hs : FsB zs fu fi s B) (hy : FsB ys gu gi s2 B) (hB : B.Le (hp w)) :
    Ret Try.prog 65 [s, s2, .func (.func 66) #[] #[]] w B (fun v _ => v = .bool r) := by
  have h1 := fls_len hzl
  have h2 := fls_len hym
  have hn1 := hs.ln
  have hn2 := hy.ln
  refine V_enter Try.func65 rfl Try.ntmps65 (Nat.le_of_ble_eq_true rfl) hB ?_
  refine V_seen 0 (SlV tyF 14 (zs.flatMap flc) zs.length fu) rfl SlV.mono hs.sl ?_
  refine V_seen 1 (SlV tyF 14 (ys.flatMap flc) ys.length gu) rfl SlV.mono hy.sl ?_
  by_cases hl : zs.length = ys.length
  · refine V_seq ?_; refine V_region (id := 0) ?_; refine vo_step (ok_assign rfl rfl rfl) rfl ?_; refine vo_nil ?_; refine N_seq ?_; refine V_seq ?_; refine V_seq ?_; refine V_region (id := 1) ?_; refine vo_step (ok_moves' rfl rfl rfl) rfl ?_; refine vo_step (ok_lenV L rfl rfl rfl rfl) rfl ?_; refine vo_step (ok_moves' rfl rfl rfl) rfl ?_; refine vo_step (ok_lenV L rfl rfl rfl rfl) rfl ?_; refine vo_step (ok_neq rfl rfl rfl rfl (decide_eq_false (by omega))) rfl ?_; refine vo_nil ?_; refine N_seq ?_; refine V_false rfl ?_; refine V_skip ?_; refine N_seq ?_; refine V_seq ?_; refine V_seq ?_; refine V_region (id := 3) ?_; refine vo_step (ok_moves' rfl rfl rfl) rfl ?_; refine vo_step (ok_lenV L rfl rfl rfl rfl) rfl ?_; refine vo_step (ok_move rfl rfl rfl) rfl ?_; refine vo_nil ?_; refine N_seq ?_; refine V_block ?_
    refine V_loop (fun i : Nat => [(1, .sat (SlV tyF 14 (ys.flatMap flc) ys.length gu)), (2, .is (.func (.func 66) #[] #[])), (15, .sat (SlV tyF 14 (zs.flatMap flc) zs.length fu)), (16, .is (.int .i64 zs.length)), (17, .is (.int .i64 i))]) (fun i => i ≤ zs.length ∧ ∀ (j : Nat) x y, j < i → l[j]? = some x → m[j]? = some y → x = y) (fun i => zs.length - i) 0 ⟨Nat.zero_le _, fun j x y h => absurd h (Nat.not_lt_zero _)⟩ ⟨rfl, rfl, rfl, rfl, rfl, trivial⟩ ?_
    rintro i ⟨hi, hsm⟩
    by_cases hlt : i < zs.length
    · obtain ⟨f, pf, cf, _, hfl, hfv, hfi, hc1⟩ := hs.at hzl hlt
      obtain ⟨g, pg, cg, _, hgl, hgv, hgi, hc2⟩ := hy.at hym (show i < ys.length by omega)
      by_cases hfg : f = g
      · refine V_seq ?_; refine V_region (id := 4) ?_; refine vo_step (ok_lss rfl rfl rfl rfl (decide_eq_true (by omega))) rfl ?_; refine vo_nil ?_; refine N_seq ?_; refine V_seq ?_; refine V_true rfl ?_; refine V_skip ?_; refine N_seq ?_; refine V_seq ?_; refine V_block ?_; refine V_seq ?_; refine V_region (id := 5) ?_; refine vo_step (ok_move rfl rfl rfl) rfl ?_; refine vo_step (ok_indexV L _ rfl rfl rfl rfl rfl rfl rfl (by first | omega | decide) (by assumption)) rfl ?_; refine vo_step (ok_loadPA L (vs := [_, _, _, _, _, _, _, _, _, _, _, _, _, _]) rfl rfl rfl rfl rfl ⟨_, rfl⟩) rfl ?_; refine vo_step (ok_alloc L rfl rfl rfl rfl) rfl ?_; refine vo_step (ok_assign rfl rfl rfl) rfl ?_; refine vo_step (ok_store L rfl rfl rfl rfl rfl rfl rfl rfl) rfl ?_; refine vo_nil ?_; refine N_seq ?_; refine V_seq ?_; refine V_region (id := 6) ?_; refine vo_step (ok_moves' rfl rfl rfl) rfl ?_; refine vo_step (ok_move rfl rfl rfl) rfl ?_; refine vo_step (ok_indexV L _ rfl rfl rfl rfl rfl rfl rfl (by first | omega | decide) (by assumption)) rfl ?_; refine vo_step (ok_loadPA L (vs := [_, _, _, _, _, _, _, _, _, _, _, _, _, _]) rfl rfl rfl rfl rfl ⟨_, rfl⟩) rfl ?_; refine vo_step (ok_alloc L rfl rfl rfl rfl) rfl ?_; refine vo_step (ok_store L rfl rfl rfl rfl rfl rfl rfl rfl) rfl ?_; refine vo_nil ?_; refine N_seq ?_; refine V_seq ?_; refine V_region (id := 7) ?_; refine vo_step (ok_move rfl rfl rfl) rfl ?_; refine vo_step (ok_loadA L (vs := [_, _, _, _, _, _, _, _, _, _, _, _, _, _]) (src_own rfl) rfl rfl rfl rfl ⟨_, rfl⟩) rfl ?_; refine vo_step (ok_loadA L (vs := [_, _, _, _, _, _, _, _, _, _, _, _, _, _]) (src_own rfl) rfl rfl rfl rfl ⟨_, rfl⟩) rfl ?_; refine vo_step (ok_callx L rfl rfl (blt_lt rfl) rfl rfl rfl (fun u H hH hle _ => s1_ret hfi hgi (decide_eq_true hfg) (hfv.le hle) (hgv.le hle) hH)) rfl ?_; refine vo_step (ok_not rfl rfl rfl rfl) rfl ?_; refine vo_nil ?_; refine N_seq ?_; refine V_false rfl ?_; refine V_skip ?_; refine N_block ?_; refine N_seq ?_; refine V_region (id := 9) ?_; refine vo_step (ok_add rfl rfl rfl rfl (wrap_i64 (by omega) (by omega))) rfl ?_; refine vo_step (ok_move rfl rfl rfl) rfl ?_; refine vo_nil ?_
        exact N_round (x := i) (i + 1) ⟨hlt, fun j x' y' hj e1 e2 => by
          rcases Nat.lt_or_ge j i with h | h
          · exact hsm j x' y' h e1 e2
          · have : j = i := by omega
            subst this; rw [hfl] at e1; rw [hgl] at e2; cases e1; cases e2; exact hfg⟩ (by omega) ⟨rfl, rfl, rfl, rfl, rfl, trivial⟩
      · obtain rfl : r = false := by rw [← hr]; exact decide_eq_false fun e => hfg (by rw [e, hgl] at hfl; exact (Option.some.inj hfl).symm)
        refine V_seq ?_; refine V_region (id := 4) ?_; refine vo_step (ok_lss rfl rfl rfl rfl (decide_eq_true (by omega))) rfl ?_; refine vo_nil ?_; refine N_seq ?_; refine V_seq ?_; refine V_true rfl ?_; refine V_skip ?_; refine N_seq ?_; refine V_seq ?_; refine V_block ?_; refine V_seq ?_; refine V_region (id := 5) ?_; refine vo_step (ok_move rfl rfl rfl) rfl ?_; refine vo_step (ok_indexV L _ rfl rfl rfl rfl rfl rfl rfl (by first | omega | decide) (by assumption)) rfl ?_; refine vo_step (ok_loadPA L (vs := [_, _, _, _, _, _, _, _, _, _, _, _, _, _]) rfl rfl rfl rfl rfl ⟨_, rfl⟩) rfl ?_; refine vo_step (ok_alloc L rfl rfl rfl rfl) rfl ?_; refine vo_step (ok_assign rfl rfl rfl) rfl ?_; refine vo_step (ok_store L rfl rfl rfl rfl rfl rfl rfl rfl) rfl ?_; refine vo_nil ?_; refine N_seq ?_; refine V_seq ?_; refine V_region (id := 6) ?_; refine vo_step (ok_moves' rfl rfl rfl) rfl ?_; refine vo_step (ok_move rfl rfl rfl) rfl ?_; refine vo_step (ok_indexV L _ rfl rfl rfl rfl rfl rfl rfl (by first | omega | decide) (by assumption)) rfl ?_; refine vo_step (ok_loadPA L (vs := [_, _, _, _, _, _, _, _, _, _, _, _, _, _]) rfl rfl rfl rfl rfl ⟨_, rfl⟩) rfl ?_; refine vo_step (ok_alloc L rfl rfl rfl rfl) rfl ?_; refine vo_step (ok_store L rfl rfl rfl rfl rfl rfl rfl rfl) rfl ?_; refine vo_nil ?_; refine N_seq ?_; refine V_seq ?_; refine V_region (id := 7) ?_; refine vo_step (ok_move rfl rfl rfl) rfl ?_; refine vo_step (ok_loadA L (vs := [_, _, _, _, _, _, _, _, _, _, _, _, _, _]) (src_own rfl) rfl rfl rfl rfl ⟨_, rfl⟩) rfl ?_; refine vo_step (ok_loadA L (vs := [_, _, _, _, _, _, _, _, _, _, _, _, _, _]) (src_own rfl) rfl rfl rfl rfl ⟨_, rfl⟩) rfl ?_; refine vo_step (ok_callx L rfl rfl (blt_lt rfl) rfl rfl rfl (fun u H hH hle _ => s1_ret hfi hgi (decide_eq_false hfg) (hfv.le hle) (hgv.le hle) hH)) rfl ?_; refine vo_step (ok_not rfl rfl rfl rfl) rfl ?_; refine vo_nil ?_; refine N_seq ?_; refine V_true rfl ?_; refine V_seq ?_; refine V_region (id := 8) ?_; refine vo_step (ok_assign rfl rfl rfl) rfl ?_; refine vo_nil ?_; refine N_seq ?_
        refine V_ret L (rs := [.tmp 6]) rfl (fun _ _ h => h) Since.refl fun u H hH hle => ?_
        rfl
    · obtain rfl : r = true := by rw [← hr]; exact decide_eq_true (list_eq_of (by omega) fun j x y e1 e2 => hsm j x y (by have := get_lt e1; omega) e1 e2)
      refine V_seq ?_; refine V_region (id := 4) ?_; refine vo_step (ok_lss rfl rfl rfl rfl (decide_eq_false (by omega))) rfl ?_; refine vo_nil ?_; refine N_seq ?_; refine V_seq ?_; refine V_false rfl ?_; refine V_exit ?_; refine X_then ?_; refine X_then ?_; refine X_here ?_; refine N_seq ?_; refine V_seq ?_; refine V_region (id := 10) ?_; refine vo_step (ok_assign rfl rfl rfl) rfl ?_; refine vo_nil ?_; refine N_seq ?_
      refine V_ret L (rs := [.tmp 6]) rfl (fun _ _ h => h) Since.refl fun u H hH hle => ?_
      rfl
  · obtain rfl : r = false := by rw [← hr]; exact decide_eq_false fun e => hl (by rw [h1, h2, e])
    refine V_seq ?_; refine V_region (id := 0) ?_; refine vo_step (ok_assign rfl rfl rfl) rfl ?_; refine vo_nil ?_; refine N_seq ?_; refine V_seq ?_; refine V_seq ?_; refine V_region (id := 1) ?_; refine vo_step (ok_moves' rfl rfl rfl) rfl ?_; refine vo_step (ok_lenV L rfl rfl rfl rfl) rfl ?_; refine vo_step (ok_moves' rfl rfl rfl) rfl ?_; refine vo_step (ok_lenV L rfl rfl rfl rfl) rfl ?_; refine vo_step (ok_neq rfl rfl rfl rfl (decide_eq_true (by omega))) rfl ?_; refine vo_nil ?_; refine N_seq ?_; refine V_true rfl ?_; refine V_seq ?_; refine V_region (id := 2) ?_; refine vo_step (ok_assign rfl rfl rfl) rfl ?_; refine vo_nil ?_; refine N_seq ?_
    refine V_ret L (rs := [.tmp 6]) rfl (fun _ _ h => h) Since.refl fun u H hH hle => ?_
    rfl
theorem same_ret {t1 t2 : Tb} {zs ys : List (Fl × Value)} (hzl : zs.map Prod.fst = t1.fl) (hym : ys.map Prod.fst = t2.fl) {fu fi gu gi : Bool} {s s2 : Value} {w : World} {B : Heap} (hs : FsB zs fu fi s B) (hy : FsB ys gu gi s2 B) (hB : B.Le (hp w)) :
    Ret Try.prog 35 [tbv t1.nx s, tbv t2.nx s2] w B (fun v _ => v = .bool (decide (t1.nx = t2.nx ∧ t1.fl = t2.fl))) := by
  refine V_enter Try.func35 rfl Try.ntmps35 (Nat.le_of_ble_eq_true rfl) hB ?_
  by_cases hn : t1.nx = t2.nx
  · have e : decide (t1.nx = t2.nx ∧ t1.fl = t2.fl) = decide (t1.fl = t2.fl) := by simp [hn]
    rw [e]
    refine V_seq ?_; refine V_region (id := 0) ?_; refine vo_step (ok_box rfl rfl rfl rfl) rfl ?_; refine vo_step (ok_box rfl rfl rfl rfl) rfl ?_; refine vo_step (ok_assign rfl rfl rfl) rfl ?_; refine vo_nil ?_; refine N_seq ?_; refine V_seq ?_; refine V_region (id := 1) ?_; refine vo_step (ok_fieldAt L rfl rfl rfl rfl) rfl ?_; refine vo_step (ok_load1 L (src_at rfl) rfl rfl rfl rfl) rfl ?_; refine vo_step (ok_fieldAt L rfl rfl rfl rfl) rfl ?_; refine vo_step (ok_load1 L (src_at rfl) rfl rfl rfl rfl) rfl ?_; refine vo_step (ok_eql rfl rfl rfl rfl (decide_eq_true (by omega))) rfl ?_; refine vo_step (ok_move rfl rfl rfl) rfl ?_; refine vo_step (ok_fieldAt L rfl rfl rfl rfl) rfl ?_; refine vo_step (ok_load1 L (src_at rfl) rfl rfl rfl rfl) rfl ?_; refine vo_step (ok_fieldAt L rfl rfl rfl rfl) rfl ?_; refine vo_step (ok_load1 L (src_at rfl) rfl rfl rfl rfl) rfl ?_; refine vo_step (ok_callx L rfl rfl (blt_lt rfl) rfl rfl rfl (fun u H hH hle _ => eqF_ret hzl hym rfl (hs.le hle) (hy.le hle) hH)) rfl ?_; refine vo_step (ok_pick rfl rfl rfl rfl) rfl ?_; refine vo_step (ok_assign rfl rfl rfl) rfl ?_; refine vo_nil ?_; refine N_seq ?_
    refine V_ret L (rs := [.tmp 4]) rfl (fun _ _ h => h) Since.refl fun u H hH hle => ?_
    rfl
  · have e : decide (t1.nx = t2.nx ∧ t1.fl = t2.fl) = false := by simp [hn]
    rw [e]
    refine V_seq ?_; refine V_region (id := 0) ?_; refine vo_step (ok_box rfl rfl rfl rfl) rfl ?_; refine vo_step (ok_box rfl rfl rfl rfl) rfl ?_; refine vo_step (ok_assign rfl rfl rfl) rfl ?_; refine vo_nil ?_; refine N_seq ?_; refine V_seq ?_; refine V_region (id := 1) ?_; refine vo_step (ok_fieldAt L rfl rfl rfl rfl) rfl ?_; refine vo_step (ok_load1 L (src_at rfl) rfl rfl rfl rfl) rfl ?_; refine vo_step (ok_fieldAt L rfl rfl rfl rfl) rfl ?_; refine vo_step (ok_load1 L (src_at rfl) rfl rfl rfl rfl) rfl ?_; refine vo_step (ok_eql rfl rfl rfl rfl (decide_eq_false (by omega))) rfl ?_; refine vo_step (ok_move rfl rfl rfl) rfl ?_; refine vo_step (ok_skip rfl (blt_lt rfl) rfl) rfl ?_; refine vo_step (ok_skip rfl (blt_lt rfl) rfl) rfl ?_; refine vo_step (ok_skip rfl (blt_lt rfl) rfl) rfl ?_; refine vo_step (ok_skip rfl (blt_lt rfl) rfl) rfl ?_; refine vo_step (ok_skip rfl (blt_lt rfl) rfl) rfl ?_; refine vo_step (ok_pick rfl rfl rfl rfl) rfl ?_; refine vo_step (ok_assign rfl rfl rfl) rfl ?_; refine vo_nil ?_; refine N_seq ?_
    refine V_ret L (rs := [.tmp 4]) rfl (fun _ _ h => h) Since.refl fun u H hH hle => ?_
    rfl
/-! ### replies -/
def ucells (l : List Str2) : List Value := l.flatMap fun x => [.string x.1, .string x.2]
theorem uc_len (l : List Str2) : (ucells l).length = l.length * 2 := flatMap_len (f := fun x : Str2 => [Value.string x.1, Value.string x.2]) (s := 2) (fun _ => rfl) l
theorem uc_plain (l : List Str2) : (ucells l).all plainV = true := by
  rw [List.all_eq_true]
  intro v hv
  obtain ⟨x, _, hx⟩ := List.mem_flatMap.1 hv
  simp only [List.mem_cons, List.mem_nil_iff, or_false] at hx
  rcases hx with rfl | rfl <;> rfl
/-- A reply's cells. -/
def rpc (kd : Int) (ys : Bool) (z : It × Value) : List Value := [.int .i64 z.1.tk, .int .i64 z.1.im, .int .i64 z.1.cl, .int .u8 kd, .int .u64 z.1.rv, .bool ys, z.2, .slice none 0 0, .int .i64 0]
theorem rpc_len (kd : Int) (ys : Bool) (z : It × Value) : (rpc kd ys z).length = 9 := rfl
/-- Two slices that lie in different blocks. -/
def Apart (a b : Value) : Prop := ∀ b1 o1 k1 n1 c1 b2 o2 k2 n2 c2, a = .slice (some ⟨b1, o1, k1⟩) n1 c1 → b = .slice (some ⟨b2, o2, k2⟩) n2 c2 → b1 ≠ b2
theorem Apart.symm {a b : Value} (h : Apart a b) : Apart b a := fun b1 o1 k1 n1 c1 b2 o2 k2 n2 c2 e1 e2 => (h b2 o2 k2 n2 c2 b1 o1 k1 n1 c1 e2 e1).symm
theorem apart_of {a b : Value} {H : Heap} (ha : Lies H a) (hb : NewIn H b) : Apart a b := fun b1 o1 k1 n1 c1 b2 o2 k2 n2 c2 e1 e2 => by
  rintro rfl
  exact ha _ _ _ _ _ e1 (hb _ _ _ _ _ e2)
/-- Replies, their users apart. -/
structure RepI (B : Heap) (l : List It) (us : List Str2) (zs : List (It × Value)) (H : Heap) : Prop where
  its : zs.map Prod.fst = l
  nw : ∀ (i : Nat) z, zs[i]? = some z → SlN B tyO 2 (ucells us) us.length true z.2 H
  ap : ∀ (i j : Nat) z y, i < j → zs[i]? = some z → zs[j]? = some y → Apart z.2 y.2
theorem RepI.mono {B : Heap} {l : List It} {us : List Str2} : MonoX (RepI B l us) := fun _ _ _ h hle => ⟨h.its, fun i z hz => SlN.mono _ _ _ (h.nw i z hz) hle, h.ap⟩
theorem RepI.snoc {B : Heap} {l : List It} {us : List Str2} {zs : List (It × Value)} {H H1 : Heap} {x : It} {sl : Value} (h : RepI B l us zs H1) (hle : B.Le H1) (hH : H1.Le H) (hs : SlN H1 tyO 2 (ucells us) us.length true sl H) : RepI B (l ++ [x]) us (zs ++ [(x, sl)]) H := by
  refine ⟨by rw [List.map_append, h.its]; rfl, fun i z hz => ?_, fun i j z y hij hz hy => ?_⟩
  · rw [List.getElem?_append] at hz
    split at hz
    · exact SlN.mono _ _ _ (h.nw i z hz) hH
    · have := get_lt hz
      simp only [List.length_cons, List.length_nil] at this
      rw [show i - zs.length = 0 by omega] at hz
      cases hz
      exact SlN.le hs hle
  · have hjl := get_lt hy
    rw [List.length_append] at hjl
    simp only [List.length_cons, List.length_nil] at hjl
    rw [List.getElem?_append_left (by omega)] at hz
    rw [List.getElem?_append] at hy
    split at hy
    · exact h.ap i j z y hij hz hy
    · rw [show j - zs.length = 0 by omega] at hy
      cases hy
      exact apart_of (h.nw i z hz).lies hs.2.1
def RepR (B : Heap) (kd : Int) (ys : Bool) (l : List It) (us : List Str2) : Res := ExR (fun zs : List (It × Value) => SlR tyR 9 zs.length (zs.flatMap (rpc kd ys))) (RepI B l us) RepI.mono
/-- What Fan returns. -/
def FanP (B : Heap) (kd : Int) (ys : Bool) (l : List It) (us : List Str2) : Value → Heap → Prop := fun v H => ∃ zs, RepI B l us zs H ∧ SlN B tyR 9 (zs.flatMap (rpc kd ys)) zs.length true v H ∧ ∀ (i : Nat) z, zs[i]? = some z → Apart z.2 v
theorem FanP.mono {B : Heap} {kd : Int} {ys : Bool} {l : List It} {us : List Str2} : Kn.mono (.sat (FanP B kd ys l us)) := fun _ _ _ ⟨zs, h1, h2, h3⟩ hle => ⟨zs, RepI.mono _ _ _ h1 hle, SlN.mono _ _ _ h2 hle, h3⟩
def RepV (H1 : Heap) (kd : Int) (ys : Bool) (x : It) (us : List Str2) : Value → Heap → Prop := fun v H => ∃ sl, v = .agg (rpc kd ys (x, sl)).toArray ∧ SlN H1 tyO 2 (ucells us) us.length true sl H
theorem RepV.mono {H1 : Heap} {kd : Int} {ys : Bool} {x : It} {us : List Str2} : Kn.mono (.sat (RepV H1 kd ys x us)) := fun _ _ _ ⟨sl, h1, h2⟩ hle => ⟨sl, h1, SlN.mono _ _ _ h2 hle⟩
def RepS (H1 : Heap) (kd : Int) (ys : Bool) (x : It) (us : List Str2) : Value → Heap → Prop := fun v H => ∃ sl, SlB (rpc kd ys (x, sl)) tyR 1 v H ∧ SlN H1 tyO 2 (ucells us) us.length true sl H
theorem RepS.mono {H1 : Heap} {kd : Int} {ys : Bool} {x : It} {us : List Str2} : Kn.mono (.sat (RepS H1 kd ys x us)) := fun _ _ _ ⟨sl, h1, h2⟩ hle => ⟨sl, SlB.mono _ _ _ h1 hle, SlN.mono _ _ _ h2 hle⟩
def RepT (H1 : Heap) (kd : Int) (ys : Bool) (x : It) (us : List Str2) : List Value → Heap → Prop := fun news H => ∃ sl, news = rpc kd ys (x, sl) ∧ SlN H1 tyO 2 (ucells us) us.length true sl H
theorem RepT.mono {H1 : Heap} {kd : Int} {ys : Bool} {x : It} {us : List Str2} : MonoX (RepT H1 kd ys x us) := fun _ _ _ ⟨sl, h1, h2⟩ hle => ⟨sl, h1, SlN.mono _ _ _ h2 hle⟩
theorem reps_news {H1 : Heap} {kd : Int} {ys : Bool} {x : It} {us : List Str2} : ∀ v H, RepS H1 kd ys x us v H → ∃ news, SlB news tyR 1 v H ∧ RepT H1 kd ys x us news H ∧ news.length = 1 * 9 ∧ news.all plainV = true := fun v H ⟨sl, h1, h2⟩ => by
  obtain ⟨p, c, rfl⟩ := slv_sh h2.1
  exact ⟨_, h1, ⟨_, rfl, h2⟩, rfl, rfl⟩
theorem rep_snoc {κ : Kap} {s : Nat} {kd : Int} {ys : Bool} {r : List (It × Value)} {x : It} {sl : Value} (h : κ s = some (.own (SlR tyR 9 (r.length + 1) (r.flatMap (rpc kd ys) ++ rpc kd ys (x, sl))))) : κ s = some (.own (SlR tyR 9 (r ++ [(x, sl)]).length ((r ++ [(x, sl)]).flatMap (rpc kd ys)))) := by
  rw [h, List.flatMap_append, List.length_append]; simp
theorem rep_plain {B H : Heap} {kd : Int} {ys : Bool} {l : List It} {us : List Str2} {zs : List (It × Value)} (h : RepI B l us zs H) : (zs.flatMap (rpc kd ys)).all plainV = true := by
  rw [List.all_eq_true]
  intro v hv
  obtain ⟨z, hz, hx⟩ := List.mem_flatMap.1 hv
  obtain ⟨i, hi⟩ := List.getElem?_of_mem hz
  obtain ⟨p, c, h2⟩ := slv_sh (h.nw i z hi).1
  simp only [rpc, List.mem_cons, List.mem_nil_iff, or_false, h2] at hx
  rcases hx with rfl | rfl | rfl | rfl | rfl | rfl | rfl | rfl | rfl <;> rfl
theorem ownO1_ret {xs : List Value} {n : Nat} {fa : Bool} {a v : Value} {w : World} {B : Heap} (ha : SlV tyO 2 xs n fa a B) (px : xs.all plainV = true) (hl : n ≤ 50000) (hB : B.Le (hp w)) (hv : SlB [a] 89 1 v B) :
    Ret Try.prog 62 [v] w B (SlN B tyO 2 xs n true) := by
  have h := ownO_ret (lsts1 ha px) (by simp) (by simpa [nXs] using hl) hB hv
  have e1 : nXs [(xs, n)] = n := by simp [nXs]
  have e2 : cXs [(xs, n)] = xs := by simp [cXs]
  rw [e1, e2] at h
  exact h.toN hB
theorem ownR1_ret {xs : List Value} {n : Nat} {fa : Bool} {a v : Value} {w : World} {B : Heap} (ha : SlV tyR 9 xs n fa a B) (px : xs.all plainV = true) (hl : n ≤ 50000) (hB : B.Le (hp w)) (hv : SlB [a] 93 1 v B) :
    Ret Try.prog 63 [v] w B (SlN B tyR 9 xs n true) := by
  have h := ownR_ret (lsts1 ha px) (by simp) (by simpa [nXs] using hl) hB hv
  have e1 : nXs [(xs, n)] = n := by simp [nXs]
  have e2 : cXs [(xs, n)] = xs := by simp [cXs]
  rw [e1, e2] at h
  exact h.toN hB
/-- One slice, in a list. -/
def OneR (xs : List Value) (n : Nat) : Value → Heap → Prop := fun v H => ∃ sl fu, SlB [sl] 93 1 v H ∧ SlV tyR 9 xs n fu sl H
theorem OneR.mono {xs : List Value} {n : Nat} : Kn.mono (.sat (OneR xs n)) := fun _ _ _ ⟨sl, fu, h1, h2⟩ hle => ⟨sl, fu, SlB.mono _ _ _ h1 hle, h2.le hle⟩
set_option maxHeartbeats 2000000 in
set_option maxRecDepth 20000 in
theorem fan_ret {f : Fl} {kd : Int} {ys : Bool} {us : List Str2} {fi fuu : Bool} {sv uv : Value} {w : World} {B : Heap} (hi : IsV f.is fi sv B) (hl : f.is.length ≤ 40000) (hu : SlV tyO 2 (ucells us) us.length fuu uv B) (hul : us.length ≤ 40000) (hB : B.Le (hp w)) :
    Ret Try.prog 33 [flv f sv, .int .u8 kd, .bool ys, uv] w B (FanP B kd ys f.is us) := by
  obtain ⟨pu, cu, hue⟩ := slv_sh hu
  subst hue
  have hup := uc_plain us
  refine V_enter Try.func33 rfl Try.ntmps33 (Nat.le_of_ble_eq_true rfl) hB ?_
  refine V_seq ?_; refine V_region (id := 0) ?_; refine vo_step (ok_box rfl rfl rfl rfl) rfl ?_; refine vo_step (ok_assign rfl rfl rfl) rfl ?_; refine vo_nil ?_; refine N_seq ?_; refine V_seq ?_; refine V_region (id := 1) ?_; refine vo_step (ok_assign rfl rfl rfl) rfl ?_; refine vo_nil ?_; refine N_seq ?_; refine V_seq ?_; refine V_seq ?_; refine V_region (id := 2) ?_; refine vo_step (ok_fieldAt L rfl rfl rfl rfl) rfl ?_; refine vo_step (StepOK.seeV (ok_load1 L (src_at rfl) rfl rfl rfl rfl) (by assumption)) rfl ?_; refine vo_step (ok_lenV L rfl rfl rfl rfl) rfl ?_; refine vo_step (ok_move rfl rfl rfl) rfl ?_; refine vo_nil ?_; refine N_seq ?_; refine V_block ?_
  refine V_nilR 9 tyR 9 rfl ?_
  refine V_clsX 9 (r := fun zs : List (It × Value) => SlR tyR 9 zs.length (zs.flatMap (rpc kd ys))) (RepI.mono (B := B) (l := f.is.take 0) (us := us)) [] ⟨rfl, fun i z hz => (by cases hz), fun i j z y _ hz => (by cases hz)⟩ rfl ?_
  refine V_loop (fun k : Nat => [(1, .is (.int .u8 kd)), (2, .is (.bool ys)), (3, .is (.slice pu us.length cu)), (9, .own (RepR B kd ys (f.is.take k) us)), (13, .sat (IsV f.is fi)), (14, .is (.int .i64 f.is.length)), (15, .is (.int .i64 k))]) (fun k => k ≤ f.is.length) (fun k => f.is.length - k) 0 (Nat.zero_le _) ⟨rfl, rfl, rfl, rfl, rfl, rfl, rfl, trivial⟩ ?_
  rintro k hk
  refine V_opnX 9 rfl fun zs H1 s1 hz => ?_
  have hzl : zs.length = k := by have := congrArg List.length hz.its; rw [List.length_map, List.length_take] at this; omega
  have hu1 := hu.le s1.le
  by_cases hlt : k < f.is.length
  · obtain ⟨x, hx⟩ := get_some hlt
    have hc := it_at hx
    refine V_seq ?_; refine V_region (id := 3) ?_; refine vo_step (ok_lss rfl rfl rfl rfl (decide_eq_true (by omega))) rfl ?_; refine vo_nil ?_; refine N_seq ?_; refine V_seq ?_; refine V_true rfl ?_; refine V_skip ?_; refine N_seq ?_; refine V_seq ?_; refine V_block ?_; refine V_seq ?_; refine V_region (id := 4) ?_; refine vo_step (ok_indexV L _ rfl rfl rfl rfl rfl rfl rfl (by first | omega | decide) (by assumption)) rfl ?_; refine vo_step (ok_loadPA L (vs := [_, _, _, _, _]) rfl rfl rfl rfl rfl ⟨_, rfl⟩) rfl ?_; refine vo_step (ok_alloc L rfl rfl rfl rfl) rfl ?_; refine vo_step (ok_store L rfl rfl rfl rfl rfl rfl rfl rfl) rfl ?_; refine vo_nil ?_; refine N_seq ?_
    refine V_pub 11 rfl ?_
    refine V_regionD (id := 5) [(19, [9]), (35, [19]), (9, [35])] mixed (by kernel_rfl) ?_; refine par_step2 (ok_moveO (.inl rfl) rfl rfl rfl rfl) rfl rfl ?_; refine par_step (ok_fieldAt L rfl rfl rfl rfl) rfl ?_; refine par_step (ok_load1 L (src_at rfl) rfl rfl rfl rfl) rfl ?_; refine par_step (ok_fieldAt L rfl rfl rfl rfl) rfl ?_; refine par_step (ok_load1 L (src_at rfl) rfl rfl rfl rfl) rfl ?_; refine par_step (ok_fieldAt L rfl rfl rfl rfl) rfl ?_; refine par_step (ok_load1 L (src_at rfl) rfl rfl rfl rfl) rfl ?_; refine par_step (ok_move rfl rfl rfl) rfl ?_; refine par_step (ok_fieldAt L rfl rfl rfl rfl) rfl ?_; refine par_step (ok_load1 L (src_at rfl) rfl rfl rfl rfl) rfl ?_; refine par_step (ok_move rfl rfl rfl) rfl ?_; refine par_step (ok_move rfl rfl rfl) rfl ?_; refine par_step (ok_buildSlice L rfl rfl rfl rfl rfl rfl rfl rfl rfl) rfl ?_; refine par_step (ok_call (φ := SlN H1 tyO 2 (ucells us) us.length true) L rfl rfl (blt_lt rfl) rfl rfl rfl SlN.mono (fun u H hH hle _ v hv => Ret.mono (ownO1_ret (hu1.le hle) hup (by omega) hH hv) fun v H' _ h => SlN.le h hle)) rfl ?_; refine par_step (ok_buildS rfl rfl pl98 (RepV.mono (H1 := H1) (kd := kd) (ys := ys) (x := x) (us := us)) (fun H hle v hv => by obtain ⟨p', c', rfl⟩ := slv_sh hv.1; exact ⟨_, rfl, _, rfl, hv⟩)) rfl ?_; refine par_step (ok_buildSliceS L (RepS H1 kd ys x us) rfl rfl rfl rfl rfl rfl rfl RepS.mono (fun H hle v hv => by obtain ⟨sl, rfl, hsl⟩ := hv; obtain ⟨p', c', rfl⟩ := slv_sh hsl.1; exact ⟨rfl, fun v2 H2 hle2 h2 => ⟨_, h2, SlN.mono _ _ _ hsl hle2⟩⟩)) rfl ?_; refine par_step2 (ok_appendS L (m := 1) (RepT H1 kd ys x us) RepT.mono rfl rfl rfl rfl reps_news rfl el98 (by omega) (by omega)) rfl rfl ?_; refine par_step2 (ok_moveO (.inr rfl) rfl rfl rfl rfl) rfl rfl ?_; refine par_nil ?_; refine N_block ?_; refine N_seq ?_; refine V_region (id := 6) ?_; refine vo_step (ok_add rfl rfl rfl rfl (wrap_i64 (by omega) (by omega))) rfl ?_; refine vo_step (ok_move rfl rfl rfl) rfl ?_; refine vo_nil ?_
    refine N_opnX 9 rfl fun news H2 s2 ⟨sl, hne, hsl⟩ => ?_
    subst hne
    refine N_clsX 9 (r := fun zs : List (It × Value) => SlR tyR 9 zs.length (zs.flatMap (rpc kd ys))) (RepI.mono (B := B) (l := f.is.take (k + 1)) (us := us)) (zs ++ [(x, sl)]) (by rw [take_snoc hx]; exact hz.snoc s1.le s2.le hsl) (rep_snoc rfl) ?_
    exact N_roundS (x := k) (k + 1) (s1.trans s2) hlt (by omega) ⟨rfl, rfl, rfl, rfl, rfl, rfl, rfl, trivial⟩
  · obtain rfl : k = f.is.length := by omega
    rw [List.take_length] at hz
    have hrp := rep_plain (kd := kd) (ys := ys) hz
    refine V_pubR 9 rfl ?_
    refine V_seq ?_; refine V_region (id := 3) ?_; refine vo_step (ok_lss rfl rfl rfl rfl (decide_eq_false (by omega))) rfl ?_; refine vo_nil ?_; refine N_seq ?_; refine V_seq ?_; refine V_false rfl ?_; refine V_exit ?_; refine X_then ?_; refine X_then ?_; refine X_here ?_; refine N_seq ?_; refine V_seq ?_; refine V_region (id := 7) ?_; refine vo_step (ok_moves' rfl rfl rfl) rfl ?_; refine vo_step (ok_buildSliceS L (OneR (zs.flatMap (rpc kd ys)) zs.length) rfl rfl rfl rfl rfl rfl rfl OneR.mono (fun H hle v hv => by obtain ⟨p', c', rfl⟩ := slv_sh hv; exact ⟨rfl, fun v2 H2 hle2 h2 => ⟨_, _, h2, hv.le hle2⟩⟩)) rfl ?_; refine vo_step (ok_call (φ := SlN H1 tyR 9 (zs.flatMap (rpc kd ys)) zs.length true) L rfl rfl (blt_lt rfl) rfl rfl rfl SlN.mono (fun u H hH hle _ v hv => by obtain ⟨sl, fa, h1, h2⟩ := hv; exact Ret.mono (ownR1_ret h2 hrp (by omega) hH h1) fun v H' _ h => SlN.le h hle)) rfl ?_; refine vo_step (ok_assigns' rfl rfl rfl) rfl ?_; refine vo_nil ?_; refine N_seq ?_
    refine V_ret L (rs := [.tmp 8]) rfl (fun _ _ h => h) s1 fun u H hH hle => ?_
    exact fun v hv => ⟨zs, RepI.mono _ _ _ hz hle, SlN.le hv s1.le, fun i z hzi => apart_of (hz.nw i z hzi).lies hv.2.1⟩
end Go.V.L39
/- The walks of the definition of names. -/
namespace Go.V
open Go.Proofs Go.RowKit
attribute [local irreducible] V N X VO Par StepOK Has Ret RetL Src
end Go.V
/- The walks of the reference of flights (chapter 39): what is read. (Printed by mkref39.py.) -/
namespace Go.V.L39
open Go.Proofs Go.RowKit Go.V
attribute [local irreducible] V N X VO Par StepOK Has Ret RetL RetO RetT RetG Src
theorem ritems_ret {nx : Int} {l : List Fl} {zs : List (Fl × Value)} (hz : zs.map Prod.fst = l) {fu fi : Bool} {s : Value} {w : World} {B : Heap} (hs : FsB zs fu fi s B) (hn : itsN l ≤ 9223372036854775807) (hB : B.Le (hp w)) :
    Ret Try.prog 27 [tbv nx s] w B (fun v _ => v = .int .i64 (itsN l)) := by
  have hsl := hs.sl
  have hlen := fls_len hz
  have hzl := hs.ln
  refine V_enter Try.func27 rfl Try.ntmps27 (Nat.le_of_ble_eq_true rfl) hB ?_
  refine V_seq ?_; refine V_region (id := 0) ?_; refine vo_step (ok_box rfl rfl rfl rfl) rfl ?_; refine vo_step (ok_assign rfl rfl rfl) rfl ?_; refine vo_nil ?_; refine N_seq ?_; refine V_seq ?_; refine V_region (id := 1) ?_; refine vo_step (ok_assign rfl rfl rfl) rfl ?_; refine vo_nil ?_; refine N_seq ?_; refine V_seq ?_; refine V_seq ?_; refine V_region (id := 2) ?_; refine vo_step (ok_assign rfl rfl rfl) rfl ?_; refine vo_nil ?_; refine N_seq ?_; refine V_block ?_
  refine V_loop (fun i : Nat => [(1, .sat (At [.int .i64 nx, s] tyT 0)), (3, .is (.int .i64 (itsN (l.take i)))), (4, .is (.int .i64 i))]) (fun i => i ≤ zs.length) (fun i => zs.length - i) 0 (Nat.zero_le _) ⟨rfl, rfl, rfl, trivial⟩ ?_
  rintro i hi
  by_cases hlt : i < zs.length
  · obtain ⟨f, p, c, hzi, hli, hzv, hil, hc⟩ := hs.at hz hlt
    have h1 := itsN_take hli
    have h2 := itsN_le l (i + 1)
    have had : IntKind.i64.wrap ((itsN (l.take i) : Int) + (f.is.length : Int)) = (itsN (l.take (i + 1)) : Int) := wrap_i64 (by omega) (by omega) |>.trans (by omega)
    refine V_seq ?_; refine V_seq ?_; refine V_region (id := 3) ?_; refine vo_step (ok_move rfl rfl rfl) rfl ?_; refine vo_step (ok_fieldAt L rfl rfl rfl rfl) rfl ?_; refine vo_step (StepOK.seeV (ok_load1 L (src_at rfl) rfl rfl rfl rfl) (by assumption)) rfl ?_; refine vo_step (ok_lenV L rfl rfl rfl rfl) rfl ?_; refine vo_step (ok_lss rfl rfl rfl rfl (decide_eq_true (by omega))) rfl ?_; refine vo_nil ?_; refine N_seq ?_; refine V_true rfl ?_; refine V_skip ?_; refine N_seq ?_; refine V_seq ?_; refine V_block ?_; refine V_region (id := 5) ?_; refine vo_step (ok_move rfl rfl rfl) rfl ?_; refine vo_step (ok_fieldAt L rfl rfl rfl rfl) rfl ?_; refine vo_step (StepOK.seeV (ok_load1 L (src_at rfl) rfl rfl rfl rfl) (by assumption)) rfl ?_; refine vo_step (ok_move rfl rfl rfl) rfl ?_; refine vo_step (ok_indexV L _ rfl rfl rfl rfl rfl rfl rfl (by first | omega | decide) (by assumption)) rfl ?_; refine vo_step (ok_fieldAP L rfl rfl rfl rfl) rfl ?_; refine vo_step (ok_loadP1 L rfl rfl rfl rfl rfl) rfl ?_; refine vo_step (ok_lenL L rfl rfl rfl rfl) rfl ?_; refine vo_step (ok_add rfl rfl rfl rfl (by assumption)) rfl ?_; refine vo_step (ok_assign rfl rfl rfl) rfl ?_; refine vo_nil ?_; refine N_block ?_; refine N_seq ?_; refine V_region (id := 4) ?_; refine vo_step (ok_move rfl rfl rfl) rfl ?_; refine vo_step (ok_add rfl rfl rfl rfl (wrap_i64 (by omega) (by omega))) rfl ?_; refine vo_step (ok_assign rfl rfl rfl) rfl ?_; refine vo_nil ?_
    exact N_round (x := i) (i + 1) hlt (by omega) ⟨rfl, rfl, rfl, trivial⟩
  · obtain rfl : i = zs.length := by omega
    rw [hlen, List.take_length]
    refine V_seq ?_; refine V_seq ?_; refine V_region (id := 3) ?_; refine vo_step (ok_move rfl rfl rfl) rfl ?_; refine vo_step (ok_fieldAt L rfl rfl rfl rfl) rfl ?_; refine vo_step (StepOK.seeV (ok_load1 L (src_at rfl) rfl rfl rfl rfl) (by assumption)) rfl ?_; refine vo_step (ok_lenV L rfl rfl rfl rfl) rfl ?_; refine vo_step (ok_lss rfl rfl rfl rfl (decide_eq_false (by omega))) rfl ?_; refine vo_nil ?_; refine N_seq ?_; refine V_false rfl ?_; refine V_exit ?_; refine X_then ?_; refine X_then ?_; refine X_here ?_; refine N_seq ?_; refine V_seq ?_; refine V_region (id := 6) ?_; refine vo_step (ok_move rfl rfl rfl) rfl ?_; refine vo_step (ok_assign rfl rfl rfl) rfl ?_; refine vo_nil ?_; refine N_seq ?_
    refine V_ret L (rs := [.tmp 2]) rfl (fun _ _ h => h) Since.refl fun u H hH hle => ?_
    rfl
end Go.V.L39
/- The kit's floor of slices with room that are shown, and taken back. -/
namespace Go.V
open Go.Proofs Go.RowKit
/-- A slice that is seen, alone in its block. -/
def SlW (e : TypeId) (s n : Nat) (xs : List Value) : Value → Heap → Prop := fun v H => xs.length = n * s ∧ ((n = 0 ∧ v = .slice none 0 0) ∨ ∃ b cap rest, v = .slice (some ⟨b, 0, none⟩) n cap ∧ H b = some (.cells (xs ++ rest).toArray e) ∧ n ≤ cap ∧ cap ≤ maxLen ∧ (xs ++ rest).length = cap * s)
theorem SlW.mono {e : TypeId} {s n : Nat} {xs : List Value} : Kn.mono (.sat (SlW e s n xs)) := fun _ _ _ ⟨hl, h⟩ hle => ⟨hl, h.imp id fun ⟨b, cap, rest, h1, h2, h3⟩ => ⟨b, cap, rest, h1, hle _ _ h2, h3⟩⟩
/-- .. in a block that was not seen. -/
def SlWN (B : Heap) (e : TypeId) (s n : Nat) (xs : List Value) : Value → Heap → Prop := fun v H => SlW e s n xs v H ∧ NewIn B v
theorem SlWN.mono {B : Heap} {e : TypeId} {s n : Nat} {xs : List Value} : Kn.mono (.sat (SlWN B e s n xs)) := fun _ _ _ h hle => ⟨SlW.mono _ _ _ h.1 hle, h.2⟩
theorem SlW.toV {e : TypeId} {s n : Nat} {xs : List Value} {v : Value} {H : Heap} (h : SlW e s n xs v H) : SlV e s xs n false v H := ⟨h.1, by
  rcases h.2 with ⟨h1, h2⟩ | ⟨b, cap, rest, h1, h2, h3, _, _⟩
  · exact .inl ⟨h1, _, h2⟩
  · exact .inr ⟨b, 0, cap, _, _, (0, 0), h1, h2, by show ((xs ++ rest).drop 0).take xs.length = _; rw [List.drop_zero, List.take_left], h3, fun h => by cases h⟩⟩
section
variable {P : Program} {F : Fr} {B : Heap} {O : Boxes} {n : Nat} {ops : Array Oper} {κ : Kap} {d : Nat} {ty : TypeId} {pos : String} {aft : Array Edge} {g : Option (Nat × Bool)} {os : List Oper} {Q : Exit → Act → World → Prop}
/-- A fact is set down, to be kept. -/
theorem Has.fact {t : Nat} {φ : Heap → Prop} {a : Act} {u : World} (hm : ∀ H H', φ H → H.Le H' → φ H') (hφ : φ B) (hh : Has F B O n κ a u) : Has F B O n (upd κ t (.sat fun _ H => φ H)) a u := by
  obtain ⟨H, fp, hh⟩ := hh
  exact ⟨H, fp, hh.setSat (fun _ _ _ h hle => hm _ _ h hle) (hm _ _ hφ hh.base)⟩
/-- What is owned does not lean on what is seen. -/
def HFree : Kn → Prop
  | .is _ => True
  | .sat _ => False
  | .own r => ∀ v H H' u C, r.P v H u C → r.P v H' u C
/-- The heap without some blocks. -/
def Heap.off (B : Heap) (S : List (Nat × List Value × TypeId)) : Heap := fun k => if ∃ y ∈ S, y.1 = k then none else B k
theorem Heap.off_le {B : Heap} {S : List (Nat × List Value × TypeId)} : (B.off S).Le B := fun k v h => by
  unfold Heap.off at h
  split at h
  · cases h
  · exact h
theorem Heap.le_off {B0 B : Heap} {S : List (Nat × List Value × TypeId)} (h : B0.Le B) (hS : ∀ y ∈ S, B0 y.1 = none) : B0.Le (B.off S) := fun k v hv => by
  unfold Heap.off
  rw [if_neg]
  · exact h _ _ hv
  · rintro ⟨y, hy, rfl⟩
    rw [hS y hy] at hv; cases hv
/-- Blocks that are seen, and were not seen once, are owned again. -/
theorem V_unpub {B0 : Heap} {κ1 : Kap} (q : Nat) (S : List (Nat × List Value × TypeId)) {c : Code} (hs0 : Since F B0 B) (hS : ∀ y ∈ S, B y.1 = some (.cells y.2.1.toArray y.2.2) ∧ B0 y.1 = none) (hk : ∀ t k, κ1 t = some k → κ t = some k ∧ HFree k)
    (h : V P F (B.off S) n O (upd κ1 q (.own (HeldL S))) c Q) : V P F B n O κ c Q := fun a u hh => by
  obtain ⟨H, fp, hh⟩ := hh
  have hle : (B.off S).Le H := Heap.off_le.trans hh.base
  have hnew : ∀ y ∈ S, F.w0.heap.size ≤ y.1 ∨ F.L y.1 := fun y hy => by
    obtain ⟨h1, h2⟩ := hS y hy
    rcases Nat.lt_or_ge y.1 F.w0.heap.size with h3 | h3
    · refine .inr (Classical.byContradiction fun hL => ?_)
      have := hs0.fresh y.1 h3 hL
      rw [h1, h2] at this
      cases this
    · exact .inl h3
  have hsin : Since F (B.off S) B := ⟨Heap.off_le, fun k hk hl => by
    unfold Heap.off
    rw [if_neg]
    rintro ⟨y, hy, rfl⟩
    rcases hnew y hy with h1 | h1
    · omega
    · exact hl h1⟩
  have hbx : ∀ y ∈ O, u.heap[y.1]? = some y.2 ∧ (B.off S) y.1 = none ∧ (F.w0.heap.size ≤ y.1 ∨ F.L y.1) := fun y hy => by
    obtain ⟨g1, g2, g3⟩ := hh.boxes y hy
    refine ⟨g1, ?_, g3⟩
    cases hx : (B.off S) y.1 with
    | none => rfl
    | some z => rw [hle _ _ hx] at g2; cases g2
  have hsl : ∀ t k, κ1 t = some k → k.holds F O u (B.off S) (fp t) (a.eval (.tmp t)) := fun t k hkt => by
    obtain ⟨g1, g2⟩ := hk t k hkt
    cases k with
    | is x => exact hh.slot t _ g1
    | sat _ => exact g2.elim
    | own r =>
      obtain ⟨p1, p2⟩ := hh.slot t _ g1
      refine ⟨g2 _ _ _ _ _ p1, fun k hk' => ?_⟩
      obtain ⟨m1, m2, m3, m4⟩ := p2 k hk'
      refine ⟨m1, ?_, m3, m4⟩
      cases hx : (B.off S) k with
      | none => rfl
      | some z => rw [hle _ _ hx] at m2; cases m2
  have h1 : HasH F (B.off S) O n κ1 a u (B.off S) fp := ⟨hh.size, hh.defers, hh.nodup, hh.marks, hh.lent, hh.keep, hle.trans hh.sub, Heap.Le.refl _, fun _ _ _ => rfl, hbx, hh.apart, hsl, fun s t r r' hst g1 g2 k f1 f2 => hh.owns s t r r' hst (hk s _ g1).1 (hk t _ g2).1 k f1 f2, fun t k hkt => hh.mono t k (hk t k hkt).1⟩
  refine h a u ⟨B.off S, _, h1.putR (C := fun k => ∃ y ∈ S, y.1 = k) (a' := a) rfl rfl (fun _ _ => rfl) ⟨fun y hy => (hh.base.trans hh.sub) _ _ (hS y hy).1, fun _ => Iff.rfl⟩ (fun k hk' => ?_) fun t r' _ ht k hf hc => ?_⟩
  · obtain ⟨y, hy, rfl⟩ := hk'
    have hH := hh.base _ _ (hS y hy).1
    refine ⟨hh.sub.size hH, ?_, hnew y hy, fun z hz e => ?_⟩
    · unfold Heap.off; rw [if_pos ⟨y, hy, rfl⟩]
    · rw [← e, (hh.boxes z hz).2.1] at hH; cases hH
  · obtain ⟨y, hy, rfl⟩ := hc
    obtain ⟨g1, _⟩ := hk t _ ht
    have hH := hh.base _ _ (hS y hy).1
    have := ((hh.slot t _ g1).2 y.1 hf).2.1
    rw [hH] at this; cases this
end
/-- A slice is seen without blocks that it does not lie in. -/
theorem SlV.off {B : Heap} {S : List (Nat × List Value × TypeId)} {e : TypeId} {s n : Nat} {xs : List Value} {fu : Bool} {v : Value} (h : SlV e s xs n fu v B) (hS : ∀ y ∈ S, ∀ b o k m c, v = .slice (some ⟨b, o, k⟩) m c → y.1 ≠ b) : SlV e s xs n fu v (B.off S) := ⟨h.1, by
  rcases h.2 with h | ⟨b, off, cap, cs, ty0, fr, hv, hb, h3⟩
  · exact .inl h
  · refine .inr ⟨b, off, cap, cs, ty0, fr, hv, ?_, h3⟩
    unfold Heap.off
    rw [if_neg]
    · exact hb
    · rintro ⟨y, hy, rfl⟩
      exact hS y hy _ _ _ _ _ hv rfl⟩
theorem hfree_of {κ : Kap} : ∀ {l : List (Nat × Kn)}, LiveOK l κ → (∀ p ∈ l, HFree p.2) → ∀ t k, ofL l t = some k → κ t = some k ∧ HFree k
  | [], _, _, _, _, h => by cases h
  | (s, k') :: l, hl, hf, t, k, h => by
    unfold ofL at h
    by_cases hst : t = s
    · subst hst; rw [upd_same] at h; cases h; exact ⟨hl.1, hf _ (List.mem_cons_self ..)⟩
    · rw [upd_other _ _ hst] at h; exact hfree_of hl.2 (fun p hp => hf p (List.mem_cons_of_mem _ hp)) t k h
theorem since_off {F : Fr} {B0 B : Heap} {S : List (Nat × List Value × TypeId)} (hs : Since F B0 B) (hS : ∀ y ∈ S, B0 y.1 = none) : Since F B0 (B.off S) := ⟨Heap.le_off hs.le hS, fun k hk hl => by
  unfold Heap.off
  split
  · rename_i h
    obtain ⟨y, hy, rfl⟩ := h
    exact (hS y hy).symm
  · exact hs.fresh k hk hl⟩
theorem SlW.lies {e : TypeId} {s n : Nat} {xs : List Value} {v : Value} {H : Heap} (h : SlW e s n xs v H) : Lies H v := fun b o k m c hv hn => by
  rcases h.2 with ⟨_, h1⟩ | ⟨b', cap, rest, h1, h2, _⟩
  · rw [hv] at h1; cases h1
  · rw [hv] at h1; cases h1; rw [h2] at hn; cases hn
end Go.V
/- The walks of the reference of flights (chapter 39): a copy, a quantum more. (Printed by mkref39b.py.) -/
namespace Go.V.L39
open Go.Proofs Go.RowKit Go.V
/-- Items in new memory, apart from one another. -/
structure CpyI (B : Heap) (l : List Fl) (zs : List (Fl × Value)) (H : Heap) : Prop where
  fl : zs.map Prod.fst = l
  it : ∀ (i : Nat) z, zs[i]? = some z → SlW tyI 5 z.1.is.length (z.1.is.flatMap itc) z.2 H ∧ NewIn B z.2
  ap : ∀ (i j : Nat) z y, i < j → zs[i]? = some z → zs[j]? = some y → Apart z.2 y.2
theorem CpyI.mono {B : Heap} {l : List Fl} {zs : List (Fl × Value)} : ∀ H H', CpyI B l zs H → H.Le H' → CpyI B l zs H' := fun _ _ h hle => ⟨h.fl, fun i z hz => ⟨SlW.mono _ _ _ (h.it i z hz).1 hle, (h.it i z hz).2⟩, h.ap⟩
theorem CpyI.nil {B H : Heap} {l : List Fl} : CpyI B (l.take 0) [] H := ⟨rfl, fun i z hz => (by cases hz), fun i j z y _ hz => (by cases hz)⟩
theorem CpyI.snoc {B H1 H : Heap} {l : List Fl} {zs : List (Fl × Value)} {f : Fl} {y : Value} (h : CpyI B l zs H1) (hle : B.Le H1) (hH : H1.Le H) (hy : SlW tyI 5 f.is.length (f.is.flatMap itc) y H) (hn : NewIn H1 y) : CpyI B (l ++ [f]) (zs ++ [(f, y)]) H := by
  refine ⟨by rw [List.map_append, h.fl]; rfl, fun i z hz => ?_, fun i j z y' hij hz hy' => ?_⟩
  · rw [List.getElem?_append] at hz
    split at hz
    · exact ⟨SlW.mono _ _ _ (h.it i z hz).1 hH, (h.it i z hz).2⟩
    · have := get_lt hz
      simp only [List.length_cons, List.length_nil] at this
      rw [show i - zs.length = 0 by omega] at hz
      cases hz
      exact ⟨hy, hn.le hle⟩
  · have hjl := get_lt hy'
    rw [List.length_append] at hjl
    simp only [List.length_cons, List.length_nil] at hjl
    rw [List.getElem?_append_left (by omega)] at hz
    rw [List.getElem?_append] at hy'
    split at hy'
    · exact h.ap i j z y' hij hz hy'
    · rw [show j - zs.length = 0 by omega] at hy'
      cases hy'
      exact apart_of (h.it i z hz).1.lies hn
/-- Flights in new memory. -/
structure CpyF (B : Heap) (l : List Fl) (zs : List (Fl × Value)) (s : Value) (H : Heap) : Prop extends CpyI B l zs H where
  fs : SlW tyF 14 zs.length (zs.flatMap flc) s H
  nf : NewIn B s
  af : ∀ (i : Nat) z, zs[i]? = some z → Apart z.2 s
theorem CpyF.mono {B : Heap} {l : List Fl} {zs : List (Fl × Value)} {s : Value} : ∀ H H', CpyF B l zs s H → H.Le H' → CpyF B l zs s H' := fun _ _ h hle => ⟨CpyI.mono _ _ h.toCpyI hle, SlW.mono _ _ _ h.fs hle, h.nf, h.af⟩
theorem CpyF.le {B B' : Heap} {l : List Fl} {zs : List (Fl × Value)} {s : Value} {H : Heap} (h : CpyF B' l zs s H) (hle : B.Le B') : CpyF B l zs s H := ⟨⟨h.fl, fun i z hz => ⟨(h.it i z hz).1, (h.it i z hz).2.le hle⟩, h.ap⟩, h.fs, h.nf.le hle, h.af⟩
def CopyP (B : Heap) (t : Tb) : Value → Heap → Prop := fun v H => ∃ zs s, v = tbv t.nx s ∧ CpyF B t.fl zs s H
theorem CopyP.mono {B : Heap} {t : Tb} : Kn.mono (.sat (CopyP B t)) := fun _ _ _ ⟨zs, s, h1, h2⟩ hle => ⟨zs, s, h1, CpyF.mono _ _ h2 hle⟩
theorem CpyF.toB {B : Heap} {l : List Fl} {zs : List (Fl × Value)} {s : Value} {H : Heap} (h : CpyF B l zs s H) (hl : zs.length ≤ 100000) (hli : ∀ f ∈ l, f.is.length ≤ 4611686018427387904) : FsB zs false false s H :=
  ⟨h.fs.toV, fun i z hz => (h.it i z hz).1.toV, hl, fun _ z hz => hli z.1 (fls_mem (fls_get h.fl hz))⟩
attribute [local irreducible] V N X VO Par StepOK Has Ret RetL RetO RetT RetG Src
end Go.V.L39
/- The walks of the reference of flights (chapter 39): a quantum more. (Printed by mkref39c.py.) -/
namespace Go.V.L39
open Go.Proofs Go.RowKit Go.V
/-- A table that is seen. -/
def TbR (t : Tb) (tv : Value) (H : Heap) : Prop := ∃ zs s, tv = tbv t.nx s ∧ zs.map Prod.fst = t.fl ∧ FsB zs false false s H
theorem TbR.mono {t : Tb} {tv : Value} {H H' : Heap} (h : TbR t tv H) (hle : H.Le H') : TbR t tv H' := let ⟨zs, s, h1, h2, h3⟩ := h; ⟨zs, s, h1, h2, h3.le hle⟩
def RTabP (t : Tb) (e : Int) : Value → Heap → Prop := fun v H => ∃ tv, v = .tuple #[tv, .int .i64 e] ∧ TbR t tv H
theorem RTabP.mono {t : Tb} {e : Int} : Kn.mono (.sat (RTabP t e)) := fun _ _ _ ⟨tv, h1, h2⟩ hle => ⟨tv, h1, h2.mono hle⟩
attribute [local irreducible] V N X VO Par StepOK Has Ret RetL RetO RetT RetG Src
end Go.V.L39
/- The kit's floor of calls that work in place and return what is known. -/
namespace Go.V
open Go.Proofs Go.RowKit
/-- What a function does to what it was lent, and what it returns. -/
def RetX (P : Program) (f : FuncId) (args : List Value) (w : World) (B : Heap) (C : Nat → Prop) (r : GR) (v : Value) : Prop :=
  RetL P f args w B C fun x H u => x = v ∧ ∃ C', r.P H u C' ∧ ∀ k, C' k → (C k ∨ w.heap.size ≤ k) ∧ k < u.heap.size ∧ H k = none
section
variable {P : Program} {F : Fr} {B : Heap} {O : Boxes} {n : Nat} {ops : Array Oper} {κ : Kap} {d : Nat} {ty : TypeId} {pos : String} {aft : Array Edge} {g : Option (Nat × Bool)} {Q : Exit → Act → World → Prop}
theorem ok_callXG (L : Tabs P) (q : Nat) (r' : GR) (v : Value) {r : GR} {f : Nat} {args : Array Operand} {at_ : Array TypeId} {cap : List Value} {fo : Operand}
    (hn : Nat.blt d n = true) (hg : gK ops κ ⟨some d, .call { callee := .value fo, args := args, argTypes := at_ }, ty, pos, aft, g⟩ = some true)
    (hf : evK κ fo = some (.func (.func f) #[] cap.toArray)) (hfn : L.fn f = some ()) (hq : κ q = some (.own r.res))
    (h : ∀ u H C, H.Le (hp u) → B.Le H → r.P H u C → (∀ k, C k → k < u.heap.size ∧ H k = none) → Args κ H args.toList [] (fun vs => RetX P f (vs ++ cap) u H C r' v)) :
    StepOK2 P F B n ops O κ ⟨some d, .call { callee := .value fo, args := args, argTypes := at_ }, ty, pos, aft, g⟩ q (.own r'.res) d (.is v) := by
  rintro κ' a u hlk hks ⟨H, fp, hh⟩
  unfold After
  rw [if_pos (wanted_gK hh hlk hg)]
  have hk' : κ' q = some (.own r.res) := hks.trans hq
  obtain ⟨hown, hM⟩ := hh.slot q _ hk'
  have e2 := hh.env hlk
  have hfe : a.eval fo = .func (.func f) #[] cap.toArray := e2.is_ fo _ (by simp [Op.operands, Call.operands]) hf
  have hc := Args.use e2 args.toList [] (fun x hx => by simp [Op.operands, Call.operands] at hx ⊢; exact .inr hx) (h u H (fp q) hh.sub hh.base hown fun k hk => ⟨(hM k hk).1, (hM k hk).2.1⟩)
  simp only [List.reverse_nil, List.nil_append] at hc
  rw [run_call L rfl hfe hfn]
  simp only [Upon]
  refine Calls.mono hc fun e' u' hp => ?_
  obtain ⟨x, rfl, H', g', hx, C', hv, hC'⟩ := hp
  have h2 := hh.usePut (d := q) (a' := a) (r' := r'.res) hk' g' rfl rfl (fun _ _ => rfl) hv hC'
  rw [upd_upd] at h2
  exact ⟨x, rfl, H', _, h2.put (k := .is v) (blt_lt hn) trivial hx⟩
/-- A function ends that worked in place. -/
theorem V_retX (L : Tabs P) {fn : Func} {B0 : Heap} (gs : Nat) {r r' : GR} {rs : List ResultVar} {v : Value} (hrs : fn.results = rs.toArray)
    (hQ : ∀ a u, bodyPostM Fence.wide 0 P fn (PostL F.w0 B0 F.L fun x H u => x = v ∧ ∃ C', r'.P H u C' ∧ ∀ k, C' k → (F.L k ∨ F.w0.heap.size ≤ k) ∧ k < u.heap.size ∧ H k = none) .ret a u → Q .ret a u) (hs : Since F B0 B) (hk : κ gs = some (.own r.res)) (e : r = r')
    (h : ∀ H, ResK L F B O κ H rs [] (fun vs => tup vs = v)) (hd : F.ds = [] := by rfl) : V P F B n O κ .ret Q := fun a u hh => by
  obtain ⟨H, fp, hH⟩ := hh
  refine wpIn_ret (hQ a u ?_)
  have h0 := hH.defers
  rw [hd] at h0
  show LeavesInM _ _ _ _ _ _ a.defers _ _
  rw [h0]
  subst e
  obtain ⟨vs, h1, h2⟩ := results_run L hH hrs (h H)
  obtain ⟨C', h3, h4⟩ := HasH.ghost hk hH
  exact ⟨_, h1, _, rfl, H, ⟨hH.keep, hH.sub, hs.le.trans hH.base, fun k hk hl => (hH.fresh k hk hl).trans (hs.fresh k hk hl)⟩, h2, C', h3, h4⟩
theorem ok_shl {t t' : TypeId} {x y : Operand} {k k2 : IntKind} {p q r : Int} (hn : Nat.blt d n = true) (hg : gK ops κ ⟨some d, .binOp .shl t x y t', ty, pos, aft, g⟩ = some true) (hx : evK κ x = some (.int k p)) (hy : evK κ y = some (.int k2 q)) (h0 : 0 ≤ q) (hb : k.wrap (p * 2 ^ min q.toNat k.bits) = r) :
    StepOK P F B n ops O κ ⟨some d, .binOp .shl t x y t', ty, pos, aft, g⟩ d (.is (.int k r)) := ok_bin hn hg hx hy fun u => by subst hb; simp [eqGuard_shl, binOp_shl, Op.shift, Int.not_lt.2 h0]
theorem ok_xor {t t' : TypeId} {x y : Operand} {k : IntKind} {p q r : Int} (hn : Nat.blt d n = true) (hg : gK ops κ ⟨some d, .binOp .xor t x y t', ty, pos, aft, g⟩ = some true) (hx : evK κ x = some (.int k p)) (hy : evK κ y = some (.int k q)) (hb : bits .xor k p q = r) :
    StepOK P F B n ops O κ ⟨some d, .binOp .xor t x y t', ty, pos, aft, g⟩ d (.is (.int k r)) := ok_bin hn hg hx hy fun u => by subst hb; simp [eqGuard_xor, binOp_xor, intBits_xor]
/-- What holds behind a loop serves the rest. -/
theorem V_midB {id : Nat} {x y : Code} {R : Exit → Act → World → Prop} (hm : MidOK P F B n R y Q) (h : V P F B n O κ x (Exit.inBlock id R)) : V P F B n O κ x (Exit.inBlock id (Exit.then (fun a u => y.wpIn (FW F.r) 0 P Q a u) Q)) := fun a u hh => by
  have key : ∀ e a u, R e a u → Exit.then (fun a u => y.wpIn (FW F.r) 0 P Q a u) Q e a u := fun e a u he => by
    cases e <;> first | exact hm.1 a u he | exact hm.2 _ a u (by intro h; cases h) he
  refine Go.wpIn_mono (h a u hh) fun e a u he => ?_
  cases e with
  | exit j =>
    simp only [Exit.inBlock] at he ⊢
    split at he
    · rename_i h; rw [if_pos h]; exact key _ _ _ he
    · rename_i h; rw [if_neg h]; exact key _ _ _ he
  | _ => exact key _ _ _ he
end
/-! ### cells of uint64 -/
def uC (d : Array Int) : List Value := d.toList.map (Value.int .u64)
theorem uC_len (d : Array Int) : (uC d).length = d.size := by simp [uC]
theorem uC_get {d : Array Int} {j : Nat} (h : j < d.size) : (uC d)[j]? = some (.int .u64 d[j]!) := by
  unfold uC
  rw [List.getElem?_map, Array.getElem?_toList, Array.getElem?_eq_getElem h, getElem!_pos d j h]
  rfl
theorem u_at {d : Array Int} {rest : List Value} {j : Nat} (h : j < d.size) (off : Nat) (ho : off = 0 + j * 1) : ∃ r, (uC d ++ rest).drop off = .int .u64 d[j]! :: r := by
  subst ho
  rw [Nat.zero_add, Nat.mul_one]
  have hl : j < (uC d ++ rest).length := by rw [List.length_append, uC_len]; omega
  refine ⟨(uC d ++ rest).drop (j + 1), ?_⟩
  rw [List.drop_eq_getElem_cons hl]
  congr 1
  have := uC_get h
  rw [← List.getElem?_append_left (l₂ := rest) (by rw [uC_len]; exact h), List.getElem?_eq_getElem hl] at this
  exact Option.some.inj this
theorem u_set {d : Array Int} {rest : List Value} {j : Nat} (z : Int) (h : j < d.size) (off : Nat) (ho : off = 0 + j * 1) : (uC d ++ rest).take off ++ ([.int .u64 z] ++ (uC d ++ rest).drop (off + 1)) = uC (d.setIfInBounds j z) ++ rest := by
  subst ho
  rw [Nat.zero_add, Nat.mul_one]
  have h1 : uC (d.setIfInBounds j z) = (uC d).set j (.int .u64 z) := by
    unfold uC
    rw [Array.toList_setIfInBounds, List.map_set]
  rw [h1, List.take_append_of_le_length (by rw [uC_len]; omega), List.drop_append_of_le_length (by rw [uC_len]; omega), List.set_eq_take_append_cons_drop, if_pos (by rw [uC_len]; exact h)]
  simp
theorem u_ble {d : Array Int} {rest : List Value} {j : Nat} (h : j < d.size) (off : Nat) (ho : off = 0 + j * 1) : Nat.ble (off + 1) (uC d ++ rest).length = true := Nat.ble_eq_true_of_le (by rw [List.length_append, uC_len]; omega)
theorem swp_eq (d : Array Int) (i j : Nat) : (d.setIfInBounds i d[j]!).setIfInBounds j d[i]! = Go.Sort.swp d i j := rfl
theorem swp_size (d : Array Int) (i j : Nat) : (Go.Sort.swp d i j).size = d.size := by unfold Go.Sort.swp; rw [Array.size_setIfInBounds, Array.size_setIfInBounds]
end Go.V
/- The walks of flights (chapter 39): a flight lands. (Printed by mkflim.py.) -/
namespace Go.V.L39
open Go.Proofs Go.RowKit Go.V
abbrev zF : Value := .agg #[.int .i64 0, .int .u64 0, .int .u8 0, .string ⟨#[]⟩, .string ⟨#[]⟩, .string ⟨#[]⟩, .string ⟨#[]⟩, .string ⟨#[]⟩, .int .i64 0, .int .i64 0, .int .i64 0, .int .i64 0, .int .i64 0, .slice none 0 0]
def zfL (m : Nat) : List Value := (Builtin.zeroCells (Value.cells zF) m).toList
def kept (id : Int) (z : Fl × Value) : Bool := decide (z.1.id ≠ id)
theorem flat_take {α : Type} {f : α → List Value} {s : Nat} (hf : ∀ a, (f a).length = s) (l : List α) (i : Nat) (hi : i ≤ l.length) : (l.flatMap f).take (i * s) = (l.take i).flatMap f := by
  conv => lhs; rw [← List.take_append_drop i l, List.flatMap_append]
  rw [List.take_append_of_le_length (by rw [flatMap_len hf, List.length_take, Nat.min_eq_left hi]; exact Nat.le_refl _), List.take_of_length_le (by rw [flatMap_len hf, List.length_take, Nat.min_eq_left hi]; exact Nat.le_refl _)]
theorem fsb_held {zs : List (Fl × Value)} {b n : Nat} {H : Heap} (hn : n = zs.length) (hl : zs.length ≤ 100000) (hb : H b = some (.cells (zs.flatMap flc).toArray tyF)) (hi : ∀ (i : Nat) z, zs[i]? = some z → IsV z.1.is true z.2 H) (hli : ∀ (i : Nat) z, zs[i]? = some z → z.1.is.length ≤ 4611686018427387904) : FsB zs true true (.slice (some ⟨b, 0, none⟩) n n) H := by
  subst hn
  exact ⟨⟨flatMap_len flc_len zs, .inr ⟨b, 0, zs.length, _, _, (0, 0), rfl, hb, by show ((zs.flatMap flc).drop 0).take (zs.flatMap flc).length = _; rw [List.drop_zero, List.take_length], Nat.le_refl _, fun _ => rfl⟩⟩, hi, hl, hli⟩
theorem lend_zs {b : Nat} {cs : List Value} {ty : TypeId} : ∀ v H u C, (HeldR b cs ty).P v H u C → joinH H u C b = some (.cells cs.toArray ty) := fun _ _ _ _ ⟨hb, hC⟩ => (joinH_in ((hC b).2 rfl)).trans hb
theorem take_kept {zs : List (Fl × Value)} {id : Int} {j : Nat} {z : Fl × Value} (hz : zs[j]? = some z) : (zs.take (j + 1)).filter (kept id) = (zs.take j).filter (kept id) ++ if kept id z = true then [z] else [] := by
  rw [take_snoc hz, List.filter_append, List.filter_cons, List.filter_nil]
attribute [local irreducible] V N X VO Par StepOK Has Ret RetL RetO RetT RetG RetX Src
theorem l1_ret {f : Fl} {sv : Value} {id : Int} {b3 : Nat} (hsv : (cellsL sv).length = 1 ∧ (cellsL sv).all plainV = true) {r : Bool} (hr : decide (f.id = id) = r) {w : World} {B : Heap} (h3 : B b3 = some (.cells #[.int .i64 id] 3)) (hB : B.Le (hp w)) :
    Ret Try.prog 54 ([flv f sv] ++ [.pointer (some ⟨b3, 0, none⟩)]) w B (fun v _ => v = .bool r) := by
  refine V_enter Try.func54 rfl Try.ntmps54 (Nat.le_of_ble_eq_true rfl) hB ?_
  by_cases h : f.id = id
  · rw [decide_eq_true h] at hr
    subst hr
    refine V_seq ?_; refine V_region (id := 0) ?_; refine vo_step (ok_box rfl rfl rfl rfl) rfl ?_; refine vo_step (ok_assign rfl rfl rfl) rfl ?_; refine vo_nil ?_; refine N_seq ?_; refine V_seq ?_; refine V_region (id := 1) ?_; refine vo_step (ok_fieldAt L rfl rfl rfl rfl) rfl ?_; refine vo_step (ok_load1 L (src_at rfl) rfl rfl rfl rfl) rfl ?_; refine vo_step (ok_load1 L (src_base rfl (by assumption)) rfl rfl rfl rfl) rfl ?_; refine vo_step (ok_eql rfl rfl rfl rfl (decide_eq_true (by omega))) rfl ?_; refine vo_step (ok_assign rfl rfl rfl) rfl ?_; refine vo_nil ?_; refine N_seq ?_
    refine V_ret L (rs := [.tmp 3]) rfl (fun _ _ h => h) Since.refl fun u H hH hle => ?_
    rfl
  · rw [decide_eq_false h] at hr
    subst hr
    refine V_seq ?_; refine V_region (id := 0) ?_; refine vo_step (ok_box rfl rfl rfl rfl) rfl ?_; refine vo_step (ok_assign rfl rfl rfl) rfl ?_; refine vo_nil ?_; refine N_seq ?_; refine V_seq ?_; refine V_region (id := 1) ?_; refine vo_step (ok_fieldAt L rfl rfl rfl rfl) rfl ?_; refine vo_step (ok_load1 L (src_at rfl) rfl rfl rfl rfl) rfl ?_; refine vo_step (ok_load1 L (src_base rfl (by assumption)) rfl rfl rfl rfl) rfl ?_; refine vo_step (ok_eql rfl rfl rfl rfl (decide_eq_false (by omega))) rfl ?_; refine vo_step (ok_assign rfl rfl rfl) rfl ?_; refine vo_nil ?_; refine N_seq ?_
    refine V_ret L (rs := [.tmp 3]) rfl (fun _ _ h => h) Since.refl fun u H hH hle => ?_
    rfl
abbrev fvL (b3 : Nat) : Value := .func (.func 54) #[] #[.pointer (some ⟨b3, 0, none⟩)]
set_option maxHeartbeats 4000000 in
set_option maxRecDepth 20000 in
theorem del_ret {zs : List (Fl × Value)} {l : List Fl} (hz : zs.map Prod.fst = l) {id : Int} {n b b3 k : Nat} (hn : n = zs.length) (hn5 : n ≤ 50000) (hk : posF l id = some k) {w : World} {B : Heap} {C : Nat → Prop} (h3 : B b3 = some (.cells #[.int .i64 id] 3))
    (hi : ∀ (i : Nat) z, zs[i]? = some z → IsV z.1.is true z.2 B) (hli : ∀ (i : Nat) z, zs[i]? = some z → z.1.is.length ≤ 4611686018427387904) (hB : B.Le (hp w)) (hr : (GHeld b (zs.flatMap flc) tyF).P B w C) (hC : ∀ k, C k → k < w.heap.size ∧ B k = none) :
    RetX Try.prog 53 [.slice (some ⟨b, 0, none⟩) n n, fvL b3] w B C (GHeld b ((zs.filter (kept id)).flatMap flc ++ zfL (n - (zs.filter (kept id)).length)) tyF) (.slice (some ⟨b, 0, none⟩) (zs.filter (kept id)).length n) := by
  unfold RetX
  refine V_enterG 900 (GHeld b (zs.flatMap flc) tyF) Try.func53 rfl Try.ntmps53 (Nat.le_of_ble_eq_true rfl) hB hr hC ?_
  rw [gheld_res]
  obtain ⟨f0, hf0, hid0, hbef⟩ := idx_lt hk
  have hkn : k < n := by have := get_lt hf0; rw [← hz, List.length_map] at this; omega
  obtain ⟨sv0, hz0⟩ := fls_at hz hf0
  have hlz := flatMap_len flc_len zs
  have hw0 : IntKind.i64.wrap ((k : Int) + 1) = ((k + 1 : Nat) : Int) := wrap_i64 (by omega) (by omega)
  have hk0 : (zs.take (k + 1)).filter (kept id) = zs.take k := by
    have hkk : kept id (f0, sv0) = false := by unfold kept; simpa using hid0
    rw [take_kept hz0, hkk, List.filter_eq_self.2 fun z hzm => ?_]
    · simp
    · obtain ⟨j, hj, hjz⟩ := List.getElem_of_mem hzm
      rw [List.length_take] at hj
      have h1 : (zs.take k)[j]? = some z := by rw [List.getElem?_eq_getElem (by rw [List.length_take]; exact hj), hjz]
      rw [List.getElem?_take_of_lt (by omega)] at h1
      have := hbef j z.1 (by omega) (fls_get hz h1)
      unfold kept; simpa using this
  refine V_seq ?_; refine V_region (id := 0) ?_; refine vo_step (ok_assign rfl rfl rfl) rfl ?_; refine vo_nil ?_; refine N_seq ?_; refine V_seq ?_; refine V_region (id := 1) ?_; refine vo_step (ok_move rfl rfl rfl) rfl ?_; refine vo_step (ok_move rfl rfl rfl) rfl ?_; refine vo_stepR (ok_callLendG L 900 (Φ := fun H => H b = some (.cells (zs.flatMap flc).toArray tyF)) (c := .int .i64 k) rfl rfl (blt_lt rfl) rfl rfl rfl rfl rfl lend_zs (fun u H hH hle hb => (show idxZ (l.findIdx? fun f => decide (f.id = id)) = (k : Int) from congrArg idxZ hk) ▸ idxF_ret (caps := [.pointer (some ⟨b3, 0, none⟩)]) (pr := fun f => decide (f.id = id)) hz (fsb_held hn (by omega) hb (fun i z hzi => (hi i z hzi).le hle) hli) rfl hH (fun f p c u' H' hH' hle' => l1_ret ⟨rfl, rfl⟩ rfl (hle' _ _ (hle _ _ h3)) hH'))) ?_; refine vo_step (ok_assign rfl rfl rfl) rfl ?_; refine vo_nil ?_; refine N_seq ?_; refine V_seq ?_; refine V_seq ?_; refine V_region (id := 2) ?_; refine vo_step (ok_move rfl rfl rfl) rfl ?_; refine vo_step (ok_eql rfl rfl rfl rfl (decide_eq_false (by omega))) rfl ?_; refine vo_nil ?_; refine N_seq ?_; refine V_false rfl ?_; refine V_skip ?_; refine N_seq ?_; refine V_seq ?_; refine V_seq ?_; refine V_region (id := 4) ?_; refine vo_step (ok_move rfl rfl rfl) rfl ?_; refine vo_step (ok_add rfl rfl rfl rfl (by assumption)) rfl ?_; refine vo_step (ok_assign rfl rfl rfl) rfl ?_; refine vo_nil ?_; refine N_seq ?_; refine V_block ?_
  refine V_loop (fun T : (Nat × Nat) × List (Fl × Value) => [(0, .is (.slice (some ⟨b, 0, none⟩) n n)), (1, .is (fvL b3)), (5, .is (.int .i64 T.1.1)), (6, .is (.int .i64 T.1.2)), (900, .own (HeldR b (T.2.flatMap flc) tyF))])
    (fun T => T.1.2 ≤ n ∧ T.2.length = n ∧ T.1.1 ≤ T.1.2 ∧ T.2.take T.1.1 = (zs.take T.1.2).filter (kept id) ∧ T.1.1 = ((zs.take T.1.2).filter (kept id)).length ∧ T.2.drop T.1.2 = zs.drop T.1.2) (fun T => n - T.1.2) ((k, k + 1), zs) ⟨by dsimp only; omega, hn.symm, by dsimp only; omega, hk0.symm, by dsimp only; rw [hk0, List.length_take]; omega, rfl⟩ ⟨rfl, rfl, rfl, rfl, rfl, trivial⟩ ?_
  rintro ⟨⟨i, j⟩, ys⟩ ⟨q1, q2, q3, q4, q5, q6⟩
  dsimp only at q1 q2 q3 q4 q5 q6 ⊢
  have hly := flatMap_len flc_len ys
  by_cases hlt : j < n
  · obtain ⟨⟨f, sv⟩, hzj⟩ := get_some (show j < zs.length by omega)
    have hyj : ys[j]? = some (f, sv) := by
      have := congrArg (·[0]?) q6
      simp only [List.getElem?_drop, Nat.add_zero] at this
      rw [this, hzj]
    have hsv := hi j _ hzj
    dsimp only at hsv
    obtain ⟨p, c, hsve⟩ := slv_sh hsv
    subst hsve
    have hwj : IntKind.i64.wrap ((j : Int) + 1) = ((j + 1 : Nat) : Int) := wrap_i64 (by omega) (by omega)
    have hwi : IntKind.i64.wrap ((i : Int) + 1) = ((i + 1 : Nat) : Int) := wrap_i64 (by omega) (by omega)
    have htk := take_kept (id := id) hzj
    have hdr : ys.drop (j + 1) = zs.drop (j + 1) := by rw [← List.drop_drop, ← List.drop_drop, q6]
    obtain ⟨r, hq⟩ : ∃ r, (ys.flatMap flc).drop (0 + j * 14) = [.int .i64 f.id, .int .u64 f.rv, .int .u8 f.q.kd, .string f.q.g.1.1, .string f.q.g.1.2, .string f.q.g.2, .string f.q.u.1, .string f.q.u.2, .int .i64 f.cl, .int .i64 f.cs, .int .i64 f.si, .int .i64 f.ve, .int .i64 f.sp, .slice p f.is.length c] ++ r := ⟨_, (by rw [Nat.zero_add, ← fl_at hyj, List.take_append_drop])⟩
    cases hd : decide (f.id = id) with
    | true =>
      have hkf : kept id (f, .slice p f.is.length c) = false := by unfold kept; simpa using hd
      rw [hkf] at htk
      simp only [Bool.false_eq_true, if_false, List.append_nil] at htk
      refine V_seq ?_; refine V_seq ?_; refine V_region (id := 5) ?_; refine vo_step (ok_move rfl rfl rfl) rfl ?_; refine vo_step (ok_move rfl rfl rfl) rfl ?_; refine vo_step (ok_lenL L rfl rfl rfl rfl) rfl ?_; refine vo_step (ok_lss rfl rfl rfl rfl (decide_eq_true (by omega))) rfl ?_; refine vo_nil ?_; refine N_seq ?_; refine V_true rfl ?_; refine V_skip ?_; refine N_seq ?_; refine V_seq ?_; refine V_block ?_; refine V_seq ?_; refine V_region (id := 7) ?_; refine vo_step (ok_move rfl rfl rfl) rfl ?_; refine vo_step (ok_move rfl rfl rfl) rfl ?_; refine vo_step (ok_indexAt L _ rfl rfl rfl rfl rfl rfl rfl (by omega)) rfl ?_; refine vo_stepR (ok_loadHA L (q := 900) (vs := [_, _, _, _, _, _, _, _, _, _, _, _, _, _]) rfl rfl rfl rfl rfl rfl ⟨r, hq⟩) ?_; refine vo_step (ok_alloc L rfl rfl rfl rfl) rfl ?_; refine vo_step (ok_store L rfl rfl rfl rfl rfl rfl rfl rfl) rfl ?_; refine vo_nil ?_; refine N_seq ?_; refine V_seq ?_; refine V_region (id := 8) ?_; refine vo_step (ok_move rfl rfl rfl) rfl ?_; refine vo_step (ok_loadA L (vs := [_, _, _, _, _, _, _, _, _, _, _, _, _, _]) (src_own rfl) rfl rfl rfl rfl ⟨_, rfl⟩) rfl ?_; refine vo_step (ok_callx L rfl rfl (blt_lt rfl) rfl rfl rfl (fun u H hH hle _ => l1_ret ⟨rfl, rfl⟩ hd (hle _ _ h3) hH)) rfl ?_; refine vo_step (ok_not rfl rfl rfl rfl) rfl ?_; refine vo_nil ?_; refine N_seq ?_; refine V_false rfl ?_; refine V_skip ?_; refine N_block ?_; refine N_seq ?_; refine V_region (id := 6) ?_; refine vo_step (ok_move rfl rfl rfl) rfl ?_; refine vo_step (ok_add rfl rfl rfl rfl (by assumption)) rfl ?_; refine vo_step (ok_assign rfl rfl rfl) rfl ?_; refine vo_nil ?_
      exact N_round (x := ((i, j), ys)) ((i, j + 1), ys) ⟨hlt, q2, by dsimp only; omega, by dsimp only; rw [htk]; exact q4, by dsimp only; rw [htk]; exact q5, hdr⟩ (by dsimp only; omega) ⟨rfl, rfl, rfl, rfl, rfl, trivial⟩
    | false =>
      have hkf : kept id (f, .slice p f.is.length c) = true := by unfold kept; simpa using hd
      rw [hkf] at htk
      simp only [if_true] at htk
      have hin : i < ys.length := by omega
      have hset := (flat_set flc_len ys i (f, .slice p f.is.length c) hin).symm
      have hset2 : (ys.flatMap flc).take (0 + i * 14) ++ ([.int .i64 f.id, .int .u64 f.rv, .int .u8 f.q.kd, .string f.q.g.1.1, .string f.q.g.1.2, .string f.q.g.2, .string f.q.u.1, .string f.q.u.2, .int .i64 f.cl, .int .i64 f.cs, .int .i64 f.si, .int .i64 f.ve, .int .i64 f.sp, .slice p f.is.length c] ++ (ys.flatMap flc).drop (0 + i * 14 + 14)) = (ys.set i (f, .slice p f.is.length c)).flatMap flc := by rw [Nat.zero_add]; exact hset
      have hble : Nat.ble (0 + i * 14 + 14) (ys.flatMap flc).length = true := Nat.ble_eq_true_of_le (by omega)
      refine V_seq ?_; refine V_seq ?_; refine V_region (id := 5) ?_; refine vo_step (ok_move rfl rfl rfl) rfl ?_; refine vo_step (ok_move rfl rfl rfl) rfl ?_; refine vo_step (ok_lenL L rfl rfl rfl rfl) rfl ?_; refine vo_step (ok_lss rfl rfl rfl rfl (decide_eq_true (by omega))) rfl ?_; refine vo_nil ?_; refine N_seq ?_; refine V_true rfl ?_; refine V_skip ?_; refine N_seq ?_; refine V_seq ?_; refine V_block ?_; refine V_seq ?_; refine V_region (id := 7) ?_; refine vo_step (ok_move rfl rfl rfl) rfl ?_; refine vo_step (ok_move rfl rfl rfl) rfl ?_; refine vo_step (ok_indexAt L _ rfl rfl rfl rfl rfl rfl rfl (by omega)) rfl ?_; refine vo_stepR (ok_loadHA L (q := 900) (vs := [_, _, _, _, _, _, _, _, _, _, _, _, _, _]) rfl rfl rfl rfl rfl rfl ⟨r, hq⟩) ?_; refine vo_step (ok_alloc L rfl rfl rfl rfl) rfl ?_; refine vo_step (ok_store L rfl rfl rfl rfl rfl rfl rfl rfl) rfl ?_; refine vo_nil ?_; refine N_seq ?_; refine V_seq ?_; refine V_region (id := 8) ?_; refine vo_step (ok_move rfl rfl rfl) rfl ?_; refine vo_step (ok_loadA L (vs := [_, _, _, _, _, _, _, _, _, _, _, _, _, _]) (src_own rfl) rfl rfl rfl rfl ⟨_, rfl⟩) rfl ?_; refine vo_step (ok_callx L rfl rfl (blt_lt rfl) rfl rfl rfl (fun u H hH hle _ => l1_ret ⟨rfl, rfl⟩ hd (hle _ _ h3) hH)) rfl ?_; refine vo_step (ok_not rfl rfl rfl rfl) rfl ?_; refine vo_nil ?_; refine N_seq ?_; refine V_true rfl ?_; refine V_seq ?_; refine V_region (id := 9) ?_; refine vo_step (ok_move rfl rfl rfl) rfl ?_; refine vo_step (ok_move rfl rfl rfl) rfl ?_; refine vo_step (ok_loadA L (vs := [_, _, _, _, _, _, _, _, _, _, _, _, _, _]) (src_own rfl) rfl rfl rfl rfl ⟨_, rfl⟩) rfl ?_; refine vo_step (ok_indexAt L _ rfl rfl rfl rfl rfl rfl rfl (by omega)) rfl ?_; refine vo_stepS (ok_storeH L (q := 900) rfl rfl rfl rfl rfl rfl hble rfl hset2) ?_; refine vo_nil ?_; refine N_seq ?_; refine V_region (id := 10) ?_; refine vo_step (ok_move rfl rfl rfl) rfl ?_; refine vo_step (ok_add rfl rfl rfl rfl (by assumption)) rfl ?_; refine vo_step (ok_assign rfl rfl rfl) rfl ?_; refine vo_nil ?_; refine N_block ?_; refine N_seq ?_; refine V_region (id := 6) ?_; refine vo_step (ok_move rfl rfl rfl) rfl ?_; refine vo_step (ok_add rfl rfl rfl rfl (by assumption)) rfl ?_; refine vo_step (ok_assign rfl rfl rfl) rfl ?_; refine vo_nil ?_
      exact N_round (x := ((i, j), ys)) ((i + 1, j + 1), ys.set i (f, .slice p f.is.length c)) ⟨hlt, by rw [List.length_set]; exact q2, by dsimp only; omega, by
        dsimp only
        rw [htk, ← q4, List.take_add_one, List.getElem?_set_self hin, List.take_set_of_le (Nat.le_refl _)]; rfl, by dsimp only; rw [htk, List.length_append, ← q5]; rfl, by
        dsimp only
        rw [List.drop_set_of_lt (by omega)]; exact hdr⟩ (by dsimp only; omega) ⟨rfl, rfl, rfl, rfl, rfl, trivial⟩
  · obtain rfl : j = n := by omega
    have hfull : zs.take j = zs := List.take_of_length_le (by omega)
    rw [hfull] at q4 q5
    rw [← q5]
    have hne : ¬ j = i := fun e => by
      have h1 : (zs.filter (kept id)).length = zs.length := by omega
      have h2 := List.length_filter_eq_length_iff.1 h1 _ (List.mem_of_getElem? hz0)
      unfold kept at h2
      simp only [decide_eq_true_eq] at h2 hid0
      exact h2 hid0
    have hne0 : ¬ j = 0 := by omega
    have hcl : (ys.flatMap flc).take (0 + i * 14) ++ (zfL (j - i) ++ (ys.flatMap flc).drop (0 + i * 14 + (j - i) * 14)) = (zs.filter (kept id)).flatMap flc ++ zfL (j - i) := by
      rw [Nat.zero_add, flat_take flc_len ys i (by omega), q4, List.drop_eq_nil_of_le (by omega), List.append_nil]
    have hbd : 0 + i * 14 + (j - i) * 14 ≤ (ys.flatMap flc).length := by omega
    refine V_seq ?_; refine V_seq ?_; refine V_region (id := 5) ?_; refine vo_step (ok_move rfl rfl rfl) rfl ?_; refine vo_step (ok_move rfl rfl rfl) rfl ?_; refine vo_step (ok_lenL L rfl rfl rfl rfl) rfl ?_; refine vo_step (ok_lss rfl rfl rfl rfl (decide_eq_false (by omega))) rfl ?_; refine vo_nil ?_; refine N_seq ?_; refine V_false rfl ?_; refine V_exit ?_; refine X_then ?_; refine X_then ?_; refine X_here ?_; refine N_seq ?_; refine V_seq ?_; refine V_region (id := 11) ?_; refine vo_step (ok_move rfl rfl rfl) rfl ?_; refine vo_step (ok_move rfl rfl rfl) rfl ?_; refine vo_step (ok_sliceI L (kh := .i64) (ph := 0) _ _ rfl rfl rfl rfl rfl ⟨rfl, rfl⟩ rfl (by omega) (by omega)) rfl ?_; rw [if_neg hne]; refine vo_stepS (ok_clearH L (q := 900) rfl rfl rfl rfl el49 rfl rfl (.inr hbd) (fun _ => hcl) (fun h => by omega)) ?_; refine vo_nil ?_; refine N_seq ?_; refine V_seq ?_; refine V_region (id := 12) ?_; refine vo_step (ok_move rfl rfl rfl) rfl ?_; refine vo_step (ok_move rfl rfl rfl) rfl ?_; refine vo_step (ok_sliceI L (kl := .i64) (pl := 0) 0 _ rfl rfl rfl rfl rfl rfl ⟨rfl, rfl⟩ (by omega) (by omega)) rfl ?_; refine vo_step (ok_assign rfl rfl rfl) rfl ?_; refine vo_nil ?_; refine N_seq ?_
    rw [if_neg hne0]
    exact V_retX L 900 (r := GHeld b _ tyF) (rs := [.tmp 4]) rfl (fun _ _ h => h) Since.refl rfl rfl (fun _ => rfl)
end Go.V.L39
/- The walk of flights.Land (chapter 39). -/
namespace Go.V.L39
open Go.Proofs Go.RowKit Go.V
/-- What Land returns. -/
def LandP (B : Heap) (t : Tb) (f : Fl) (e : Int) : Value → Heap → Prop := fun v H => ∃ tv sv, v = .tuple #[tv, flv f sv, .int .i64 e] ∧ TbN B t tv H ∧ SlN B tyI 5 (f.is.flatMap itc) f.is.length true sv H
theorem LandP.mono {B : Heap} {t : Tb} {f : Fl} {e : Int} : Kn.mono (.sat (LandP B t f e)) := fun _ _ _ ⟨tv, sv, h1, h2, h3⟩ hle => ⟨tv, sv, h1, tbn_mono h2 hle, SlN.mono _ _ _ h3 hle⟩
theorem map_kept {zs : List (Fl × Value)} {l : List Fl} (h : zs.map Prod.fst = l) (id : Int) : (zs.filter (kept id)).map Prod.fst = l.filter fun f => decide (f.id ≠ id) := by
  subst h
  rw [List.filter_map]
  rfl
theorem filter_get {zs : List (Fl × Value)} {p : Fl × Value → Bool} {i : Nat} {z : Fl × Value} (h : (zs.filter p)[i]? = some z) : ∃ j : Nat, zs[j]? = some z :=
  List.getElem?_of_mem (List.mem_filter.1 (List.mem_of_getElem? h)).1
theorem ownF1_ret {zs : List (Fl × Value)} {fu fi : Bool} {s v : Value} {w : World} {B : Heap} (hs : FsB zs fu fi s B) (hl : zs.length ≤ 50000) (hB : B.Le (hp w)) (hv : SlB [s] 22 1 v B) :
    RetO Try.prog 52 [v] w B (SlE tyF 14 zs.length (zs.flatMap flc)) := by
  have e1 : nXs [(zs.flatMap flc, zs.length)] = zs.length := by simp [nXs]
  have e2 : cXs [(zs.flatMap flc, zs.length)] = zs.flatMap flc := by simp [cXs]
  have h := ownF_ret (lsts1 hs.sl hs.plain) (by simp) (by rw [e1]; exact hl) hB hv
  rw [e1, e2] at h
  exact h
theorem ownF0_ret {zs : List (Fl × Value)} (h0 : zs.length = 0) {fu fi : Bool} {s v : Value} {w : World} {B : Heap} (hs : FsB zs fu fi s B) (hB : B.Le (hp w)) (hv : SlB [s] 22 1 v B) :
    Ret Try.prog 52 [v] w B (fun x _ => x = .slice none 0 0) :=
  own0F_ret (lsts1 hs.sl hs.plain) (by simp) (by show zs.length + 0 = 0; omega) hB hv
theorem fsb_cut {zs : List (Fl × Value)} {rest : List Value} {b m n : Nat} {H : Heap} (hm : m = zs.length) (hmn : m ≤ n) (hl : zs.length ≤ 100000) (hb : H b = some (.cells (zs.flatMap flc ++ rest).toArray tyF)) (hi : ∀ (i : Nat) z, zs[i]? = some z → IsV z.1.is true z.2 H) (hli : ∀ (i : Nat) z, zs[i]? = some z → z.1.is.length ≤ 4611686018427387904) : FsB zs false true (.slice (some ⟨b, 0, none⟩) m n) H := by
  subst hm
  exact ⟨⟨flatMap_len flc_len zs, .inr ⟨b, 0, n, _, _, (0, 0), rfl, hb, by show ((zs.flatMap flc ++ rest).drop 0).take (zs.flatMap flc).length = _; rw [List.drop_zero, List.take_left], hmn, fun h => by cases h⟩⟩, hi, hl, hli⟩
theorem ldT0 {t : Tb} {id : Int} (h : plE t id ≠ 0) : ldT t id = T0 := if_pos h
theorem ldT1 {t : Tb} {id : Int} (h : plE t id = 0) : ldT t id = ⟨t.nx, t.fl.filter fun f => decide (f.id ≠ id)⟩ := if_neg (by simp [h])
attribute [local irreducible] V N X VO Par StepOK Has Ret RetL RetO RetT RetG RetX Src
set_option maxHeartbeats 4000000 in
set_option maxRecDepth 20000 in
theorem land_ret {t : Tb} {zs : List (Fl × Value)} (hz : zs.map Prod.fst = t.fl) {fu fi : Bool} {s : Value} {id : Int} {w : World} {B0 : Heap} (hs0 : FsB zs fu fi s B0) (hZ : ∀ f ∈ t.fl, QuZ f.q) (hn : itsN t.fl ≤ 4611686018427387904) (hln : zs.length ≤ 40000) (hB : B0.Le (hp w)) :
    Ret Try.prog 19 [tbv t.nx s, .int .i64 id] w B0 (LandP B0 (ldT t id) (findF t id) (plE t id)) := by
  have hlen := fls_len hz
  refine V_enter Try.func19 rfl Try.ntmps19 (Nat.le_of_ble_eq_true rfl) hB ?_
  refine V_seq ?_; refine V_region (id := 0) ?_; refine vo_step (ok_box rfl rfl rfl rfl) rfl ?_; refine vo_step (ok_box rfl rfl rfl rfl) rfl ?_; refine vo_step (ok_alloc L rfl rfl rfl rfl) rfl ?_; refine vo_step (ok_alloc L rfl rfl rfl rfl) rfl ?_; refine vo_step (ok_assign rfl rfl rfl) rfl ?_; refine vo_nil ?_; refine N_seq ?_; refine V_seq ?_
  refine V_opn 3 rfl fun v3 B s1 ⟨b3, e3, hb3⟩ => ?_
  subst e3
  have hs := hs0.le s1.le
  by_cases h0 : plE t id = 0
  · obtain ⟨hc, k, f, hp, hf, hid⟩ := plE_zero h0
    have h1024 := chk_its hc
    have hk : k < zs.length := by have := get_lt hf; omega
    have hit5 : ∀ g ∈ t.fl, g.is.length ≤ 50000 := fun g hg => by have := is_le hg; omega
    rw [ldT1 h0]
    refine V_region (id := 1) ?_; refine vo_step (ok_loadA L (vs := [_, _]) (src_at rfl) rfl rfl rfl rfl ⟨_, rfl⟩) rfl ?_; refine vo_step (ok_load1 L (src_base rfl (by assumption)) rfl rfl rfl rfl) rfl ?_; refine vo_step (ok_call (φ := FindP B (findF t id) (plE t id)) L rfl rfl (blt_lt rfl) rfl rfl rfl FindP.mono (fun u H hH hle _ => Ret.mono (find_ret hz (hs.le hle) hZ hn hH) fun v H' _ ⟨sv, h1, h2⟩ => ⟨sv, h1, SlN.le h2 hle⟩)) rfl ?_; refine vo_opn 13 rfl fun fv H2 s2 hfv => ?_; obtain ⟨sv, hfe, hsv⟩ := hfv; obtain ⟨p1, c1, he⟩ := slv_sh hsv.1; subst he; subst hfe; rw [h0]; refine vo_step (ok_move rfl rfl rfl) rfl ?_; refine vo_step (ok_extract rfl rfl rfl rfl) rfl ?_; refine vo_step (ok_extract rfl rfl rfl rfl) rfl ?_; refine vo_step (ok_alloc L rfl rfl rfl rfl) rfl ?_; refine vo_step (ok_store L rfl rfl rfl rfl rfl rfl rfl rfl) rfl ?_; refine vo_step (ok_assign rfl rfl rfl) rfl ?_; refine vo_nil ?_; refine N_seq ?_; refine V_seq ?_; refine V_seq ?_; refine V_region (id := 2) ?_; refine vo_step (ok_move rfl rfl rfl) rfl ?_; refine vo_step (ok_neq rfl rfl rfl rfl (decide_eq_false (by omega))) rfl ?_; refine vo_nil ?_; refine N_seq ?_; refine V_false rfl ?_; refine V_skip ?_; refine N_seq ?_; refine V_seq ?_; refine V_region (id := 4) ?_; refine vo_step (ok_loadA L (vs := [_, _]) (src_at rfl) rfl rfl rfl rfl ⟨_, rfl⟩) rfl ?_; refine vo_step (ok_callO (r := CpR B t.nx t.fl) L rfl rfl (blt_lt rfl) rfl rfl rfl (fun u H hH hle _ => (copied_ret (zs := zs) (ys := []) (l := t.fl) (by rw [List.append_nil]; exact hz) (by simp only [List.length_nil]; omega) hit5 (hs.le (s2.le.trans hle)) (fsb_nil (fu := true) (fi := true) rfl) hH).mono (CpR.le (s2.le.trans hle)))) rfl ?_; refine vo_opnX 22 rfl fun zs1 H4 s4 ⟨q1, q2⟩ => ?_; refine vo_openAgg 22 901 rfl (fun h _ => absurd h (by rw [fls_len q1]; omega)) fun b hbl hbm => ?_; refine vo_step (ok_alloc L rfl rfl rfl rfl) rfl ?_; refine vo_step (ok_store L rfl rfl rfl rfl rfl rfl rfl rfl) rfl ?_; refine vo_nil ?_; refine N_seq ?_; refine V_seq ?_
    have hl1z := fls_len q1
    have hb3' := s4.le _ _ (s2.le _ _ hb3)
    have hli1 : ∀ (i : Nat) z, zs1[i]? = some z → z.1.is.length ≤ 4611686018427387904 := fun i z hzi => by have := hit5 z.1 (fls_mem (fls_get q1 hzi)); omega
    have hfl : (zs1.filter (kept id)).length ≤ zs1.length := List.length_filter_le _ _
    refine V_hold 9 902 rfl fun b9 => ?_
    by_cases hm0 : (zs1.filter (kept id)).length = 0
    · have hf0 : zs1.filter (kept id) = [] := List.eq_nil_of_length_eq_zero hm0
      have hmk := map_kept q1 id
      rw [hf0] at hmk
      refine V_region (id := 5) ?_; refine vo_step (ok_fieldP L rfl rfl rfl rfl) rfl ?_; refine vo_stepR (ok_loadH1 L (q := 902) rfl rfl rfl rfl rfl rfl) ?_; refine vo_step (ok_makeFunc rfl rfl rfl rfl) rfl ?_; refine vo_step2 (ok_callXG L 901 (GHeld b ((zs1.filter (kept id)).flatMap flc ++ zfL (zs1.length - (zs1.filter (kept id)).length)) tyF) (.slice (some ⟨b, 0, none⟩) (zs1.filter (kept id)).length zs1.length) (r := GHeld b (zs1.flatMap flc) tyF) rfl rfl rfl rfl rfl (fun u H C hH hle hr hC => del_ret q1 rfl (by omega) hp (hle _ _ hb3') (fun i z hzi => (q2 i z hzi).1.le hle) hli1 hH hr hC)) ?_; refine vo_pubH 901 rfl fun H6 s6 hnb hb6 => ?_; refine vo_step (ok_buildSlice L rfl rfl rfl rfl rfl rfl rfl rfl rfl) rfl ?_; refine vo_step (ok_callx (r := .slice none 0 0) L rfl rfl (blt_lt rfl) rfl rfl rfl (fun u H hH hle _ v hv => ownF0_ret hm0 (fsb_cut rfl hfl (by omega) (hle _ _ hb6) (fun i z hzi => by obtain ⟨j, hj⟩ := filter_get hzi; exact ((q2 j z hj).1.le s6.le).le hle) (fun i z hzi => by obtain ⟨j, hj⟩ := filter_get hzi; exact hli1 j z hj)) hH hv)) rfl ?_; refine vo_step (ok_fieldP L rfl rfl rfl rfl) rfl ?_; refine vo_stepS (ok_storeH L (q := 902) rfl rfl rfl rfl rfl rfl rfl rfl rfl) ?_; refine vo_nil ?_; refine N_seq ?_; refine V_seq ?_
      refine V_release 9 902 rfl rfl ?_
      refine V_regionD (id := 6) [] mixed (by kernel_rfl) ?_; refine par_step (ok_loadA L (vs := [_, _]) (src_own rfl) rfl rfl rfl rfl ⟨_, rfl⟩) rfl ?_; refine par_step (ok_loadA L (vs := [_, _, _, _, _, _, _, _, _, _, _, _, _, _]) (src_own rfl) rfl rfl rfl rfl ⟨_, rfl⟩) rfl ?_; refine par_step (ok_store L rfl rfl rfl rfl rfl rfl rfl rfl) rfl ?_; refine par_step (ok_store L rfl rfl rfl rfl rfl rfl rfl rfl) rfl ?_; refine par_step (ok_assign rfl rfl rfl) rfl ?_; refine par_nil ?_; refine N_seq ?_
      refine V_ret L (rs := [.cell 4 24, .cell 5 49, .tmp 6]) rfl (fun _ _ h => h) (((s1.trans s2).trans s4).trans s6) fun u H hH hle => ?_
      refine resK_cellA (src_own rfl) rfl rfl ?_
      refine resK_cellA (src_own rfl) rfl rfl ?_
      rw [← hmk]
      exact ⟨_, _, rfl, ⟨[], _, rfl, rfl, fsb_nil rfl, newin_nil, fun i z hz => by cases hz⟩, SlN.le (SlN.mono _ _ _ hsv ((s4.le.trans s6.le).trans hle)) s1.le⟩
    · refine V_region (id := 5) ?_; refine vo_step (ok_fieldP L rfl rfl rfl rfl) rfl ?_; refine vo_stepR (ok_loadH1 L (q := 902) rfl rfl rfl rfl rfl rfl) ?_; refine vo_step (ok_makeFunc rfl rfl rfl rfl) rfl ?_; refine vo_step2 (ok_callXG L 901 (GHeld b ((zs1.filter (kept id)).flatMap flc ++ zfL (zs1.length - (zs1.filter (kept id)).length)) tyF) (.slice (some ⟨b, 0, none⟩) (zs1.filter (kept id)).length zs1.length) (r := GHeld b (zs1.flatMap flc) tyF) rfl rfl rfl rfl rfl (fun u H C hH hle hr hC => del_ret q1 rfl (by omega) hp (hle _ _ hb3') (fun i z hzi => (q2 i z hzi).1.le hle) hli1 hH hr hC)) ?_; refine vo_pubH 901 rfl fun H6 s6 hnb hb6 => ?_; refine vo_step (ok_buildSlice L rfl rfl rfl rfl rfl rfl rfl rfl rfl) rfl ?_; refine vo_step (ok_callO (r := SlE tyF 14 (zs1.filter (kept id)).length ((zs1.filter (kept id)).flatMap flc)) L rfl rfl (blt_lt rfl) rfl rfl rfl (fun u H hH hle _ v hv => ownF1_ret (fsb_cut rfl hfl (by omega) (hle _ _ hb6) (fun i z hzi => by obtain ⟨j, hj⟩ := filter_get hzi; exact ((q2 j z hj).1.le s6.le).le hle) (fun i z hzi => by obtain ⟨j, hj⟩ := filter_get hzi; exact hli1 j z hj)) (by omega) hH hv)) rfl ?_; refine vo_holdE 28 903 (Nat.pos_of_ne_zero hm0) rfl fun b2 hbl2 => ?_; refine vo_step (ok_fieldP L rfl rfl rfl rfl) rfl ?_; refine vo_stepS (ok_storeH L (q := 902) rfl rfl rfl rfl rfl rfl rfl rfl rfl) ?_; refine vo_nil ?_; refine N_seq ?_; refine V_seq ?_
      refine V_release 9 902 rfl rfl ?_
      refine V_regionD (id := 6) [] mixed (by kernel_rfl) ?_; refine par_step (ok_loadA L (vs := [_, _]) (src_own rfl) rfl rfl rfl rfl ⟨_, rfl⟩) rfl ?_; refine par_step (ok_loadA L (vs := [_, _, _, _, _, _, _, _, _, _, _, _, _, _]) (src_own rfl) rfl rfl rfl rfl ⟨_, rfl⟩) rfl ?_; refine par_step (ok_store L rfl rfl rfl rfl rfl rfl rfl rfl) rfl ?_; refine par_step (ok_store L rfl rfl rfl rfl rfl rfl rfl rfl) rfl ?_; refine par_step (ok_assign rfl rfl rfl) rfl ?_; refine par_nil ?_; refine N_seq ?_
      refine V_pubH 903 rfl fun H7 s7 hnb7 hb7 => ?_
      refine V_ret L (rs := [.cell 4 24, .cell 5 49, .tmp 6]) rfl (fun _ _ h => h) ((((s1.trans s2).trans s4).trans s6).trans s7) fun u H hH hle => ?_
      refine resK_cellA (src_own rfl) rfl rfl ?_
      refine resK_cellA (src_own rfl) rfl rfl ?_
      have hBH : B.Le H6 := (s2.le.trans s4.le).trans s6.le
      refine ⟨_, _, rfl, tbn_mono (tbn_of rfl (map_kept q1 id) (fun i z hzi => ?_) hb7 (none_le (s1.le.trans hBH) hnb7) (by omega) fun g hg => ?_) hle, SlN.le (SlN.mono _ _ _ hsv (((s4.le.trans s6.le).trans s7.le).trans hle)) s1.le⟩
      · obtain ⟨j, hj⟩ := filter_get hzi
        exact SlN.le (SlN.mono _ _ _ (q2 j z hj) (s6.le.trans s7.le)) s1.le
      · have := hit5 g (List.mem_filter.1 hg).1
        omega
  · have hk : findF t id = F0 := if_pos h0
    rw [ldT0 h0]
    refine V_region (id := 1) ?_; refine vo_step (ok_loadA L (vs := [_, _]) (src_at rfl) rfl rfl rfl rfl ⟨_, rfl⟩) rfl ?_; refine vo_step (ok_load1 L (src_base rfl (by assumption)) rfl rfl rfl rfl) rfl ?_; refine vo_step (ok_call (φ := FindP B (findF t id) (plE t id)) L rfl rfl (blt_lt rfl) rfl rfl rfl FindP.mono (fun u H hH hle _ => Ret.mono (find_ret hz (hs.le hle) hZ hn hH) fun v H' _ ⟨sv, h1, h2⟩ => ⟨sv, h1, SlN.le h2 hle⟩)) rfl ?_; refine vo_opn 13 rfl fun fv H2 s2 hfv => ?_; obtain ⟨sv, hfe, hsv⟩ := hfv; obtain ⟨p1, c1, he⟩ := slv_sh hsv.1; subst he; subst hfe; refine vo_step (ok_move rfl rfl rfl) rfl ?_; refine vo_step (ok_extract rfl rfl rfl rfl) rfl ?_; refine vo_step (ok_extract rfl rfl rfl rfl) rfl ?_; refine vo_step (ok_alloc L rfl rfl rfl rfl) rfl ?_; refine vo_step (ok_store L rfl rfl rfl rfl rfl rfl rfl rfl) rfl ?_; refine vo_step (ok_assign rfl rfl rfl) rfl ?_; refine vo_nil ?_; refine N_seq ?_; refine V_seq ?_; refine V_seq ?_; refine V_region (id := 2) ?_; refine vo_step (ok_move rfl rfl rfl) rfl ?_; refine vo_step (ok_neq rfl rfl rfl rfl (decide_eq_true (by omega))) rfl ?_; refine vo_nil ?_; refine N_seq ?_; refine V_true rfl ?_; refine V_seq ?_; refine V_region (id := 3) ?_; refine vo_step (ok_build (cs := [_, _]) rfl rfl pl24 rfl rfl) rfl ?_; refine vo_step (ok_build (cs := [_, _, _, _, _, _, _, _, _, _, _, _, _, _]) rfl rfl pl49 rfl rfl) rfl ?_; refine vo_step (ok_move rfl rfl rfl) rfl ?_; refine vo_step (ok_store L rfl rfl rfl rfl rfl rfl rfl rfl) rfl ?_; refine vo_step (ok_store L rfl rfl rfl rfl rfl rfl rfl rfl) rfl ?_; refine vo_step (ok_assign rfl rfl rfl) rfl ?_; refine vo_nil ?_; refine N_seq ?_
    refine V_ret L (rs := [.cell 4 24, .cell 5 49, .tmp 6]) rfl (fun _ _ h => h) (s1.trans s2) fun u H hH hle => ?_
    refine resK_cellA (src_own rfl) rfl rfl ?_
    refine resK_cellA (src_own rfl) rfl rfl ?_
    rw [hk]
    exact ⟨_, _, rfl, tbn_zero, sln_nil⟩
end Go.V.L39
/- The walks of the reference of flights (chapter 39): a flight lands. (Printed by mkref39d.py.) -/
namespace Go.V.L39
open Go.Proofs Go.RowKit Go.V
/-- What has been put together so far. -/
def FactL (B : Heap) (ys : List (Fl × Value)) (x : Value) : Heap → Prop := fun H => SlWN B tyF 14 ys.length (ys.flatMap flc) x H
theorem FactL.mono {B : Heap} {ys : List (Fl × Value)} {x : Value} : ∀ H H', FactL B ys x H → H.Le H' → FactL B ys x H' := fun _ _ h hle => SlWN.mono _ _ _ h hle
attribute [local irreducible] V N X VO Par StepOK Has Ret RetL RetO RetT RetG Src
end Go.V.L39
/- The walk of the reference's Join (chapter 39). (Printed by mkref39e.py.) -/
namespace Go.V.L39
open Go.Proofs Go.RowKit Go.V
def RJoinP (r : Tb × Int × Bool) (e : Int) : Value → Heap → Prop := fun v H => ∃ tv, v = .tuple #[tv, .int .i64 r.2.1, .int .i64 (if r.2.2 = true then 1 else 0), .int .i64 e] ∧ TbR r.1 tv H
theorem RJoinP.mono {r : Tb × Int × Bool} {e : Int} : Kn.mono (.sat (RJoinP r e)) := fun _ _ _ ⟨tv, h1, h2⟩ hle => ⟨tv, h1, h2.mono hle⟩
attribute [local irreducible] V N X VO Par StepOK Has Ret RetL RetO RetT RetG Src
end Go.V.L39
