/- The walks of the statements GoalsOf, GoalsErrors, GoalsWith (chapter 23). -/
import Derived.Test.YtpnmjelhnacmlaaLawB23
namespace Go.V.L23
open Go.Proofs Go.RowKit Go.V
theorem ofE_cases : ∀ (r pre : List G), ofE pre r = 0 ∨ ofE pre r = 6 ∨ ofE pre r = 7
  | [], _ => .inl rfl
  | g :: r, pre => by
    simp only [ofE]
    by_cases h : gE g = 0
    · rw [if_pos h]
      cases findL g pre 0 with
      | none => exact ofE_cases r _
      | some j => exact .inr (.inr rfl)
    · rw [if_neg h]
      exact .inr (.inl ((gE_cases g).resolve_left h))
theorem few_of {l : List G} (h : fewB l = true) : l.length ≤ 40 ∧ ∀ g ∈ l, g.1.1.size ≤ 20 ∧ g.1.2.size ≤ 20 ∧ g.2.size ≤ 20 := by
  unfold fewB at h
  rw [Bool.and_eq_true, decide_eq_true_eq, List.all_eq_true] at h
  exact ⟨h.1, fun g hg => by simpa using h.2 g hg⟩
theorem gz_of {g : G} (h : g.1.1.size ≤ 20 ∧ g.1.2.size ≤ 20 ∧ g.2.size ≤ 20) : GZ g := ⟨by omega, by omega, by omega⟩
/-- What is made of goals that are right, each once. -/
theorem ofE_once : ∀ (r pre : List G), (∀ g ∈ r, gE g = 0) → (pre ++ r).Nodup → ofE pre r = 0
  | [], _, _, _ => rfl
  | g :: r, pre, h, hn => by
    have h1 := List.nodup_append.1 hn
    have hg : findL g pre 0 = none := findL_none.2 fun hm => h1.2.2 g hm g (List.mem_cons_self ..) rfl
    simp only [ofE]
    rw [if_pos (h g (List.mem_cons_self ..)), hg]
    exact ofE_once r (pre ++ [g]) (fun x hx => h x (List.mem_cons_of_mem _ hx)) (by rw [List.append_assoc]; exact hn)
theorem once_spec : ∀ (l out : List G), out.Nodup → (∀ g ∈ out, gE g = 0 ∧ GZ g) → (∀ g ∈ l, gE g = 0 ∧ GZ g) → (onceL out l).Nodup ∧ ∀ g ∈ onceL out l, gE g = 0 ∧ GZ g
  | [], _, h1, h2, _ => ⟨h1, h2⟩
  | g :: r, out, h1, h2, h3 => by
    simp only [onceL]
    refine once_spec r _ ?_ ?_ fun x hx => h3 x (List.mem_cons_of_mem _ hx)
    · split
      · rename_i h
        have hg := findL_none.1 h
        refine List.nodup_append.2 ⟨h1, by simp, fun a ha b hb => ?_⟩
        rw [List.mem_singleton] at hb
        subst hb
        exact fun e => hg (e ▸ ha)
      · exact h1
    · intro x hx
      split at hx
      · rcases List.mem_append.1 hx with hx | hx
        · exact h2 x hx
        · rw [List.mem_singleton] at hx; subst hx; exact h3 _ (List.mem_cons_self ..)
      · exact h2 x hx
theorem tups4 {φ : Value → Heap → Prop} {a b c tv : Value} {H : Heap} (h : φ tv H) : TupS [φ, fun v _ => v = a, fun v _ => v = b, fun v _ => v = c] (.tuple #[tv, a, b, c]) H :=
  ⟨[tv, a, b, c], rfl, rfl, fun i ψ x hi hx => by
    rcases i with _ | _ | _ | _ | i
    · simp only [List.getElem?_cons_zero, Option.some.injEq] at hi hx; subst hi hx; exact h
    · simp only [List.getElem?_cons_zero, List.getElem?_cons_succ, Option.some.injEq] at hi hx; subst hi hx; rfl
    · simp only [List.getElem?_cons_zero, List.getElem?_cons_succ, Option.some.injEq] at hi hx; subst hi hx; rfl
    · simp only [List.getElem?_cons_zero, List.getElem?_cons_succ, Option.some.injEq] at hi hx; subst hi hx; rfl
    · simp at hi⟩
theorem tups4_mono {φ : Value → Heap → Prop} {a b c : Value} (h : Kn.mono (.sat φ)) : Kn.mono (.sat (TupS [φ, fun v _ => v = a, fun v _ => v = b, fun v _ => v = c])) := TupS.mono fun ψ hψ => by
  simp only [List.mem_cons, List.mem_nil_iff, or_false] at hψ
  rcases hψ with rfl | rfl | rfl | rfl
  · exact h
  · exact fun _ _ _ h _ => h
  · exact fun _ _ _ h _ => h
  · exact fun _ _ _ h _ => h
theorem WithP.use {l l' : List G} {g : G} {k i e : Int} {b : Bool} {r : Value} {H : Heap} (hw : withS l g = (l', k, b, e)) (hi : (if b = true then 1 else 0 : Int) = i) (h : WithP l g r H) : ∃ sv, r = .tuple #[sv, .int .i64 k, .int .i64 i, .int .i64 e] ∧ GS l' false sv H := by
  unfold WithP at h
  rw [hw] at h
  subst hi
  exact h
/-- A table's value, with what may be stored of it. -/
abbrev TXp := { x : TX // (cellsL (.agg #[x.1, .pointer x.2.1, x.2.2.1, .pointer x.2.2.2])).all plainV = true }
def tcs (x : TX) : List Value := [x.1, .pointer x.2.1, x.2.2.1, .pointer x.2.2.2]
theorem tcs_len (x : TX) : (tcs x).length = 4 := rfl
def tabsR (xs : List TX) : Res := SlR tyT 4 xs.length (xs.flatMap tcs)
def tabsP (ls : List (List G)) (xs : List TX) (H : Heap) : Prop := All2 (fun x m => tphi m x H) xs ls
theorem tabsP_mono (ls : List (List G)) : MonoX (tabsP ls) := fun _ _ _ h hle => h.imp fun _ _ h => TabV.le h hle
theorem tabs_snoc {κ : Kap} {s : Nat} {xs : List TX} {x : TX} (h : κ s = some (.own (SlR tyT 4 (xs.length + 1) (xs.flatMap tcs ++ [x.1, .pointer x.2.1, x.2.2.1, .pointer x.2.2.2])))) : κ s = some (.own (tabsR (xs ++ [x]))) := by
  rw [h]; unfold tabsR; rw [List.flatMap_append, List.length_append]; rfl
theorem tab_st {l : List G} : ∀ v H, TabV l v H → ∃ x : TXp, tphi l x.1 H ∧ cellsL v = tcs x.1 := fun v H h => by
  obtain ⟨f, p, k, q, rfl, hpl⟩ := h.shape
  exact ⟨⟨(f, p, k, q), hpl⟩, h, rfl⟩
attribute [local irreducible] V N X VO Par StepOK Has Ret RetL RetO Src
theorem gwith_newS {l : List G} {g : G} (h0 : gE g = 0) (hf : findL g l 0 = none) (hl : l.length < 131072) (hz : GZ g) {v : Value} {w : World} {B : Heap} (hB : B.Le (hp w)) (hv : TabV l v B) :
    Ret Try.prog 15 [v, gv g] w B (TupS [TabV (l ++ [g]), fun v _ => v = .int .i64 l.length, fun v _ => v = .bool true, fun v _ => v = .int .i64 0]) :=
  (gwith_new h0 hf hl hz hB hv).mono fun v H _ ⟨tv, e, hT⟩ => by subst e; exact tups4 hT
theorem rof_e {l : List G} {fu : Bool} {e : Int} (he : ofE [] l = e) (hl : l.length ≤ 131072) (hz : ∀ g ∈ l, GZ g) {v : Value} {w : World} {B : Heap} (hB : B.Le (hp w)) (hv : GS l fu v B) :
    Ret Try.prog 24 [v] w B (fun v _ => v = .int .i64 e) := he ▸ rof_ret hl hz hB hv
theorem goalsOf_law (l : List G) (fu : Bool) (hsz : l.length ≤ 9223372036854775807) {v : Value} {w : World} {B : Heap} (hB : B.Le (hp w)) (hv : GS l fu v B) :
    Ret Try.prog 4 [v] w B (fun v _ => v = .bool true) := by
  refine V_enter Try.func4 rfl Try.ntmps4 (Nat.le_of_ble_eq_true rfl) hB ?_
  refine V_seen 0 (GS l fu) rfl SlV.mono hv ?_
  cases hf : fewB l
  · have he : (if fewB l = true then 1 else 0 : Int) = 0 := by rw [hf]; rfl
    refine V_seq ?_; refine V_region (id := 0) ?_; refine vo_step (ok_assign rfl rfl rfl) rfl ?_; refine vo_nil ?_; refine N_seq ?_; refine V_seq ?_; refine V_seq ?_; refine V_region (id := 1) ?_; refine vo_step (ok_moves' rfl rfl rfl) rfl ?_; refine vo_step (ok_callx L rfl rfl (blt_lt rfl) rfl rfl rfl (fun u H hH hle _ v1 h1 => few_ret hsz he hH h1)) rfl ?_; refine vo_step (ok_eql rfl rfl rfl rfl (decide_eq_true (by omega))) rfl ?_; refine vo_nil ?_; refine N_seq ?_; refine V_true rfl ?_; refine V_seq ?_; refine V_region (id := 2) ?_; refine vo_step (ok_callx L rfl rfl (blt_lt rfl) rfl rfl rfl (fun u H hH _ _ => lives23_ret hH)) rfl ?_; refine vo_step (ok_assign rfl rfl rfl) rfl ?_; refine vo_nil ?_; refine N_seq ?_
    refine V_ret L (rs := [.tmp 2]) rfl (fun _ _ h => h) Since.refl fun u H hH hle => ?_
    rfl
  · have he : (if fewB l = true then 1 else 0 : Int) = 1 := by rw [hf]; rfl
    obtain ⟨h40, hz20⟩ := few_of hf
    have hz : ∀ g ∈ l, GZ g := fun g hg => gz_of (hz20 g hg)
    have hl : l.length ≤ 131072 := by omega
    rcases ofE_cases l [] with h0 | h0 | h0
    · refine V_seq ?_; refine V_region (id := 0) ?_; refine vo_step (ok_assign rfl rfl rfl) rfl ?_; refine vo_nil ?_; refine N_seq ?_; refine V_seq ?_; refine V_seq ?_; refine V_region (id := 1) ?_; refine vo_step (ok_moves' rfl rfl rfl) rfl ?_; refine vo_step (ok_callx L rfl rfl (blt_lt rfl) rfl rfl rfl (fun u H hH hle _ v1 h1 => few_ret hsz he hH h1)) rfl ?_; refine vo_step (ok_eql rfl rfl rfl rfl (decide_eq_false (by omega))) rfl ?_; refine vo_nil ?_; refine N_seq ?_; refine V_false rfl ?_; refine V_skip ?_; refine N_seq ?_; refine V_seq ?_; refine V_region (id := 3) ?_; refine vo_step (ok_moves' rfl rfl rfl) rfl ?_; refine vo_step (ok_call L rfl rfl (blt_lt rfl) rfl rfl rfl TupT.mono (fun u H hH hle _ v hv => gof_e (l' := l) h0 rfl hl hz hH hv)) rfl ?_; refine vo_opn 12 rfl fun v12 H12 hs12 ⟨tv, e, hT12⟩ => ?_; subst e; obtain ⟨f3, p3, k3, q3, rfl, hpl3⟩ := hT12.shape; refine vo_step (ok_move rfl rfl rfl) rfl ?_; refine vo_step (ok_extract rfl rfl rfl rfl) rfl ?_; refine vo_step (ok_extract rfl rfl rfl rfl) rfl ?_; refine vo_step (ok_alloc L rfl rfl rfl rfl) rfl ?_; refine vo_step (ok_store L rfl rfl rfl rfl rfl rfl (by assumption) rfl) rfl ?_; refine vo_step (ok_assign rfl rfl rfl) rfl ?_; refine vo_nil ?_; refine N_seq ?_; refine V_seq ?_; refine V_region (id := 4) ?_; refine vo_step (ok_moves' rfl rfl rfl) rfl ?_; refine vo_step (ok_callx L rfl rfl (blt_lt rfl) rfl rfl rfl (fun u H hH hle _ v hv => rof_e h0 hl hz hH hv)) rfl ?_; refine vo_step (ok_assign rfl rfl rfl) rfl ?_; refine vo_nil ?_; refine N_seq ?_; refine V_seq ?_; refine V_seq ?_; refine V_region (id := 5) ?_; refine vo_step (ok_move rfl rfl rfl) rfl ?_; refine vo_step (ok_gtr rfl rfl rfl rfl (decide_eq_false (by omega))) rfl ?_; refine vo_nil ?_; refine N_seq ?_; refine V_false rfl ?_; refine V_skip ?_; refine N_seq ?_; refine V_seq ?_; refine V_region (id := 7) ?_; refine vo_step (ok_move rfl rfl rfl) rfl ?_; refine vo_step (ok_move rfl rfl rfl) rfl ?_; refine vo_step (ok_eql rfl rfl rfl rfl (decide_eq_true (by omega))) rfl ?_; refine vo_step (ok_move rfl rfl rfl) rfl ?_; refine vo_step (ok_loadA L (vs := [_, _, _, _]) (src_own rfl) rfl rfl rfl rfl ⟨_, rfl⟩) rfl ?_; refine vo_step (ok_moves' rfl rfl rfl) rfl ?_; refine vo_step (ok_callx L rfl rfl (blt_lt rfl) rfl rfl rfl (fun u H hH hle _ v hv => same23_ret hl hH (hT12.le hle) hv)) rfl ?_; refine vo_step (ok_eql rfl rfl rfl rfl (decide_eq_true (by omega))) rfl ?_; refine vo_step (ok_pick rfl rfl rfl rfl) rfl ?_; refine vo_step (ok_move rfl rfl rfl) rfl ?_; refine vo_step (ok_callx L rfl rfl (blt_lt rfl) rfl rfl rfl (fun u H hH _ _ => lives23_ret hH)) rfl ?_; refine vo_step (ok_pick rfl rfl rfl rfl) rfl ?_; refine vo_step (ok_assign rfl rfl rfl) rfl ?_; refine vo_nil ?_; refine N_seq ?_
      refine V_ret L (rs := [.tmp 2]) rfl (fun _ _ h => h) hs12 fun u H hH hle => ?_
      rfl
    · refine V_seq ?_; refine V_region (id := 0) ?_; refine vo_step (ok_assign rfl rfl rfl) rfl ?_; refine vo_nil ?_; refine N_seq ?_; refine V_seq ?_; refine V_seq ?_; refine V_region (id := 1) ?_; refine vo_step (ok_moves' rfl rfl rfl) rfl ?_; refine vo_step (ok_callx L rfl rfl (blt_lt rfl) rfl rfl rfl (fun u H hH hle _ v1 h1 => few_ret hsz he hH h1)) rfl ?_; refine vo_step (ok_eql rfl rfl rfl rfl (decide_eq_false (by omega))) rfl ?_; refine vo_nil ?_; refine N_seq ?_; refine V_false rfl ?_; refine V_skip ?_; refine N_seq ?_; refine V_seq ?_; refine V_region (id := 3) ?_; refine vo_step (ok_moves' rfl rfl rfl) rfl ?_; refine vo_step (ok_call L rfl rfl (blt_lt rfl) rfl rfl rfl TupT.mono (fun u H hH hle _ v hv => gof_e (l' := []) h0 rfl hl hz hH hv)) rfl ?_; refine vo_opn 12 rfl fun v12 H12 hs12 ⟨tv, e, hT12⟩ => ?_; subst e; obtain ⟨f3, p3, k3, q3, rfl, hpl3⟩ := hT12.shape; refine vo_step (ok_move rfl rfl rfl) rfl ?_; refine vo_step (ok_extract rfl rfl rfl rfl) rfl ?_; refine vo_step (ok_extract rfl rfl rfl rfl) rfl ?_; refine vo_step (ok_alloc L rfl rfl rfl rfl) rfl ?_; refine vo_step (ok_store L rfl rfl rfl rfl rfl rfl (by assumption) rfl) rfl ?_; refine vo_step (ok_assign rfl rfl rfl) rfl ?_; refine vo_nil ?_; refine N_seq ?_; refine V_seq ?_; refine V_region (id := 4) ?_; refine vo_step (ok_moves' rfl rfl rfl) rfl ?_; refine vo_step (ok_callx L rfl rfl (blt_lt rfl) rfl rfl rfl (fun u H hH hle _ v hv => rof_e h0 hl hz hH hv)) rfl ?_; refine vo_step (ok_assign rfl rfl rfl) rfl ?_; refine vo_nil ?_; refine N_seq ?_; refine V_seq ?_; refine V_seq ?_; refine V_region (id := 5) ?_; refine vo_step (ok_move rfl rfl rfl) rfl ?_; refine vo_step (ok_gtr rfl rfl rfl rfl (decide_eq_true (by omega))) rfl ?_; refine vo_nil ?_; refine N_seq ?_; refine V_true rfl ?_; refine V_region (id := 6) ?_; refine vo_step (ok_assign rfl rfl rfl) rfl ?_; refine vo_nil ?_; refine N_seq ?_; refine V_seq ?_
      refine V_seen 0 (GS [] false) rfl SlV.mono SlV.nil ?_
      refine V_region (id := 7) ?_; refine vo_step (ok_move rfl rfl rfl) rfl ?_; refine vo_step (ok_move rfl rfl rfl) rfl ?_; refine vo_step (ok_eql rfl rfl rfl rfl (decide_eq_true (by omega))) rfl ?_; refine vo_step (ok_move rfl rfl rfl) rfl ?_; refine vo_step (ok_loadA L (vs := [_, _, _, _]) (src_own rfl) rfl rfl rfl rfl ⟨_, rfl⟩) rfl ?_; refine vo_step (ok_moves' rfl rfl rfl) rfl ?_; refine vo_step (ok_callx L rfl rfl (blt_lt rfl) rfl rfl rfl (fun u H hH hle _ v hv => same23_ret (l := []) (by decide) hH (hT12.le hle) hv)) rfl ?_; refine vo_step (ok_eql rfl rfl rfl rfl (decide_eq_true (by omega))) rfl ?_; refine vo_step (ok_pick rfl rfl rfl rfl) rfl ?_; refine vo_step (ok_move rfl rfl rfl) rfl ?_; refine vo_step (ok_callx L rfl rfl (blt_lt rfl) rfl rfl rfl (fun u H hH _ _ => lives23_ret hH)) rfl ?_; refine vo_step (ok_pick rfl rfl rfl rfl) rfl ?_; refine vo_step (ok_assign rfl rfl rfl) rfl ?_; refine vo_nil ?_; refine N_seq ?_
      refine V_ret L (rs := [.tmp 2]) rfl (fun _ _ h => h) hs12 fun u H hH hle => ?_
      rfl
    · refine V_seq ?_; refine V_region (id := 0) ?_; refine vo_step (ok_assign rfl rfl rfl) rfl ?_; refine vo_nil ?_; refine N_seq ?_; refine V_seq ?_; refine V_seq ?_; refine V_region (id := 1) ?_; refine vo_step (ok_moves' rfl rfl rfl) rfl ?_; refine vo_step (ok_callx L rfl rfl (blt_lt rfl) rfl rfl rfl (fun u H hH hle _ v1 h1 => few_ret hsz he hH h1)) rfl ?_; refine vo_step (ok_eql rfl rfl rfl rfl (decide_eq_false (by omega))) rfl ?_; refine vo_nil ?_; refine N_seq ?_; refine V_false rfl ?_; refine V_skip ?_; refine N_seq ?_; refine V_seq ?_; refine V_region (id := 3) ?_; refine vo_step (ok_moves' rfl rfl rfl) rfl ?_; refine vo_step (ok_call L rfl rfl (blt_lt rfl) rfl rfl rfl TupT.mono (fun u H hH hle _ v hv => gof_e (l' := []) h0 rfl hl hz hH hv)) rfl ?_; refine vo_opn 12 rfl fun v12 H12 hs12 ⟨tv, e, hT12⟩ => ?_; subst e; obtain ⟨f3, p3, k3, q3, rfl, hpl3⟩ := hT12.shape; refine vo_step (ok_move rfl rfl rfl) rfl ?_; refine vo_step (ok_extract rfl rfl rfl rfl) rfl ?_; refine vo_step (ok_extract rfl rfl rfl rfl) rfl ?_; refine vo_step (ok_alloc L rfl rfl rfl rfl) rfl ?_; refine vo_step (ok_store L rfl rfl rfl rfl rfl rfl (by assumption) rfl) rfl ?_; refine vo_step (ok_assign rfl rfl rfl) rfl ?_; refine vo_nil ?_; refine N_seq ?_; refine V_seq ?_; refine V_region (id := 4) ?_; refine vo_step (ok_moves' rfl rfl rfl) rfl ?_; refine vo_step (ok_callx L rfl rfl (blt_lt rfl) rfl rfl rfl (fun u H hH hle _ v hv => rof_e h0 hl hz hH hv)) rfl ?_; refine vo_step (ok_assign rfl rfl rfl) rfl ?_; refine vo_nil ?_; refine N_seq ?_; refine V_seq ?_; refine V_seq ?_; refine V_region (id := 5) ?_; refine vo_step (ok_move rfl rfl rfl) rfl ?_; refine vo_step (ok_gtr rfl rfl rfl rfl (decide_eq_true (by omega))) rfl ?_; refine vo_nil ?_; refine N_seq ?_; refine V_true rfl ?_; refine V_region (id := 6) ?_; refine vo_step (ok_assign rfl rfl rfl) rfl ?_; refine vo_nil ?_; refine N_seq ?_; refine V_seq ?_
      refine V_seen 0 (GS [] false) rfl SlV.mono SlV.nil ?_
      refine V_region (id := 7) ?_; refine vo_step (ok_move rfl rfl rfl) rfl ?_; refine vo_step (ok_move rfl rfl rfl) rfl ?_; refine vo_step (ok_eql rfl rfl rfl rfl (decide_eq_true (by omega))) rfl ?_; refine vo_step (ok_move rfl rfl rfl) rfl ?_; refine vo_step (ok_loadA L (vs := [_, _, _, _]) (src_own rfl) rfl rfl rfl rfl ⟨_, rfl⟩) rfl ?_; refine vo_step (ok_moves' rfl rfl rfl) rfl ?_; refine vo_step (ok_callx L rfl rfl (blt_lt rfl) rfl rfl rfl (fun u H hH hle _ v hv => same23_ret (l := []) (by decide) hH (hT12.le hle) hv)) rfl ?_; refine vo_step (ok_eql rfl rfl rfl rfl (decide_eq_true (by omega))) rfl ?_; refine vo_step (ok_pick rfl rfl rfl rfl) rfl ?_; refine vo_step (ok_move rfl rfl rfl) rfl ?_; refine vo_step (ok_callx L rfl rfl (blt_lt rfl) rfl rfl rfl (fun u H hH _ _ => lives23_ret hH)) rfl ?_; refine vo_step (ok_pick rfl rfl rfl rfl) rfl ?_; refine vo_step (ok_assign rfl rfl rfl) rfl ?_; refine vo_nil ?_; refine N_seq ?_
      refine V_ret L (rs := [.tmp 2]) rfl (fun _ _ h => h) hs12 fun u H hH hle => ?_
      rfl
set_option maxHeartbeats 8000000 in
set_option maxRecDepth 10000 in
theorem goalsWith_law (ns : List Nat) (fu : Bool) (hns : ∀ n ∈ ns, n ≤ 255) (hlen : ns.length ≤ 9223372036854775807) {sv : Value} {w : World} {B : Heap} (hB : B.Le (hp w)) (hv : US ns fu sv B) :
    Ret Try.prog 3 [.agg #[sv]] w B (fun v _ => v = .bool true) := by
  have hok : ∀ g ∈ gl ns, gE g = 0 ∧ GZ g := fun g hg => gl_ok hg
  have h40 : (gl ns).length ≤ 40 := by rw [gl_length]; omega
  refine V_enter Try.func3 rfl Try.ntmps3 (Nat.le_of_ble_eq_true rfl) hB ?_
  refine V_seq ?_; refine V_region (id := 0) ?_; refine vo_step (ok_box rfl rfl rfl rfl) rfl ?_; refine vo_step (ok_assign rfl rfl rfl) rfl ?_; refine vo_nil ?_; refine N_seq ?_; refine V_seq ?_; refine V_region (id := 1) ?_; refine vo_step (ok_loadA L (vs := [_]) (src_at rfl) rfl rfl rfl rfl ⟨_, rfl⟩) rfl ?_; refine vo_step (ok_call L rfl rfl (blt_lt rfl) rfl rfl rfl SlV.mono (fun u H hH hle _ => gsof_ret hns hlen hH (SlV.le hv hle))) rfl ?_; refine vo_step (ok_assigns' rfl rfl rfl) rfl ?_; refine vo_nil ?_; refine N_seq ?_; refine V_seq ?_; refine V_region (id := 2) ?_; refine vo_step (ok_alloc L rfl rfl rfl rfl) rfl ?_; refine vo_nil ?_; refine N_seq ?_; refine V_seq ?_; refine V_region (id := 3) ?_; refine vo_step (ok_assign rfl rfl rfl) rfl ?_; refine vo_nil ?_; refine N_seq ?_; refine V_seq ?_; refine V_region (id := 4) ?_; refine vo_step (ok_assign rfl rfl rfl) rfl ?_; refine vo_nil ?_; refine N_seq ?_; refine V_seq ?_; refine V_seq ?_; refine V_region (id := 5) ?_; refine vo_step (ok_assign rfl rfl rfl) rfl ?_; refine vo_nil ?_; refine N_seq ?_; refine V_block ?_
  generalize gl ns = l at hok h40
  refine V_seen 5 (GS [] false) rfl SlV.mono SlV.nil ?_
  refine V_nilR 6 tyT 4 rfl ?_
  refine V_clsX (X := TX) 4 (r := tcell) (φ := tphi []) (tphi_mono []) (.nilFunc, none, .nilFunc, none) TabV.nil rfl ?_
  refine V_clsX (X := List TX) 6 (r := tabsR) (φ := tabsP []) (tabsP_mono []) [] All2.nil rfl ?_
  refine V_loop (fun s : Nat × List G × List (List G) => [(3, .sat (GS l false)), (4, .own (TabR s.2.1)), (5, .sat (GS s.2.1 false)), (6, .own (ExR tabsR (tabsP s.2.2) (tabsP_mono s.2.2))), (7, .is (.int .i64 s.1))])
    (fun s => s.1 ≤ l.length ∧ s.2.1.length ≤ s.1 ∧ s.2.2.length ≤ s.1 ∧ ∀ m ∈ s.2.2, m.length ≤ 40 ∧ goesB s.2.1 m = true) (fun s => l.length - s.1) (0, [], []) ⟨Nat.zero_le _, Nat.le_refl _, Nat.le_refl _, fun m h => by cases h⟩ ⟨rfl, rfl, rfl, rfl, rfl, trivial⟩ ?_
  rintro ⟨i, now, ls⟩ ⟨hi, hn, hll, hls⟩
  dsimp only at hi hn hll hls ⊢
  refine V_opnX 4 rfl fun ⟨f4, p4, k4, q4⟩ H4 hs4 hT => ?_
  refine V_opnX 6 rfl fun xs H6 hs6 hxs => ?_
  have hpl := tphi_plain hT
  have hT4 : TabV now (.agg #[f4, .pointer p4, k4, .pointer q4]) H6 := TabV.le hT hs6.le
  have hx1 := hxs.1
  by_cases hlt : i < l.length
  · obtain ⟨g, hg⟩ := get_some hlt
    have hc := gs_at hg
    obtain ⟨h0, hzg⟩ := hok g (List.mem_of_getElem? hg)
    have hnow : now.length < 131072 := by omega
    have hls' : ∀ m ∈ ls ++ [now], m.length ≤ 40 ∧ goesB now m = true := fun m hm => by
      rcases List.mem_append.1 hm with hm | hm
      · exact hls m hm
      · rw [List.mem_singleton] at hm; subst hm
        exact ⟨by omega, decide_eq_true (List.take_length ..)⟩
    have hxs' : tabsP (ls ++ [now]) (xs ++ [(f4, p4, k4, q4)]) H6 := hxs.snoc hT4
    rcases hf : findL g now 0 with _ | j
    · have hw := withS_new h0 hf
      have hmono := TabV.mono (l := now ++ [g])
      have hls2 : ∀ m ∈ ls ++ [now], m.length ≤ 40 ∧ goesB (now ++ [g]) m = true := fun m hm => by
        obtain ⟨a1, a2⟩ := hls' m hm
        refine ⟨a1, decide_eq_true ?_⟩
        have a3 := of_decide_eq_true a2
        have a4 : m.length ≤ now.length := by have := congrArg List.length a3; rw [List.length_take] at this; omega
        rw [List.take_append_of_le_length a4]; exact a3
      refine V_seq ?_; refine V_seq ?_; refine V_region (id := 6) ?_; refine vo_step (ok_move rfl rfl rfl) rfl ?_; refine vo_step (ok_moves' rfl rfl rfl) rfl ?_; refine vo_step (ok_lenV L rfl rfl rfl rfl) rfl ?_; refine vo_step (ok_lss rfl rfl rfl rfl (decide_eq_true (by omega))) rfl ?_; refine vo_nil ?_; refine N_seq ?_; refine V_true rfl ?_; refine V_skip ?_; refine N_seq ?_; refine V_seq ?_; refine V_block ?_; refine V_seq ?_; refine V_region (id := 8) ?_; refine vo_step2 (ok_moveO (.inl rfl) rfl rfl rfl rfl) ?_; refine vo_step (ok_loadA L (vs := [_, _, _, _]) (src_own rfl) rfl rfl rfl rfl ⟨_, rfl⟩) rfl ?_; refine vo_step (ok_buildSlice L rfl rfl rfl rfl rfl rfl rfl rfl rfl) rfl ?_; refine vo_step2 (ok_append L rfl rfl rfl (apd_B rfl) rfl el36 rfl (by assumption) (by omega) (by omega)) ?_; refine vo_step2 (ok_moveO (.inr rfl) rfl rfl rfl rfl) ?_; refine vo_nil ?_; refine N_seq ?_; refine V_seq ?_; refine V_regionD (id := 9) [] mixed (by kernel_rfl) ?_; refine par_step (ok_loadA L (vs := [_, _, _, _]) (src_own rfl) rfl rfl rfl rfl ⟨_, rfl⟩) rfl ?_; refine par_step (ok_moves' rfl rfl rfl) rfl ?_; refine par_step (ok_move rfl rfl rfl) rfl ?_; refine par_step (ok_indexV L _ rfl rfl rfl rfl rfl rfl rfl (by first | omega | decide) (by assumption)) rfl ?_; refine par_step (ok_loadPA L (vs := [_, _, _]) rfl rfl rfl rfl rfl ⟨_, rfl⟩) rfl ?_; refine par_step (ok_call L rfl rfl (blt_lt rfl) rfl rfl rfl (tups4_mono TabV.mono) (fun u H hH hle _ => gwith_newS h0 hf hnow hzg hH (hT4.le hle))) rfl ?_; refine par_step (ok_moves' rfl rfl rfl) rfl ?_; refine par_step (ok_extracts rfl rfl rfl rfl (by assumption)) rfl ?_; refine par_step (ok_extractx rfl rfl rfl rfl) rfl ?_; refine par_step (ok_extractx rfl rfl rfl rfl) rfl ?_; refine par_step (ok_extractx rfl rfl rfl rfl) rfl ?_; refine par_step (ok_alloc L rfl rfl rfl rfl) rfl ?_; refine par_step (ok_storeX L (X := TXp) (fun x => tcs x.1) (fun x H => tphi (now ++ [g]) x.1 H) (fun _ _ _ h hle => TabV.le h hle) tab_st (fun x => ⟨rfl, x.2⟩) rfl rfl rfl rfl rfl) rfl ?_; refine par_step (ok_assign rfl rfl rfl) rfl ?_; refine par_step (ok_assign rfl rfl rfl) rfl ?_; refine par_step (ok_assign rfl rfl rfl) rfl ?_; refine par_nil ?_; refine N_seq ?_; refine V_seq ?_
      refine V_opnX 8 rfl fun ⟨⟨f8, p8, k8, q8⟩, hpl8⟩ H8 hs8 hT8 => ?_
      have hT8' : TabV (now ++ [g]) (.agg #[f8, .pointer p8, k8, .pointer q8]) H8 := hT8
      have hT48 := hT4.le hs8.le
      refine V_region (id := 10) ?_; refine vo_step (ok_moves' rfl rfl rfl) rfl ?_; refine vo_step (ok_moves' rfl rfl rfl) rfl ?_; refine vo_step (ok_move rfl rfl rfl) rfl ?_; refine vo_step (ok_indexV L _ rfl rfl rfl rfl rfl rfl rfl (by first | omega | decide) (by assumption)) rfl ?_; refine vo_step (ok_loadPA L (vs := [_, _, _]) rfl rfl rfl rfl rfl ⟨_, rfl⟩) rfl ?_; refine vo_step (ok_call L rfl rfl (blt_lt rfl) rfl rfl rfl WithP.mono (fun u H hH hle _ v1 h1 => rwith_ret hnow hzg hH h1)) rfl ?_; refine vo_opn 47 rfl fun v47 H47 hs47 hW => ?_; obtain ⟨sv47, e47, hG47⟩ := WithP.use (i := 1) hw rfl hW; subst e47; refine vo_step (ok_move rfl rfl rfl) rfl ?_; refine vo_step (ok_extract rfl rfl rfl rfl) rfl ?_; refine vo_step (ok_extract rfl rfl rfl rfl) rfl ?_; refine vo_step (ok_extract rfl rfl rfl rfl) rfl ?_; refine vo_step (ok_extract rfl rfl rfl rfl) rfl ?_; refine vo_step (ok_assign rfl rfl rfl) rfl ?_; refine vo_step (ok_assign rfl rfl rfl) rfl ?_; refine vo_step (ok_assign rfl rfl rfl) rfl ?_; refine vo_step (ok_assign rfl rfl rfl) rfl ?_; refine vo_nil ?_; refine N_seq ?_; refine V_seq ?_; refine V_seq ?_
      refine V_region (id := 11) ?_; refine vo_step (ok_move rfl rfl rfl) rfl ?_; refine vo_step (ok_neq rfl rfl rfl rfl (decide_eq_false (by omega))) rfl ?_; refine vo_step (ok_move rfl rfl rfl) rfl ?_; refine vo_step (ok_move rfl rfl rfl) rfl ?_; refine vo_step (ok_move rfl rfl rfl) rfl ?_; refine vo_step (ok_neq rfl rfl rfl rfl (decide_eq_false (by omega))) rfl ?_; refine vo_step (ok_pick rfl rfl rfl rfl) rfl ?_; refine vo_step (ok_move rfl rfl rfl) rfl ?_; refine vo_step (ok_move rfl rfl rfl) rfl ?_; refine vo_step (ok_move rfl rfl rfl) rfl ?_; refine vo_step (ok_eql rfl rfl rfl rfl (decide_eq_true (by omega))) rfl ?_; refine vo_step (ok_bneq rfl rfl rfl rfl bt4 rfl) rfl ?_; refine vo_step (ok_pick rfl rfl rfl rfl) rfl ?_; refine vo_step (ok_move rfl rfl rfl) rfl ?_; refine vo_step (ok_loadA L (vs := [_, _, _, _]) (src_own rfl) rfl rfl rfl rfl ⟨_, rfl⟩) rfl ?_; refine vo_step (ok_move rfl rfl rfl) rfl ?_; refine vo_seen 67 (GS (now ++ [g]) false) rfl SlV.mono hG47 ?_; refine vo_step (ok_callx L rfl rfl (blt_lt rfl) rfl rfl rfl (fun u H hH hle _ v hv => same23_ret (l := now ++ [g]) (by rw [List.length_append, List.length_singleton]; omega) hH (hT8'.le (hs47.le.trans hle)) hv)) rfl ?_; refine vo_step (ok_eql rfl rfl rfl rfl (decide_eq_false (by omega))) rfl ?_; refine vo_step (ok_pick rfl rfl rfl rfl) rfl ?_; refine vo_step (ok_move rfl rfl rfl) rfl ?_; refine vo_step (ok_loadA L (vs := [_, _, _, _]) (src_own rfl) rfl rfl rfl rfl ⟨_, rfl⟩) rfl ?_; refine vo_step (ok_moves' rfl rfl rfl) rfl ?_; refine vo_step (ok_callx L rfl rfl (blt_lt rfl) rfl rfl rfl (fun u H hH hle _ v hv => same23_ret (l := now) (by omega) hH (hT48.le (hs47.le.trans hle)) hv)) rfl ?_; refine vo_step (ok_eql rfl rfl rfl rfl (decide_eq_false (by omega))) rfl ?_; refine vo_step (ok_pick rfl rfl rfl rfl) rfl ?_; refine vo_nil ?_; refine N_seq ?_; refine V_false rfl ?_; refine V_skip ?_; refine N_seq ?_; refine V_seq ?_; refine V_region (id := 13) ?_; refine vo_step (ok_loadA L (vs := [_, _, _, _]) (src_own rfl) rfl rfl rfl rfl ⟨_, rfl⟩) rfl ?_; refine vo_step (ok_store L rfl rfl rfl rfl rfl rfl (by assumption) rfl) rfl ?_; refine vo_nil ?_; refine N_seq ?_; refine V_region (id := 14) ?_; refine vo_step (ok_move rfl rfl rfl) rfl ?_; refine vo_step (ok_assign rfl rfl rfl) rfl ?_; refine vo_nil ?_; refine N_block ?_; refine N_seq ?_; refine V_region (id := 7) ?_; refine vo_step (ok_move rfl rfl rfl) rfl ?_; refine vo_step (ok_add rfl rfl rfl rfl (wrap_i64 (by omega) (by omega))) rfl ?_; refine vo_step (ok_assign rfl rfl rfl) rfl ?_; refine vo_nil ?_
      refine N_seen 5 (GS (now ++ [g]) false) rfl SlV.mono hG47 ?_
      refine N_clsX (X := TX) 4 (r := tcell) (φ := tphi (now ++ [g])) (tphi_mono _) (f8, p8, k8, q8) (hT8'.le hs47.le) rfl ?_
      refine N_clsX (X := List TX) 6 (r := tabsR) (φ := tabsP (ls ++ [now])) (tabsP_mono _) (xs ++ [(f4, p4, k4, q4)]) (tabsP_mono _ _ _ _ hxs' (hs8.le.trans hs47.le)) (tabs_snoc rfl) ?_
      exact N_roundS (x := (i, now, ls)) (i + 1, now ++ [g], ls ++ [now]) ((hs4.trans hs6).trans (hs8.trans hs47)) ⟨hlt, by dsimp only; rw [List.length_append, List.length_singleton]; omega, by dsimp only; rw [List.length_append, List.length_singleton]; omega, hls2⟩ (by dsimp only; omega) ⟨rfl, rfl, rfl, rfl, rfl, trivial⟩
    · have hw := withS_old h0 hf
      refine V_seq ?_; refine V_seq ?_; refine V_region (id := 6) ?_; refine vo_step (ok_move rfl rfl rfl) rfl ?_; refine vo_step (ok_moves' rfl rfl rfl) rfl ?_; refine vo_step (ok_lenV L rfl rfl rfl rfl) rfl ?_; refine vo_step (ok_lss rfl rfl rfl rfl (decide_eq_true (by omega))) rfl ?_; refine vo_nil ?_; refine N_seq ?_; refine V_true rfl ?_; refine V_skip ?_; refine N_seq ?_; refine V_seq ?_; refine V_block ?_; refine V_seq ?_; refine V_region (id := 8) ?_; refine vo_step2 (ok_moveO (.inl rfl) rfl rfl rfl rfl) ?_; refine vo_step (ok_loadA L (vs := [_, _, _, _]) (src_own rfl) rfl rfl rfl rfl ⟨_, rfl⟩) rfl ?_; refine vo_step (ok_buildSlice L rfl rfl rfl rfl rfl rfl rfl rfl rfl) rfl ?_; refine vo_step2 (ok_append L rfl rfl rfl (apd_B rfl) rfl el36 rfl (by assumption) (by omega) (by omega)) ?_; refine vo_step2 (ok_moveO (.inr rfl) rfl rfl rfl rfl) ?_; refine vo_nil ?_; refine N_seq ?_; refine V_seq ?_; refine V_regionD (id := 9) [] mixed (by kernel_rfl) ?_; refine par_step (ok_loadA L (vs := [_, _, _, _]) (src_own rfl) rfl rfl rfl rfl ⟨_, rfl⟩) rfl ?_; refine par_step (ok_moves' rfl rfl rfl) rfl ?_; refine par_step (ok_move rfl rfl rfl) rfl ?_; refine par_step (ok_indexV L _ rfl rfl rfl rfl rfl rfl rfl (by first | omega | decide) (by assumption)) rfl ?_; refine par_step (ok_loadPA L (vs := [_, _, _]) rfl rfl rfl rfl rfl ⟨_, rfl⟩) rfl ?_; refine par_step (ok_callx L rfl rfl (blt_lt rfl) rfl rfl rfl (fun u H hH hle _ => gwith_old h0 hf hzg hH (hT4.le hle))) rfl ?_; refine par_step (ok_move rfl rfl rfl) rfl ?_; refine par_step (ok_extract rfl rfl rfl rfl) rfl ?_; refine par_step (ok_extract rfl rfl rfl rfl) rfl ?_; refine par_step (ok_extract rfl rfl rfl rfl) rfl ?_; refine par_step (ok_extract rfl rfl rfl rfl) rfl ?_; refine par_step (ok_alloc L rfl rfl rfl rfl) rfl ?_; refine par_step (ok_store L rfl rfl rfl rfl rfl rfl (by assumption) rfl) rfl ?_; refine par_step (ok_assign rfl rfl rfl) rfl ?_; refine par_step (ok_assign rfl rfl rfl) rfl ?_; refine par_step (ok_assign rfl rfl rfl) rfl ?_; refine par_nil ?_; refine N_seq ?_; refine V_seq ?_; refine V_region (id := 10) ?_; refine vo_step (ok_moves' rfl rfl rfl) rfl ?_; refine vo_step (ok_moves' rfl rfl rfl) rfl ?_; refine vo_step (ok_move rfl rfl rfl) rfl ?_; refine vo_step (ok_indexV L _ rfl rfl rfl rfl rfl rfl rfl (by first | omega | decide) (by assumption)) rfl ?_; refine vo_step (ok_loadPA L (vs := [_, _, _]) rfl rfl rfl rfl rfl ⟨_, rfl⟩) rfl ?_; refine vo_step (ok_call L rfl rfl (blt_lt rfl) rfl rfl rfl WithP.mono (fun u H hH hle _ v1 h1 => rwith_ret hnow hzg hH h1)) rfl ?_; refine vo_opn 47 rfl fun v47 H47 hs47 hW => ?_; obtain ⟨sv47, e47, hG47⟩ := WithP.use (i := 0) hw rfl hW; subst e47; refine vo_step (ok_move rfl rfl rfl) rfl ?_; refine vo_step (ok_extract rfl rfl rfl rfl) rfl ?_; refine vo_step (ok_extract rfl rfl rfl rfl) rfl ?_; refine vo_step (ok_extract rfl rfl rfl rfl) rfl ?_; refine vo_step (ok_extract rfl rfl rfl rfl) rfl ?_; refine vo_step (ok_assign rfl rfl rfl) rfl ?_; refine vo_step (ok_assign rfl rfl rfl) rfl ?_; refine vo_step (ok_assign rfl rfl rfl) rfl ?_; refine vo_step (ok_assign rfl rfl rfl) rfl ?_; refine vo_nil ?_; refine N_seq ?_; refine V_seq ?_; refine V_seq ?_
      refine V_region (id := 11) ?_; refine vo_step (ok_move rfl rfl rfl) rfl ?_; refine vo_step (ok_neq rfl rfl rfl rfl (decide_eq_false (by omega))) rfl ?_; refine vo_step (ok_move rfl rfl rfl) rfl ?_; refine vo_step (ok_move rfl rfl rfl) rfl ?_; refine vo_step (ok_move rfl rfl rfl) rfl ?_; refine vo_step (ok_neq rfl rfl rfl rfl (decide_eq_false (by omega))) rfl ?_; refine vo_step (ok_pick rfl rfl rfl rfl) rfl ?_; refine vo_step (ok_move rfl rfl rfl) rfl ?_; refine vo_step (ok_move rfl rfl rfl) rfl ?_; refine vo_step (ok_move rfl rfl rfl) rfl ?_; refine vo_step (ok_eql rfl rfl rfl rfl (decide_eq_false (by omega))) rfl ?_; refine vo_step (ok_bneq rfl rfl rfl rfl bt4 rfl) rfl ?_; refine vo_step (ok_pick rfl rfl rfl rfl) rfl ?_; refine vo_step (ok_move rfl rfl rfl) rfl ?_; refine vo_step (ok_loadA L (vs := [_, _, _, _]) (src_own rfl) rfl rfl rfl rfl ⟨_, rfl⟩) rfl ?_; refine vo_step (ok_move rfl rfl rfl) rfl ?_; refine vo_seen 67 (GS now false) rfl SlV.mono hG47 ?_; refine vo_step (ok_callx L rfl rfl (blt_lt rfl) rfl rfl rfl (fun u H hH hle _ v hv => same23_ret (l := now) (by omega) hH (hT4.le (hs47.le.trans hle)) hv)) rfl ?_; refine vo_step (ok_eql rfl rfl rfl rfl (decide_eq_false (by omega))) rfl ?_; refine vo_step (ok_pick rfl rfl rfl rfl) rfl ?_; refine vo_step (ok_move rfl rfl rfl) rfl ?_; refine vo_step (ok_loadA L (vs := [_, _, _, _]) (src_own rfl) rfl rfl rfl rfl ⟨_, rfl⟩) rfl ?_; refine vo_step (ok_moves' rfl rfl rfl) rfl ?_; refine vo_step (ok_callx L rfl rfl (blt_lt rfl) rfl rfl rfl (fun u H hH hle _ v hv => same23_ret (l := now) (by omega) hH (hT4.le (hs47.le.trans hle)) hv)) rfl ?_; refine vo_step (ok_eql rfl rfl rfl rfl (decide_eq_false (by omega))) rfl ?_; refine vo_step (ok_pick rfl rfl rfl rfl) rfl ?_; refine vo_nil ?_; refine N_seq ?_; refine V_false rfl ?_; refine V_skip ?_; refine N_seq ?_; refine V_seq ?_; refine V_region (id := 13) ?_; refine vo_step (ok_loadA L (vs := [_, _, _, _]) (src_own rfl) rfl rfl rfl rfl ⟨_, rfl⟩) rfl ?_; refine vo_step (ok_store L rfl rfl rfl rfl rfl rfl (by assumption) rfl) rfl ?_; refine vo_nil ?_; refine N_seq ?_; refine V_region (id := 14) ?_; refine vo_step (ok_move rfl rfl rfl) rfl ?_; refine vo_step (ok_assign rfl rfl rfl) rfl ?_; refine vo_nil ?_; refine N_block ?_; refine N_seq ?_; refine V_region (id := 7) ?_; refine vo_step (ok_move rfl rfl rfl) rfl ?_; refine vo_step (ok_add rfl rfl rfl rfl (wrap_i64 (by omega) (by omega))) rfl ?_; refine vo_step (ok_assign rfl rfl rfl) rfl ?_; refine vo_nil ?_
      refine N_seen 5 (GS now false) rfl SlV.mono hG47 ?_
      refine N_clsX (X := TX) 4 (r := tcell) (φ := tphi now) (tphi_mono _) (f4, p4, k4, q4) (hT4.le hs47.le) rfl ?_
      refine N_clsX (X := List TX) 6 (r := tabsR) (φ := tabsP (ls ++ [now])) (tabsP_mono _) (xs ++ [(f4, p4, k4, q4)]) (tabsP_mono _ _ _ _ hxs' hs47.le) (tabs_snoc rfl) ?_
      exact N_roundS (x := (i, now, ls)) (i + 1, now, ls ++ [now]) ((hs4.trans hs6).trans hs47) ⟨hlt, by dsimp only; omega, by dsimp only; rw [List.length_append, List.length_singleton]; omega, hls'⟩ (by dsimp only; omega) ⟨rfl, rfl, rfl, rfl, rfl, trivial⟩
  · refine V_seq ?_; refine V_seq ?_; refine V_region (id := 6) ?_; refine vo_step (ok_move rfl rfl rfl) rfl ?_; refine vo_step (ok_moves' rfl rfl rfl) rfl ?_; refine vo_step (ok_lenV L rfl rfl rfl rfl) rfl ?_; refine vo_step (ok_lss rfl rfl rfl rfl (decide_eq_false (by omega))) rfl ?_; refine vo_nil ?_; refine N_seq ?_; refine V_false rfl ?_; refine V_exit ?_; refine X_then ?_; refine X_then ?_; refine X_here ?_; refine N_seq ?_; refine V_seq ?_; refine V_seq ?_
    refine V_pubR 6 rfl ?_
    refine V_region (id := 15) ?_; refine vo_step (ok_assign rfl rfl rfl) rfl ?_; refine vo_nil ?_; refine N_seq ?_; refine V_block ?_
    have hnow : now.length ≤ 131072 := by omega
    refine V_loop (fun j : Nat => [(4, .own (Cell [f4, .pointer p4, k4, .pointer q4] tyT)), (5, .sat (GS now false)), (6, .sat (SlV tyT 4 (xs.flatMap tcs) xs.length false)), (16, .is (.int .i64 j))]) (fun j => j ≤ xs.length) (fun j => xs.length - j) 0 (Nat.zero_le _) ⟨rfl, rfl, rfl, rfl, trivial⟩ ?_
    rintro j hj
    by_cases hjl : j < xs.length
    · obtain ⟨⟨fj, pj, kj, qj⟩, hxj⟩ := get_some hjl
      obtain ⟨m, hm⟩ := get_some (show j < ls.length by omega)
      have hX : TabV m (.agg #[fj, .pointer pj, kj, .pointer qj]) H6 := hxs.2 j _ m hxj hm
      obtain ⟨hm1, hm2⟩ := hls m (List.mem_of_getElem? hm)
      have hc : ((xs.flatMap tcs).drop (j * 4)).take 4 = [fj, .pointer pj, kj, .pointer qj] := flatMap_at tcs_len xs j _ hxj
      have hrg : (if goesB now m = true then 1 else 0 : Int) = 1 := if_pos hm2
      refine V_seq ?_; refine V_seq ?_; refine V_region (id := 16) ?_; refine vo_step (ok_move rfl rfl rfl) rfl ?_; refine vo_step (ok_moves' rfl rfl rfl) rfl ?_; refine vo_step (ok_lenV L rfl rfl rfl rfl) rfl ?_; refine vo_step (ok_lss rfl rfl rfl rfl (decide_eq_true (by omega))) rfl ?_; refine vo_nil ?_; refine N_seq ?_; refine V_true rfl ?_; refine V_skip ?_; refine N_seq ?_; refine V_seq ?_; refine V_block ?_; refine V_seq ?_; refine V_region (id := 18) ?_; refine vo_step (ok_moves' rfl rfl rfl) rfl ?_; refine vo_step (ok_move rfl rfl rfl) rfl ?_; refine vo_step (ok_indexV L _ rfl rfl rfl rfl rfl rfl rfl (by first | omega | decide) (by assumption)) rfl ?_; refine vo_step (ok_loadPA L (vs := [_, _, _, _]) rfl rfl rfl rfl rfl ⟨_, rfl⟩) rfl ?_; refine vo_step (ok_call (φ := GS m true) L rfl rfl (blt_lt rfl) rfl rfl rfl SlV.mono (fun u H hH hle _ => gfrom_ret 0 (by omega) hH (hX.le hle))) rfl ?_; refine vo_step (ok_assigns' rfl rfl rfl) rfl ?_; refine vo_nil ?_; refine N_seq ?_; refine V_seq ?_; refine V_regionD (id := 19) [] mixed (by kernel_rfl) ?_; refine par_step (ok_loadA L (vs := [_, _, _, _]) (src_own rfl) rfl rfl rfl rfl ⟨_, rfl⟩) rfl ?_; refine par_step (ok_moves' rfl rfl rfl) rfl ?_; refine par_step (ok_move rfl rfl rfl) rfl ?_; refine par_step (ok_indexV L _ rfl rfl rfl rfl rfl rfl rfl (by first | omega | decide) (by assumption)) rfl ?_; refine par_step (ok_loadPA L (vs := [_, _, _, _]) rfl rfl rfl rfl rfl ⟨_, rfl⟩) rfl ?_; refine par_step (ok_callx L rfl rfl (blt_lt rfl) rfl rfl rfl (fun u H hH hle _ => ggoes_ret hH (hT4.le hle) (hX.le hle) (by omega) hm2)) rfl ?_; refine par_step (ok_not rfl rfl rfl rfl) rfl ?_; refine par_step (ok_move rfl rfl rfl) rfl ?_; refine par_step (ok_moves' rfl rfl rfl) rfl ?_; refine par_step (ok_moves' rfl rfl rfl) rfl ?_; refine par_step (ok_callx L rfl rfl (blt_lt rfl) rfl rfl rfl (fun u H hH hle _ v1 h1 v2 h2 => rgoes_ret hnow (by omega) hrg hH h1 h2)) rfl ?_; refine par_step (ok_eql rfl rfl rfl rfl (decide_eq_false (by omega))) rfl ?_; refine par_step (ok_pick rfl rfl rfl rfl) rfl ?_; refine par_nil ?_; refine N_seq ?_; refine V_false rfl ?_; refine V_skip ?_; refine N_block ?_; refine N_seq ?_; refine V_region (id := 17) ?_; refine vo_step (ok_move rfl rfl rfl) rfl ?_; refine vo_step (ok_add rfl rfl rfl rfl (wrap_i64 (by omega) (by omega))) rfl ?_; refine vo_step (ok_assign rfl rfl rfl) rfl ?_; refine vo_nil ?_
      exact N_round (x := j) (j + 1) (by omega) (by omega) ⟨rfl, rfl, rfl, rfl, trivial⟩
    · refine V_seq ?_; refine V_seq ?_; refine V_region (id := 16) ?_; refine vo_step (ok_move rfl rfl rfl) rfl ?_; refine vo_step (ok_moves' rfl rfl rfl) rfl ?_; refine vo_step (ok_lenV L rfl rfl rfl rfl) rfl ?_; refine vo_step (ok_lss rfl rfl rfl rfl (decide_eq_false (by omega))) rfl ?_; refine vo_nil ?_; refine N_seq ?_; refine V_false rfl ?_; refine V_exit ?_; refine X_then ?_; refine X_then ?_; refine X_here ?_; refine N_seq ?_; refine V_seq ?_; refine V_region (id := 21) ?_; refine vo_step (ok_callx L rfl rfl (blt_lt rfl) rfl rfl rfl (fun u H hH _ _ => lives23_ret hH)) rfl ?_; refine vo_step (ok_assign rfl rfl rfl) rfl ?_; refine vo_nil ?_; refine N_seq ?_
      refine V_ret L (rs := [.tmp 2]) rfl (fun _ _ h => h) (hs4.trans hs6) fun u H hH hle => ?_
      rfl
end Go.V.L23
