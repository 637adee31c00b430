/- The kit's twelfth floor: ranges over functions: who ranges, and what is ranged over. -/
import Derived.Test.YtpnmjelhnacmlaaKitK
namespace Go.V
open Go.RowKit

/-- Blocks that are owned, without a value. -/
structure GR where
  P : Heap → World → (Nat → Prop) → Prop
  st : ∀ {H u C H' u'}, P H u C → H.Le H' → H'.Le (hp u') → On u u' → (∀ k, C k → u'.heap[k]? = u.heap[k]?) → P H' u' C
def GR.res (r : GR) : Res := ⟨fun _ H u C => r.P H u C, r.st⟩
abbrev Seqs := List (List Value)
/-- Whoever ranges takes the elements one by one, and says when it has enough. -/
def YieldOK (P : Program) (l : Nat) (J : Seqs → GR) (stop : Seqs → Bool) (xs : Seqs) : Prop :=
  ∀ (pre : Seqs) (x : List Value), pre ++ [x] <+: xs → stop pre = false → ∀ (u : World) (H : Heap) (C : Nat → Prop), H.Le (hp u) → (J pre).P H u C → (∀ k, C k → k < u.heap.size ∧ H k = none) →
    ∃ fn tmps assign body, (Instr.yield l x.toArray).run P u = .ok (.round l fn tmps assign body) u ∧
      RoundIn Fence.wide 0 P l fn tmps assign body u fun e u' => e = .returned (.bool (!stop (pre ++ [x]))) ∧ ∃ C', (J (pre ++ [x])).P H u' C' ∧ Keep C u u' ∧ ∀ k, C' k → (C k ∨ u.heap.size ≤ k) ∧ k < u'.heap.size
def taken (stop : Seqs → Bool) : Seqs → Seqs → Seqs
  | pre, [] => pre
  | pre, x :: xs => if stop (pre ++ [x]) = true then pre ++ [x] else taken stop (pre ++ [x]) xs
/-- A function value that yields some elements, one after the other. -/
def Iter (P : Program) (f : FuncId) (caps : List Value) (w : World) (B : Heap) (xs : Seqs) : Prop :=
  ∀ (l : Nat) (J : Seqs → GR) (stop : Seqs → Bool) (C : Nat → Prop), stop [] = false → YieldOK P l J stop xs → (J []).P B w C → (∀ k, C k → k < w.heap.size ∧ B k = none) →
    RetL P f (.func (.yield l) #[] #[] :: caps) w B C fun _ H u => ∃ C', (J (taken stop [] xs)).P H u C' ∧ ∀ k, C' k → (C k ∨ w.heap.size ≤ k) ∧ k < u.heap.size ∧ H k = none

section
variable {P : Program} {F : Fr} {B : Heap} {O : Boxes} {n : Nat} {ops : Array Oper} {κ : Kap} {d : Nat} {ty : TypeId} {pos : String} {aft : Array Edge} {g : Option (Nat × Bool)} {a : Act} {u : World} {H : Heap} {fp : Nat → Nat → Prop} {os : List Oper} {Q : Exit → Act → World → Prop} {ex : Exs}
theorem evKs_map {o : Oper} (e : Env F B O κ o a u H fp) : ∀ (xs : List Operand) (vs : List Value), (∀ x ∈ xs, x ∈ o.op.operands) → evKs κ xs = some vs → xs.map a.eval = vs
  | [], vs, _, h => by simp only [evKs] at h; cases h; rfl
  | x :: xs, vs, hx, h => by
    simp only [evKs] at h
    split at h
    · rename_i v vs' h1 h2
      cases h
      rw [List.map_cons, evKs_map e xs vs' (fun p hp => hx p (List.mem_cons_of_mem _ hp)) h2, e.is_ x v (hx x (List.mem_cons_self ..)) h1]
    · cases h
/-- An element is yielded. -/
theorem ok_yield {l gs : Nat} {J : Seqs → GR} {stop : Seqs → Bool} {xs pre : Seqs} {x : List Value} {b : Bool} {fo : Operand} {args : Array Operand} {at_ : Array TypeId} (hY : YieldOK P l J stop xs) (hpre : pre ++ [x] <+: xs) (hst : stop pre = false) (hb : (!stop (pre ++ [x])) = b)
    (hn : Nat.blt d n = true) (hg : gK ops κ ⟨some d, .call { callee := .value fo, args := args, argTypes := at_ }, ty, pos, aft, g⟩ = some true) (hf : evK κ fo = some (.func (.yield l) #[] #[])) (ha : evKs κ args.toList = some x) (hk : κ gs = some (.own (J pre).res)) :
    StepOK2 P F B n ops O κ ⟨some d, .call { callee := .value fo, args := args, argTypes := at_ }, ty, pos, aft, g⟩ gs (.own (J (pre ++ [x])).res) d (.is (.bool b)) := by
  rintro κ' a u hl hks ⟨H, fp, hh⟩
  unfold After
  rw [if_pos (wanted_gK hh hl hg)]
  have e := hh.env hl
  have hfe : a.eval fo = .func (.yield l) #[] #[] := e.is_ fo _ (by simp [Op.operands, Call.operands]) hf
  have hae := evKs_map e args.toList x (fun y hy => by simp [Op.operands, Call.operands] at hy ⊢; exact .inr hy) ha
  have hk' : κ' gs = some (.own (J pre).res) := hks.trans hk
  obtain ⟨hown, hM⟩ := hh.slot gs _ hk'
  obtain ⟨fn, tmps, assign, body, hrun, hround⟩ := hY pre x hpre hst u H (fp gs) hh.sub hown fun k hk => ⟨(hM k hk).1, (hM k hk).2.1⟩
  have hae' : args.map a.eval = x.toArray := by rw [← hae, ← List.map_toArray, Array.toArray_toList]
  have hrun' : (execOp a.eval ⟨some d, .call { callee := .value fo, args := args, argTypes := at_ }, ty, pos, aft, g⟩).run P u = .ok (.round l fn tmps assign body) u := by
    simp only [execOp, resolve, hfe, Deferred.ofValue, Sem.run_bind, Sem.run_pure, Result.andThen_ok, invoke, hae']
    simpa using hrun
  rw [hrun']
  simp only [Upon]
  refine RoundIn.mono hround fun e' u' hp => ?_
  obtain ⟨rfl, C', hJ, hkeep, hC'⟩ := hp
  refine ⟨_, rfl, ?_⟩
  rw [hb]
  have hsub' : H.Le (hp u') := fun k o ho => by
    have hlt := hh.sub.size ho
    refine (hkeep.block k hlt fun hc => ?_).trans (hh.sub k o ho)
    rw [(hM k hc).2.1] at ho; cases ho
  have hg' : Grow (fp gs) u H u' H := ⟨hkeep, hsub', Heap.Le.refl _, fun _ _ _ => rfl⟩
  have h2 := hh.usePut (d := gs) (a' := a) (r' := (J (pre ++ [x])).res) (C := C') hk' hg' rfl rfl (fun _ _ => rfl) hJ fun k hk => ⟨(hC' k hk).1, (hC' k hk).2, by
    rcases (hC' k hk).1 with h | h
    · exact (hM k h).2.1
    · exact none_of_ge hh.sub h⟩
  rw [upd_upd] at h2
  exact ⟨H, _, h2.put (k := .is (.bool b)) (blt_lt hn) trivial rfl⟩
/-- A function that is lent something is entered. -/
theorem V_enterG {f : FuncId} {fn : Func} {c : Code} {args : List Value} {w : World} {B : Heap} {φ : Value → Heap → World → Prop} {C : Nat → Prop} (gs : Nat) (r : GR) (hf : P.funcs[f]? = some fn) (hb : fn.body = some c) (hn : fn.ntmps = n)
    (hs : args.length ≤ n) (hB : B.Le (hp w)) (hr : r.P B w C) (hC : ∀ k, C k → k < w.heap.size ∧ B k = none) (h : V P ⟨w, none, [], C⟩ B n [] (upd (argsK 0 args) gs (.own r.res)) c (bodyPostM Fence.wide 0 P fn (PostL w B C φ))) : RetL P f args w B C φ := by
  refine calls_of_V hf hb (h _ w ?_)
  subst hn
  have h0 := has_enter (B := B) C (fun k hk => (hC k hk).1) hs hB (fun _ => noL)
  exact ⟨B, _, h0.putR (d := gs) (r := r.res) rfl rfl (fun _ _ => rfl) hr (fun k hk => ⟨(hC k hk).1, (hC k hk).2, .inr hk, fun y hy => by cases hy⟩) fun t r' _ ht => by
    obtain ⟨v, hv, _⟩ := argsK_spec _ _ _ _ ht
    cases hv⟩

/-! ### who ranges -/
theorem ofL_append : ∀ (l1 l2 : List (Nat × Kn)) (t : Nat), ofL (l1 ++ l2) t = match ofL l1 t with | some k => some k | none => ofL l2 t
  | [], l2, t => rfl
  | (s, k) :: l1, l2, t => by
    show upd (ofL (l1 ++ l2)) s k t = _
    by_cases h : t = s
    · subst h; rw [upd_same]; show _ = match upd (ofL l1) t k t with | some k => some k | none => _; rw [upd_same]
    · rw [upd_other _ _ h, ofL_append l1 l2 t]; show _ = match upd (ofL l1) s k t with | some k => some k | none => _; rw [upd_other _ _ h]
def fixK (fx : List (Nat × Value)) : List (Nat × Kn) := fx.map fun p => (p.1, .is p.2)
def gK' (G : List (Nat × Res)) : List (Nat × Kn) := G.map fun p => (p.1, .own p.2)
theorem fixK_spec : ∀ (fx : List (Nat × Value)) {t : Nat} {k : Kn}, ofL (fixK fx) t = some k → ∃ v, k = .is v
  | [], _, _, h => by cases h
  | (s, v) :: fx, t, k, h => by
    replace h : upd (ofL (fixK fx)) s (.is v) t = some k := h
    by_cases hts : t = s
    · subst hts; rw [upd_same] at h; cases h; exact ⟨v, rfl⟩
    · rw [upd_other _ _ hts] at h; exact fixK_spec fx h
theorem gK'_spec {n : Nat} : ∀ (G : List (Nat × Res)) {t : Nat} {k : Kn}, (∀ p ∈ G, n ≤ p.1) → ofL (gK' G) t = some k → n ≤ t ∧ ∃ r, k = .own r
  | [], _, _, _, h => by cases h
  | (s, r) :: G, t, k, hn, h => by
    replace h : upd (ofL (gK' G)) s (.own r) t = some k := h
    by_cases hts : t = s
    · subst hts; rw [upd_same] at h; cases h; exact ⟨hn _ (List.mem_cons_self ..), r, rfl⟩
    · rw [upd_other _ _ hts] at h; exact gK'_spec G (fun p hp => hn p (List.mem_cons_of_mem _ hp)) h
abbrev KK (fx : List (Nat × Value)) (G : List (Nat × Res)) : Kap := ofL (gK' G ++ fixK fx)
theorem KK_own {n : Nat} {fx : List (Nat × Value)} {G : List (Nat × Res)} (hG : ∀ p ∈ G, n ≤ p.1) {t : Nat} {r : Res} (h : KK fx G t = some (.own r)) : ofL (gK' G) t = some (.own r) := by
  rw [KK, ofL_append] at h
  cases hg : ofL (gK' G) t with
  | some k => rw [hg] at h; exact h
  | none => rw [hg] at h; obtain ⟨v, hv⟩ := fixK_spec fx h; cases hv
theorem KK_cases {n : Nat} {fx : List (Nat × Value)} {G : List (Nat × Res)} (hG : ∀ p ∈ G, n ≤ p.1) {t : Nat} {k : Kn} (h : KK fx G t = some k) : (n ≤ t ∧ ofL (gK' G) t = some k ∧ ∃ r, k = .own r) ∨ (ofL (fixK fx) t = some k ∧ ofL (gK' G) t = none ∧ ∃ v, k = .is v) := by
  rw [KK, ofL_append] at h
  cases hg : ofL (gK' G) t with
  | some k' => rw [hg] at h; cases h; obtain ⟨h1, h2⟩ := gK'_spec G hG hg; exact .inl ⟨h1, rfl, h2⟩
  | none => rw [hg] at h; exact .inr ⟨h, rfl, fixK_spec fx h⟩
theorem eval_ge (hs : a.tmps.size = n) {t : Nat} (ht : n ≤ t) : a.eval (.tmp t) = undef := by
  simp only [Act.eval, Array.getD_eq_getD_getElem?]
  rw [Array.getElem?_eq_none (by omega)]; rfl
/-- A new block that is the frame's own. -/
theorem HasH.newBox (o : Obj) (h : HasH F B O n κ a u H fp) : HasH F B ((u.heap.size, o) :: O) n κ a (u.alloc o) H fp := by
  have h2 := h.grow (Grow.hid h.sub o)
  refine ⟨h2.size, h2.defers, h2.nodup, fun D hD => List.mem_cons_of_mem _ (h2.marks D hD), h2.lent, h2.keep, h2.sub, h2.base, h2.fresh, fun y hy => ?_, List.pairwise_cons.2 ⟨fun y hy => ?_, h2.apart⟩, fun t k hk => ?_, h2.owns, h2.mono⟩
  · rcases List.mem_cons.1 hy with rfl | hy
    · exact ⟨heap_push_same _ _, none_of_ge h.sub (Nat.le_refl _), .inl h.keep.size⟩
    · exact h2.boxes y hy
  · have := size_of_heap (h.boxes y hy).1
    dsimp only; omega
  · have hh := h2.slot t k hk
    cases k with
    | is _ => exact hh
    | sat _ => exact hh
    | own r =>
      refine ⟨hh.1, fun k hk' => ?_⟩
      obtain ⟨g1, g2, g3, g4⟩ := hh.2 k hk'
      refine ⟨g1, g2, g3, fun y hy => ?_⟩
      rcases List.mem_cons.1 hy with rfl | hy
      · have := ((h.slot t _ hk).2 k hk').1
        dsimp only; omega
      · exact g4 y hy
/-- What a frame that ranges is, between two rounds. -/
def Jc (F : Fr) (B : Heap) (n : Nat) (a0 : Act) (H0 : Heap) (N1 : Nat) (O' : Seqs → Boxes) (K : Seqs → Kap) (pre : Seqs) : GR where
  P Hit u C := ∃ Hc fp, HasH F B (O' pre) n (K pre) a0 u Hc fp ∧ H0.Le Hc ∧ H0.Le Hit ∧ (∀ y ∈ O' pre, y.1 < N1) ∧ N1 ≤ u.heap.size ∧ F.w0.heap.size ≤ N1 ∧
    (∀ k, C k ↔ (k < N1 ∧ H0 k = none) ∨ (N1 ≤ k ∧ ((Hc k).isSome = true ∨ ∃ t r, K pre t = some (.own r) ∧ fp t k)))
  st := by
    rintro Hit u C Hit' u' ⟨Hc, fp, hh, h1, h2, h3, h4, h5, hC⟩ hle hsub hon hk
    have hCt : ∀ t r k, K pre t = some (.own r) → fp t k → C k := fun t r k ht hf => by
      rw [hC]
      rcases Nat.lt_or_ge k N1 with hlt | hge
      · refine .inl ⟨hlt, ?_⟩
        have := ((hh.slot t _ ht).2 k hf).2.1
        cases hx : H0 k with
        | none => rfl
        | some o => rw [h1 k o hx] at this; cases this
      · exact .inr ⟨hge, .inr ⟨t, r, ht, hf⟩⟩
    have hCb : ∀ y ∈ O' pre, C y.1 := fun y hy => by
      rw [hC]
      refine .inl ⟨h3 y hy, ?_⟩
      have := (hh.boxes y hy).2.1
      cases hx : H0 y.1 with
      | none => rfl
      | some o => rw [h1 _ o hx] at this; cases this
    have hold : ∀ k o, H0 k = some o → u'.heap[k]? = u.heap[k]? := fun k o ho =>
      ((hsub k o (hle k o (h2 k o ho))) : u'.heap[k]? = some o).trans ((hh.sub k o (h1 k o ho)) : u.heap[k]? = some o).symm
    have hsub' : Hc.Le (hp u') := fun k o ho => by
      show u'.heap[k]? = some o
      cases hx : H0 k with
      | some o' => rw [hold k o' hx]; exact hh.sub k o ho
      | none =>
        rw [hk k ((hC k).2 ?_)]
        · exact hh.sub k o ho
        · rcases Nat.lt_or_ge k N1 with hlt | hge
          · exact .inl ⟨hlt, hx⟩
          · exact .inr ⟨hge, .inl (by rw [ho]; rfl)⟩
    refine ⟨Hc, fp, ⟨hh.size, hh.defers, hh.nodup, hh.marks, hh.lent, ?_, hsub', hh.base, hh.fresh, fun y hy => ?_, hh.apart, fun t k ht => ?_, hh.owns, hh.mono⟩, h1, h2.trans hle, h3, Nat.le_trans h4 hon.size, h5, hC⟩
    · refine ⟨hon.os.trans hh.keep.os, hon.tape.trans hh.keep.tape, hon.output.trans hh.keep.output, Nat.le_trans hh.keep.size hon.size, fun k hk' hl => ?_, Nat.le_trans hh.keep.dr hon.dr⟩
      refine Eq.trans ?_ (hh.keep.block k hk' hl)
      cases hx : H0 k with
      | some o => exact hold k o hx
      | none => exact hk k ((hC k).2 (.inl ⟨by omega, hx⟩))
    · obtain ⟨g1, g2, g3⟩ := hh.boxes y hy
      exact ⟨(hk _ (hCb y hy)).trans g1, g2, g3⟩
    · have hs := hh.slot t k ht
      cases k with
      | is _ => exact hs
      | sat _ => exact hs
      | own r => exact ⟨r.st hs.1 (Heap.Le.refl _) hsub' hon fun k hf => hk k (hCt t r k ht hf), fun k hf => by
          obtain ⟨g1, g2, g3, g4⟩ := hs.2 k hf
          exact ⟨Nat.lt_of_lt_of_le g1 hon.size, g2, g3, g4⟩⟩
def updP (κ : Kap) : List (Nat × Value) → Kap
  | [] => κ
  | p :: ps => updP (upd κ p.1 (.is p.2)) ps
theorem HasH.putP : ∀ (ps : List (Nat × Value)) {κ : Kap} {tm : Array Value}, (∀ p ∈ ps, p.1 < n) → HasH F B O n κ { tmps := tm, defers := [] } u H fp →
    HasH F B O n (updP κ ps) { tmps := ps.foldl (fun t p => t.setIfInBounds p.1 p.2) tm, defers := [] } u H fp
  | [], _, _, _, h => h
  | p :: ps, κ, tm, hn, h => HasH.putP ps (fun q hq => hn q (List.mem_cons_of_mem _ hq)) (h.put (k := .is p.2) (hn p (List.mem_cons_self ..)) trivial rfl)
/-- How a round must end. -/
def RPost (F : Fr) (B : Heap) (n : Nat) (O : Boxes) (G : Seqs → List (Nat × Res)) (stop : Seqs → Bool) (jc : Seqs → Code) (pre : Seqs) : Exit → Act → World → Prop
  | .normal, a, u => stop pre = false ∧ Has F B O n (ofL (gK' (G pre))) a u
  | .ret, a, u => stop pre = true ∧ jc pre = .ret ∧ Has F B O n (ofL (gK' (G pre))) a u
  | .exit id, a, u => stop pre = true ∧ jc pre = .exit id ∧ Has F B O n (ofL (gK' (G pre))) a u
  | _, _, _ => False
theorem N_fin {B0 : Heap} {G : Seqs → List (Nat × Res)} {stop : Seqs → Bool} {jc : Seqs → Code} {pre : Seqs} (hs : Since F B0 B) (h1 : stop pre = false) (h2 : LiveOK (gK' (G pre)) κ) : N F B n O κ (RPost F B0 n O G stop jc pre) := fun _ _ hh => ⟨h1, (hh.live h2).since hs⟩
/-- A return is met. -/
def RR (F : Fr) (B : Heap) (n : Nat) (O : Boxes) (κ : Kap) (Q : Exit → Act → World → Prop) : Prop := ∀ a u, Has F B O n κ a u → Q .ret a u
theorem V_rets (h : RR F B n O κ Q) : V P F B n O κ .ret Q := fun a u hh => wpIn_ret (h a u hh)
theorem R_block {id : Nat} (h : RR F B n O κ Q) : RR F B n O κ (Exit.inBlock id Q) := h
theorem R_then {K : Act → World → Prop} (h : RR F B n O κ Q) : RR F B n O κ (Exit.then K Q) := h
theorem R_fin {B0 : Heap} {G : Seqs → List (Nat × Res)} {stop : Seqs → Bool} {jc : Seqs → Code} {pre : Seqs} (hs : Since F B0 B) (h1 : stop pre = true) (h3 : jc pre = .ret) (h2 : LiveOK (gK' (G pre)) κ) : RR F B n O κ (RPost F B0 n O G stop jc pre) :=
  fun _ _ hh => ⟨h1, h3, (hh.live h2).since hs⟩
theorem X_fin {B0 : Heap} {id : Nat} {G : Seqs → List (Nat × Res)} {stop : Seqs → Bool} {jc : Seqs → Code} {pre : Seqs} (hs : Since F B0 B) (h1 : stop pre = true) (h3 : jc pre = .exit id) (h2 : LiveOK (gK' (G pre)) κ) : X F B n O κ id (RPost F B0 n O G stop jc pre) := fun _ _ hh => ⟨h1, h3, (hh.live h2).since hs⟩
theorem N_has {B0 : Heap} {l : List (Nat × Kn)} (hs : Since F B0 B) (hl : LiveOK l κ) : N F B n O κ (Exit.then (fun a u => Has F B0 O n (ofL l) a u) Q) := fun _ _ hh => (hh.live hl).since hs
theorem HasH.ghost {gs : Nat} {r : GR} (hk : κ gs = some (.own r.res)) (h : HasH F B O n κ a u H fp) : ∃ C', r.P H u C' ∧ ∀ k, C' k → (F.L k ∨ F.w0.heap.size ≤ k) ∧ k < u.heap.size ∧ H k = none :=
  ⟨fp gs, (h.slot gs _ hk).1, fun k hk' => by obtain ⟨g1, g2, g3, _⟩ := (h.slot gs _ hk).2 k hk'; exact ⟨g3.symm, g1, g2⟩⟩
theorem V_retGhost (L : Tabs P) {fn : Func} {B0 : Heap} (gs : Nat) {r r' : GR} (hrs : fn.results = #[]) (hQ : ∀ a u, bodyPostM Fence.wide 0 P fn (PostL F.w0 B0 F.L fun _ H u => ∃ C', r'.P H u C' ∧ ∀ k, C' k → (F.L k ∨ F.w0.heap.size ≤ k) ∧ k < u.heap.size ∧ H k = none) .ret a u → Q .ret a u) (hs : Since F B0 B) (hk : κ gs = some (.own r.res)) (e : r = r') : V P F B n O κ .ret Q :=
  V_retG hQ hs fun O' a u H fp _ hh => by
    subst e
    obtain ⟨vs, h1, _⟩ := results_run L hh (rs := []) hrs (K := fun _ => True) trivial
    obtain ⟨C', h2, h3⟩ := HasH.ghost hk hh
    exact ⟨_, h1, C', h2, h3⟩
theorem N_retGhost (L : Tabs P) {fn : Func} {B0 : Heap} (gs : Nat) {r r' : GR} (hrs : fn.results = #[]) (hQ : ∀ a u, bodyPostM Fence.wide 0 P fn (PostL F.w0 B0 F.L fun _ H u => ∃ C', r'.P H u C' ∧ ∀ k, C' k → (F.L k ∨ F.w0.heap.size ≤ k) ∧ k < u.heap.size ∧ H k = none) .normal a u → Q .normal a u) (hs : Since F B0 B) (hk : κ gs = some (.own r.res)) (e : r = r') : N F B n O κ Q :=
  N_retG hQ hs fun O' a u H fp _ hh => by
    subst e
    obtain ⟨vs, h1, _⟩ := results_run L hh (rs := []) hrs (K := fun _ => True) trivial
    obtain ⟨C', h2, h3⟩ := HasH.ghost hk hh
    exact ⟨_, h1, C', h2, h3⟩
theorem taken_prefix (stop : Seqs → Bool) : ∀ (xs pre : Seqs), taken stop pre xs <+: pre ++ xs
  | [], pre => by simp [taken]
  | x :: xs, pre => by
    simp only [taken]
    split
    · exact ⟨xs, by simp⟩
    · have := taken_prefix stop xs (pre ++ [x])
      simpa using this
theorem LiveOK.right : ∀ {l1 l2 : List (Nat × Kn)}, LiveOK (l1 ++ l2) κ → LiveOK l2 κ
  | [], _, h => h
  | _ :: l1, _, h => LiveOK.right (l1 := l1) h.2
theorem V_rangeFunc (L : Tabs P) {f : Operand} {params : Array Tmp} {assign body : Code} {gf : Nat} {caps : List Value}
    (fx : List (Nat × Value)) (G : Seqs → List (Nat × Res)) (K1 : Seqs → List Value → List (Nat × Kn)) (xs : Seqs) (stop : Seqs → Bool) (jc : Seqs → Code)
    (hr : F.r = none) (hf : evK κ f = some (.func (.func gf) #[] caps.toArray)) (hfn : L.fn gf = some ())
    (h0 : LiveOK (gK' (G []) ++ fixK fx) κ) (hG : ∀ pre, ∀ p ∈ G pre, n ≤ p.1) (hst0 : stop [] = false)
    (hps : ∀ x ∈ xs, x.length = params.size) (hpn : ∀ t ∈ params.toList, t < n)
    (hit : ∀ u H, H.Le (hp u) → B.Le H → Iter P gf caps u H xs)
    (hassign : ∀ (w1 : World) (Ln : Nat → Prop) (B' : Heap) (l D : Nat) (o : Obj) (pre : Seqs) (x : List Value), pre ++ [x] <+: xs → stop pre = false → B.Le B' →
      V P ⟨w1, some l, [], Ln⟩ B' n ((l, o) :: (D, .deferred (some [])) :: O) (updP (KK fx (G pre)) (params.toList.zip x)) assign (Exit.then (fun a u => Has ⟨w1, some l, [], Ln⟩ B' ((l, o) :: (D, .deferred (some [])) :: O) n (ofL (K1 pre x)) a u) (fun _ _ _ => False)))
    (hbody : ∀ (w1 : World) (Ln : Nat → Prop) (B' : Heap) (l D : Nat) (o : Obj) (pre : Seqs) (x : List Value), pre ++ [x] <+: xs → stop pre = false → B.Le B' →
      V P ⟨w1, some l, [], Ln⟩ B' n ((l, o) :: (D, .deferred (some [])) :: O) (ofL (K1 pre x)) body (RPost ⟨w1, some l, [], Ln⟩ B' n ((l, o) :: (D, .deferred (some [])) :: O) G stop jc (pre ++ [x])))
    (hdone : ∀ (l D : Nat) (o : Obj), stop (taken stop [] xs) = false → N ⟨F.w0, F.r, D :: F.ds, F.L⟩ B n ((l, o) :: (D, .deferred (some [])) :: O) (KK fx (G (taken stop [] xs))) Q)
    (hstop : ∀ (l D : Nat) (o : Obj), stop (taken stop [] xs) = true → V P ⟨F.w0, F.r, D :: F.ds, F.L⟩ B n ((l, o) :: (D, .deferred (some [])) :: O) (KK fx (G (taken stop [] xs))) (jc (taken stop [] xs)) Q) :
    V P F B n O κ (.rangeFunc f params assign body) Q := by
  obtain ⟨w0, r, ds, Lf⟩ := F
  dsimp only at hr
  subst hr
  rintro a u ⟨H, fp, hh⟩
  have e := hh.env (ops := #[]) (o := ⟨none, .move f, 0, "", #[], none⟩) (κ := κ) (fun _ _ => rfl)
  have hfe : a.eval f = .func (.func gf) #[] caps.toArray := e.is_ f _ (by simp [Op.operands]) hf
  refine wpIn_rangeFunc fun fn _ => ?_
  -- the record
  have hD0 : (.loop { state := .ready, pending := none, fn, tmps := a.tmps, params, assign, body, defers := u.heap.size } : Obj) = .loop { state := .ready, pending := none, fn, tmps := a.tmps, params, assign, body, defers := u.heap.size } := rfl
  generalize hrec : ({ state := .ready, pending := none, fn, tmps := a.tmps, params, assign, body, defers := u.heap.size } : Loop) = rec0 at hD0
  have hh1 := (hh.newBox (.deferred (some []))).newBox (.loop rec0)
  rw [World.size_alloc] at hh1
  generalize hw1 : (u.alloc (.deferred (some []))).alloc (.loop rec0) = w1 at hh1
  have hN1 : w1.heap.size = u.heap.size + 2 := by subst hw1; simp
  let recS : Seqs → Loop := fun pre => if stop pre = true then { rec0 with state := .done, pending := some (jc pre) } else rec0
  let O' : Seqs → Boxes := fun pre => (u.heap.size + 1, .loop (recS pre)) :: (u.heap.size, .deferred (some [])) :: O
  let F1 : Fr := ⟨w0, none, [], Lf⟩
  let a0 : Act := { tmps := a.tmps, defers := [] }
  let J : Seqs → GR := Jc F1 B n a0 H w1.heap.size O' fun pre => KK fx (G pre)
  have hrec0 : rec0.state = .ready ∧ rec0.pending = none ∧ rec0.fn = fn ∧ rec0.tmps = a.tmps ∧ rec0.params = params ∧ rec0.assign = assign ∧ rec0.body = body := by subst hrec; exact ⟨rfl, rfl, rfl, rfl, rfl, rfl, rfl⟩
  have hO'mem : ∀ pre pre' y, y ∈ O' pre' → ∃ y' ∈ O' pre, y'.1 = y.1 := fun pre pre' y hy => by
    rcases List.mem_cons.1 hy with rfl | hy
    · exact ⟨_, List.mem_cons_self .., rfl⟩
    · exact ⟨y, List.mem_cons_of_mem _ hy, rfl⟩
  have hfix : ∀ t k, ofL (fixK fx) t = some k → ∀ v, k = .is v → a0.eval (.tmp t) = v := fun t k ht v hv => by
    subst hv
    exact hh.slot t _ ((LiveOK.right h0).get ht)
  have hrecS0 : recS [] = rec0 := if_neg (by rw [hst0]; simp)
  -- at the start
  have hstart : HasH F1 B (O' []) n (KK fx (G [])) a0 w1 H fp := by
    have h2 := hh1.sub_kap (κ2 := KK fx (G [])) fun t k hk => h0.get hk
    have : O' [] = (u.heap.size + 1, .loop rec0) :: (u.heap.size, .deferred (some [])) :: O := by show (_, Obj.loop (recS [])) :: _ = _; rw [hrecS0]
    rw [this]
    exact ⟨h2.size, rfl, List.nodup_nil, (fun _ h => by cases h), h2.lent, h2.keep, h2.sub, h2.base, h2.fresh, h2.boxes, h2.apart, h2.slot, h2.owns, h2.mono⟩
  let C0 : Nat → Prop := fun k => (k < w1.heap.size ∧ H k = none) ∨ (w1.heap.size ≤ k ∧ ((H k).isSome = true ∨ ∃ t r, KK fx (G []) t = some (.own r) ∧ fp t k))
  have hJ0 : (J []).P H w1 C0 := ⟨H, fp, hstart, Heap.Le.refl _, Heap.Le.refl _, fun y hy => size_of_heap (hstart.boxes y hy).1, Nat.le_refl _, hstart.keep.size, fun _ => Iff.rfl⟩
  have hC0 : ∀ k, C0 k → k < w1.heap.size ∧ H k = none := fun k hk => by
    rcases hk with h | ⟨h1, h | ⟨t, r, ht, hf⟩⟩
    · exact h
    · rw [none_of_ge hstart.sub h1] at h; cases h
    · have := ((hstart.slot t _ ht).2 k hf).1
      omega
  -- the rounds
  have hY : YieldOK P (u.heap.size + 1) J stop xs := by
    rintro pre x hpre hstp v Hit C hsubv ⟨Hc, fpc, hc, c1, c2, c3, c4, c5, c6⟩ hCv
    have hrp : recS pre = rec0 := if_neg (by rw [hstp]; simp)
    have hOp : O' pre = (u.heap.size + 1, .loop rec0) :: (u.heap.size, .deferred (some [])) :: O := by show (_, Obj.loop (recS pre)) :: _ = _; rw [hrp]
    rw [hOp] at hc
    have hl : v.heap[u.heap.size + 1]? = some (.loop rec0) := (hc.boxes _ (List.mem_cons_self ..)).1
    have hxl : x.length = params.size := hps x (hpre.subset (by simp))
    have hyr := run_yield (P := P) (args := x.toArray) hl (by rw [hrec0.2.2.2.2.1]; simpa using hxl)
    rw [hrec0.2.2.1, hrec0.2.2.2.1, hrec0.2.2.2.2.1, hrec0.2.2.2.2.2.1, hrec0.2.2.2.2.2.2] at hyr
    refine ⟨fn, _, assign, body, hyr, roundIn_of_wpIn trivial ?_⟩
    -- the round's frame
    let Cr : Nat → Prop := fun k => (∃ y ∈ O' pre, y.1 = k) ∨ ∃ t r, KK fx (G pre) t = some (.own r) ∧ fpc t k
    have hCrC : ∀ k, Cr k → C k ∧ k < v.heap.size ∧ (w0.heap.size ≤ k ∨ Lf k) := fun k hk => by
      rcases hk with ⟨y, hy, rfl⟩ | ⟨t, r, ht, hf⟩
      · rw [hOp] at hy
        obtain ⟨g1, g2, g3⟩ := hc.boxes y hy
        refine ⟨(c6 _).2 (.inl ⟨c3 y (by rw [hOp]; exact hy), ?_⟩), size_of_heap g1, g3⟩
        cases hx : H y.1 with
        | none => rfl
        | some o => rw [c1 _ o hx] at g2; cases g2
      · obtain ⟨g1, g2, g3, g4⟩ := (hc.slot t _ ht).2 k hf
        refine ⟨(c6 k).2 ?_, g1, g3⟩
        rcases Nat.lt_or_ge k w1.heap.size with hlt | hge
        · refine .inl ⟨hlt, ?_⟩
          cases hx : H k with
          | none => rfl
          | some o => rw [c1 _ o hx] at g2; cases g2
        · exact .inr ⟨hge, .inr ⟨t, r, ht, hf⟩⟩
    let Fr' : Fr := ⟨v, some (u.heap.size + 1), [], Cr⟩
    have hr0 : HasH Fr' Hc ((u.heap.size + 1, .loop rec0) :: (u.heap.size, .deferred (some [])) :: O) n (KK fx (G pre)) a0 v Hc fpc :=
      ⟨hc.size, rfl, List.nodup_nil, (fun _ h => by cases h), fun k hk => (hCrC k hk).2.1, Keep.refl _ _, hc.sub, Heap.Le.refl _, fun _ _ _ => rfl, fun y hy => ⟨(hc.boxes y hy).1, (hc.boxes y hy).2.1, .inr (.inl ⟨y, by rw [hOp]; exact hy, rfl⟩)⟩, hc.apart, fun t k hk => by
        have hs := hc.slot t k hk
        cases k with
        | is _ => exact hs
        | sat _ => exact hs
        | own r => exact ⟨hs.1, fun k hf => by
            obtain ⟨g1, g2, g3, g4⟩ := hs.2 k hf
            exact ⟨g1, g2, .inr (.inr ⟨t, r, hk, hf⟩), g4⟩⟩, hc.owns, hc.mono⟩
    have hBc : B.Le Hc := hc.base
    have hr1 := hr0.putP (params.toList.zip x) (fun p hp => hpn p.1 (List.of_mem_zip hp).1)
    have hfold : (params.zip x.toArray).foldl (fun tmps (t, a) => tmps.setIfInBounds t a) a.tmps = (params.toList.zip x).foldl (fun t p => t.setIfInBounds p.1 p.2) a.tmps := by
      rw [← Array.foldl_toList, Array.toList_zip]
    rw [hfold]
    -- how a round ends
    have fin : ∀ (e : Option Code) (a1 : Act) (u1 : World), (match e with | none => stop (pre ++ [x]) = false | some c => stop (pre ++ [x]) = true ∧ jc (pre ++ [x]) = c) →
        Has Fr' Hc ((u.heap.size + 1, .loop { rec0 with state := .busy }) :: (u.heap.size, .deferred (some [])) :: O) n (ofL (gK' (G (pre ++ [x])))) a1 u1 →
        ∃ z w', (Instr.endRound (u.heap.size + 1) e).run P u1 = .ok z w' ∧ Ending.returned z = .returned (.bool (!stop (pre ++ [x]))) ∧ ∃ C', (J (pre ++ [x])).P Hit w' C' ∧ Keep C v w' ∧ ∀ k, C' k → (C k ∨ v.heap.size ≤ k) ∧ k < w'.heap.size := by
      rintro e a1 u1 he ⟨Hd, fpd, hd⟩
      have hl1 := (hd.boxes _ (List.mem_cons_self ..)).1
      have hrun := run_endRound (P := P) e hl1
      have hrecE : ({ ({ rec0 with state := .busy } : Loop) with state := if e.isNone then .ready else .done, pending := e } : Loop) = recS (pre ++ [x]) := by
        cases e with
        | none =>
          have : recS (pre ++ [x]) = rec0 := if_neg (by rw [he]; simp)
          rw [this]
          obtain ⟨g1, g2, _⟩ := hrec0
          cases hq : rec0
          rw [hq] at g1 g2
          dsimp only at g1 g2 ⊢
          rw [g1, g2]; rfl
        | some c =>
          have : recS (pre ++ [x]) = { rec0 with state := .done, pending := some (jc (pre ++ [x])) } := if_pos he.1
          rw [this, he.2]; rfl
      rw [hrecE] at hrun
      have hv : (e.isNone) = !stop (pre ++ [x]) := by
        cases e with
        | none => rw [he]; rfl
        | some c => rw [he.1]; rfl
      refine ⟨_, _, hrun, by rw [hv], ?_⟩
      have hd2 := hd.boxSet (O1 := []) (ds := []) (a' := a1) (Chg.putObj (o := .loop (recS (pre ++ [x]))) (size_of_heap hl1)) (List.Sublist.refl _) (by simp) rfl hd.defers
      generalize u1.putObj (u.heap.size + 1) (.loop (recS (pre ++ [x]))) = u2 at hd2 ⊢
      have hd2' : HasH Fr' Hc (O' (pre ++ [x])) n (ofL (gK' (G (pre ++ [x])))) a1 u2 Hd fpd := hd2
      have hOg : ∀ y ∈ O' (pre ++ [x]), (w0.heap.size ≤ y.1 ∨ Lf y.1) ∧ y.1 < w1.heap.size := fun y hy => by
        obtain ⟨y', hy', hyy⟩ := hO'mem pre _ y hy
        rw [← hyy]
        exact ⟨(hc.boxes y' (by rw [← hOp]; exact hy')).2.2, c3 y' hy'⟩
      have hfull : HasH F1 B (O' (pre ++ [x])) n (KK fx (G (pre ++ [x]))) a0 u2 Hd fpd := by
        refine ⟨hh.size, rfl, List.nodup_nil, (fun _ h => by cases h), hc.lent, hc.keep.trans hd2'.keep fun i hi hci => ?_, hd2'.sub, hBc.trans hd2'.base, fun k hk hlk => ?_, fun y hy => ⟨(hd2'.boxes y hy).1, (hd2'.boxes y hy).2.1, (hOg y hy).1⟩, hd2'.apart, fun t k hk => ?_, fun s t r r' hst h1 h2 => ?_, fun t k hk => ?_⟩
        · rcases (hCrC i hci).2.2 with h | h
          · exact absurd hi (by show ¬ (i < w0.heap.size); omega)
          · exact h
        · refine (hd2'.fresh k (Nat.lt_of_lt_of_le hk hc.keep.size) fun hcr => ?_).trans (hc.fresh k hk hlk)
          rcases (hCrC k hcr).2.2 with h | h
          · exact absurd hk (by show ¬ (k < w0.heap.size); omega)
          · exact hlk h
        · rcases KK_cases (hG _) hk with ⟨hnt, hgk, r, rfl⟩ | ⟨hfk, _, z, rfl⟩
          · have hs := hd2'.slot t _ hgk
            have e1 : a0.eval (.tmp t) = a1.eval (.tmp t) := (eval_ge (a := a0) (n := n) hh.size hnt).trans (eval_ge hd2'.size hnt).symm
            rw [e1]
            refine ⟨hs.1, fun k hf => ?_⟩
            obtain ⟨g1, g2, g3, g4⟩ := hs.2 k hf
            refine ⟨g1, g2, ?_, g4⟩
            rcases g3 with g3 | g3
            · exact .inl (Nat.le_trans hc.keep.size g3)
            · exact (hCrC k g3).2.2
          · exact hfix t _ hfk z rfl
        · exact hd2'.owns s t r r' hst (KK_own (hG _) h1) (KK_own (hG _) h2)
        · rcases KK_cases (hG _) hk with ⟨_, _, r, rfl⟩ | ⟨_, _, z, rfl⟩ <;> trivial
      have hHd : Hc.Le Hd := hd2'.base
      refine ⟨fun k => (k < w1.heap.size ∧ H k = none) ∨ (w1.heap.size ≤ k ∧ ((Hd k).isSome = true ∨ ∃ t r, KK fx (G (pre ++ [x])) t = some (.own r) ∧ fpd t k)),
        ⟨Hd, fpd, hfull, c1.trans hHd, c2, fun y hy => (hOg y hy).2, Nat.le_trans c4 hd2'.keep.size, c5, fun _ => Iff.rfl⟩, hd2'.keep.weak fun k _ hk => (hCrC k hk).1, fun k hk => ?_⟩
      rcases hk with ⟨h1, h2⟩ | ⟨h1, h2 | ⟨t, r, ht, hf⟩⟩
      · exact ⟨.inl ((c6 k).2 (.inl ⟨h1, h2⟩)), Nat.lt_of_lt_of_le h1 (Nat.le_trans c4 hd2'.keep.size)⟩
      · obtain ⟨o, ho⟩ := Option.isSome_iff_exists.1 h2
        refine ⟨?_, hd2'.sub.size ho⟩
        rcases Nat.lt_or_ge k v.heap.size with hlt | hge
        · by_cases hcr : Cr k
          · exact .inl (hCrC k hcr).1
          · refine .inl ((c6 k).2 (.inr ⟨h1, .inl ?_⟩))
            rw [← hd2'.fresh k hlt hcr, ho]; rfl
        · exact .inr hge
      · have hs := (hd2'.slot t _ (KK_own (hG _) ht)).2 k hf
        refine ⟨?_, hs.1⟩
        rcases hs.2.2.1 with g | g
        · exact .inr g
        · exact .inl (hCrC k g).1
    refine Go.wpIn_mono (hassign v Cr Hc (u.heap.size + 1) u.heap.size (.loop rec0) pre x hpre hstp hBc _ v ⟨Hc, fpc, hr1⟩) fun e1 a1 u1 he1 => ?_
    cases e1 with
    | normal =>
      obtain ⟨Ha, fpa, ha⟩ := he1
      have hl1 := (ha.boxes _ (List.mem_cons_self ..)).1
      refine ⟨_, run_beginRound (P := P) hl1 hrec0.1, ?_⟩
      have ha2 := ha.boxSet (O1 := []) (ds := []) (a' := a1) (Chg.putObj (o := .loop { rec0 with state := .busy }) (size_of_heap hl1)) (List.Sublist.refl _) (by simp) rfl ha.defers
      refine Go.wpIn_mono (hbody v Cr Hc (u.heap.size + 1) u.heap.size (.loop { rec0 with state := .busy }) pre x hpre hstp hBc a1 _ ⟨Ha, fpa, ha2⟩) fun e2 a2 u2 he2 => ?_
      cases e2 with
      | normal => exact fin none a2 u2 he2.1 he2.2
      | ret => exact fin (some .ret) a2 u2 ⟨he2.1, he2.2.1⟩ he2.2.2
      | exit id => exact fin (some (.exit id)) a2 u2 ⟨he2.1, he2.2.1⟩ he2.2.2
      | goto l => exact he2.elim
      | panic c => exact he2.elim
      | outgrown => exact he2.elim
    | exit id => exact he1.elim
    | goto l => exact he1.elim
    | ret => exact he1.elim
    | panic c => exact he1.elim
    | outgrown => exact he1.elim
  -- the call
  have hB1 : B.Le H := hh.base
  have hcall := hit w1 H hstart.sub hB1 (u.heap.size + 1) J stop C0 hst0 hY hJ0 hC0
  have hel := run_enterLoop_outer (P := P) (w := u) fn a.tmps params assign body
  rw [hrec, hw1] at hel
  refine ⟨u.heap.size + 1, [mark u.heap.size], w1, ⟨.fn (.func gf) caps.toArray, #[] ++ #[.func (.yield (u.heap.size + 1)) #[] #[]]⟩, w1, gf, (.func (.yield (u.heap.size + 1)) #[] #[] :: caps).toArray, w1, hel, ?_, fun _ _ => trivial, ?_, fun h => (by cases h), ?_⟩
  · have hcv : a.eval (.const (.func (.yield (u.heap.size + 1)) #[] #[])) = .func (.yield (u.heap.size + 1)) #[] #[] := rfl
    simp [resolve, rangeCall, hfe, Deferred.ofValue, hcv]
  · simp only [invoke]
    rw [run_callFunc L hfn]
    simp
  · refine FW.call none _ (Calls.mono hcall fun e3 u3 hp => ?_)
    obtain ⟨z, rfl, H3, g3, C3, ⟨Hc, fpc, hc, c1, c2, c3, c4, c5, c6⟩, _⟩ := hp
    generalize htk : taken stop [] xs = tk at hc c3 hdone hstop c6
    have hl3 : u3.heap[u.heap.size + 1]? = some (.loop (recS tk)) := (hc.boxes _ (List.mem_cons_self ..)).1
    have hnb : (recS tk).state ≠ .busy := by
      show (if stop tk = true then ({ rec0 with state := .done, pending := some (jc tk) } : Loop) else rec0).state ≠ .busy
      split
      · simp
      · rw [hrec0.1]; simp
    have hpend : (recS tk).pending = if stop tk = true then some (jc tk) else none := by
      show (if stop tk = true then ({ rec0 with state := .done, pending := some (jc tk) } : Loop) else rec0).pending = _
      split
      · rfl
      · exact hrec0.2.1
    refine ⟨_, _, run_endLoop hl3 hnb, ?_⟩
    have hc2 := hc.boxSet (O1 := []) (ds := []) (a' := a0) (Chg.putObj (o := .loop { recS tk with state := .exhausted }) (size_of_heap hl3)) (List.Sublist.refl _) (by simp) rfl rfl
    have hDn : u.heap.size ∉ ds := fun hm => by
      have := size_of_heap (hh.boxes _ (hh.marks _ hm)).1
      exact absurd this (Nat.lt_irrefl _)
    have hfin : HasH ⟨w0, none, u.heap.size :: ds, Lf⟩ B ((u.heap.size + 1, .loop { recS tk with state := .exhausted }) :: (u.heap.size, .deferred (some [])) :: O) n (KK fx (G tk)) { a with defers := [mark u.heap.size] ++ a.defers } (u3.putObj (u.heap.size + 1) (.loop { recS tk with state := .exhausted })) Hc fpc :=
      ⟨hc2.size, by have := hh.defers; dsimp only at this ⊢; rw [this]; rfl, List.nodup_cons.2 ⟨hDn, hh.nodup⟩, fun D hD => by
        rcases List.mem_cons.1 hD with rfl | hD
        · exact List.mem_cons_of_mem _ (List.mem_cons_self ..)
        · exact List.mem_cons_of_mem _ (List.mem_cons_of_mem _ (hh.marks D hD)), hc2.lent, hc2.keep, hc2.sub, hc2.base, hc2.fresh, hc2.boxes, hc2.apart, hc2.slot, hc2.owns, hc2.mono⟩
    generalize (Obj.loop { recS tk with state := .exhausted }) = rx at hfin ⊢
    rw [hpend]
    cases hs : stop tk with
    | false =>
      simp only [Bool.false_eq_true, if_false]
      exact hdone _ _ _ hs _ _ ⟨Hc, fpc, hfin⟩
    | true =>
      simp only [if_true]
      exact hstop _ _ _ hs _ _ ⟨Hc, fpc, hfin⟩
end
theorem taken_go {stop : Seqs → Bool} : ∀ (xs pre : Seqs), stop (taken stop pre xs) = false → taken stop pre xs = pre ++ xs
  | [], pre, _ => by simp [taken]
  | x :: xs, pre, h => by
    simp only [taken] at h ⊢
    split
    · rename_i hs; rw [if_pos hs, hs] at h; cases h
    · rename_i hs; rw [if_neg hs] at h; rw [taken_go xs _ h]; simp
theorem taken_stop {stop : Seqs → Bool} : ∀ (xs ys pre : Seqs), stop (taken stop pre xs) = true → stop pre = false → taken stop pre (xs ++ ys) = taken stop pre xs
  | [], ys, pre, h, h0 => by simp only [taken] at h; rw [h0] at h; cases h
  | x :: xs, ys, pre, h, h0 => by
    simp only [List.cons_append, taken] at h ⊢
    split
    · rfl
    · rename_i hs; rw [if_neg hs] at h; exact taken_stop xs ys _ h (by simpa using hs)
theorem taken_more {stop : Seqs → Bool} : ∀ (xs ys pre : Seqs), stop (taken stop pre xs) = false → taken stop pre (xs ++ ys) = taken stop (pre ++ xs) ys
  | [], ys, pre, _ => by simp
  | x :: xs, ys, pre, h => by
    simp only [List.cons_append, taken] at h ⊢
    split
    · rename_i hs; rw [if_pos hs, hs] at h; cases h
    · rename_i hs; rw [if_neg hs] at h; rw [taken_more xs ys _ h]; simp
theorem taken_shift (stop : Seqs → Bool) (M : Seqs) : ∀ (xs pre : Seqs), M ++ taken (fun p => stop (M ++ p)) pre xs = taken stop (M ++ pre) xs
  | [], pre => rfl
  | x :: xs, pre => by
    simp only [taken]
    rw [List.append_assoc]
    split
    · rfl
    · rw [taken_shift stop M xs (pre ++ [x])]
end Go.V
