/- Texts on the way to DeltasKnown, part 2: one behind another. -/
import Derived.Test.YtkmjfdeeahjfcaaDeltasKnownM1
import Derived.Test.YtkmjfdeeahjfcaaProg
import Derived.Shelf.Small.Strs
import Derived.Lib.IndexMore
import Derived.Lib.IndexLaws
import Derived.Lib.IndexBytes
set_option linter.unusedVariables false
set_option linter.unusedSimpArgs false
/- The kit's twelfth floor: ranges over functions: who ranges, and what is ranged over. -/
namespace Go.V
open Go.RowKit

/-- Blocks that are owned, without a value. -/
structure GR where
  P : Heap → World → (Nat → Prop) → Prop
  st : ∀ {H u C H' u'}, P H u C → H.Le H' → H'.Le (hp u') → On u u' → (∀ k, C k → u'.heap[k]? = u.heap[k]?) → P H' u' C
def GR.res (r : GR) : Res := ⟨fun _ H u C => r.P H u C, r.st⟩
abbrev Seqs := List (List Value)
/-- Whoever ranges takes the elements one by one, and says when it has enough. -/
def YieldOK (P : Program) (l : Nat) (J : Seqs → GR) (stop : Seqs → Bool) (xs : Seqs) : Prop :=
  ∀ (pre : Seqs) (x : List Value), pre ++ [x] <+: xs → stop pre = false → ∀ (u : World) (H : Heap) (C : Nat → Prop), H.Le (hp u) → (J pre).P H u C → (∀ k, C k → k < u.heap.size ∧ H k = none) →
    ∃ fn tmps assign body, (Instr.yield l x.toArray).run P u = .ok (.round l fn tmps assign body) u ∧
      RoundIn Fence.wide 0 P l fn tmps assign body u fun e u' => e = .returned (.bool (!stop (pre ++ [x]))) ∧ ∃ C', (J (pre ++ [x])).P H u' C' ∧ Keep C u u' ∧ ∀ k, C' k → (C k ∨ u.heap.size ≤ k) ∧ k < u'.heap.size
def taken (stop : Seqs → Bool) : Seqs → Seqs → Seqs
  | pre, [] => pre
  | pre, x :: xs => if stop (pre ++ [x]) = true then pre ++ [x] else taken stop (pre ++ [x]) xs
/-- A function value that yields some elements, one after the other. -/
def Iter (P : Program) (f : FuncId) (caps : List Value) (w : World) (B : Heap) (xs : Seqs) : Prop :=
  ∀ (l : Nat) (J : Seqs → GR) (stop : Seqs → Bool) (C : Nat → Prop), stop [] = false → YieldOK P l J stop xs → (J []).P B w C → (∀ k, C k → k < w.heap.size ∧ B k = none) →
    RetL P f (.func (.yield l) #[] #[] :: caps) w B C fun _ H u => ∃ C', (J (taken stop [] xs)).P H u C' ∧ ∀ k, C' k → (C k ∨ w.heap.size ≤ k) ∧ k < u.heap.size ∧ H k = none

section
variable {P : Program} {F : Fr} {B : Heap} {O : Boxes} {n : Nat} {ops : Array Oper} {κ : Kap} {d : Nat} {ty : TypeId} {pos : String} {aft : Array Edge} {g : Option (Nat × Bool)} {a : Act} {u : World} {H : Heap} {fp : Nat → Nat → Prop} {os : List Oper} {Q : Exit → Act → World → Prop} {ex : Exs}
theorem evKs_map {o : Oper} (e : Env F B O κ o a u H fp) : ∀ (xs : List Operand) (vs : List Value), (∀ x ∈ xs, x ∈ o.op.operands) → evKs κ xs = some vs → xs.map a.eval = vs
  | [], vs, _, h => by simp only [evKs] at h; cases h; rfl
  | x :: xs, vs, hx, h => by
    simp only [evKs] at h
    split at h
    · rename_i v vs' h1 h2
      cases h
      rw [List.map_cons, evKs_map e xs vs' (fun p hp => hx p (List.mem_cons_of_mem _ hp)) h2, e.is_ x v (hx x (List.mem_cons_self ..)) h1]
    · cases h
/-- An element is yielded. -/
theorem ok_yield {l gs : Nat} {J : Seqs → GR} {stop : Seqs → Bool} {xs pre : Seqs} {x : List Value} {b : Bool} {fo : Operand} {args : Array Operand} {at_ : Array TypeId} (hY : YieldOK P l J stop xs) (hpre : pre ++ [x] <+: xs) (hst : stop pre = false) (hb : (!stop (pre ++ [x])) = b)
    (hn : Nat.blt d n = true) (hg : gK ops κ ⟨some d, .call { callee := .value fo, args := args, argTypes := at_ }, ty, pos, aft, g⟩ = some true) (hf : evK κ fo = some (.func (.yield l) #[] #[])) (ha : evKs κ args.toList = some x) (hk : κ gs = some (.own (J pre).res)) :
    StepOK2 P F B n ops O κ ⟨some d, .call { callee := .value fo, args := args, argTypes := at_ }, ty, pos, aft, g⟩ gs (.own (J (pre ++ [x])).res) d (.is (.bool b)) := by
  rintro κ' a u hl hks ⟨H, fp, hh⟩
  unfold After
  rw [if_pos (wanted_gK hh hl hg)]
  have e := hh.env hl
  have hfe : a.eval fo = .func (.yield l) #[] #[] := e.is_ fo _ (by simp [Op.operands, Call.operands]) hf
  have hae := evKs_map e args.toList x (fun y hy => by simp [Op.operands, Call.operands] at hy ⊢; exact .inr hy) ha
  have hk' : κ' gs = some (.own (J pre).res) := hks.trans hk
  obtain ⟨hown, hM⟩ := hh.slot gs _ hk'
  obtain ⟨fn, tmps, assign, body, hrun, hround⟩ := hY pre x hpre hst u H (fp gs) hh.sub hown fun k hk => ⟨(hM k hk).1, (hM k hk).2.1⟩
  have hae' : args.map a.eval = x.toArray := by rw [← hae, ← List.map_toArray, Array.toArray_toList]
  have hrun' : (execOp a.eval ⟨some d, .call { callee := .value fo, args := args, argTypes := at_ }, ty, pos, aft, g⟩).run P u = .ok (.round l fn tmps assign body) u := by
    simp only [execOp, resolve, hfe, Deferred.ofValue, Sem.run_bind, Sem.run_pure, Result.andThen_ok, invoke, hae']
    simpa using hrun
  rw [hrun']
  simp only [Upon]
  refine RoundIn.mono hround fun e' u' hp => ?_
  obtain ⟨rfl, C', hJ, hkeep, hC'⟩ := hp
  refine ⟨_, rfl, ?_⟩
  rw [hb]
  have hsub' : H.Le (hp u') := fun k o ho => by
    have hlt := hh.sub.size ho
    refine (hkeep.block k hlt fun hc => ?_).trans (hh.sub k o ho)
    rw [(hM k hc).2.1] at ho; cases ho
  have hg' : Grow (fp gs) u H u' H := ⟨hkeep, hsub', Heap.Le.refl _, fun _ _ _ => rfl⟩
  have h2 := hh.usePut (d := gs) (a' := a) (r' := (J (pre ++ [x])).res) (C := C') hk' hg' rfl rfl (fun _ _ => rfl) hJ fun k hk => ⟨(hC' k hk).1, (hC' k hk).2, by
    rcases (hC' k hk).1 with h | h
    · exact (hM k h).2.1
    · exact none_of_ge hh.sub h⟩
  rw [upd_upd] at h2
  exact ⟨H, _, h2.put (k := .is (.bool b)) (blt_lt hn) trivial rfl⟩
/-- A function that is lent something is entered. -/
theorem V_enterG {f : FuncId} {fn : Func} {c : Code} {args : List Value} {w : World} {B : Heap} {φ : Value → Heap → World → Prop} {C : Nat → Prop} (gs : Nat) (r : GR) (hf : P.funcs[f]? = some fn) (hb : fn.body = some c) (hn : fn.ntmps = n)
    (hs : args.length ≤ n) (hB : B.Le (hp w)) (hr : r.P B w C) (hC : ∀ k, C k → k < w.heap.size ∧ B k = none) (h : V P ⟨w, none, [], C⟩ B n [] (upd (argsK 0 args) gs (.own r.res)) c (bodyPostM Fence.wide 0 P fn (PostL w B C φ))) : RetL P f args w B C φ := by
  refine calls_of_V hf hb (h _ w ?_)
  subst hn
  have h0 := has_enter (B := B) C (fun k hk => (hC k hk).1) hs hB (fun _ => noL)
  exact ⟨B, _, h0.putR (d := gs) (r := r.res) rfl rfl (fun _ _ => rfl) hr (fun k hk => ⟨(hC k hk).1, (hC k hk).2, .inr hk, fun y hy => by cases hy⟩) fun t r' _ ht => by
    obtain ⟨v, hv, _⟩ := argsK_spec _ _ _ _ ht
    cases hv⟩

/-! ### who ranges -/
theorem ofL_append : ∀ (l1 l2 : List (Nat × Kn)) (t : Nat), ofL (l1 ++ l2) t = match ofL l1 t with | some k => some k | none => ofL l2 t
  | [], l2, t => rfl
  | (s, k) :: l1, l2, t => by
    show upd (ofL (l1 ++ l2)) s k t = _
    by_cases h : t = s
    · subst h; rw [upd_same]; show _ = match upd (ofL l1) t k t with | some k => some k | none => _; rw [upd_same]
    · rw [upd_other _ _ h, ofL_append l1 l2 t]; show _ = match upd (ofL l1) s k t with | some k => some k | none => _; rw [upd_other _ _ h]
def fixK (fx : List (Nat × Value)) : List (Nat × Kn) := fx.map fun p => (p.1, .is p.2)
def gK' (G : List (Nat × Res)) : List (Nat × Kn) := G.map fun p => (p.1, .own p.2)
theorem fixK_spec : ∀ (fx : List (Nat × Value)) {t : Nat} {k : Kn}, ofL (fixK fx) t = some k → ∃ v, k = .is v
  | [], _, _, h => by cases h
  | (s, v) :: fx, t, k, h => by
    replace h : upd (ofL (fixK fx)) s (.is v) t = some k := h
    by_cases hts : t = s
    · subst hts; rw [upd_same] at h; cases h; exact ⟨v, rfl⟩
    · rw [upd_other _ _ hts] at h; exact fixK_spec fx h
theorem gK'_spec {n : Nat} : ∀ (G : List (Nat × Res)) {t : Nat} {k : Kn}, (∀ p ∈ G, n ≤ p.1) → ofL (gK' G) t = some k → n ≤ t ∧ ∃ r, k = .own r
  | [], _, _, _, h => by cases h
  | (s, r) :: G, t, k, hn, h => by
    replace h : upd (ofL (gK' G)) s (.own r) t = some k := h
    by_cases hts : t = s
    · subst hts; rw [upd_same] at h; cases h; exact ⟨hn _ (List.mem_cons_self ..), r, rfl⟩
    · rw [upd_other _ _ hts] at h; exact gK'_spec G (fun p hp => hn p (List.mem_cons_of_mem _ hp)) h
abbrev KK (fx : List (Nat × Value)) (G : List (Nat × Res)) : Kap := ofL (gK' G ++ fixK fx)
theorem KK_own {n : Nat} {fx : List (Nat × Value)} {G : List (Nat × Res)} (hG : ∀ p ∈ G, n ≤ p.1) {t : Nat} {r : Res} (h : KK fx G t = some (.own r)) : ofL (gK' G) t = some (.own r) := by
  rw [KK, ofL_append] at h
  cases hg : ofL (gK' G) t with
  | some k => rw [hg] at h; exact h
  | none => rw [hg] at h; obtain ⟨v, hv⟩ := fixK_spec fx h; cases hv
theorem KK_cases {n : Nat} {fx : List (Nat × Value)} {G : List (Nat × Res)} (hG : ∀ p ∈ G, n ≤ p.1) {t : Nat} {k : Kn} (h : KK fx G t = some k) : (n ≤ t ∧ ofL (gK' G) t = some k ∧ ∃ r, k = .own r) ∨ (ofL (fixK fx) t = some k ∧ ofL (gK' G) t = none ∧ ∃ v, k = .is v) := by
  rw [KK, ofL_append] at h
  cases hg : ofL (gK' G) t with
  | some k' => rw [hg] at h; cases h; obtain ⟨h1, h2⟩ := gK'_spec G hG hg; exact .inl ⟨h1, rfl, h2⟩
  | none => rw [hg] at h; exact .inr ⟨h, rfl, fixK_spec fx h⟩
theorem eval_ge (hs : a.tmps.size = n) {t : Nat} (ht : n ≤ t) : a.eval (.tmp t) = undef := by
  simp only [Act.eval, Array.getD_eq_getD_getElem?]
  rw [Array.getElem?_eq_none (by omega)]; rfl
/-- A new block that is the frame's own. -/
theorem HasH.newBox (o : Obj) (h : HasH F B O n κ a u H fp) : HasH F B ((u.heap.size, o) :: O) n κ a (u.alloc o) H fp := by
  have h2 := h.grow (Grow.hid h.sub o)
  refine ⟨h2.size, h2.defers, h2.nodup, fun D hD => List.mem_cons_of_mem _ (h2.marks D hD), h2.lent, h2.keep, h2.sub, h2.base, h2.fresh, fun y hy => ?_, List.pairwise_cons.2 ⟨fun y hy => ?_, h2.apart⟩, fun t k hk => ?_, h2.owns, h2.mono⟩
  · rcases List.mem_cons.1 hy with rfl | hy
    · exact ⟨heap_push_same _ _, none_of_ge h.sub (Nat.le_refl _), .inl h.keep.size⟩
    · exact h2.boxes y hy
  · have := size_of_heap (h.boxes y hy).1
    dsimp only; omega
  · have hh := h2.slot t k hk
    cases k with
    | is _ => exact hh
    | sat _ => exact hh
    | own r =>
      refine ⟨hh.1, fun k hk' => ?_⟩
      obtain ⟨g1, g2, g3, g4⟩ := hh.2 k hk'
      refine ⟨g1, g2, g3, fun y hy => ?_⟩
      rcases List.mem_cons.1 hy with rfl | hy
      · have := ((h.slot t _ hk).2 k hk').1
        dsimp only; omega
      · exact g4 y hy
/-- What a frame that ranges is, between two rounds. -/
def Jc (F : Fr) (B : Heap) (n : Nat) (a0 : Act) (H0 : Heap) (N1 : Nat) (O' : Seqs → Boxes) (K : Seqs → Kap) (pre : Seqs) : GR where
  P Hit u C := ∃ Hc fp, HasH F B (O' pre) n (K pre) a0 u Hc fp ∧ H0.Le Hc ∧ H0.Le Hit ∧ (∀ y ∈ O' pre, y.1 < N1) ∧ N1 ≤ u.heap.size ∧ F.w0.heap.size ≤ N1 ∧
    (∀ k, C k ↔ (k < N1 ∧ H0 k = none) ∨ (N1 ≤ k ∧ ((Hc k).isSome = true ∨ ∃ t r, K pre t = some (.own r) ∧ fp t k)))
  st := by
    rintro Hit u C Hit' u' ⟨Hc, fp, hh, h1, h2, h3, h4, h5, hC⟩ hle hsub hon hk
    have hCt : ∀ t r k, K pre t = some (.own r) → fp t k → C k := fun t r k ht hf => by
      rw [hC]
      rcases Nat.lt_or_ge k N1 with hlt | hge
      · refine .inl ⟨hlt, ?_⟩
        have := ((hh.slot t _ ht).2 k hf).2.1
        cases hx : H0 k with
        | none => rfl
        | some o => rw [h1 k o hx] at this; cases this
      · exact .inr ⟨hge, .inr ⟨t, r, ht, hf⟩⟩
    have hCb : ∀ y ∈ O' pre, C y.1 := fun y hy => by
      rw [hC]
      refine .inl ⟨h3 y hy, ?_⟩
      have := (hh.boxes y hy).2.1
      cases hx : H0 y.1 with
      | none => rfl
      | some o => rw [h1 _ o hx] at this; cases this
    have hold : ∀ k o, H0 k = some o → u'.heap[k]? = u.heap[k]? := fun k o ho =>
      ((hsub k o (hle k o (h2 k o ho))) : u'.heap[k]? = some o).trans ((hh.sub k o (h1 k o ho)) : u.heap[k]? = some o).symm
    have hsub' : Hc.Le (hp u') := fun k o ho => by
      show u'.heap[k]? = some o
      cases hx : H0 k with
      | some o' => rw [hold k o' hx]; exact hh.sub k o ho
      | none =>
        rw [hk k ((hC k).2 ?_)]
        · exact hh.sub k o ho
        · rcases Nat.lt_or_ge k N1 with hlt | hge
          · exact .inl ⟨hlt, hx⟩
          · exact .inr ⟨hge, .inl (by rw [ho]; rfl)⟩
    refine ⟨Hc, fp, ⟨hh.size, hh.defers, hh.nodup, hh.marks, hh.lent, ?_, hsub', hh.base, hh.fresh, fun y hy => ?_, hh.apart, fun t k ht => ?_, hh.owns, hh.mono⟩, h1, h2.trans hle, h3, Nat.le_trans h4 hon.size, h5, hC⟩
    · refine ⟨hon.os.trans hh.keep.os, hon.tape.trans hh.keep.tape, hon.output.trans hh.keep.output, Nat.le_trans hh.keep.size hon.size, fun k hk' hl => ?_, Nat.le_trans hh.keep.dr hon.dr⟩
      refine Eq.trans ?_ (hh.keep.block k hk' hl)
      cases hx : H0 k with
      | some o => exact hold k o hx
      | none => exact hk k ((hC k).2 (.inl ⟨by omega, hx⟩))
    · obtain ⟨g1, g2, g3⟩ := hh.boxes y hy
      exact ⟨(hk _ (hCb y hy)).trans g1, g2, g3⟩
    · have hs := hh.slot t k ht
      cases k with
      | is _ => exact hs
      | sat _ => exact hs
      | own r => exact ⟨r.st hs.1 (Heap.Le.refl _) hsub' hon fun k hf => hk k (hCt t r k ht hf), fun k hf => by
          obtain ⟨g1, g2, g3, g4⟩ := hs.2 k hf
          exact ⟨Nat.lt_of_lt_of_le g1 hon.size, g2, g3, g4⟩⟩
def updP (κ : Kap) : List (Nat × Value) → Kap
  | [] => κ
  | p :: ps => updP (upd κ p.1 (.is p.2)) ps
theorem HasH.putP : ∀ (ps : List (Nat × Value)) {κ : Kap} {tm : Array Value}, (∀ p ∈ ps, p.1 < n) → HasH F B O n κ { tmps := tm, defers := [] } u H fp →
    HasH F B O n (updP κ ps) { tmps := ps.foldl (fun t p => t.setIfInBounds p.1 p.2) tm, defers := [] } u H fp
  | [], _, _, _, h => h
  | p :: ps, κ, tm, hn, h => HasH.putP ps (fun q hq => hn q (List.mem_cons_of_mem _ hq)) (h.put (k := .is p.2) (hn p (List.mem_cons_self ..)) trivial rfl)
/-- How a round must end. -/
def RPost (F : Fr) (B : Heap) (n : Nat) (O : Boxes) (G : Seqs → List (Nat × Res)) (stop : Seqs → Bool) (jc : Seqs → Code) (pre : Seqs) : Exit → Act → World → Prop
  | .normal, a, u => stop pre = false ∧ Has F B O n (ofL (gK' (G pre))) a u
  | .ret, a, u => stop pre = true ∧ jc pre = .ret ∧ Has F B O n (ofL (gK' (G pre))) a u
  | .exit id, a, u => stop pre = true ∧ jc pre = .exit id ∧ Has F B O n (ofL (gK' (G pre))) a u
  | _, _, _ => False
theorem N_fin {B0 : Heap} {G : Seqs → List (Nat × Res)} {stop : Seqs → Bool} {jc : Seqs → Code} {pre : Seqs} (hs : Since F B0 B) (h1 : stop pre = false) (h2 : LiveOK (gK' (G pre)) κ) : N F B n O κ (RPost F B0 n O G stop jc pre) := fun _ _ hh => ⟨h1, (hh.live h2).since hs⟩
/-- A return is met. -/
def RR (F : Fr) (B : Heap) (n : Nat) (O : Boxes) (κ : Kap) (Q : Exit → Act → World → Prop) : Prop := ∀ a u, Has F B O n κ a u → Q .ret a u
theorem V_rets (h : RR F B n O κ Q) : V P F B n O κ .ret Q := fun a u hh => wpIn_ret (h a u hh)
theorem R_block {id : Nat} (h : RR F B n O κ Q) : RR F B n O κ (Exit.inBlock id Q) := h
theorem R_fin {B0 : Heap} {G : Seqs → List (Nat × Res)} {stop : Seqs → Bool} {jc : Seqs → Code} {pre : Seqs} (hs : Since F B0 B) (h1 : stop pre = true) (h3 : jc pre = .ret) (h2 : LiveOK (gK' (G pre)) κ) : RR F B n O κ (RPost F B0 n O G stop jc pre) :=
  fun _ _ hh => ⟨h1, h3, (hh.live h2).since hs⟩
theorem N_has {B0 : Heap} {l : List (Nat × Kn)} (hs : Since F B0 B) (hl : LiveOK l κ) : N F B n O κ (Exit.then (fun a u => Has F B0 O n (ofL l) a u) Q) := fun _ _ hh => (hh.live hl).since hs
theorem HasH.ghost {gs : Nat} {r : GR} (hk : κ gs = some (.own r.res)) (h : HasH F B O n κ a u H fp) : ∃ C', r.P H u C' ∧ ∀ k, C' k → (F.L k ∨ F.w0.heap.size ≤ k) ∧ k < u.heap.size ∧ H k = none :=
  ⟨fp gs, (h.slot gs _ hk).1, fun k hk' => by obtain ⟨g1, g2, g3, _⟩ := (h.slot gs _ hk).2 k hk'; exact ⟨g3.symm, g1, g2⟩⟩
theorem V_retGhost (L : Tabs P) {fn : Func} {B0 : Heap} (gs : Nat) {r r' : GR} (hrs : fn.results = #[]) (hQ : ∀ a u, bodyPostM Fence.wide 0 P fn (PostL F.w0 B0 F.L fun _ H u => ∃ C', r'.P H u C' ∧ ∀ k, C' k → (F.L k ∨ F.w0.heap.size ≤ k) ∧ k < u.heap.size ∧ H k = none) .ret a u → Q .ret a u) (hs : Since F B0 B) (hk : κ gs = some (.own r.res)) (e : r = r') : V P F B n O κ .ret Q :=
  V_retG hQ hs fun O' a u H fp _ hh => by
    subst e
    obtain ⟨vs, h1, _⟩ := results_run L hh (rs := []) hrs (K := fun _ => True) trivial
    obtain ⟨C', h2, h3⟩ := HasH.ghost hk hh
    exact ⟨_, h1, C', h2, h3⟩
theorem N_retGhost (L : Tabs P) {fn : Func} {B0 : Heap} (gs : Nat) {r r' : GR} (hrs : fn.results = #[]) (hQ : ∀ a u, bodyPostM Fence.wide 0 P fn (PostL F.w0 B0 F.L fun _ H u => ∃ C', r'.P H u C' ∧ ∀ k, C' k → (F.L k ∨ F.w0.heap.size ≤ k) ∧ k < u.heap.size ∧ H k = none) .normal a u → Q .normal a u) (hs : Since F B0 B) (hk : κ gs = some (.own r.res)) (e : r = r') : N F B n O κ Q :=
  N_retG hQ hs fun O' a u H fp _ hh => by
    subst e
    obtain ⟨vs, h1, _⟩ := results_run L hh (rs := []) hrs (K := fun _ => True) trivial
    obtain ⟨C', h2, h3⟩ := HasH.ghost hk hh
    exact ⟨_, h1, C', h2, h3⟩
theorem LiveOK.right : ∀ {l1 l2 : List (Nat × Kn)}, LiveOK (l1 ++ l2) κ → LiveOK l2 κ
  | [], _, h => h
  | _ :: l1, _, h => LiveOK.right (l1 := l1) h.2
theorem V_rangeFunc (L : Tabs P) {f : Operand} {params : Array Tmp} {assign body : Code} {gf : Nat} {caps : List Value}
    (fx : List (Nat × Value)) (G : Seqs → List (Nat × Res)) (K1 : Seqs → List Value → List (Nat × Kn)) (xs : Seqs) (stop : Seqs → Bool) (jc : Seqs → Code)
    (hr : F.r = none) (hf : evK κ f = some (.func (.func gf) #[] caps.toArray)) (hfn : L.fn gf = some ())
    (h0 : LiveOK (gK' (G []) ++ fixK fx) κ) (hG : ∀ pre, ∀ p ∈ G pre, n ≤ p.1) (hst0 : stop [] = false)
    (hps : ∀ x ∈ xs, x.length = params.size) (hpn : ∀ t ∈ params.toList, t < n)
    (hit : ∀ u H, H.Le (hp u) → B.Le H → Iter P gf caps u H xs)
    (hassign : ∀ (w1 : World) (Ln : Nat → Prop) (B' : Heap) (l D : Nat) (o : Obj) (pre : Seqs) (x : List Value), pre ++ [x] <+: xs → stop pre = false → B.Le B' →
      V P ⟨w1, some l, [], Ln⟩ B' n ((l, o) :: (D, .deferred (some [])) :: O) (updP (KK fx (G pre)) (params.toList.zip x)) assign (Exit.then (fun a u => Has ⟨w1, some l, [], Ln⟩ B' ((l, o) :: (D, .deferred (some [])) :: O) n (ofL (K1 pre x)) a u) (fun _ _ _ => False)))
    (hbody : ∀ (w1 : World) (Ln : Nat → Prop) (B' : Heap) (l D : Nat) (o : Obj) (pre : Seqs) (x : List Value), pre ++ [x] <+: xs → stop pre = false → B.Le B' →
      V P ⟨w1, some l, [], Ln⟩ B' n ((l, o) :: (D, .deferred (some [])) :: O) (ofL (K1 pre x)) body (RPost ⟨w1, some l, [], Ln⟩ B' n ((l, o) :: (D, .deferred (some [])) :: O) G stop jc (pre ++ [x])))
    (hdone : ∀ (l D : Nat) (o : Obj), stop (taken stop [] xs) = false → N ⟨F.w0, F.r, D :: F.ds, F.L⟩ B n ((l, o) :: (D, .deferred (some [])) :: O) (KK fx (G (taken stop [] xs))) Q)
    (hstop : ∀ (l D : Nat) (o : Obj), stop (taken stop [] xs) = true → V P ⟨F.w0, F.r, D :: F.ds, F.L⟩ B n ((l, o) :: (D, .deferred (some [])) :: O) (KK fx (G (taken stop [] xs))) (jc (taken stop [] xs)) Q) :
    V P F B n O κ (.rangeFunc f params assign body) Q := by
  obtain ⟨w0, r, ds, Lf⟩ := F
  dsimp only at hr
  subst hr
  rintro a u ⟨H, fp, hh⟩
  have e := hh.env (ops := #[]) (o := ⟨none, .move f, 0, "", #[], none⟩) (κ := κ) (fun _ _ => rfl)
  have hfe : a.eval f = .func (.func gf) #[] caps.toArray := e.is_ f _ (by simp [Op.operands]) hf
  refine wpIn_rangeFunc fun fn _ => ?_
  -- the record
  have hD0 : (.loop { state := .ready, pending := none, fn, tmps := a.tmps, params, assign, body, defers := u.heap.size } : Obj) = .loop { state := .ready, pending := none, fn, tmps := a.tmps, params, assign, body, defers := u.heap.size } := rfl
  generalize hrec : ({ state := .ready, pending := none, fn, tmps := a.tmps, params, assign, body, defers := u.heap.size } : Loop) = rec0 at hD0
  have hh1 := (hh.newBox (.deferred (some []))).newBox (.loop rec0)
  rw [World.size_alloc] at hh1
  generalize hw1 : (u.alloc (.deferred (some []))).alloc (.loop rec0) = w1 at hh1
  have hN1 : w1.heap.size = u.heap.size + 2 := by subst hw1; simp
  let recS : Seqs → Loop := fun pre => if stop pre = true then { rec0 with state := .done, pending := some (jc pre) } else rec0
  let O' : Seqs → Boxes := fun pre => (u.heap.size + 1, .loop (recS pre)) :: (u.heap.size, .deferred (some [])) :: O
  let F1 : Fr := ⟨w0, none, [], Lf⟩
  let a0 : Act := { tmps := a.tmps, defers := [] }
  let J : Seqs → GR := Jc F1 B n a0 H w1.heap.size O' fun pre => KK fx (G pre)
  have hrec0 : rec0.state = .ready ∧ rec0.pending = none ∧ rec0.fn = fn ∧ rec0.tmps = a.tmps ∧ rec0.params = params ∧ rec0.assign = assign ∧ rec0.body = body := by subst hrec; exact ⟨rfl, rfl, rfl, rfl, rfl, rfl, rfl⟩
  have hO'mem : ∀ pre pre' y, y ∈ O' pre' → ∃ y' ∈ O' pre, y'.1 = y.1 := fun pre pre' y hy => by
    rcases List.mem_cons.1 hy with rfl | hy
    · exact ⟨_, List.mem_cons_self .., rfl⟩
    · exact ⟨y, List.mem_cons_of_mem _ hy, rfl⟩
  have hfix : ∀ t k, ofL (fixK fx) t = some k → ∀ v, k = .is v → a0.eval (.tmp t) = v := fun t k ht v hv => by
    subst hv
    exact hh.slot t _ ((LiveOK.right h0).get ht)
  have hrecS0 : recS [] = rec0 := if_neg (by rw [hst0]; simp)
  -- at the start
  have hstart : HasH F1 B (O' []) n (KK fx (G [])) a0 w1 H fp := by
    have h2 := hh1.sub_kap (κ2 := KK fx (G [])) fun t k hk => h0.get hk
    have : O' [] = (u.heap.size + 1, .loop rec0) :: (u.heap.size, .deferred (some [])) :: O := by show (_, Obj.loop (recS [])) :: _ = _; rw [hrecS0]
    rw [this]
    exact ⟨h2.size, rfl, List.nodup_nil, (fun _ h => by cases h), h2.lent, h2.keep, h2.sub, h2.base, h2.fresh, h2.boxes, h2.apart, h2.slot, h2.owns, h2.mono⟩
  let C0 : Nat → Prop := fun k => (k < w1.heap.size ∧ H k = none) ∨ (w1.heap.size ≤ k ∧ ((H k).isSome = true ∨ ∃ t r, KK fx (G []) t = some (.own r) ∧ fp t k))
  have hJ0 : (J []).P H w1 C0 := ⟨H, fp, hstart, Heap.Le.refl _, Heap.Le.refl _, fun y hy => size_of_heap (hstart.boxes y hy).1, Nat.le_refl _, hstart.keep.size, fun _ => Iff.rfl⟩
  have hC0 : ∀ k, C0 k → k < w1.heap.size ∧ H k = none := fun k hk => by
    rcases hk with h | ⟨h1, h | ⟨t, r, ht, hf⟩⟩
    · exact h
    · rw [none_of_ge hstart.sub h1] at h; cases h
    · have := ((hstart.slot t _ ht).2 k hf).1
      omega
  -- the rounds
  have hY : YieldOK P (u.heap.size + 1) J stop xs := by
    rintro pre x hpre hstp v Hit C hsubv ⟨Hc, fpc, hc, c1, c2, c3, c4, c5, c6⟩ hCv
    have hrp : recS pre = rec0 := if_neg (by rw [hstp]; simp)
    have hOp : O' pre = (u.heap.size + 1, .loop rec0) :: (u.heap.size, .deferred (some [])) :: O := by show (_, Obj.loop (recS pre)) :: _ = _; rw [hrp]
    rw [hOp] at hc
    have hl : v.heap[u.heap.size + 1]? = some (.loop rec0) := (hc.boxes _ (List.mem_cons_self ..)).1
    have hxl : x.length = params.size := hps x (hpre.subset (by simp))
    have hyr := run_yield (P := P) (args := x.toArray) hl (by rw [hrec0.2.2.2.2.1]; simpa using hxl)
    rw [hrec0.2.2.1, hrec0.2.2.2.1, hrec0.2.2.2.2.1, hrec0.2.2.2.2.2.1, hrec0.2.2.2.2.2.2] at hyr
    refine ⟨fn, _, assign, body, hyr, roundIn_of_wpIn trivial ?_⟩
    -- the round's frame
    let Cr : Nat → Prop := fun k => (∃ y ∈ O' pre, y.1 = k) ∨ ∃ t r, KK fx (G pre) t = some (.own r) ∧ fpc t k
    have hCrC : ∀ k, Cr k → C k ∧ k < v.heap.size ∧ (w0.heap.size ≤ k ∨ Lf k) := fun k hk => by
      rcases hk with ⟨y, hy, rfl⟩ | ⟨t, r, ht, hf⟩
      · rw [hOp] at hy
        obtain ⟨g1, g2, g3⟩ := hc.boxes y hy
        refine ⟨(c6 _).2 (.inl ⟨c3 y (by rw [hOp]; exact hy), ?_⟩), size_of_heap g1, g3⟩
        cases hx : H y.1 with
        | none => rfl
        | some o => rw [c1 _ o hx] at g2; cases g2
      · obtain ⟨g1, g2, g3, g4⟩ := (hc.slot t _ ht).2 k hf
        refine ⟨(c6 k).2 ?_, g1, g3⟩
        rcases Nat.lt_or_ge k w1.heap.size with hlt | hge
        · refine .inl ⟨hlt, ?_⟩
          cases hx : H k with
          | none => rfl
          | some o => rw [c1 _ o hx] at g2; cases g2
        · exact .inr ⟨hge, .inr ⟨t, r, ht, hf⟩⟩
    let Fr' : Fr := ⟨v, some (u.heap.size + 1), [], Cr⟩
    have hr0 : HasH Fr' Hc ((u.heap.size + 1, .loop rec0) :: (u.heap.size, .deferred (some [])) :: O) n (KK fx (G pre)) a0 v Hc fpc :=
      ⟨hc.size, rfl, List.nodup_nil, (fun _ h => by cases h), fun k hk => (hCrC k hk).2.1, Keep.refl _ _, hc.sub, Heap.Le.refl _, fun _ _ _ => rfl, fun y hy => ⟨(hc.boxes y hy).1, (hc.boxes y hy).2.1, .inr (.inl ⟨y, by rw [hOp]; exact hy, rfl⟩)⟩, hc.apart, fun t k hk => by
        have hs := hc.slot t k hk
        cases k with
        | is _ => exact hs
        | sat _ => exact hs
        | own r => exact ⟨hs.1, fun k hf => by
            obtain ⟨g1, g2, g3, g4⟩ := hs.2 k hf
            exact ⟨g1, g2, .inr (.inr ⟨t, r, hk, hf⟩), g4⟩⟩, hc.owns, hc.mono⟩
    have hBc : B.Le Hc := hc.base
    have hr1 := hr0.putP (params.toList.zip x) (fun p hp => hpn p.1 (List.of_mem_zip hp).1)
    have hfold : (params.zip x.toArray).foldl (fun tmps (t, a) => tmps.setIfInBounds t a) a.tmps = (params.toList.zip x).foldl (fun t p => t.setIfInBounds p.1 p.2) a.tmps := by
      rw [← Array.foldl_toList, Array.toList_zip]
    rw [hfold]
    -- how a round ends
    have fin : ∀ (e : Option Code) (a1 : Act) (u1 : World), (match e with | none => stop (pre ++ [x]) = false | some c => stop (pre ++ [x]) = true ∧ jc (pre ++ [x]) = c) →
        Has Fr' Hc ((u.heap.size + 1, .loop { rec0 with state := .busy }) :: (u.heap.size, .deferred (some [])) :: O) n (ofL (gK' (G (pre ++ [x])))) a1 u1 →
        ∃ z w', (Instr.endRound (u.heap.size + 1) e).run P u1 = .ok z w' ∧ Ending.returned z = .returned (.bool (!stop (pre ++ [x]))) ∧ ∃ C', (J (pre ++ [x])).P Hit w' C' ∧ Keep C v w' ∧ ∀ k, C' k → (C k ∨ v.heap.size ≤ k) ∧ k < w'.heap.size := by
      rintro e a1 u1 he ⟨Hd, fpd, hd⟩
      have hl1 := (hd.boxes _ (List.mem_cons_self ..)).1
      have hrun := run_endRound (P := P) e hl1
      have hrecE : ({ ({ rec0 with state := .busy } : Loop) with state := if e.isNone then .ready else .done, pending := e } : Loop) = recS (pre ++ [x]) := by
        cases e with
        | none =>
          have : recS (pre ++ [x]) = rec0 := if_neg (by rw [he]; simp)
          rw [this]
          obtain ⟨g1, g2, _⟩ := hrec0
          cases hq : rec0
          rw [hq] at g1 g2
          dsimp only at g1 g2 ⊢
          rw [g1, g2]; rfl
        | some c =>
          have : recS (pre ++ [x]) = { rec0 with state := .done, pending := some (jc (pre ++ [x])) } := if_pos he.1
          rw [this, he.2]; rfl
      rw [hrecE] at hrun
      have hv : (e.isNone) = !stop (pre ++ [x]) := by
        cases e with
        | none => rw [he]; rfl
        | some c => rw [he.1]; rfl
      refine ⟨_, _, hrun, by rw [hv], ?_⟩
      have hd2 := hd.boxSet (O1 := []) (ds := []) (a' := a1) (Chg.putObj (o := .loop (recS (pre ++ [x]))) (size_of_heap hl1)) (List.Sublist.refl _) (by simp) rfl hd.defers
      generalize u1.putObj (u.heap.size + 1) (.loop (recS (pre ++ [x]))) = u2 at hd2 ⊢
      have hd2' : HasH Fr' Hc (O' (pre ++ [x])) n (ofL (gK' (G (pre ++ [x])))) a1 u2 Hd fpd := hd2
      have hOg : ∀ y ∈ O' (pre ++ [x]), (w0.heap.size ≤ y.1 ∨ Lf y.1) ∧ y.1 < w1.heap.size := fun y hy => by
        obtain ⟨y', hy', hyy⟩ := hO'mem pre _ y hy
        rw [← hyy]
        exact ⟨(hc.boxes y' (by rw [← hOp]; exact hy')).2.2, c3 y' hy'⟩
      have hfull : HasH F1 B (O' (pre ++ [x])) n (KK fx (G (pre ++ [x]))) a0 u2 Hd fpd := by
        refine ⟨hh.size, rfl, List.nodup_nil, (fun _ h => by cases h), hc.lent, hc.keep.trans hd2'.keep fun i hi hci => ?_, hd2'.sub, hBc.trans hd2'.base, fun k hk hlk => ?_, fun y hy => ⟨(hd2'.boxes y hy).1, (hd2'.boxes y hy).2.1, (hOg y hy).1⟩, hd2'.apart, fun t k hk => ?_, fun s t r r' hst h1 h2 => ?_, fun t k hk => ?_⟩
        · rcases (hCrC i hci).2.2 with h | h
          · exact absurd hi (by show ¬ (i < w0.heap.size); omega)
          · exact h
        · refine (hd2'.fresh k (Nat.lt_of_lt_of_le hk hc.keep.size) fun hcr => ?_).trans (hc.fresh k hk hlk)
          rcases (hCrC k hcr).2.2 with h | h
          · exact absurd hk (by show ¬ (k < w0.heap.size); omega)
          · exact hlk h
        · rcases KK_cases (hG _) hk with ⟨hnt, hgk, r, rfl⟩ | ⟨hfk, _, z, rfl⟩
          · have hs := hd2'.slot t _ hgk
            have e1 : a0.eval (.tmp t) = a1.eval (.tmp t) := (eval_ge (a := a0) (n := n) hh.size hnt).trans (eval_ge hd2'.size hnt).symm
            rw [e1]
            refine ⟨hs.1, fun k hf => ?_⟩
            obtain ⟨g1, g2, g3, g4⟩ := hs.2 k hf
            refine ⟨g1, g2, ?_, g4⟩
            rcases g3 with g3 | g3
            · exact .inl (Nat.le_trans hc.keep.size g3)
            · exact (hCrC k g3).2.2
          · exact hfix t _ hfk z rfl
        · exact hd2'.owns s t r r' hst (KK_own (hG _) h1) (KK_own (hG _) h2)
        · rcases KK_cases (hG _) hk with ⟨_, _, r, rfl⟩ | ⟨_, _, z, rfl⟩ <;> trivial
      have hHd : Hc.Le Hd := hd2'.base
      refine ⟨fun k => (k < w1.heap.size ∧ H k = none) ∨ (w1.heap.size ≤ k ∧ ((Hd k).isSome = true ∨ ∃ t r, KK fx (G (pre ++ [x])) t = some (.own r) ∧ fpd t k)),
        ⟨Hd, fpd, hfull, c1.trans hHd, c2, fun y hy => (hOg y hy).2, Nat.le_trans c4 hd2'.keep.size, c5, fun _ => Iff.rfl⟩, hd2'.keep.weak fun k _ hk => (hCrC k hk).1, fun k hk => ?_⟩
      rcases hk with ⟨h1, h2⟩ | ⟨h1, h2 | ⟨t, r, ht, hf⟩⟩
      · exact ⟨.inl ((c6 k).2 (.inl ⟨h1, h2⟩)), Nat.lt_of_lt_of_le h1 (Nat.le_trans c4 hd2'.keep.size)⟩
      · obtain ⟨o, ho⟩ := Option.isSome_iff_exists.1 h2
        refine ⟨?_, hd2'.sub.size ho⟩
        rcases Nat.lt_or_ge k v.heap.size with hlt | hge
        · by_cases hcr : Cr k
          · exact .inl (hCrC k hcr).1
          · refine .inl ((c6 k).2 (.inr ⟨h1, .inl ?_⟩))
            rw [← hd2'.fresh k hlt hcr, ho]; rfl
        · exact .inr hge
      · have hs := (hd2'.slot t _ (KK_own (hG _) ht)).2 k hf
        refine ⟨?_, hs.1⟩
        rcases hs.2.2.1 with g | g
        · exact .inr g
        · exact .inl (hCrC k g).1
    refine Go.wpIn_mono (hassign v Cr Hc (u.heap.size + 1) u.heap.size (.loop rec0) pre x hpre hstp hBc _ v ⟨Hc, fpc, hr1⟩) fun e1 a1 u1 he1 => ?_
    cases e1 with
    | normal =>
      obtain ⟨Ha, fpa, ha⟩ := he1
      have hl1 := (ha.boxes _ (List.mem_cons_self ..)).1
      refine ⟨_, run_beginRound (P := P) hl1 hrec0.1, ?_⟩
      have ha2 := ha.boxSet (O1 := []) (ds := []) (a' := a1) (Chg.putObj (o := .loop { rec0 with state := .busy }) (size_of_heap hl1)) (List.Sublist.refl _) (by simp) rfl ha.defers
      refine Go.wpIn_mono (hbody v Cr Hc (u.heap.size + 1) u.heap.size (.loop { rec0 with state := .busy }) pre x hpre hstp hBc a1 _ ⟨Ha, fpa, ha2⟩) fun e2 a2 u2 he2 => ?_
      cases e2 with
      | normal => exact fin none a2 u2 he2.1 he2.2
      | ret => exact fin (some .ret) a2 u2 ⟨he2.1, he2.2.1⟩ he2.2.2
      | exit id => exact fin (some (.exit id)) a2 u2 ⟨he2.1, he2.2.1⟩ he2.2.2
      | goto l => exact he2.elim
      | panic c => exact he2.elim
      | outgrown => exact he2.elim
    | exit id => exact he1.elim
    | goto l => exact he1.elim
    | ret => exact he1.elim
    | panic c => exact he1.elim
    | outgrown => exact he1.elim
  -- the call
  have hB1 : B.Le H := hh.base
  have hcall := hit w1 H hstart.sub hB1 (u.heap.size + 1) J stop C0 hst0 hY hJ0 hC0
  have hel := run_enterLoop_outer (P := P) (w := u) fn a.tmps params assign body
  rw [hrec, hw1] at hel
  refine ⟨u.heap.size + 1, [mark u.heap.size], w1, ⟨.fn (.func gf) caps.toArray, #[] ++ #[.func (.yield (u.heap.size + 1)) #[] #[]]⟩, w1, gf, (.func (.yield (u.heap.size + 1)) #[] #[] :: caps).toArray, w1, hel, ?_, fun _ _ => trivial, ?_, fun h => (by cases h), ?_⟩
  · have hcv : a.eval (.const (.func (.yield (u.heap.size + 1)) #[] #[])) = .func (.yield (u.heap.size + 1)) #[] #[] := rfl
    simp [resolve, rangeCall, hfe, Deferred.ofValue, hcv]
  · simp only [invoke]
    rw [run_callFunc L hfn]
    simp
  · refine FW.call none _ (Calls.mono hcall fun e3 u3 hp => ?_)
    obtain ⟨z, rfl, H3, g3, C3, ⟨Hc, fpc, hc, c1, c2, c3, c4, c5, c6⟩, _⟩ := hp
    generalize htk : taken stop [] xs = tk at hc c3 hdone hstop c6
    have hl3 : u3.heap[u.heap.size + 1]? = some (.loop (recS tk)) := (hc.boxes _ (List.mem_cons_self ..)).1
    have hnb : (recS tk).state ≠ .busy := by
      show (if stop tk = true then ({ rec0 with state := .done, pending := some (jc tk) } : Loop) else rec0).state ≠ .busy
      split
      · simp
      · rw [hrec0.1]; simp
    have hpend : (recS tk).pending = if stop tk = true then some (jc tk) else none := by
      show (if stop tk = true then ({ rec0 with state := .done, pending := some (jc tk) } : Loop) else rec0).pending = _
      split
      · rfl
      · exact hrec0.2.1
    refine ⟨_, _, run_endLoop hl3 hnb, ?_⟩
    have hc2 := hc.boxSet (O1 := []) (ds := []) (a' := a0) (Chg.putObj (o := .loop { recS tk with state := .exhausted }) (size_of_heap hl3)) (List.Sublist.refl _) (by simp) rfl rfl
    have hDn : u.heap.size ∉ ds := fun hm => by
      have := size_of_heap (hh.boxes _ (hh.marks _ hm)).1
      exact absurd this (Nat.lt_irrefl _)
    have hfin : HasH ⟨w0, none, u.heap.size :: ds, Lf⟩ B ((u.heap.size + 1, .loop { recS tk with state := .exhausted }) :: (u.heap.size, .deferred (some [])) :: O) n (KK fx (G tk)) { a with defers := [mark u.heap.size] ++ a.defers } (u3.putObj (u.heap.size + 1) (.loop { recS tk with state := .exhausted })) Hc fpc :=
      ⟨hc2.size, by have := hh.defers; dsimp only at this ⊢; rw [this]; rfl, List.nodup_cons.2 ⟨hDn, hh.nodup⟩, fun D hD => by
        rcases List.mem_cons.1 hD with rfl | hD
        · exact List.mem_cons_of_mem _ (List.mem_cons_self ..)
        · exact List.mem_cons_of_mem _ (List.mem_cons_of_mem _ (hh.marks D hD)), hc2.lent, hc2.keep, hc2.sub, hc2.base, hc2.fresh, hc2.boxes, hc2.apart, hc2.slot, hc2.owns, hc2.mono⟩
    generalize (Obj.loop { recS tk with state := .exhausted }) = rx at hfin ⊢
    rw [hpend]
    cases hs : stop tk with
    | false =>
      simp only [Bool.false_eq_true, if_false]
      exact hdone _ _ _ hs _ _ ⟨Hc, fpc, hfin⟩
    | true =>
      simp only [if_true]
      exact hstop _ _ _ hs _ _ ⟨Hc, fpc, hfin⟩
end
theorem taken_go {stop : Seqs → Bool} : ∀ (xs pre : Seqs), stop (taken stop pre xs) = false → taken stop pre xs = pre ++ xs
  | [], pre, _ => by simp [taken]
  | x :: xs, pre, h => by
    simp only [taken] at h ⊢
    split
    · rename_i hs; rw [if_pos hs, hs] at h; cases h
    · rename_i hs; rw [if_neg hs] at h; rw [taken_go xs _ h]; simp
theorem taken_stop {stop : Seqs → Bool} : ∀ (xs ys pre : Seqs), stop (taken stop pre xs) = true → stop pre = false → taken stop pre (xs ++ ys) = taken stop pre xs
  | [], ys, pre, h, h0 => by simp only [taken] at h; rw [h0] at h; cases h
  | x :: xs, ys, pre, h, h0 => by
    simp only [List.cons_append, taken] at h ⊢
    split
    · rfl
    · rename_i hs; rw [if_neg hs] at h; exact taken_stop xs ys _ h (by simpa using hs)
theorem taken_more {stop : Seqs → Bool} : ∀ (xs ys pre : Seqs), stop (taken stop pre xs) = false → taken stop pre (xs ++ ys) = taken stop (pre ++ xs) ys
  | [], ys, pre, _ => by simp
  | x :: xs, ys, pre, h => by
    simp only [List.cons_append, taken] at h ⊢
    split
    · rename_i hs; rw [if_pos hs, hs] at h; cases h
    · rename_i hs; rw [if_neg hs] at h; rw [taken_more xs ys _ h]; simp
theorem taken_shift (stop : Seqs → Bool) (M : Seqs) : ∀ (xs pre : Seqs), M ++ taken (fun p => stop (M ++ p)) pre xs = taken stop (M ++ pre) xs
  | [], pre => rfl
  | x :: xs, pre => by
    simp only [taken]
    rw [List.append_assoc]
    split
    · rfl
    · rw [taken_shift stop M xs (pre ++ [x])]
end Go.V
/- The kit's thirteenth floor: what is compared with nil; function values. -/
namespace Go.V
open Go.RowKit
def nkI (P : Program) (t : TypeId) : Option Nat := match P.underlying t with
  | some (.pointer _) => some 0
  | some (.slice _) => some 1
  | some (.map _ _) => some 2
  | some (.func _ _ _) => some 3
  | _ => none
def nilEq : Nat → Value → Value → Option Bool
  | 0, .pointer a, .pointer none => some a.isNone
  | 1, .slice a _ _, .slice none _ _ => some a.isNone
  | 2, .map a, .map none => some a.isNone
  | 3, .nilFunc, .nilFunc => some true
  | 3, .func _ _ _, .nilFunc => some false
  | _, _, _ => none
section
variable {P : Program} {F : Fr} {B : Heap} {O : Boxes} {n : Nat} {ops : Array Oper} {κ : Kap} {d : Nat} {ty : TypeId} {pos : String} {aft : Array Edge} {g : Option (Nat × Bool)}
theorem run_equal_nil {t : TypeId} {k : Nat} {p q : Value} {b : Bool} (hk : nkI P t = some k) (h : nilEq k p q = some b) (u : World) (dd : Nat) : (Op.equalIn (dd + 1) t p q).run P u = .ok b u := by
  unfold nkI at hk
  split at hk <;> cases hk <;> rename_i hu
  · cases p <;> cases q <;> simp only [nilEq] at h <;> try cases h
    rename_i a c
    cases c <;> simp only [nilEq] at h <;> cases h
    cases a <;> (unfold Op.equalIn; rw [Sem.run_bind, run_underlying hu]; rfl)
  · cases p <;> cases q <;> simp only [nilEq] at h <;> try cases h
    rename_i a _ _ c _ _
    cases c <;> simp only [nilEq] at h <;> cases h
    cases a <;> (unfold Op.equalIn; rw [Sem.run_bind, run_underlying hu]; rfl)
  · cases p <;> cases q <;> simp only [nilEq] at h <;> try cases h
    rename_i a c
    cases c <;> simp only [nilEq] at h <;> cases h
    cases a <;> (unfold Op.equalIn; rw [Sem.run_bind, run_underlying hu]; rfl)
  · cases p <;> cases q <;> simp only [nilEq] at h <;> try cases h
    · unfold Op.equalIn; rw [Sem.run_bind, run_underlying hu]; rfl
    · unfold Op.equalIn; rw [Sem.run_bind, run_underlying hu]; rfl
theorem run_nilEq {t : TypeId} {k : Nat} {p q : Value} {b : Bool} (hk : nkI P t = some k) (h : nilEq k p q = some b) (op : BinOp) (x y : Operand) (u : World) :
    (do eqGuard op t x y p q; binOp .eql t p q : Sem Value).run P u = .ok (.bool b) u ∧ (do eqGuard op t x y p q; binOp .neq t p q : Sem Value).run P u = .ok (.bool (!b)) u := by
  have hr : (Op.equal t p q).run P u = .ok b u := run_equal_nil hk h u 9999
  have hg : eqGuard op t x y p q = pure () ∧ binOp .eql t p q = (do pure (Value.bool (← Op.equal t p q))) ∧ binOp .neq t p q = (do pure (Value.bool (!(← Op.equal t p q)))) := by
    unfold nilEq at h
    split at h <;> first | cases h; done | skip
    · exact ⟨eqGuard_at_pointer .., rfl, rfl⟩
    · exact ⟨eqGuard_at_slice .., rfl, rfl⟩
    · exact ⟨eqGuard_at_map .., rfl, rfl⟩
    · exact ⟨eqGuard_at_nilFunc .., rfl, rfl⟩
    · exact ⟨eqGuard_at_func .., rfl, rfl⟩
  constructor
  · rw [hg.1, hg.2.1, Sem.run_bind, Sem.run_pure, Result.andThen_ok, Sem.run_bind, hr]; rfl
  · rw [hg.1, hg.2.2, Sem.run_bind, Sem.run_pure, Result.andThen_ok, Sem.run_bind, hr]; rfl
theorem ok_neql {t t' : TypeId} {x y : Operand} {p q : Value} {k : Nat} {b : Bool} (hn : Nat.blt d n = true) (hg : gK ops κ ⟨some d, .binOp .eql t x y t', ty, pos, aft, g⟩ = some true) (hx : evK κ x = some p) (hy : evK κ y = some q) (hk : nkI P t = some k) (hb : nilEq k p q = some b) :
    StepOK P F B n ops O κ ⟨some d, .binOp .eql t x y t', ty, pos, aft, g⟩ d (.is (.bool b)) := ok_bin hn hg hx hy fun u => (run_nilEq hk hb .eql x y u).1
theorem ok_nneq {t t' : TypeId} {x y : Operand} {p q : Value} {k : Nat} {b c : Bool} (hn : Nat.blt d n = true) (hg : gK ops κ ⟨some d, .binOp .neq t x y t', ty, pos, aft, g⟩ = some true) (hx : evK κ x = some p) (hy : evK κ y = some q) (hk : nkI P t = some k) (hb : nilEq k p q = some b) (hc : (!b) = c) :
    StepOK P F B n ops O κ ⟨some d, .binOp .neq t x y t', ty, pos, aft, g⟩ d (.is (.bool c)) := ok_bin hn hg hx hy fun u => by subst hc; exact (run_nilEq hk hb .neq x y u).2
end
end Go.V
/- The kit's fourteenth floor: what is owned, and the slot or the variable that holds it. -/
namespace Go.V
open Go.RowKit
/-- What is owned, its value being known. -/
def AtV (x : Value) (r : Res) : Res := ⟨fun _ H u C => r.P x H u C, r.st⟩
/-- A variable of the call's own that holds what is owned. -/
def BoxR (b : Nat) (ty : TypeId) (r : Res) : Res where
  P _ H u C := ∃ x C', u.heap[b]? = some (.cells #[x] ty) ∧ r.P x H u C' ∧ ¬ C' b ∧ ∀ k, C k ↔ k = b ∨ C' k
  st := fun ⟨x, C', h1, h2, h3, h4⟩ hle hs hon hk => ⟨x, C', (hk b ((h4 b).2 (.inl rfl))).trans h1, r.st h2 hle hs hon fun k hc => hk k ((h4 k).2 (.inr hc)), h3, h4⟩
section
variable {P : Program} {F : Fr} {B : Heap} {O : Boxes} {n : Nat} {ops : Array Oper} {κ : Kap} {a : Act} {u : World} {H : Heap} {fp : Nat → Nat → Prop} {os : List Oper} {Q : Exit → Act → World → Prop}
theorem Has.detach {t g : Nat} {r : Res} {S : Value → Prop} (hk : κ t = some (.own r)) (hS : ∀ v H u C, r.P v H u C → S v) (h : Has F B O n κ a u) : ∃ x, S x ∧ Has F B O n (upd (upd (upd κ t nilK) g (.own (AtV x r))) t (.is x)) a u := by
  obtain ⟨H, fp, h⟩ := h
  obtain ⟨h1, hM⟩ := h.slot t _ hk
  have h2 := h.usePut (d := g) (a' := a) (r' := AtV (a.eval (.tmp t)) r) (C := fp t) hk ⟨Keep.refl _ _, h.sub, Heap.Le.refl _, fun _ _ _ => rfl⟩ rfl rfl (fun _ _ => rfl) h1 fun k hk => ⟨.inl hk, (hM k hk).1, (hM k hk).2.1⟩
  exact ⟨_, hS _ _ _ _ h1, H, _, h2.name t⟩
theorem Has.attach {t g : Nat} {x : Value} {r : Res} (hk : κ g = some (.own (AtV x r))) (ht : κ t = some (.is x)) (h : Has F B O n κ a u) : Has F B O n (upd (upd κ g nilK) t (.own r)) a u := by
  obtain ⟨H, fp, h⟩ := h
  obtain ⟨h1, hM⟩ := h.slot g _ hk
  have h1' : r.P x H u (fp g) := h1
  have hx : a.eval (.tmp t) = x := h.slot t _ ht
  exact ⟨H, _, h.usePut (d := t) (a' := a) (r' := r) (C := fp g) hk ⟨Keep.refl _ _, h.sub, Heap.Le.refl _, fun _ _ _ => rfl⟩ rfl rfl (fun _ _ => rfl) (by rw [hx]; exact h1') fun k hk => ⟨.inl hk, (hM k hk).1, (hM k hk).2.1⟩⟩
theorem HasH.lessBox {b : Nat} {o : Obj} {O1 O2 : Boxes} (h : HasH F B (O1 ++ (b, o) :: O2) n κ a u H fp) (hd : b ∉ F.ds) : HasH F B (O1 ++ O2) n κ a u H fp ∧ u.heap[b]? = some o ∧ H b = none ∧ (F.w0.heap.size ≤ b ∨ F.L b) ∧ (∀ y ∈ O1 ++ O2, y.1 ≠ b) ∧ ∀ t r, κ t = some (.own r) → ¬ fp t b := by
  have hsl : (O1 ++ O2).Sublist (O1 ++ (b, o) :: O2) := List.Sublist.append (List.Sublist.refl _) (List.sublist_cons_self ..)
  have hmem : (b, o) ∈ O1 ++ (b, o) :: O2 := by simp
  obtain ⟨hb1, hb2, hb3⟩ := h.boxes _ hmem
  have hap := List.pairwise_append.1 h.apart
  have hne : ∀ y, y ∈ O1 ++ O2 → y.1 ≠ b := fun y hy => by
    rcases List.mem_append.1 hy with hy | hy
    · exact hap.2.2 y hy _ (List.mem_cons_self ..)
    · exact Ne.symm ((List.pairwise_cons.1 hap.2.1).1 y hy)
  refine ⟨⟨h.size, h.defers, h.nodup, fun D hD => ?_, h.lent, h.keep, h.sub, h.base, h.fresh, fun y hy => h.boxes y (hsl.subset hy), h.apart.sublist hsl, fun s k hs => ?_, h.owns, h.mono⟩, hb1, hb2, hb3, hne, fun t r ht hf => ((h.slot t _ ht).2 b hf).2.2.2 _ hmem rfl⟩
  · have hm := h.marks D hD
    rcases List.mem_append.1 hm with hm | hm
    · exact List.mem_append_left _ hm
    · rcases List.mem_cons.1 hm with e | hm
      · cases e; exact absurd hD hd
      · exact List.mem_append_right _ hm
  · have hh := h.slot s k hs
    cases k with
    | is _ => exact hh
    | sat _ => exact hh
    | own r' => exact ⟨hh.1, fun k hk' => by obtain ⟨g1, g2, g3, g4⟩ := hh.2 k hk'; exact ⟨g1, g2, g3, fun y hy => g4 y (hsl.subset hy)⟩⟩
theorem not_ds {b : Nat} {cs : Array Value} {ty : TypeId} {fr : Nat × Nat} (h : HasH F B O n κ a u H fp) (hb : u.heap[b]? = some (.cells cs ty fr)) : b ∉ F.ds := fun hd => by
  have := (h.boxes _ (h.marks b hd)).1
  rw [hb] at this
  cases this
theorem Has.closeBox {g b : Nat} {x : Value} {ty : TypeId} {r : Res} (O1 O2 : Boxes) (hO : O = O1 ++ bx b [x] ty :: O2) (hk : κ g = some (.own (AtV x r))) (h : Has F B O n κ a u) : Has F B (O1 ++ O2) n (upd κ g (.own (BoxR b ty r))) a u := by
  subst hO
  obtain ⟨H, fp, h⟩ := h
  obtain ⟨h0, hb1, hb2, hb3, hne, hfp⟩ := h.lessBox (not_ds h (h.boxes (bx b [x] ty) (by simp)).1)
  obtain ⟨h1, hM⟩ := h0.slot g _ hk
  refine ⟨H, _, h0.putR (d := g) (r := BoxR b ty r) (C := fun k => k = b ∨ fp g k) rfl rfl (fun _ _ => rfl) ⟨x, fp g, hb1, h1, hfp g _ hk, fun _ => Iff.rfl⟩ (fun k hk' => ?_) fun t r' htg ht k hf hc => ?_⟩
  · rcases hk' with rfl | hk'
    · exact ⟨size_of_heap hb1, hb2, hb3, fun y hy => hne y hy⟩
    · exact hM k hk'
  · rcases hc with rfl | hc
    · exact hfp t _ ht hf
    · exact h0.owns t g _ _ htg ht hk k hf hc
theorem Has.openBox {g b : Nat} {ty : TypeId} {r : Res} {S : Value → Prop} (hk : κ g = some (.own (BoxR b ty r))) (hS : ∀ v H u C, r.P v H u C → S v) (h : Has F B O n κ a u) : ∃ x, S x ∧ Has F B (bx b [x] ty :: O) n (upd κ g (.own (AtV x r))) a u := by
  obtain ⟨H, fp, h⟩ := h
  obtain ⟨⟨x, C', h1, h2, h3, h4⟩, hM⟩ := h.slot g _ hk
  have hMb := hM b ((h4 b).2 (.inl rfl))
  have h5 := h.putR (d := g) (a' := a) (r := AtV x r) (C := C') rfl rfl (fun _ _ => rfl) h2 (fun k hk' => hM k ((h4 k).2 (.inr hk'))) fun t r' htg ht k hf hc => h.owns t g _ _ htg ht hk k hf ((h4 k).2 (.inr hc))
  refine ⟨x, hS _ _ _ _ h2, H, _, h5.size, h5.defers, h5.nodup, fun D hD => List.mem_cons_of_mem _ (h5.marks D hD), h5.lent, h5.keep, h5.sub, h5.base, h5.fresh, fun y hy => ?_, List.pairwise_cons.2 ⟨fun y hy => Ne.symm (hMb.2.2.2 y hy), h5.apart⟩, fun s k hs => ?_, h5.owns, h5.mono⟩
  · rcases List.mem_cons.1 hy with rfl | hy
    · exact ⟨h1, hMb.2.1, hMb.2.2.1⟩
    · exact h5.boxes y hy
  · have hh := h5.slot s k hs
    cases k with
    | is _ => exact hh
    | sat _ => exact hh
    | own r' =>
      refine ⟨hh.1, fun k hk' => ?_⟩
      obtain ⟨g1, g2, g3, g4⟩ := hh.2 k hk'
      refine ⟨g1, g2, g3, fun y hy => ?_⟩
      rcases List.mem_cons.1 hy with rfl | hy
      · rintro rfl
        by_cases hsg : s = g
        · subst hsg; rw [fpu_same] at hk'; exact h3 hk'
        · rw [fpu_other _ _ hsg] at hk'
          rw [upd_other _ _ hsg] at hs
          exact h.owns s g _ _ hsg hs hk _ hk' ((h4 _).2 (.inl rfl))
      · exact g4 y hy
theorem V_detach (t g : Nat) {r : Res} {c : Code} (S : Value → Prop) (hk : κ t = some (.own r)) (hS : ∀ v H u C, r.P v H u C → S v) (h : ∀ x, S x → V P F B n O (upd (upd (upd κ t nilK) g (.own (AtV x r))) t (.is x)) c Q) : V P F B n O κ c Q := fun a u hh => let ⟨x, hx, h'⟩ := hh.detach (g := g) hk hS; h x hx a u h'
theorem vo_detach (t g : Nat) {r : Res} (S : Value → Prop) (hk : κ t = some (.own r)) (hS : ∀ v H u C, r.P v H u C → S v) (h : ∀ x, S x → VO P F B n O ops (upd (upd (upd κ t nilK) g (.own (AtV x r))) t (.is x)) os Q) : VO P F B n O ops κ os Q := fun a u hh => let ⟨x, hx, h'⟩ := hh.detach (g := g) hk hS; h x hx a u h'
theorem V_attach (t g : Nat) {x : Value} {r : Res} {c : Code} (hk : κ g = some (.own (AtV x r))) (ht : κ t = some (.is x)) (h : V P F B n O (upd (upd κ g nilK) t (.own r)) c Q) : V P F B n O κ c Q := fun a u hh => h a u (hh.attach hk ht)
theorem vo_attach (t g : Nat) {x : Value} {r : Res} (hk : κ g = some (.own (AtV x r))) (ht : κ t = some (.is x)) (h : VO P F B n O ops (upd (upd κ g nilK) t (.own r)) os Q) : VO P F B n O ops κ os Q := fun a u hh => h a u (hh.attach hk ht)
theorem V_closeBox (g : Nat) {b : Nat} {x : Value} {ty : TypeId} {r : Res} {c : Code} (O1 : Boxes) {O2 : Boxes} (hO : O = O1 ++ bx b [x] ty :: O2) (hk : κ g = some (.own (AtV x r))) (h : V P F B n (O1 ++ O2) (upd κ g (.own (BoxR b ty r))) c Q) : V P F B n O κ c Q := fun a u hh => h a u (hh.closeBox O1 O2 hO hk)
theorem N_closeBox (g : Nat) {b : Nat} {x : Value} {ty : TypeId} {r : Res} (O1 : Boxes) {O2 : Boxes} (hO : O = O1 ++ bx b [x] ty :: O2) (hk : κ g = some (.own (AtV x r))) (h : N F B n (O1 ++ O2) (upd κ g (.own (BoxR b ty r))) Q) : N F B n O κ Q := fun a u hh => h a u (hh.closeBox O1 O2 hO hk)
theorem V_openBox (g : Nat) {b : Nat} {ty : TypeId} {r : Res} {c : Code} (S : Value → Prop) (hk : κ g = some (.own (BoxR b ty r))) (hS : ∀ v H u C, r.P v H u C → S v) (h : ∀ x, S x → V P F B n (bx b [x] ty :: O) (upd κ g (.own (AtV x r))) c Q) : V P F B n O κ c Q := fun a u hh => let ⟨x, hx, h'⟩ := hh.openBox hk hS; h x hx a u h'
/-- Of a value that is known it is said what it satisfies. -/
theorem Has.seen {t : Nat} {x : Value} (φ : Value → Heap → Prop) (hk : κ t = some (.is x)) (hm : Kn.mono (.sat φ)) (hx : φ x B) (h : Has F B O n κ a u) : Has F B O n (upd κ t (.sat φ)) a u := by
  obtain ⟨H, fp, h⟩ := h
  refine ⟨H, fp, h.size, h.defers, h.nodup, h.marks, h.lent, h.keep, h.sub, h.base, h.fresh, h.boxes, h.apart, fun s k hs => ?_, fun s q r1 r2 hsq h1 h2 => ?_, fun s k hs => ?_⟩
  · by_cases hst : s = t
    · subst hst; rw [upd_same] at hs; cases hs
      have : a.eval (.tmp s) = x := h.slot s _ hk
      rw [this]
      exact hm _ _ _ hx h.base
    · rw [upd_other _ _ hst] at hs; exact h.slot s k hs
  · have key : ∀ x r, upd κ t (.sat φ) x = some (.own r) → κ x = some (.own r) := fun x r hx => by
      by_cases hxd : x = t
      · subst hxd; rw [upd_same] at hx; cases hx
      · rw [upd_other _ _ hxd] at hx; exact hx
    exact h.owns s q r1 r2 hsq (key _ _ h1) (key _ _ h2)
  · by_cases hst : s = t
    · subst hst; rw [upd_same] at hs; cases hs; exact hm
    · rw [upd_other _ _ hst] at hs; exact h.mono s k hs
theorem V_seen (t : Nat) {x : Value} (φ : Value → Heap → Prop) {c : Code} (hk : κ t = some (.is x)) (hm : Kn.mono (.sat φ)) (hx : φ x B) (h : V P F B n O (upd κ t (.sat φ)) c Q) : V P F B n O κ c Q := fun a u hh => h a u (hh.seen φ hk hm hx)
theorem vo_seen (t : Nat) {x : Value} (φ : Value → Heap → Prop) (hk : κ t = some (.is x)) (hm : Kn.mono (.sat φ)) (hx : φ x B) (h : VO P F B n O ops (upd κ t (.sat φ)) os Q) : VO P F B n O ops κ os Q := fun a u hh => h a u (hh.seen φ hk hm hx)
theorem SlR.shape {e : TypeId} {s m : Nat} {xs : List Value} : ∀ v H u C, (SlR e s m xs).P v H u C → ∃ p c, v = .slice p m c := fun v _ _ _ ⟨_, h⟩ => by
  rcases h with ⟨rfl, rfl, _⟩ | ⟨b, cap, rest, rfl, _⟩
  · exact ⟨_, _, rfl⟩
  · exact ⟨_, _, rfl⟩
/-- A function is entered that is handed what is owned, as an argument. -/
theorem V_enterA {f : FuncId} {fn : Func} {c : Code} {args : List Value} {w : World} {B : Heap} {φ : Value → Heap → World → Prop} {C : Nat → Prop} (i : Nat) {x : Value} (r : Res) (hi : args[i]? = some x) (hf : P.funcs[f]? = some fn) (hb : fn.body = some c) (hn : fn.ntmps = n)
    (hs : args.length ≤ n) (hB : B.Le (hp w)) (hr : r.P x B w C) (hC : ∀ k, C k → k < w.heap.size ∧ B k = none) (h : V P ⟨w, none, [], C⟩ B n [] (upd (argsK 0 args) i (.own r)) c (bodyPostM Fence.wide 0 P fn (PostL w B C φ))) : RetL P f args w B C φ := by
  refine calls_of_V hf hb (h _ w ?_)
  subst hn
  have h0 := has_enter (B := B) C (fun k hk => (hC k hk).1) hs hB (fun _ => noL)
  have hk : ∀ (vs : List Value) (j t : Nat) (v : Value), vs[t]? = some v → argsK j vs (j + t) = some (.is v) := by
    intro vs
    induction vs with
    | nil => intro j t v hv; cases hv
    | cons y vs ih =>
      intro j t v hv
      cases t with
      | zero => simp only [List.getElem?_cons_zero, Option.some.injEq] at hv; subst hv; exact upd_same _ _ _
      | succ t =>
        simp only [List.getElem?_cons_succ] at hv
        show upd (argsK (j + 1) vs) j (.is y) (j + (t + 1)) = _
        rw [upd_other _ _ (by omega), show j + (t + 1) = (j + 1) + t by omega]
        exact ih (j + 1) t v hv
  have hx := h0.slot i _ (by have := hk args 0 i x hi; rwa [Nat.zero_add] at this)
  exact ⟨B, _, h0.putR (d := i) (r := r) rfl rfl (fun _ _ => rfl) (by rw [show _ = x from hx]; exact hr) (fun k hk => ⟨(hC k hk).1, (hC k hk).2, .inr hk, fun y hy => by cases hy⟩) fun t r' _ ht => by
    obtain ⟨v, hv, _⟩ := argsK_spec _ _ _ _ ht
    cases hv⟩
/-- A return, marks having been laid: the results lie in slots. -/
theorem V_retM (L : Tabs P) {fn : Func} {B0 : Heap} {φ : Value → Heap → Prop} {rs : List ResultVar} (hrs : fn.results = rs.toArray) (hQ : ∀ a u, bodyPostM Fence.wide 0 P fn (PostL F.w0 B0 F.L fun v H _ => φ v H) .ret a u → Q .ret a u) (hs : Since F B0 B)
    (h : ∀ O' u H, H.Le (hp u) → B.Le H → ResK L { F with ds := [] } B O' κ H rs [] (fun vs => φ (tup vs) H)) : V P F B n O κ .ret Q :=
  V_retG hQ hs fun O' a u H fp _ hh => by
    obtain ⟨vs, h1, h2⟩ := results_run L hh hrs (h O' u H hh.sub hh.base)
    exact ⟨_, h1, h2⟩
end
end Go.V
/- The kit's fifteenth floor: what is owned, not quite known. -/
namespace Go.V
open Go.RowKit
def MonoX {X : Type} (φ : X → Heap → Prop) : Prop := ∀ x H H', φ x H → Heap.Le H H' → φ x H'
/-- What is owned is one of some. -/
def ExR {X : Type} (r : X → Res) (φ : X → Heap → Prop) (hφ : MonoX φ) : Res where
  P v H u C := ∃ x, φ x H ∧ (r x).P v H u C
  st := fun ⟨x, h1, h2⟩ hle hs hon hk => ⟨x, hφ _ _ _ h1 hle, (r x).st h2 hle hs hon hk⟩
section
variable {P : Program} {F : Fr} {B : Heap} {O : Boxes} {n : Nat} {ops : Array Oper} {κ : Kap} {a : Act} {u : World} {H : Heap} {fp : Nat → Nat → Prop} {os : List Oper} {Q : Exit → Act → World → Prop}
theorem HasH.turnR {t : Nat} {r r' : Res} (h : HasH F B O n κ a u H fp) (hk : κ t = some (.own r)) (hr : r'.P (a.eval (.tmp t)) H u (fp t)) : HasH F B O n (upd κ t (.own r')) a u H fp := by
  refine ⟨h.size, h.defers, h.nodup, h.marks, h.lent, h.keep, h.sub, h.base, h.fresh, h.boxes, h.apart, fun s k hs => ?_, fun s q r1 r2 hsq h1 h2 => ?_, fun s k hs => ?_⟩
  · by_cases hst : s = t
    · subst hst; rw [upd_same] at hs; cases hs; exact ⟨hr, (h.slot s _ hk).2⟩
    · rw [upd_other _ _ hst] at hs; exact h.slot s k hs
  · have key : ∀ x r, upd κ t (.own r') x = some (.own r) → ∃ r2, κ x = some (.own r2) := fun x r hx => by
      by_cases hxd : x = t
      · subst hxd; exact ⟨_, hk⟩
      · rw [upd_other _ _ hxd] at hx; exact ⟨_, hx⟩
    obtain ⟨_, k1⟩ := key _ _ h1
    obtain ⟨_, k2⟩ := key _ _ h2
    exact h.owns s q _ _ hsq k1 k2
  · by_cases hst : s = t
    · subst hst; rw [upd_same] at hs; cases hs; trivial
    · rw [upd_other _ _ hst] at hs; exact h.mono s k hs
theorem Has.opnX {X : Type} {t : Nat} {r : X → Res} {φ : X → Heap → Prop} {hφ : MonoX φ} (hk : κ t = some (.own (ExR r φ hφ))) (h : Has F B O n κ a u) : ∃ x H, Since F B H ∧ φ x H ∧ Has F H O n (upd κ t (.own (r x))) a u := by
  obtain ⟨H, fp, h⟩ := h
  obtain ⟨⟨x, h1, h2⟩, _⟩ := h.slot t _ hk
  exact ⟨x, H, h.isSince, h1, H, fp, (h.turnR hk h2).rebase⟩
theorem Has.clsX {X : Type} {t : Nat} {r : X → Res} {φ : X → Heap → Prop} (hφ : MonoX φ) (x : X) (hx : φ x B) (hk : κ t = some (.own (r x))) (h : Has F B O n κ a u) : Has F B O n (upd κ t (.own (ExR r φ hφ))) a u := by
  obtain ⟨H, fp, h⟩ := h
  exact ⟨H, fp, h.turnR hk ⟨x, hφ _ _ _ hx h.base, (h.slot t _ hk).1⟩⟩
theorem V_opnX {X : Type} (t : Nat) {r : X → Res} {φ : X → Heap → Prop} {hφ : MonoX φ} {c : Code} (hk : κ t = some (.own (ExR r φ hφ))) (h : ∀ x H, Since F B H → φ x H → V P F H n O (upd κ t (.own (r x))) c Q) : V P F B n O κ c Q := fun a u hh => by
  obtain ⟨x, H, hs, hx, hh'⟩ := hh.opnX hk
  exact h x H hs hx a u hh'
theorem V_clsX {X : Type} (t : Nat) {r : X → Res} {φ : X → Heap → Prop} (hφ : MonoX φ) (x : X) {c : Code} (hx : φ x B) (hk : κ t = some (.own (r x))) (h : V P F B n O (upd κ t (.own (ExR r φ hφ))) c Q) : V P F B n O κ c Q := fun a u hh => h a u (hh.clsX hφ x hx hk)
theorem N_clsX {X : Type} (t : Nat) {r : X → Res} {φ : X → Heap → Prop} (hφ : MonoX φ) (x : X) (hx : φ x B) (hk : κ t = some (.own (r x))) (h : N F B n O (upd κ t (.own (ExR r φ hφ))) Q) : N F B n O κ Q := fun a u hh => h a u (hh.clsX hφ x hx hk)
end
/-- What is found at a place of a list that is laid flat. -/
theorem flatMap_at {α : Type} {f : α → List Value} {s : Nat} (hf : ∀ a, (f a).length = s) : ∀ (l : List α) (i : Nat) (a : α), l[i]? = some a → ((l.flatMap f).drop (i * s)).take s = f a
  | [], _, _, h => by simp at h
  | z :: l, 0, a, h => by simp at h; subst h; rw [Nat.zero_mul, List.drop_zero, List.flatMap_cons, List.take_append_of_le_length (by rw [hf]; exact Nat.le_refl _), List.take_of_length_le (by rw [hf]; exact Nat.le_refl _)]
  | z :: l, i + 1, a, h => by
    simp only [List.getElem?_cons_succ] at h
    rw [← flatMap_at hf l i a h, List.flatMap_cons]
    congr 1
    have e : (i + 1) * s = (f z).length + i * s := by rw [hf, Nat.succ_mul]; omega
    rw [e, ← List.drop_drop, List.drop_left]
theorem flatMap_len {α : Type} {f : α → List Value} {s : Nat} (hf : ∀ a, (f a).length = s) (l : List α) : (l.flatMap f).length = l.length * s := by
  induction l with
  | nil => simp
  | cons a l ih => rw [List.flatMap_cons, List.length_append, ih, hf, List.length_cons, Nat.succ_mul, Nat.add_comm]
theorem get_some {α : Type} {l : List α} {i : Nat} (h : i < l.length) : ∃ a, l[i]? = some a := ⟨l[i], List.getElem?_eq_getElem h⟩
theorem get_lt {α : Type} {l : List α} {i : Nat} {a : α} (h : l[i]? = some a) : i < l.length := by
  rcases Nat.lt_or_ge i l.length with h' | h'
  · exact h'
  · rw [List.getElem?_eq_none h'] at h; cases h
/-- Two lists, element by element. -/
def All2 {α β : Type} (R : α → β → Prop) (l : List α) (m : List β) : Prop := l.length = m.length ∧ ∀ (i : Nat) (a : α) (b : β), l[i]? = some a → m[i]? = some b → R a b
theorem All2.nil {α β : Type} {R : α → β → Prop} : All2 R ([] : List α) ([] : List β) := ⟨rfl, fun i a b h => by simp at h⟩
theorem All2.imp {α β : Type} {R S : α → β → Prop} {l : List α} {m : List β} (h : All2 R l m) (hi : ∀ a b, R a b → S a b) : All2 S l m := ⟨h.1, fun i a b ha hb => hi _ _ (h.2 i a b ha hb)⟩
end Go.V
/- The kit's eighteenth floor: ways that meet again behind several statements. -/
namespace Go.V
open Go.RowKit
variable {P : Program} {F : Fr} {B : Heap} {n : Nat} {O : Boxes} {κ : Kap} {Q R : Exit → Act → World → Prop}
theorem N_mids {T : Type} {B0 : Heap} {Fk : T → List (Nat × Kn)} {I : T → Prop} {Ob : T → Boxes} (t : T) (hs : Since F B0 B) (hI : I t) (hO : O = Ob t) (hl : LiveOK (Fk t) κ) :
    N F B n O κ (Exit.then (fun a u => ∃ t, I t ∧ Has F B0 (Ob t) n (ofL (Fk t)) a u) Q) := fun _ _ hh => ⟨t, hI, hO ▸ (hh.live hl).since hs⟩
section
variable {ops : Array Oper} {ty : TypeId} {pos : String} {aft : Array Edge} {g : Option (Nat × Bool)}
/-- What is known only by what it satisfies is stored into a variable that a slot alone knows. -/
theorem ok_storeX (L : Tabs P) {t t' : TypeId} {s q : Nat} {ag : Bool} {z : Nat} {cs : List Value} {φ : Value → Heap → Prop} {X : Type} (f : X → List Value) (ψ : X → Heap → Prop) (hψ : MonoX ψ)
    (hφ : ∀ v H, φ v H → ∃ x, ψ x H ∧ cellsL v = f x) (hf : ∀ x, (f x).length = z ∧ (f x).all plainV = true)
    (hg : gK ops κ ⟨none, .store t (.tmp s) (.tmp q), ty, pos, aft, g⟩ = some true) (hk : κ s = some (.own (Cell cs t'))) (hx : κ q = some (.sat φ))
    (hl : L.ld t = some (ag, z)) (hcs : cs.length = z) :
    StepOK P F B n ops O κ ⟨none, .store t (.tmp s) (.tmp q), ty, pos, aft, g⟩ s (.own (ExR (fun x => Cell (f x) t') ψ hψ)) := by
  rintro κ' a u hlk ⟨H, fp, hh⟩
  unfold After
  rw [if_pos (wanted_gK hh hlk hg)]
  have e := hh.env hlk
  obtain ⟨x, hx1, hx2⟩ := hφ _ _ (e.sat_ q _ (by simp [Op.operands]) hx)
  have hks : κ' s = some (.own (Cell cs t')) := (hlk s (looks_of (by simp [Op.operands]))).trans hk
  obtain ⟨⟨b, hes, hb, hC⟩, hM⟩ := hh.slot s _ hks
  have hrun : (execOp a.eval ⟨none, .store t (.tmp s) (.tmp q), ty, pos, aft, g⟩).run P u = .ok .skip (u.setRow b (f x).toArray) := by
    simp only [execOp, hes, Instr.storeAt, Instr.sureAddr, Sem.run_bind, Sem.run_pure, Result.andThen_ok]
    have := run_storeVar_at (P := P) (off := 0) (v := a.eval (.tmp q)) (Tabs.ld_spec hl) hb (by rw [hx2]; exact (hf x).1) (by omega) (by rw [hx2]; exact (hf x).2)
    rw [this, hx2, List.drop_of_length_le (by omega)]
    simp
  rw [hrun]
  simp only [Upon, Act.put]
  have hset := setRow_heap u b cs.toArray (f x).toArray t' (0, 0) hb
  have hbm := hM b ((hC b).2 rfl)
  have := hh.usePut (d := s) (a' := a) (r' := ExR (fun x => Cell (f x) t') ψ hψ) (C := fun k => k = b) hks (grow_setRow hh.sub hb ((hC b).2 rfl) hbm.2.1 _) rfl rfl (fun _ _ => rfl) ⟨x, hx1, b, hes, hset, fun _ => Iff.rfl⟩ (fun k hk => by
    subst hk; exact ⟨.inl ((hC k).2 rfl), by rw [setRow_size]; exact hbm.1, hbm.2.1⟩)
  rw [upd_upd] at this
  exact ⟨H, _, this⟩
end
end Go.V
/- Plain words for names: when a string is one, the errors, the texts. -/
namespace Go.V
open Go.RowKit
def okB (c : UInt8) : Bool := (97 ≤ c && c ≤ 122) || (48 ≤ c && c ≤ 57)
def chk (s : ByteArray) : Int := if 1 ≤ s.size ∧ s.size ≤ 16 ∧ s.data.toList.all okB = true then 0 else 6
theorem chk_cases (s : ByteArray) : chk s = 0 ∨ chk s = 6 := by unfold chk; split <;> simp
theorem chk_bad {s : ByteArray} (h : ¬ (1 ≤ s.size ∧ s.size ≤ 16)) : chk s = 6 := by
  unfold chk; rw [if_neg]; intro h'; exact h ⟨h'.1, h'.2.1⟩
theorem chk_all {s : ByteArray} (h1 : 1 ≤ s.size) (h2 : s.size ≤ 16) (h : s.data.toList.all okB = true) : chk s = 0 := by
  unfold chk; rw [if_pos ⟨h1, h2, h⟩]
theorem chk_at {s : ByteArray} {k : Nat} {c : UInt8} (hc : s[k]? = some c) (h : okB c = false) : chk s = 6 := by
  unfold chk; rw [if_neg]
  rintro ⟨_, _, hall⟩
  have hm : c ∈ s.data.toList := by
    have : s.data[k]? = some c := hc
    exact Array.mem_toList_iff.2 (Array.mem_of_getElem? this)
  rw [List.all_eq_true] at hall
  rw [hall c hm] at h; cases h
theorem getElem?_lt {s : ByteArray} {k : Nat} (h : k < s.size) : ∃ c, s[k]? = some c := ⟨s[k], by rw [getElem?_pos]⟩
theorem take_all {s : ByteArray} {k : Nat} {c : UInt8} (hc : s[k]? = some c) (h : okB c = true) (ha : (s.data.toList.take k).all okB = true) : (s.data.toList.take (k + 1)).all okB = true := by
  have hd : s.data.toList[k]? = some c := by
    have : s.data[k]? = some c := hc
    simpa using this
  rw [List.take_add_one, hd]
  simp [List.all_append, ha, h]
theorem len_toList (s : ByteArray) : s.data.toList.length = s.size := by rw [Array.length_toList]; rfl
theorem all_take {s : ByteArray} {k : Nat} (h : s.size ≤ k) (ha : (s.data.toList.take k).all okB = true) : s.data.toList.all okB = true := by
  rwa [List.take_of_length_le (by rw [len_toList]; exact h)] at ha
theorem u8_lt (c : UInt8) : (c.toNat : Int) < 256 := by have := c.toNat_lt; omega
theorem okB_1 {c : UInt8} (h1 : (c.toNat : Int) < 97) (h2 : (c.toNat : Int) < 48) : okB c = false := by
  simp [okB, UInt8.le_iff_toNat_le]; omega
theorem okB_2 {c : UInt8} (h1 : (c.toNat : Int) < 97) (h2 : 57 < (c.toNat : Int)) : okB c = false := by
  simp [okB, UInt8.le_iff_toNat_le]; omega
theorem okB_3 {c : UInt8} (h1 : 122 < (c.toNat : Int)) : okB c = false := by
  simp [okB, UInt8.le_iff_toNat_le]; omega
theorem okB_4 {c : UInt8} (h1 : ¬ (c.toNat : Int) < 97) (h2 : ¬ 122 < (c.toNat : Int)) : okB c = true := by
  simp [okB, UInt8.le_iff_toNat_le]; omega
theorem okB_5 {c : UInt8} (h1 : ¬ (c.toNat : Int) < 48) (h2 : ¬ 57 < (c.toNat : Int)) : okB c = true := by
  simp [okB, UInt8.le_iff_toNat_le]; omega
theorem take_1 {vs : List Value} {j : Nat} {v : Value} (h : vs[j]? = some v) : (vs.drop (j * 1)).take 1 = [v] := by
  obtain ⟨hl, he⟩ := List.getElem?_eq_some_iff.1 h
  rw [Nat.mul_one, List.drop_eq_getElem_cons hl, he]
  rfl
theorem str_at {l : List ByteArray} {j : Nat} {s : ByteArray} (h : l[j]? = some s) : ((l.map Value.string).drop (j * 1)).take 1 = [.string s] := take_1 (by simp [h])
end Go.V
/- The seat's tables of types and functions, held against the program by the kernel. Written by a program. -/
namespace Go.V
open Go.Proofs
set_option maxRecDepth 100000
theorem mixed : Try.prog.follows .mixedOrders = true := by kernel_rfl
def ldL : List (Nat × (Bool × Nat)) := [(1, (false, 1)), (2, (false, 1)), (3, (false, 1)), (4, (false, 1)), (5, (false, 1)), (6, (false, 1)), (7, (true, 4)), (8, (true, 4)), (9, (false, 1)), (10, (false, 1)), 
    (11, (false, 1)), (12, (false, 1)), (13, (true, 2)), (14, (true, 2)), (15, (false, 1)), (16, (false, 1)), (17, (false, 1)), (18, (true, 1)), (19, (true, 1)), (20, (false, 1)), 
    (21, (false, 1)), (22, (false, 1)), (23, (true, 1)), (24, (true, 1)), (25, (false, 1)), (26, (true, 2)), (27, (true, 2)), (28, (true, 1)), (29, (true, 1)), (30, (true, 1)), 
    (31, (true, 1)), (32, (false, 1)), (33, (false, 1)), (34, (false, 1)), (35, (false, 1)), (36, (true, 2)), (37, (true, 2)), (38, (true, 2)), (39, (true, 2)), (40, (true, 4)), 
    (41, (true, 4)), (42, (false, 1)), (43, (false, 1)), (44, (false, 1)), (45, (false, 1)), (46, (true, 2)), (47, (true, 2)), (48, (true, 3)), (49, (true, 3)), (50, (true, 3)), 
    (51, (true, 6)), (52, (true, 6)), (53, (true, 7)), (54, (true, 7)), (55, (false, 1)), (56, (false, 1)), (57, (false, 1)), (59, (false, 1)), (60, (false, 1)), (61, (false, 1)), 
    (62, (false, 1)), (64, (false, 1)), (65, (false, 1)), (66, (true, 7)), (67, (true, 7)), (69, (false, 1)), (70, (false, 1)), (72, (false, 1)), (74, (false, 1)), (75, (false, 1)), 
    (76, (false, 1)), (77, (false, 1)), (78, (false, 1)), (79, (false, 1)), (80, (false, 1)), (81, (false, 1)), (82, (false, 1)), (83, (false, 1)), (84, (false, 1)), (85, (false, 1)), 
    (86, (false, 1)), (88, (false, 1)), (90, (false, 1)), (91, (false, 1)), (92, (false, 1)), (93, (false, 1)), (94, (false, 1)), (96, (false, 1)), (97, (false, 1)), (98, (false, 1)), 
    (99, (true, 3)), (101, (false, 1)), (102, (false, 1)), (103, (false, 1)), (104, (false, 1)), (105, (false, 1)), (106, (false, 1)), (107, (false, 1)), (108, (true, 3)), 
    (109, (false, 1)), (110, (false, 1)), (111, (false, 1)), (113, (false, 1)), (114, (false, 1)), (116, (false, 1)), (117, (false, 1)), (118, (true, 0)), (119, (false, 1)), 
    (120, (false, 1)), (121, (false, 1)), (122, (false, 1)), (123, (false, 1)), (125, (false, 1)), (126, (true, 2)), (127, (false, 1)), (128, (false, 1)), (129, (false, 1)), 
    (131, (false, 1)), (132, (false, 1)), (133, (false, 1)), (134, (true, 2)), (135, (false, 1)), (136, (false, 1)), (137, (false, 1)), (138, (false, 1)), (140, (false, 1)), 
    (141, (false, 1)), (142, (false, 1)), (143, (false, 1)), (144, (true, 6)), (145, (true, 6)), (146, (true, 10)), (147, (true, 10)), (148, (false, 1)), (149, (false, 1)), 
    (150, (false, 1)), (151, (false, 1)), (152, (false, 1)), (153, (false, 1)), (154, (false, 1)), (155, (false, 1)), (156, (false, 1)), (157, (false, 1)), (158, (false, 1)), 
    (159, (false, 1)), (160, (false, 1)), (161, (false, 1)), (162, (false, 1)), (163, (false, 1)), (164, (false, 1)), (165, (false, 1)), (166, (false, 1)), (167, (false, 1)), 
    (168, (false, 1)), (169, (false, 1)), (170, (false, 1)), (171, (false, 1)), (172, (false, 1)), (173, (false, 1)), (174, (false, 1)), (175, (false, 1)), (177, (false, 1)), 
    (178, (false, 1)), (179, (false, 1)), (180, (false, 1)), (181, (false, 1)), (182, (false, 1)), (184, (false, 1)), (185, (false, 1)), (186, (false, 1)), (187, (true, 4)), 
    (188, (true, 4)), (189, (true, 0)), (190, (true, 0)), (191, (true, 0)), (192, (false, 1)), (193, (false, 1)), (194, (false, 1)), (195, (false, 1)), (196, (false, 1)), 
    (197, (false, 1)), (198, (false, 1)), (199, (true, 11)), (200, (true, 11)), (201, (false, 1))]
def slL : List (Nat × Nat) := [(22, 134), (25, 108), (32, 52), (43, 54), (65, 67), (142, 145), (150, 65), (172, 3), (174, 9)]
def stL : List (Nat × Unit) := [(9, ()), (10, ()), (11, ())]
def foL : List ((Nat × Nat) × Nat) := [((7, 0), 0), ((7, 1), 1), ((7, 2), 2), ((7, 3), 3), ((8, 0), 0), ((8, 1), 1), ((8, 2), 2), ((8, 3), 3), ((13, 0), 0), ((13, 1), 1), ((14, 0), 0), ((14, 1), 1), ((18, 0), 0), 
    ((19, 0), 0), ((23, 0), 0), ((24, 0), 0), ((26, 0), 0), ((26, 1), 1), ((27, 0), 0), ((27, 1), 1), ((28, 0), 0), ((29, 0), 0), ((30, 0), 0), ((31, 0), 0), ((36, 0), 0), ((36, 1), 1), 
    ((37, 0), 0), ((37, 1), 1), ((38, 0), 0), ((39, 0), 0), ((40, 0), 0), ((40, 1), 2), ((41, 0), 0), ((41, 1), 2), ((46, 0), 0), ((46, 1), 1), ((47, 0), 0), ((47, 1), 1), ((48, 0), 0), 
    ((48, 1), 2), ((49, 0), 0), ((49, 1), 2), ((50, 0), 0), ((50, 1), 2), ((51, 0), 0), ((51, 1), 3), ((52, 0), 0), ((52, 1), 3), ((53, 0), 0), ((53, 1), 6), ((54, 0), 0), ((54, 1), 6), 
    ((66, 0), 0), ((66, 1), 6), ((67, 0), 0), ((67, 1), 6), ((144, 0), 0), ((145, 0), 0), ((146, 0), 0), ((146, 1), 6), ((146, 2), 7), ((146, 3), 8), ((146, 4), 9), ((147, 0), 0), 
    ((147, 1), 6), ((147, 2), 7), ((147, 3), 8), ((147, 4), 9), ((187, 0), 0), ((187, 1), 1), ((187, 2), 2), ((187, 3), 3), ((188, 0), 0), ((188, 1), 1), ((188, 2), 2), ((188, 3), 3), 
    ((199, 0), 0), ((199, 1), 1), ((199, 2), 2), ((199, 3), 3), ((199, 4), 4), ((199, 5), 5), ((199, 6), 6), ((199, 7), 7), ((199, 8), 8), ((199, 9), 9), ((199, 10), 10), ((200, 0), 0), 
    ((200, 1), 1), ((200, 2), 2), ((200, 3), 3), ((200, 4), 4), ((200, 5), 5), ((200, 6), 6), ((200, 7), 7), ((200, 8), 8), ((200, 9), 9), ((200, 10), 10)]
def zrL : List (Nat × Value) := [(1, .nilFunc), (2, .int .i64 0), (3, .int .i64 0), (4, .bool false), (5, .int .u8 0), (6, .int .u8 0), (7, .agg #[.int .i64 0, .int .i64 0, .bool false, .int .u8 0]), 
    (8, .agg #[.int .i64 0, .int .i64 0, .bool false, .int .u8 0]), (9, .string ⟨#[]⟩), (10, .string ⟨#[]⟩), (11, .string ⟨#[]⟩), (12, .int .u64 0), 
    (13, .agg #[.string ⟨#[]⟩, .int .u64 0]), (14, .agg #[.string ⟨#[]⟩, .int .u64 0]), (15, .pointer none), (16, .pointer none), (17, .pointer none), (18, .agg #[.pointer none]), 
    (19, .agg #[.pointer none]), (20, .nilIface), (21, .int .i32 0), (22, .slice none 0 0), (23, .agg #[.slice none 0 0]), (24, .agg #[.slice none 0 0]), (25, .slice none 0 0), 
    (26, .agg #[.slice none 0 0, .slice none 0 0]), (27, .agg #[.slice none 0 0, .slice none 0 0]), (28, .agg #[.slice none 0 0]), (29, .agg #[.slice none 0 0]), 
    (30, .agg #[.slice none 0 0]), (31, .agg #[.slice none 0 0]), (32, .slice none 0 0), (33, .nilFunc), (34, .nilFunc), (35, .pointer none), (36, .agg #[.nilFunc, .pointer none]), 
    (37, .agg #[.nilFunc, .pointer none]), (38, .agg #[.nilFunc, .pointer none]), (39, .agg #[.nilFunc, .pointer none]), (40, .agg #[.nilFunc, .pointer none, .nilFunc, .pointer none]), 
    (41, .agg #[.nilFunc, .pointer none, .nilFunc, .pointer none]), (42, .nilFunc), (43, .slice none 0 0), (44, .nilFunc), (45, .nilFunc), (46, .agg #[.string ⟨#[]⟩, .string ⟨#[]⟩]), 
    (47, .agg #[.string ⟨#[]⟩, .string ⟨#[]⟩]), (48, .agg #[.string ⟨#[]⟩, .string ⟨#[]⟩, .string ⟨#[]⟩]), (49, .agg #[.string ⟨#[]⟩, .string ⟨#[]⟩, .string ⟨#[]⟩]), 
    (50, .agg #[.string ⟨#[]⟩, .string ⟨#[]⟩, .string ⟨#[]⟩]), (51, .agg #[.string ⟨#[]⟩, .string ⟨#[]⟩, .string ⟨#[]⟩, .string ⟨#[]⟩, .string ⟨#[]⟩, .string ⟨#[]⟩]), 
    (52, .agg #[.string ⟨#[]⟩, .string ⟨#[]⟩, .string ⟨#[]⟩, .string ⟨#[]⟩, .string ⟨#[]⟩, .string ⟨#[]⟩]), 
    (53, .agg #[.string ⟨#[]⟩, .string ⟨#[]⟩, .string ⟨#[]⟩, .string ⟨#[]⟩, .string ⟨#[]⟩, .string ⟨#[]⟩, .bool false]), 
    (54, .agg #[.string ⟨#[]⟩, .string ⟨#[]⟩, .string ⟨#[]⟩, .string ⟨#[]⟩, .string ⟨#[]⟩, .string ⟨#[]⟩, .bool false]), (55, .nilFunc), (56, .nilFunc), (57, .int .i64 0), 
    (59, .nilFunc), (60, .nilFunc), (61, .nilFunc), (62, .nilFunc), (64, .nilFunc), (65, .slice none 0 0), 
    (66, .agg #[.string ⟨#[]⟩, .string ⟨#[]⟩, .string ⟨#[]⟩, .string ⟨#[]⟩, .string ⟨#[]⟩, .string ⟨#[]⟩, .bool false]), 
    (67, .agg #[.string ⟨#[]⟩, .string ⟨#[]⟩, .string ⟨#[]⟩, .string ⟨#[]⟩, .string ⟨#[]⟩, .string ⟨#[]⟩, .bool false]), (69, .nilFunc), (70, .nilFunc), (72, .nilFunc), (74, .nilFunc), 
    (75, .nilFunc), (76, .nilFunc), (77, .nilFunc), (78, .nilFunc), (79, .nilFunc), (80, .nilFunc), (81, .nilFunc), (82, .nilFunc), (83, .nilFunc), (84, .nilFunc), (85, .nilFunc), 
    (86, .nilFunc), (88, .nilFunc), (90, .nilFunc), (91, .nilFunc), (92, .nilFunc), (93, .nilFunc), (94, .nilFunc), (96, .nilFunc), (97, .nilFunc), (98, .nilFunc), 
    (99, .agg #[.slice none 0 0, .slice none 0 0, .slice none 0 0]), (101, .nilFunc), (102, .nilFunc), (103, .nilFunc), (104, .nilFunc), (105, .nilFunc), (106, .nilFunc), 
    (107, .nilFunc), (108, .agg #[.int .u8 0, .int .u8 0, .int .u8 0]), (109, .nilFunc), (110, .nilFunc), (111, .map none), (113, .nilFunc), (114, .nilFunc), (116, .nilFunc), 
    (117, .nilFunc), (118, .agg #[]), (119, .nilFunc), (120, .nilFunc), (121, .nilFunc), (122, .nilFunc), (123, .nilFunc), (125, .nilFunc), 
    (126, .agg #[.slice none 0 0, .slice none 0 0]), (127, .nilFunc), (128, .nilFunc), (129, .nilFunc), (131, .nilFunc), (132, .nilFunc), (133, .nilFunc), 
    (134, .agg #[.int .u8 0, .int .u8 0]), (135, .nilFunc), (136, .nilFunc), (137, .nilFunc), (138, .nilFunc), (140, .nilFunc), (141, .nilFunc), (142, .slice none 0 0), (143, .nilFunc), 
    (144, .agg #[.string ⟨#[]⟩, .string ⟨#[]⟩, .string ⟨#[]⟩, .string ⟨#[]⟩, .string ⟨#[]⟩, .string ⟨#[]⟩]), 
    (145, .agg #[.string ⟨#[]⟩, .string ⟨#[]⟩, .string ⟨#[]⟩, .string ⟨#[]⟩, .string ⟨#[]⟩, .string ⟨#[]⟩]), 
    (146, .agg #[.string ⟨#[]⟩, .string ⟨#[]⟩, .string ⟨#[]⟩, .string ⟨#[]⟩, .string ⟨#[]⟩, .string ⟨#[]⟩, .pointer none, .pointer none, .int .i64 0, .int .i64 0]), 
    (147, .agg #[.string ⟨#[]⟩, .string ⟨#[]⟩, .string ⟨#[]⟩, .string ⟨#[]⟩, .string ⟨#[]⟩, .string ⟨#[]⟩, .pointer none, .pointer none, .int .i64 0, .int .i64 0]), (148, .nilFunc), 
    (149, .nilFunc), (150, .slice none 0 0), (151, .nilFunc), (152, .nilFunc), (153, .nilFunc), (154, .nilFunc), (155, .nilFunc), (156, .nilFunc), (157, .nilFunc), (158, .nilFunc), 
    (159, .nilFunc), (160, .nilFunc), (161, .nilFunc), (162, .nilFunc), (163, .nilFunc), (164, .nilFunc), (165, .nilFunc), (166, .nilFunc), (167, .nilFunc), (168, .nilFunc), 
    (169, .nilFunc), (170, .nilFunc), (171, .nilFunc), (172, .slice none 0 0), (173, .nilFunc), (174, .slice none 0 0), (175, .nilFunc), (177, .nilFunc), (178, .nilFunc), 
    (179, .nilFunc), (180, .nilFunc), (181, .nilFunc), (182, .nilFunc), (184, .nilFunc), (185, .int .u64 0), (186, .nilFunc), 
    (187, .agg #[.pointer none, .pointer none, .pointer none, .string ⟨#[]⟩]), (188, .agg #[.pointer none, .pointer none, .pointer none, .string ⟨#[]⟩]), (189, .agg #[]), 
    (190, .agg #[]), (191, .agg #[]), (192, .int .u32 0), (193, .int .u8 0), (194, .int .u8 0), (195, .nilFunc), (196, .pointer none), (197, .int .i32 0), (198, .int .i32 0), 
    (199, .agg #[.int .u64 0, .int .u64 0, .int .u32 0, .int .u8 0, .int .u8 0, .int .u8 0, .int .u8 0, .nilFunc, .pointer none, .int .i32 0, .int .i32 0]), 
    (200, .agg #[.int .u64 0, .int .u64 0, .int .u32 0, .int .u8 0, .int .u8 0, .int .u8 0, .int .u8 0, .nilFunc, .pointer none, .int .i32 0, .int .i32 0])]
def fnL : List (Nat × Unit) := [(3, ()), (4, ()), (5, ()), (6, ()), (7, ()), (8, ()), (9, ()), (10, ()), (11, ()), (12, ()), (13, ()), (14, ()), (15, ()), (16, ()), (17, ()), (18, ()), (19, ()), (20, ()), 
    (21, ()), (22, ()), (23, ()), (24, ()), (25, ()), (26, ()), (27, ()), (28, ()), (29, ()), (30, ()), (31, ()), (32, ()), (33, ()), (34, ()), (35, ()), (36, ()), (37, ()), (38, ()), 
    (39, ()), (40, ()), (41, ()), (42, ()), (43, ()), (44, ()), (45, ()), (46, ()), (47, ()), (48, ()), (49, ()), (50, ()), (51, ()), (52, ()), (53, ()), (54, ()), (55, ()), (56, ()), 
    (57, ()), (58, ()), (59, ()), (60, ()), (61, ()), (62, ()), (63, ()), (64, ()), (65, ()), (66, ()), (67, ()), (68, ()), (69, ()), (70, ()), (71, ()), (72, ()), (73, ()), (74, ()), 
    (75, ()), (76, ()), (77, ()), (78, ()), (79, ()), (80, ()), (81, ()), (82, ()), (83, ()), (84, ()), (85, ()), (86, ()), (87, ()), (88, ()), (89, ()), (90, ()), (91, ()), (92, ()), 
    (93, ()), (94, ()), (95, ()), (96, ()), (97, ()), (98, ()), (99, ()), (100, ()), (101, ()), (102, ()), (103, ()), (104, ()), (105, ()), (106, ()), (107, ()), (108, ()), (109, ()), 
    (110, ()), (111, ()), (112, ()), (113, ()), (114, ()), (115, ()), (116, ()), (117, ()), (118, ()), (119, ()), (120, ()), (121, ()), (122, ()), (123, ()), (125, ()), (126, ()), 
    (127, ()), (128, ()), (130, ()), (131, ())]
theorem ldL_ok : ldL.all (fun p => ldI Try.prog p.1 == some p.2) = true := by kernel_rfl
theorem slL_ok : slL.all (fun p => slI Try.prog p.1 == some p.2) = true := by kernel_rfl
theorem stL_ok : stL.all (fun p => stI Try.prog p.1 == some p.2) = true := by kernel_rfl
theorem foL_ok : foL.all (fun p => foI Try.prog p.1 == some p.2) = true := by kernel_rfl
theorem zrL_ok : zrL.map (fun p => zrI Try.prog p.1) = zrL.map (fun p => some p.2) := by kernel_rfl
theorem fnL_ok : fnL.all (fun p => match Try.prog.funcs[p.1]? with | some fn => fn.body.isSome && fn.name != "runtime.NumGoroutine" | none => false) = true := by kernel_rfl
def L : Tabs Try.prog := ⟨ldL, slL, stL, foL, zrL, fnL, ldL_ok, slL_ok, stL_ok, foL_ok, zrL_ok, fnL_ok⟩
theorem el52 : elI Try.prog 52 = some (6, 96) := by kernel_rfl
theorem el67 : elI Try.prog 67 = some (7, 104) := by kernel_rfl
theorem el145 : elI Try.prog 145 = some (6, 104) := by kernel_rfl
theorem pl37 : PL Try.prog 37 [(0, 1), (1, 1)] [.nilFunc, .pointer none] := ⟨by kernel_rfl, .agg #[.nilFunc, .pointer none], by kernel_rfl, rfl⟩
theorem pl39 : PL Try.prog 39 [(0, 2)] [.nilFunc, .pointer none] := ⟨by kernel_rfl, .agg #[.nilFunc, .pointer none], by kernel_rfl, rfl⟩
theorem pl41 : PL Try.prog 41 [(0, 2), (2, 2)] [.nilFunc, .pointer none, .nilFunc, .pointer none] := ⟨by kernel_rfl, .agg #[.nilFunc, .pointer none, .nilFunc, .pointer none], by kernel_rfl, rfl⟩
theorem pl47 : PL Try.prog 47 [(0, 1), (1, 1)] [.string ⟨#[]⟩, .string ⟨#[]⟩] := ⟨by kernel_rfl, .agg #[.string ⟨#[]⟩, .string ⟨#[]⟩], by kernel_rfl, rfl⟩
theorem pl49 : PL Try.prog 49 [(0, 2), (2, 1)] [.string ⟨#[]⟩, .string ⟨#[]⟩, .string ⟨#[]⟩] := ⟨by kernel_rfl, .agg #[.string ⟨#[]⟩, .string ⟨#[]⟩, .string ⟨#[]⟩], by kernel_rfl, rfl⟩
theorem pl50 : PL Try.prog 50 [(0, 2), (2, 1)] [.string ⟨#[]⟩, .string ⟨#[]⟩, .string ⟨#[]⟩] := ⟨by kernel_rfl, .agg #[.string ⟨#[]⟩, .string ⟨#[]⟩, .string ⟨#[]⟩], by kernel_rfl, rfl⟩
theorem pl52 : PL Try.prog 52 [(0, 3), (3, 3)] [.string ⟨#[]⟩, .string ⟨#[]⟩, .string ⟨#[]⟩, .string ⟨#[]⟩, .string ⟨#[]⟩, .string ⟨#[]⟩] := ⟨by kernel_rfl, .agg #[.string ⟨#[]⟩, .string ⟨#[]⟩, .string ⟨#[]⟩, .string ⟨#[]⟩, .string ⟨#[]⟩, .string ⟨#[]⟩], by kernel_rfl, rfl⟩
theorem pl67 : PL Try.prog 67 [(0, 6), (6, 1)] [.string ⟨#[]⟩, .string ⟨#[]⟩, .string ⟨#[]⟩, .string ⟨#[]⟩, .string ⟨#[]⟩, .string ⟨#[]⟩, .bool false] := ⟨by kernel_rfl, .agg #[.string ⟨#[]⟩, .string ⟨#[]⟩, .string ⟨#[]⟩, .string ⟨#[]⟩, .string ⟨#[]⟩, .string ⟨#[]⟩, .bool false], by kernel_rfl, rfl⟩
theorem pl118 : PL Try.prog 118 [] [] := ⟨by kernel_rfl, .agg #[], by kernel_rfl, rfl⟩
theorem pl126 : PL Try.prog 126 [(0, 1), (1, 1)] [.slice none 0 0, .slice none 0 0] := ⟨by kernel_rfl, .agg #[.slice none 0 0, .slice none 0 0], by kernel_rfl, rfl⟩
theorem pl145 : PL Try.prog 145 [(0, 6), (6, 0)] [.string ⟨#[]⟩, .string ⟨#[]⟩, .string ⟨#[]⟩, .string ⟨#[]⟩, .string ⟨#[]⟩, .string ⟨#[]⟩] := ⟨by kernel_rfl, .agg #[.string ⟨#[]⟩, .string ⟨#[]⟩, .string ⟨#[]⟩, .string ⟨#[]⟩, .string ⟨#[]⟩, .string ⟨#[]⟩], by kernel_rfl, rfl⟩
theorem pl147 : PL Try.prog 147 [(0, 6), (6, 1), (7, 1), (8, 1), (9, 1)] [.string ⟨#[]⟩, .string ⟨#[]⟩, .string ⟨#[]⟩, .string ⟨#[]⟩, .string ⟨#[]⟩, .string ⟨#[]⟩, .pointer none, .pointer none, .int .i64 0, .int .i64 0] := ⟨by kernel_rfl, .agg #[.string ⟨#[]⟩, .string ⟨#[]⟩, .string ⟨#[]⟩, .string ⟨#[]⟩, .string ⟨#[]⟩, .string ⟨#[]⟩, .pointer none, .pointer none, .int .i64 0, .int .i64 0], by kernel_rfl, rfl⟩
theorem bt4 : Try.prog.underlying 4 = some .bool := by kernel_rfl
theorem nk34 : nkI Try.prog 34 = some 3 := by kernel_rfl
theorem nk35 : nkI Try.prog 35 = some 0 := by kernel_rfl
theorem nk65 : nkI Try.prog 65 = some 1 := by kernel_rfl
theorem eq67 : EqT Try.prog 67 [0, 0, 0, 0, 0, 0, 2] := ⟨by kernel_rfl, by kernel_rfl, by kernel_rfl⟩
theorem cv3_185 : (Try.prog.underlying 3).isSome = true ∧ ikI Try.prog 185 = some .u64 := ⟨by kernel_rfl, by kernel_rfl⟩
theorem cv185_3 : (Try.prog.underlying 185).isSome = true ∧ ikI Try.prog 3 = some .i64 := ⟨by kernel_rfl, by kernel_rfl⟩
theorem ar126 : arI Try.prog 126 = some (2, 65) := by kernel_rfl
end Go.V
/- The walks of names.Check and its like. -/
namespace Go.V
open Go.Proofs Go.RowKit
attribute [local irreducible] V N X VO Par StepOK Has Ret RetL Src
set_option maxHeartbeats 400000 in
theorem check_ret (s : ByteArray) (hs : s.size ≤ 9223372036854775807) {w : World} {B : Heap} (hB : B.Le (hp w)) :
    Ret Try.prog 118 [.string s] w B (fun v _ => v = .int .i64 (chk s)) := by
  refine V_enter Try.func118 rfl Try.ntmps118 (Nat.le_of_ble_eq_true rfl) hB ?_
  by_cases h1 : 1 ≤ s.size
  · by_cases h2 : s.size ≤ 16
    · refine V_seq ?_; refine V_region (id := 0) ?_; refine vo_step (ok_assign rfl rfl rfl) rfl ?_; refine vo_nil ?_; refine N_seq ?_; refine V_seq ?_; refine V_seq ?_; refine V_region (id := 1) ?_; refine vo_step (ok_move rfl rfl rfl) rfl ?_; refine vo_step (ok_lenS L rfl rfl rfl rfl) rfl ?_; refine vo_step (ok_lss rfl rfl rfl rfl (decide_eq_false (by omega))) rfl ?_; refine vo_step (ok_move rfl rfl rfl) rfl ?_; refine vo_step (ok_move rfl rfl rfl) rfl ?_; refine vo_step (ok_lenS L rfl rfl rfl rfl) rfl ?_; refine vo_step (ok_gtr rfl rfl rfl rfl (decide_eq_false (by omega))) rfl ?_; refine vo_step (ok_pick rfl rfl rfl rfl) rfl ?_; refine vo_nil ?_; refine N_seq ?_; refine V_false rfl ?_; refine V_skip ?_; refine N_seq ?_; refine V_seq ?_; refine V_seq ?_; refine V_region (id := 3) ?_; refine vo_step (ok_move rfl rfl rfl) rfl ?_; refine vo_step (ok_lenS L rfl rfl rfl rfl) rfl ?_; refine vo_step (ok_move rfl rfl rfl) rfl ?_; refine vo_nil ?_; refine N_seq ?_; refine V_block ?_
      refine V_loop (fun k : Nat => [(0, .is (.string s)), (13, .is (.int .i64 s.size)), (14, .is (.int .i64 k))])
        (fun k => k ≤ s.size ∧ (s.data.toList.take k).all okB = true) (fun k => s.size - k) 0 ⟨Nat.zero_le _, by simp⟩ ⟨rfl, rfl, rfl, trivial⟩ ?_
      rintro k ⟨hk, hall⟩
      by_cases hlt : k < s.size
      · obtain ⟨c, hc⟩ := getElem?_lt hlt
        have hu := u8_lt c
        by_cases a1 : (c.toNat : Int) < 97
        · by_cases a2 : (c.toNat : Int) < 48
          · refine V_seq ?_; refine V_region (id := 4) ?_; refine vo_step (ok_lss rfl rfl rfl rfl (decide_eq_true (by omega))) rfl ?_; refine vo_nil ?_; refine N_seq ?_; refine V_seq ?_; refine V_true rfl ?_; refine V_skip ?_; refine N_seq ?_; refine V_seq ?_; refine V_block ?_; refine V_seq ?_; refine V_region (id := 5) ?_; refine vo_step (ok_move rfl rfl rfl) rfl ?_; refine vo_step (ok_assign rfl rfl rfl) rfl ?_; refine vo_nil ?_; refine N_seq ?_; refine V_seq ?_; refine V_region (id := 6) ?_; refine vo_step (ok_move rfl rfl rfl) rfl ?_; refine vo_step (ok_move rfl rfl rfl) rfl ?_; refine vo_step (ok_indexS L rfl rfl rfl rfl rfl (by assumption)) rfl ?_; refine vo_step (ok_lss rfl rfl rfl rfl (decide_eq_true (by omega))) rfl ?_; refine vo_step (ok_move rfl rfl rfl) rfl ?_; refine vo_step (ok_skip rfl (blt_lt rfl) rfl) rfl ?_; refine vo_step (ok_skip rfl (blt_lt rfl) rfl) rfl ?_; refine vo_step (ok_skip rfl (blt_lt rfl) rfl) rfl ?_; refine vo_step (ok_skip rfl (blt_lt rfl) rfl) rfl ?_; refine vo_step (ok_pick rfl rfl rfl rfl) rfl ?_; refine vo_step (ok_move rfl rfl rfl) rfl ?_; refine vo_step (ok_move rfl rfl rfl) rfl ?_; refine vo_step (ok_move rfl rfl rfl) rfl ?_; refine vo_step (ok_indexS L rfl rfl rfl rfl rfl (by assumption)) rfl ?_; refine vo_step (ok_lss rfl rfl rfl rfl (decide_eq_true (by omega))) rfl ?_; refine vo_step (ok_move rfl rfl rfl) rfl ?_; refine vo_step (ok_skip rfl (blt_lt rfl) rfl) rfl ?_; refine vo_step (ok_skip rfl (blt_lt rfl) rfl) rfl ?_; refine vo_step (ok_skip rfl (blt_lt rfl) rfl) rfl ?_; refine vo_step (ok_skip rfl (blt_lt rfl) rfl) rfl ?_; refine vo_step (ok_pick rfl rfl rfl rfl) rfl ?_; refine vo_step (ok_pick rfl rfl rfl rfl) rfl ?_; refine vo_nil ?_; refine N_seq ?_; refine V_true rfl ?_; refine V_seq ?_; refine V_region (id := 7) ?_; refine vo_step (ok_assign rfl rfl rfl) rfl ?_; refine vo_nil ?_; refine N_seq ?_
            refine V_ret L (rs := [.tmp 2]) rfl (fun _ _ h => h) Since.refl fun u H hH hle => ?_
            exact congrArg _ (chk_at hc (okB_1 a1 a2)).symm
          · by_cases a3 : 57 < (c.toNat : Int)
            · refine V_seq ?_; refine V_region (id := 4) ?_; refine vo_step (ok_lss rfl rfl rfl rfl (decide_eq_true (by omega))) rfl ?_; refine vo_nil ?_; refine N_seq ?_; refine V_seq ?_; refine V_true rfl ?_; refine V_skip ?_; refine N_seq ?_; refine V_seq ?_; refine V_block ?_; refine V_seq ?_; refine V_region (id := 5) ?_; refine vo_step (ok_move rfl rfl rfl) rfl ?_; refine vo_step (ok_assign rfl rfl rfl) rfl ?_; refine vo_nil ?_; refine N_seq ?_; refine V_seq ?_; refine V_region (id := 6) ?_; refine vo_step (ok_move rfl rfl rfl) rfl ?_; refine vo_step (ok_move rfl rfl rfl) rfl ?_; refine vo_step (ok_indexS L rfl rfl rfl rfl rfl (by assumption)) rfl ?_; refine vo_step (ok_lss rfl rfl rfl rfl (decide_eq_true (by omega))) rfl ?_; refine vo_step (ok_move rfl rfl rfl) rfl ?_; refine vo_step (ok_skip rfl (blt_lt rfl) rfl) rfl ?_; refine vo_step (ok_skip rfl (blt_lt rfl) rfl) rfl ?_; refine vo_step (ok_skip rfl (blt_lt rfl) rfl) rfl ?_; refine vo_step (ok_skip rfl (blt_lt rfl) rfl) rfl ?_; refine vo_step (ok_pick rfl rfl rfl rfl) rfl ?_; refine vo_step (ok_move rfl rfl rfl) rfl ?_; refine vo_step (ok_move rfl rfl rfl) rfl ?_; refine vo_step (ok_move rfl rfl rfl) rfl ?_; refine vo_step (ok_indexS L rfl rfl rfl rfl rfl (by assumption)) rfl ?_; refine vo_step (ok_lss rfl rfl rfl rfl (decide_eq_false (by omega))) rfl ?_; refine vo_step (ok_move rfl rfl rfl) rfl ?_; refine vo_step (ok_move rfl rfl rfl) rfl ?_; refine vo_step (ok_move rfl rfl rfl) rfl ?_; refine vo_step (ok_indexS L rfl rfl rfl rfl rfl (by assumption)) rfl ?_; refine vo_step (ok_gtr rfl rfl rfl rfl (decide_eq_true (by omega))) rfl ?_; refine vo_step (ok_pick rfl rfl rfl rfl) rfl ?_; refine vo_step (ok_pick rfl rfl rfl rfl) rfl ?_; refine vo_nil ?_; refine N_seq ?_; refine V_true rfl ?_; refine V_seq ?_; refine V_region (id := 7) ?_; refine vo_step (ok_assign rfl rfl rfl) rfl ?_; refine vo_nil ?_; refine N_seq ?_
              refine V_ret L (rs := [.tmp 2]) rfl (fun _ _ h => h) Since.refl fun u H hH hle => ?_
              exact congrArg _ (chk_at hc (okB_2 a1 a3)).symm
            · refine V_seq ?_; refine V_region (id := 4) ?_; refine vo_step (ok_lss rfl rfl rfl rfl (decide_eq_true (by omega))) rfl ?_; refine vo_nil ?_; refine N_seq ?_; refine V_seq ?_; refine V_true rfl ?_; refine V_skip ?_; refine N_seq ?_; refine V_seq ?_; refine V_block ?_; refine V_seq ?_; refine V_region (id := 5) ?_; refine vo_step (ok_move rfl rfl rfl) rfl ?_; refine vo_step (ok_assign rfl rfl rfl) rfl ?_; refine vo_nil ?_; refine N_seq ?_; refine V_seq ?_; refine V_region (id := 6) ?_; refine vo_step (ok_move rfl rfl rfl) rfl ?_; refine vo_step (ok_move rfl rfl rfl) rfl ?_; refine vo_step (ok_indexS L rfl rfl rfl rfl rfl (by assumption)) rfl ?_; refine vo_step (ok_lss rfl rfl rfl rfl (decide_eq_true (by omega))) rfl ?_; refine vo_step (ok_move rfl rfl rfl) rfl ?_; refine vo_step (ok_skip rfl (blt_lt rfl) rfl) rfl ?_; refine vo_step (ok_skip rfl (blt_lt rfl) rfl) rfl ?_; refine vo_step (ok_skip rfl (blt_lt rfl) rfl) rfl ?_; refine vo_step (ok_skip rfl (blt_lt rfl) rfl) rfl ?_; refine vo_step (ok_pick rfl rfl rfl rfl) rfl ?_; refine vo_step (ok_move rfl rfl rfl) rfl ?_; refine vo_step (ok_move rfl rfl rfl) rfl ?_; refine vo_step (ok_move rfl rfl rfl) rfl ?_; refine vo_step (ok_indexS L rfl rfl rfl rfl rfl (by assumption)) rfl ?_; refine vo_step (ok_lss rfl rfl rfl rfl (decide_eq_false (by omega))) rfl ?_; refine vo_step (ok_move rfl rfl rfl) rfl ?_; refine vo_step (ok_move rfl rfl rfl) rfl ?_; refine vo_step (ok_move rfl rfl rfl) rfl ?_; refine vo_step (ok_indexS L rfl rfl rfl rfl rfl (by assumption)) rfl ?_; refine vo_step (ok_gtr rfl rfl rfl rfl (decide_eq_false (by omega))) rfl ?_; refine vo_step (ok_pick rfl rfl rfl rfl) rfl ?_; refine vo_step (ok_pick rfl rfl rfl rfl) rfl ?_; refine vo_nil ?_; refine N_seq ?_; refine V_false rfl ?_; refine V_skip ?_; refine N_block ?_; refine N_seq ?_; refine V_region (id := 8) ?_; refine vo_step (ok_add rfl rfl rfl rfl (wrap_i64 (by omega) (by omega))) rfl ?_; refine vo_step (ok_move rfl rfl rfl) rfl ?_; refine vo_nil ?_
              refine N_round (k + 1) ⟨hlt, take_all hc (okB_5 a2 a3) hall⟩ (by omega) ⟨rfl, rfl, rfl, trivial⟩
        · by_cases a4 : 122 < (c.toNat : Int)
          · have a5 : 57 < (c.toNat : Int) := by omega
            refine V_seq ?_; refine V_region (id := 4) ?_; refine vo_step (ok_lss rfl rfl rfl rfl (decide_eq_true (by omega))) rfl ?_; refine vo_nil ?_; refine N_seq ?_; refine V_seq ?_; refine V_true rfl ?_; refine V_skip ?_; refine N_seq ?_; refine V_seq ?_; refine V_block ?_; refine V_seq ?_; refine V_region (id := 5) ?_; refine vo_step (ok_move rfl rfl rfl) rfl ?_; refine vo_step (ok_assign rfl rfl rfl) rfl ?_; refine vo_nil ?_; refine N_seq ?_; refine V_seq ?_; refine V_region (id := 6) ?_; refine vo_step (ok_move rfl rfl rfl) rfl ?_; refine vo_step (ok_move rfl rfl rfl) rfl ?_; refine vo_step (ok_indexS L rfl rfl rfl rfl rfl (by assumption)) rfl ?_; refine vo_step (ok_lss rfl rfl rfl rfl (decide_eq_false (by omega))) rfl ?_; refine vo_step (ok_move rfl rfl rfl) rfl ?_; refine vo_step (ok_move rfl rfl rfl) rfl ?_; refine vo_step (ok_move rfl rfl rfl) rfl ?_; refine vo_step (ok_indexS L rfl rfl rfl rfl rfl (by assumption)) rfl ?_; refine vo_step (ok_gtr rfl rfl rfl rfl (decide_eq_true (by omega))) rfl ?_; refine vo_step (ok_pick rfl rfl rfl rfl) rfl ?_; refine vo_step (ok_move rfl rfl rfl) rfl ?_; refine vo_step (ok_move rfl rfl rfl) rfl ?_; refine vo_step (ok_move rfl rfl rfl) rfl ?_; refine vo_step (ok_indexS L rfl rfl rfl rfl rfl (by assumption)) rfl ?_; refine vo_step (ok_lss rfl rfl rfl rfl (decide_eq_false (by omega))) rfl ?_; refine vo_step (ok_move rfl rfl rfl) rfl ?_; refine vo_step (ok_move rfl rfl rfl) rfl ?_; refine vo_step (ok_move rfl rfl rfl) rfl ?_; refine vo_step (ok_indexS L rfl rfl rfl rfl rfl (by assumption)) rfl ?_; refine vo_step (ok_gtr rfl rfl rfl rfl (decide_eq_true (by omega))) rfl ?_; refine vo_step (ok_pick rfl rfl rfl rfl) rfl ?_; refine vo_step (ok_pick rfl rfl rfl rfl) rfl ?_; refine vo_nil ?_; refine N_seq ?_; refine V_true rfl ?_; refine V_seq ?_; refine V_region (id := 7) ?_; refine vo_step (ok_assign rfl rfl rfl) rfl ?_; refine vo_nil ?_; refine N_seq ?_
            refine V_ret L (rs := [.tmp 2]) rfl (fun _ _ h => h) Since.refl fun u H hH hle => ?_
            exact congrArg _ (chk_at hc (okB_3 a4)).symm
          · refine V_seq ?_; refine V_region (id := 4) ?_; refine vo_step (ok_lss rfl rfl rfl rfl (decide_eq_true (by omega))) rfl ?_; refine vo_nil ?_; refine N_seq ?_; refine V_seq ?_; refine V_true rfl ?_; refine V_skip ?_; refine N_seq ?_; refine V_seq ?_; refine V_block ?_; refine V_seq ?_; refine V_region (id := 5) ?_; refine vo_step (ok_move rfl rfl rfl) rfl ?_; refine vo_step (ok_assign rfl rfl rfl) rfl ?_; refine vo_nil ?_; refine N_seq ?_; refine V_seq ?_; refine V_region (id := 6) ?_; refine vo_step (ok_move rfl rfl rfl) rfl ?_; refine vo_step (ok_move rfl rfl rfl) rfl ?_; refine vo_step (ok_indexS L rfl rfl rfl rfl rfl (by assumption)) rfl ?_; refine vo_step (ok_lss rfl rfl rfl rfl (decide_eq_false (by omega))) rfl ?_; refine vo_step (ok_move rfl rfl rfl) rfl ?_; refine vo_step (ok_move rfl rfl rfl) rfl ?_; refine vo_step (ok_move rfl rfl rfl) rfl ?_; refine vo_step (ok_indexS L rfl rfl rfl rfl rfl (by assumption)) rfl ?_; refine vo_step (ok_gtr rfl rfl rfl rfl (decide_eq_false (by omega))) rfl ?_; refine vo_step (ok_pick rfl rfl rfl rfl) rfl ?_; refine vo_step (ok_move rfl rfl rfl) rfl ?_; refine vo_step (ok_skip rfl (blt_lt rfl) rfl) rfl ?_; refine vo_step (ok_skip rfl (blt_lt rfl) rfl) rfl ?_; refine vo_step (ok_skip rfl (blt_lt rfl) rfl) rfl ?_; refine vo_step (ok_skip rfl (blt_lt rfl) rfl) rfl ?_; refine vo_step (ok_skip rfl (blt_lt rfl) rfl) rfl ?_; refine vo_step (ok_skip rfl (blt_lt rfl) rfl) rfl ?_; refine vo_step (ok_skip rfl (blt_lt rfl) rfl) rfl ?_; refine vo_step (ok_skip rfl (blt_lt rfl) rfl) rfl ?_; refine vo_step (ok_skip rfl (blt_lt rfl) rfl) rfl ?_; refine vo_step (ok_skip rfl (blt_lt rfl) rfl) rfl ?_; refine vo_step (ok_pick rfl rfl rfl rfl) rfl ?_; refine vo_nil ?_; refine N_seq ?_; refine V_false rfl ?_; refine V_skip ?_; refine N_block ?_; refine N_seq ?_; refine V_region (id := 8) ?_; refine vo_step (ok_add rfl rfl rfl rfl (wrap_i64 (by omega) (by omega))) rfl ?_; refine vo_step (ok_move rfl rfl rfl) rfl ?_; refine vo_nil ?_
            refine N_round (k + 1) ⟨hlt, take_all hc (okB_4 a1 a4) hall⟩ (by omega) ⟨rfl, rfl, rfl, trivial⟩
      · refine V_seq ?_; refine V_region (id := 4) ?_; refine vo_step (ok_lss rfl rfl rfl rfl (decide_eq_false (by omega))) rfl ?_; refine vo_nil ?_; refine N_seq ?_; refine V_seq ?_; refine V_false rfl ?_; refine V_exit ?_; refine X_then ?_; refine X_then ?_; refine X_here ?_; refine N_seq ?_; refine V_seq ?_; refine V_region (id := 9) ?_; refine vo_step (ok_assign rfl rfl rfl) rfl ?_; refine vo_nil ?_; refine N_seq ?_
        refine V_ret L (rs := [.tmp 2]) rfl (fun _ _ h => h) Since.refl fun u H hH hle => ?_
        exact congrArg _ (chk_all h1 h2 (all_take (by omega) hall)).symm
    · refine V_seq ?_; refine V_region (id := 0) ?_; refine vo_step (ok_assign rfl rfl rfl) rfl ?_; refine vo_nil ?_; refine N_seq ?_; refine V_seq ?_; refine V_seq ?_; refine V_region (id := 1) ?_; refine vo_step (ok_move rfl rfl rfl) rfl ?_; refine vo_step (ok_lenS L rfl rfl rfl rfl) rfl ?_; refine vo_step (ok_lss rfl rfl rfl rfl (decide_eq_false (by omega))) rfl ?_; refine vo_step (ok_move rfl rfl rfl) rfl ?_; refine vo_step (ok_move rfl rfl rfl) rfl ?_; refine vo_step (ok_lenS L rfl rfl rfl rfl) rfl ?_; refine vo_step (ok_gtr rfl rfl rfl rfl (decide_eq_true (by omega))) rfl ?_; refine vo_step (ok_pick rfl rfl rfl rfl) rfl ?_; refine vo_nil ?_; refine N_seq ?_; refine V_true rfl ?_; refine V_seq ?_; refine V_region (id := 2) ?_; refine vo_step (ok_assign rfl rfl rfl) rfl ?_; refine vo_nil ?_; refine N_seq ?_
      refine V_ret L (rs := [.tmp 2]) rfl (fun _ _ h => h) Since.refl fun u H hH hle => ?_
      exact congrArg _ (chk_bad (by omega)).symm
  · refine V_seq ?_; refine V_region (id := 0) ?_; refine vo_step (ok_assign rfl rfl rfl) rfl ?_; refine vo_nil ?_; refine N_seq ?_; refine V_seq ?_; refine V_seq ?_; refine V_region (id := 1) ?_; refine vo_step (ok_move rfl rfl rfl) rfl ?_; refine vo_step (ok_lenS L rfl rfl rfl rfl) rfl ?_; refine vo_step (ok_lss rfl rfl rfl rfl (decide_eq_true (by omega))) rfl ?_; refine vo_step (ok_move rfl rfl rfl) rfl ?_; refine vo_step (ok_skip rfl (blt_lt rfl) rfl) rfl ?_; refine vo_step (ok_skip rfl (blt_lt rfl) rfl) rfl ?_; refine vo_step (ok_skip rfl (blt_lt rfl) rfl) rfl ?_; refine vo_step (ok_pick rfl rfl rfl rfl) rfl ?_; refine vo_nil ?_; refine N_seq ?_; refine V_true rfl ?_; refine V_seq ?_; refine V_region (id := 2) ?_; refine vo_step (ok_assign rfl rfl rfl) rfl ?_; refine vo_nil ?_; refine N_seq ?_
    refine V_ret L (rs := [.tmp 2]) rfl (fun _ _ h => h) Since.refl fun u H hH hle => ?_
    exact congrArg _ (chk_bad (by omega)).symm
end Go.V
/- The walks of names: objects, goals, subjects: their errors and texts, their order. -/
namespace Go.V
open Go.Proofs Go.RowKit
attribute [local irreducible] V N X VO Par StepOK Has Ret RetL Src
def allE : List ByteArray → Int
  | [] => 0
  | s :: l => if chk s = 0 then allE l else chk s
theorem allE_snoc : ∀ (l : List ByteArray) (s : ByteArray), allE l = 0 → allE (l ++ [s]) = chk s
  | [], s, _ => by simp only [List.nil_append, allE]; split <;> simp_all
  | x :: l, s, h => by
    simp only [List.cons_append, allE] at h ⊢
    by_cases hx : chk x = 0
    · rw [if_pos hx] at h ⊢; exact allE_snoc l s h
    · rw [if_neg hx] at h; exact absurd h hx
theorem allE_bad : ∀ (l : List ByteArray) (k : Nat) (s : ByteArray), allE (l.take k) = 0 → l[k]? = some s → chk s ≠ 0 → allE l = chk s
  | [], k, s, _, h, _ => by simp at h
  | x :: l, 0, s, _, h, hc => by simp at h; subst h; simp [allE, hc]
  | x :: l, k + 1, s, ha, h, hc => by
    simp only [List.take_succ_cons, allE] at ha
    simp only [List.getElem?_cons_succ] at h
    by_cases hx : chk x = 0
    · rw [if_pos hx] at ha
      simp only [allE, if_pos hx]
      exact allE_bad l k s ha h hc
    · rw [if_neg hx] at ha; exact absurd ha hx
set_option maxHeartbeats 400000 in
theorem all_gen (l : List ByteArray) (hl : ∀ s ∈ l, s.size ≤ 9223372036854775807) (hlen : l.length ≤ 1000) {e : TypeId} {fu : Bool} {v : Value} {w : World} {B : Heap} (hB : B.Le (hp w)) (hv : SlV e 1 (l.map Value.string) l.length fu v B) :
    Ret Try.prog 103 [v] w B (fun v _ => v = .int .i64 (allE l)) := by
  refine V_enter Try.func103 rfl Try.ntmps103 (Nat.le_of_ble_eq_true rfl) hB ?_
  refine V_seen 0 (SlV e 1 (l.map Value.string) l.length fu) rfl SlV.mono hv ?_
  refine V_seq ?_; refine V_region (id := 0) ?_; refine vo_step (ok_assign rfl rfl rfl) rfl ?_; refine vo_nil ?_; refine N_seq ?_; refine V_seq ?_; refine V_seq ?_; refine V_region (id := 1) ?_; refine vo_step (ok_moves' rfl rfl rfl) rfl ?_; refine vo_step (ok_lenV L rfl rfl rfl rfl) rfl ?_; refine vo_step (ok_move rfl rfl rfl) rfl ?_; refine vo_nil ?_; refine N_seq ?_; refine V_block ?_
  refine V_loop (fun k : Nat => [(6, .sat (SlV e 1 (l.map Value.string) l.length fu)), (7, .is (.int .i64 l.length)), (8, .is (.int .i64 k))])
    (fun k => k ≤ l.length ∧ allE (l.take k) = 0) (fun k => l.length - k) 0 ⟨Nat.zero_le _, by simp [allE]⟩ ⟨rfl, rfl, rfl, trivial⟩ ?_
  rintro k ⟨hk, hall⟩
  by_cases hlt : k < l.length
  · have hs : l[k]? = some l[k] := List.getElem?_eq_getElem hlt
    generalize l[k] = s at hs
    have hsz : s.size ≤ 9223372036854775807 := hl s (List.mem_of_getElem? hs)
    have hc := str_at hs
    by_cases h0 : chk s = 0
    · refine V_seq ?_; refine V_region (id := 2) ?_; refine vo_step (ok_lss rfl rfl rfl rfl (decide_eq_true (by omega))) rfl ?_; refine vo_nil ?_; refine N_seq ?_; refine V_seq ?_; refine V_true rfl ?_; refine V_skip ?_; refine N_seq ?_; refine V_seq ?_; refine V_block ?_; refine V_seq ?_; refine V_region (id := 3) ?_; refine vo_step (ok_indexV L _ rfl rfl rfl rfl rfl rfl rfl (by first | omega | decide) (by assumption)) rfl ?_; refine vo_step (ok_loadP1 L rfl rfl rfl rfl rfl) rfl ?_; refine vo_step (ok_assign rfl rfl rfl) rfl ?_; refine vo_nil ?_; refine N_seq ?_; refine V_seq ?_; refine V_region (id := 4) ?_; refine vo_step (ok_move rfl rfl rfl) rfl ?_; refine vo_step (ok_callx L rfl rfl (blt_lt rfl) rfl rfl rfl (fun u H hH _ _ => check_ret _ (by first | omega | decide) hH)) rfl ?_; refine vo_step (ok_assign rfl rfl rfl) rfl ?_; refine vo_nil ?_; refine N_seq ?_; refine V_seq ?_; refine V_region (id := 5) ?_; refine vo_step (ok_move rfl rfl rfl) rfl ?_; refine vo_step (ok_neq rfl rfl rfl rfl (decide_eq_false (by omega))) rfl ?_; refine vo_nil ?_; refine N_seq ?_; refine V_false rfl ?_; refine V_skip ?_; refine N_block ?_; refine N_seq ?_; refine V_region (id := 7) ?_; refine vo_step (ok_add rfl rfl rfl rfl (wrap_i64 (by omega) (by omega))) rfl ?_; refine vo_step (ok_move rfl rfl rfl) rfl ?_; refine vo_nil ?_
      refine N_round (k + 1) ⟨hlt, ?_⟩ (by omega) ⟨rfl, rfl, rfl, trivial⟩
      rw [List.take_add_one, hs]
      show allE (l.take k ++ [s]) = 0
      rw [allE_snoc _ _ hall, h0]
    · refine V_seq ?_; refine V_region (id := 2) ?_; refine vo_step (ok_lss rfl rfl rfl rfl (decide_eq_true (by omega))) rfl ?_; refine vo_nil ?_; refine N_seq ?_; refine V_seq ?_; refine V_true rfl ?_; refine V_skip ?_; refine N_seq ?_; refine V_seq ?_; refine V_block ?_; refine V_seq ?_; refine V_region (id := 3) ?_; refine vo_step (ok_indexV L _ rfl rfl rfl rfl rfl rfl rfl (by first | omega | decide) (by assumption)) rfl ?_; refine vo_step (ok_loadP1 L rfl rfl rfl rfl rfl) rfl ?_; refine vo_step (ok_assign rfl rfl rfl) rfl ?_; refine vo_nil ?_; refine N_seq ?_; refine V_seq ?_; refine V_region (id := 4) ?_; refine vo_step (ok_move rfl rfl rfl) rfl ?_; refine vo_step (ok_callx L rfl rfl (blt_lt rfl) rfl rfl rfl (fun u H hH _ _ => check_ret _ (by first | omega | decide) hH)) rfl ?_; refine vo_step (ok_assign rfl rfl rfl) rfl ?_; refine vo_nil ?_; refine N_seq ?_; refine V_seq ?_; refine V_region (id := 5) ?_; refine vo_step (ok_move rfl rfl rfl) rfl ?_; refine vo_step (ok_neq rfl rfl rfl rfl (decide_eq_true (by omega))) rfl ?_; refine vo_nil ?_; refine N_seq ?_; refine V_true rfl ?_; refine V_seq ?_; refine V_region (id := 6) ?_; refine vo_step (ok_move rfl rfl rfl) rfl ?_; refine vo_step (ok_assign rfl rfl rfl) rfl ?_; refine vo_nil ?_; refine N_seq ?_
      refine V_ret L (rs := [.tmp 2]) rfl (fun _ _ h => h) Since.refl fun u H hH hle => ?_
      exact congrArg _ (allE_bad l k s hall hs h0).symm
  · refine V_seq ?_; refine V_region (id := 2) ?_; refine vo_step (ok_lss rfl rfl rfl rfl (decide_eq_false (by omega))) rfl ?_; refine vo_nil ?_; refine N_seq ?_; refine V_seq ?_; refine V_false rfl ?_; refine V_exit ?_; refine X_then ?_; refine X_then ?_; refine X_here ?_; refine N_seq ?_; refine V_seq ?_; refine V_region (id := 8) ?_; refine vo_step (ok_assign rfl rfl rfl) rfl ?_; refine vo_nil ?_; refine N_seq ?_
    refine V_ret L (rs := [.tmp 2]) rfl (fun _ _ h => h) Since.refl fun u H hH hle => ?_
    have : l.take k = l := List.take_of_length_le (by omega)
    exact congrArg _ (this ▸ hall).symm
end Go.V
/-
  DERIVED: THE SHELF's CONTRACTS AT THIS DUMP, IN PLAIN WORDS (tools/lay-plain.mjs out of 'TryShelf.lean', which tools/lay-shelf.mjs wrote): THE SAME DECLARATIONS UNDER THE SAME NAMES: 'import', 'namespace', 'open', 'def', 'theorem' AND NOTHING ELSE: no command of the shelf's: FOR A HAND-IN. Each laying: the table of numbers ('.._ren') and one theorem, a field a fact of the dump's own or the kernel's comparison; each contract: ONE APPLICATION.
-/
namespace Go.Proofs
open Go.Shelf
def Try.lays213_ren : Go.Shelf.Ren := ⟨fun | 213 => 124 | 265 => 129 | n => n, fun | 9 => 9 | 3 => 3 | n => n, fun | n => n⟩
theorem Try.lays213 : Go.Proofs.Lays.n213 Try.prog Try.lays213_ren := {
  mixed := by kernel_rfl
  f213 := Try.func124.trans (congrArg some (by kernel_rfl))
  f265 := Try.func129.trans (congrArg some (by kernel_rfl))
  t3 := Try.underlying3
  a3 := Try.isAgg3
  z3 := Try.sizeOf3
  v3 := Try.zeroValue3
  t9 := Try.underlying9
  a9 := Try.isAgg9
  z9 := Try.sizeOf9
  v9 := Try.zeroValue9 }
open Go.RowKit in
/-- internal/bytealg.CompareString (what strings.Compare calls): IT RETURNS 'Lib.compareBytes a b'; the world is as it was. (LAID: no walk: one application.) -/
theorem Try.bytealg_CompareString (a b : ByteArray) (w : World) :
    Calls Try.prog 124 #[.string a, .string b] w fun e w' => e = .returned (.int .i64 (Lib.compareBytes a.data.toList b.data.toList)) ∧ w' = w := Any.bytealg_CompareString Try.lays213 a b w
def Try.lays106_ren : Go.Shelf.Ren := ⟨fun | 106 => 116 | 213 => 124 | 265 => 129 | n => n, fun | 9 => 9 | 3 => 3 | n => n, fun | n => n⟩
theorem Try.lays106 : Go.Proofs.Lays.n106 Try.prog Try.lays106_ren := {
  mixed := by kernel_rfl
  f106 := Try.func116.trans (congrArg some (by kernel_rfl))
  f213 := Try.func124.trans (congrArg some (by kernel_rfl))
  f265 := Try.func129.trans (congrArg some (by kernel_rfl))
  t3 := Try.underlying3
  a3 := Try.isAgg3
  z3 := Try.sizeOf3
  v3 := Try.zeroValue3
  t9 := Try.underlying9
  a9 := Try.isAgg9
  z9 := Try.sizeOf9
  v9 := Try.zeroValue9 }
open Go.RowKit in
/-- strings.Compare: "Compare returns an integer comparing two strings lexicographically. The result will be 0 if a == b, -1 if a < b, and +1 if a > b.": IT RETURNS 'Lib.compareBytes a b'; the world is as it was. (LAID: no walk: one application.) -/
theorem Try.strings_Compare (a b : ByteArray) (w : World) :
    Calls Try.prog 116 #[.string a, .string b] w fun e w' => e = .returned (.int .i64 (Lib.compareBytes a.data.toList b.data.toList)) ∧ w' = w := Any.strings_Compare Try.lays106 a b w
end Go.Proofs
/- The walks of names: objects, goals, subjects. -/
namespace Go.V
open Go.Proofs Go.RowKit
attribute [local irreducible] V N X VO Par StepOK Has Ret RetL Src
theorem all2_ret {a b : ByteArray} (ha : a.size ≤ 9223372036854775807) (hb : b.size ≤ 9223372036854775807) {w : World} {B : Heap} (hB : B.Le (hp w)) {t : Nat} {v : Value} (hv : SlB [.string a, .string b] t 2 v B) :
    Ret Try.prog 103 [v] w B (fun v _ => v = .int .i64 (allE [a, b])) := by
  exact all_gen [a, b] (by intro s hs; simp at hs; rcases hs with rfl | rfl <;> assumption) (by simp) hB (hv.toV rfl)
theorem all3_ret {a b c : ByteArray} (ha : a.size ≤ 9223372036854775807) (hb : b.size ≤ 9223372036854775807) (hc : c.size ≤ 9223372036854775807) {w : World} {B : Heap} (hB : B.Le (hp w)) {t : Nat} {v : Value} (hv : SlB [.string a, .string b, .string c] t 3 v B) :
    Ret Try.prog 103 [v] w B (fun v _ => v = .int .i64 (allE [a, b, c])) := by
  exact all_gen [a, b, c] (by intro s hs; simp at hs; rcases hs with rfl | rfl | rfl <;> assumption) (by simp) hB (hv.toV rfl)
theorem object_ret {a b : ByteArray} (ha : a.size ≤ 9223372036854775807) (hb : b.size ≤ 9223372036854775807) {w : World} {B : Heap} (hB : B.Le (hp w)) :
    Ret Try.prog 104 [.agg #[.string a, .string b]] w B (fun v _ => v = .int .i64 (allE [a, b])) := by
  refine V_enter Try.func104 rfl Try.ntmps104 (Nat.le_of_ble_eq_true rfl) hB ?_
  refine V_seq ?_; refine V_region (id := 0) ?_; refine vo_step (ok_box rfl rfl rfl rfl) rfl ?_; refine vo_step (ok_assign rfl rfl rfl) rfl ?_; refine vo_nil ?_; refine N_seq ?_; refine V_seq ?_; refine V_region (id := 1) ?_; refine vo_step (ok_fieldAt L rfl rfl rfl rfl) rfl ?_; refine vo_step (ok_load1 L (src_at rfl) rfl rfl rfl rfl) rfl ?_; refine vo_step (ok_fieldAt L rfl rfl rfl rfl) rfl ?_; refine vo_step (ok_load1 L (src_at rfl) rfl rfl rfl rfl) rfl ?_; refine vo_step (ok_buildSlice L rfl rfl rfl rfl rfl rfl rfl rfl rfl) rfl ?_; refine vo_step (ok_callx L rfl rfl (blt_lt rfl) rfl rfl rfl (fun u H hH _ _ v hv => all2_ret (by first | assumption | omega | decide) (by first | assumption | omega | decide) hH hv)) rfl ?_; refine vo_step (ok_assign rfl rfl rfl) rfl ?_; refine vo_nil ?_; refine N_seq ?_
  refine V_ret L (rs := [.tmp 2]) rfl (fun _ _ h => h) Since.refl fun u H hH hle => ?_
  rfl
theorem goal_ret {a b c : ByteArray} (ha : a.size ≤ 9223372036854775807) (hb : b.size ≤ 9223372036854775807) (hc : c.size ≤ 9223372036854775807) {w : World} {B : Heap} (hB : B.Le (hp w)) :
    Ret Try.prog 80 [.agg #[.string a, .string b, .string c]] w B (fun v _ => v = .int .i64 (allE [a, b, c])) := by
  refine V_enter Try.func80 rfl Try.ntmps80 (Nat.le_of_ble_eq_true rfl) hB ?_
  refine V_seq ?_; refine V_region (id := 0) ?_; refine vo_step (ok_box rfl rfl rfl rfl) rfl ?_; refine vo_step (ok_assign rfl rfl rfl) rfl ?_; refine vo_nil ?_; refine N_seq ?_; refine V_seq ?_; refine V_region (id := 1) ?_; refine vo_step (ok_fieldAt L rfl rfl rfl rfl) rfl ?_; refine vo_step (ok_fieldAt L rfl rfl rfl rfl) rfl ?_; refine vo_step (ok_load1 L (src_at rfl) rfl rfl rfl rfl) rfl ?_; refine vo_step (ok_fieldAt L rfl rfl rfl rfl) rfl ?_; refine vo_step (ok_fieldAt L rfl rfl rfl rfl) rfl ?_; refine vo_step (ok_load1 L (src_at rfl) rfl rfl rfl rfl) rfl ?_; refine vo_step (ok_fieldAt L rfl rfl rfl rfl) rfl ?_; refine vo_step (ok_load1 L (src_at rfl) rfl rfl rfl rfl) rfl ?_; refine vo_step (ok_buildSlice L rfl rfl rfl rfl rfl rfl rfl rfl rfl) rfl ?_; refine vo_step (ok_callx L rfl rfl (blt_lt rfl) rfl rfl rfl (fun u H hH _ _ v hv => all3_ret (by first | assumption | omega | decide) (by first | assumption | omega | decide) (by first | assumption | omega | decide) hH hv)) rfl ?_; refine vo_step (ok_assign rfl rfl rfl) rfl ?_; refine vo_nil ?_; refine N_seq ?_
  refine V_ret L (rs := [.tmp 2]) rfl (fun _ _ h => h) Since.refl fun u H hH hle => ?_
  rfl
def subjE (a b c : ByteArray) : Int := if c = ⟨#[]⟩ then allE [a, b] else allE [a, b, c]
theorem subject_ret {a b c : ByteArray} (ha : a.size ≤ 9223372036854775807) (hb : b.size ≤ 9223372036854775807) (hc : c.size ≤ 9223372036854775807) {w : World} {B : Heap} (hB : B.Le (hp w)) :
    Ret Try.prog 81 [.agg #[.string a, .string b, .string c]] w B (fun v _ => v = .int .i64 (subjE a b c)) := by
  refine V_enter Try.func81 rfl Try.ntmps81 (Nat.le_of_ble_eq_true rfl) hB ?_
  by_cases h : c = ⟨#[]⟩
  · refine V_seq ?_; refine V_region (id := 0) ?_; refine vo_step (ok_box rfl rfl rfl rfl) rfl ?_; refine vo_step (ok_assign rfl rfl rfl) rfl ?_; refine vo_nil ?_; refine N_seq ?_; refine V_seq ?_; refine V_seq ?_; refine V_region (id := 1) ?_; refine vo_step (ok_fieldAt L rfl rfl rfl rfl) rfl ?_; refine vo_step (ok_load1 L (src_at rfl) rfl rfl rfl rfl) rfl ?_; refine vo_step (ok_seql rfl rfl rfl rfl (decide_eq_true (by assumption))) rfl ?_; refine vo_nil ?_; refine N_seq ?_; refine V_true rfl ?_; refine V_seq ?_; refine V_region (id := 2) ?_; refine vo_step (ok_fieldAt L rfl rfl rfl rfl) rfl ?_; refine vo_step (ok_loadA L (vs := [_, _]) (src_at rfl) rfl rfl rfl rfl ⟨_, rfl⟩) rfl ?_; refine vo_step (ok_callx L rfl rfl (blt_lt rfl) rfl rfl rfl (fun u H hH _ _ => object_ret (by first | assumption | omega | decide) (by first | assumption | omega | decide) hH)) rfl ?_; refine vo_step (ok_assign rfl rfl rfl) rfl ?_; refine vo_nil ?_; refine N_seq ?_
    refine V_ret L (rs := [.tmp 2]) rfl (fun _ _ h => h) Since.refl fun u H hH hle => ?_
    exact congrArg (Value.int .i64) (show allE [a, b] = subjE a b c from (if_pos h).symm)
  · refine V_seq ?_; refine V_region (id := 0) ?_; refine vo_step (ok_box rfl rfl rfl rfl) rfl ?_; refine vo_step (ok_assign rfl rfl rfl) rfl ?_; refine vo_nil ?_; refine N_seq ?_; refine V_seq ?_; refine V_seq ?_; refine V_region (id := 1) ?_; refine vo_step (ok_fieldAt L rfl rfl rfl rfl) rfl ?_; refine vo_step (ok_load1 L (src_at rfl) rfl rfl rfl rfl) rfl ?_; refine vo_step (ok_seql rfl rfl rfl rfl (decide_eq_false (by assumption))) rfl ?_; refine vo_nil ?_; refine N_seq ?_; refine V_false rfl ?_; refine V_skip ?_; refine N_seq ?_; refine V_seq ?_; refine V_region (id := 3) ?_; refine vo_step (ok_loadA L (vs := [_, _, _]) (src_at rfl) rfl rfl rfl rfl ⟨_, rfl⟩) rfl ?_; refine vo_step (ok_callx L rfl rfl (blt_lt rfl) rfl rfl rfl (fun u H hH _ _ => goal_ret (by first | assumption | omega | decide) (by first | assumption | omega | decide) (by first | assumption | omega | decide) hH)) rfl ?_; refine vo_step (ok_assign rfl rfl rfl) rfl ?_; refine vo_nil ?_; refine N_seq ?_
    refine V_ret L (rs := [.tmp 2]) rfl (fun _ _ h => h) Since.refl fun u H hH hle => ?_
    exact congrArg (Value.int .i64) (show allE [a, b, c] = subjE a b c from (if_neg h).symm)
def cmpB (a b : ByteArray) : Int := Lib.compareBytes a.data.toList b.data.toList
theorem scmp_ret {a b : ByteArray} {w : World} {B : Heap} (hB : B.Le (hp w)) : Ret Try.prog 116 [.string a, .string b] w B (fun v _ => v = .int .i64 (cmpB a b)) := Ret.of_same hB (Try.strings_Compare a b w)
def orL : List Int → Int
  | [] => 0
  | x :: l => if x = 0 then orL l else x
theorem orL_bad : ∀ (l : List Int) (k : Nat) (s : Int), (∀ x ∈ l.take k, x = 0) → l[k]? = some s → s ≠ 0 → orL l = s
  | [], k, s, _, h, _ => by simp at h
  | x :: l, 0, s, _, h, hc => by simp at h; subst h; simp [orL, hc]
  | x :: l, k + 1, s, ha, h, hc => by
    simp only [List.take_succ_cons] at ha
    simp only [List.getElem?_cons_succ] at h
    have hx := ha x (List.mem_cons_self ..)
    simp only [orL, if_pos hx]
    exact orL_bad l k s (fun y hy => ha y (List.mem_cons_of_mem _ hy)) h hc
theorem orL_zero : ∀ (l : List Int), (∀ x ∈ l, x = 0) → orL l = 0
  | [], _ => rfl
  | x :: l, h => by simp only [orL, if_pos (h x (List.mem_cons_self ..))]; exact orL_zero l fun y hy => h y (List.mem_cons_of_mem _ hy)
set_option maxHeartbeats 400000 in
theorem or_gen (l : List Int) (hlen : l.length ≤ 1000) {e : TypeId} {fu : Bool} {v : Value} {w : World} {B : Heap} (hB : B.Le (hp w)) (hv : SlV e 1 (l.map (Value.int .i64)) l.length fu v B) :
    Ret Try.prog 95 [v] w B (fun v _ => v = .int .i64 (orL l)) := by
  refine V_enter Try.func95 rfl Try.ntmps95 (Nat.le_of_ble_eq_true rfl) hB ?_
  refine V_seen 0 (SlV e 1 (l.map (Value.int .i64)) l.length fu) rfl SlV.mono hv ?_
  refine V_seq ?_; refine V_region (id := 0) ?_; refine vo_step (ok_assign rfl rfl rfl) rfl ?_; refine vo_nil ?_; refine N_seq ?_; refine V_seq ?_; refine V_region (id := 1) ?_; refine vo_step (ok_assign rfl rfl rfl) rfl ?_; refine vo_nil ?_; refine N_seq ?_; refine V_seq ?_; refine V_seq ?_; refine V_region (id := 2) ?_; refine vo_step (ok_moves' rfl rfl rfl) rfl ?_; refine vo_step (ok_lenV L rfl rfl rfl rfl) rfl ?_; refine vo_step (ok_move rfl rfl rfl) rfl ?_; refine vo_nil ?_; refine N_seq ?_; refine V_block ?_
  refine V_loop (fun k : Nat => [(3, .is (.int .i64 0)), (6, .sat (SlV e 1 (l.map (Value.int .i64)) l.length fu)), (7, .is (.int .i64 l.length)), (8, .is (.int .i64 k))])
    (fun k => k ≤ l.length ∧ ∀ x ∈ l.take k, x = 0) (fun k => l.length - k) 0 ⟨Nat.zero_le _, by simp⟩ ⟨rfl, rfl, rfl, rfl, trivial⟩ ?_
  rintro k ⟨hk, hall⟩
  by_cases hlt : k < l.length
  · have hs : l[k]? = some l[k] := List.getElem?_eq_getElem hlt
    generalize l[k] = s at hs
    have hc : ((l.map (Value.int .i64)).drop (k * 1)).take 1 = [.int .i64 s] := take_1 (by simp [hs])
    by_cases h0 : s = 0
    · refine V_seq ?_; refine V_region (id := 3) ?_; refine vo_step (ok_lss rfl rfl rfl rfl (decide_eq_true (by omega))) rfl ?_; refine vo_nil ?_; refine N_seq ?_; refine V_seq ?_; refine V_true rfl ?_; refine V_skip ?_; refine N_seq ?_; refine V_seq ?_; refine V_block ?_; refine V_seq ?_; refine V_region (id := 4) ?_; refine vo_step (ok_indexV L _ rfl rfl rfl rfl rfl rfl rfl (by first | omega | decide) (by assumption)) rfl ?_; refine vo_step (ok_loadP1 L rfl rfl rfl rfl rfl) rfl ?_; refine vo_step (ok_assign rfl rfl rfl) rfl ?_; refine vo_nil ?_; refine N_seq ?_; refine V_seq ?_; refine V_region (id := 5) ?_; refine vo_step (ok_move rfl rfl rfl) rfl ?_; refine vo_step (ok_move rfl rfl rfl) rfl ?_; refine vo_step (ok_neq rfl rfl rfl rfl (decide_eq_false (by omega))) rfl ?_; refine vo_nil ?_; refine N_seq ?_; refine V_false rfl ?_; refine V_skip ?_; refine N_block ?_; refine N_seq ?_; refine V_region (id := 7) ?_; refine vo_step (ok_add rfl rfl rfl rfl (wrap_i64 (by omega) (by omega))) rfl ?_; refine vo_step (ok_move rfl rfl rfl) rfl ?_; refine vo_nil ?_
      refine N_round (k + 1) ⟨hlt, ?_⟩ (by omega) ⟨rfl, rfl, rfl, rfl, trivial⟩
      rw [List.take_add_one, hs]
      intro x hx
      rcases List.mem_append.1 hx with hx | hx
      · exact hall x hx
      · simp at hx; rw [hx, h0]
    · refine V_seq ?_; refine V_region (id := 3) ?_; refine vo_step (ok_lss rfl rfl rfl rfl (decide_eq_true (by omega))) rfl ?_; refine vo_nil ?_; refine N_seq ?_; refine V_seq ?_; refine V_true rfl ?_; refine V_skip ?_; refine N_seq ?_; refine V_seq ?_; refine V_block ?_; refine V_seq ?_; refine V_region (id := 4) ?_; refine vo_step (ok_indexV L _ rfl rfl rfl rfl rfl rfl rfl (by first | omega | decide) (by assumption)) rfl ?_; refine vo_step (ok_loadP1 L rfl rfl rfl rfl rfl) rfl ?_; refine vo_step (ok_assign rfl rfl rfl) rfl ?_; refine vo_nil ?_; refine N_seq ?_; refine V_seq ?_; refine V_region (id := 5) ?_; refine vo_step (ok_move rfl rfl rfl) rfl ?_; refine vo_step (ok_move rfl rfl rfl) rfl ?_; refine vo_step (ok_neq rfl rfl rfl rfl (decide_eq_true (by omega))) rfl ?_; refine vo_nil ?_; refine N_seq ?_; refine V_true rfl ?_; refine V_seq ?_; refine V_region (id := 6) ?_; refine vo_step (ok_move rfl rfl rfl) rfl ?_; refine vo_step (ok_assign rfl rfl rfl) rfl ?_; refine vo_nil ?_; refine N_seq ?_
      refine V_ret L (rs := [.tmp 2]) rfl (fun _ _ h => h) Since.refl fun u H hH hle => ?_
      exact congrArg _ (orL_bad l k s hall hs h0).symm
  · refine V_seq ?_; refine V_region (id := 3) ?_; refine vo_step (ok_lss rfl rfl rfl rfl (decide_eq_false (by omega))) rfl ?_; refine vo_nil ?_; refine N_seq ?_; refine V_seq ?_; refine V_false rfl ?_; refine V_exit ?_; refine X_then ?_; refine X_then ?_; refine X_here ?_; refine N_seq ?_; refine V_seq ?_; refine V_region (id := 8) ?_; refine vo_step (ok_move rfl rfl rfl) rfl ?_; refine vo_step (ok_assign rfl rfl rfl) rfl ?_; refine vo_nil ?_; refine N_seq ?_
    refine V_ret L (rs := [.tmp 2]) rfl (fun _ _ h => h) Since.refl fun u H hH hle => ?_
    have : l.take k = l := List.take_of_length_le (by omega)
    exact congrArg _ (orL_zero l (this ▸ hall)).symm
theorem or2_ret {x y : Int} {w : World} {B : Heap} (hB : B.Le (hp w)) {t : Nat} {v : Value} (hv : SlB [.int .i64 x, .int .i64 y] t 2 v B) :
    Ret Try.prog 95 [v] w B (fun v _ => v = .int .i64 (orL [x, y])) := by
  exact or_gen [x, y] (by simp) hB (hv.toV rfl)
def cmpO (a b c d : ByteArray) : Int := orL [cmpB a c, cmpB b d]
def cmpG (a b r c d s : ByteArray) : Int := orL [cmpO a b c d, cmpB r s]
theorem cmpO_ret {a b c d : ByteArray} {w : World} {B : Heap} (hB : B.Le (hp w)) :
    Ret Try.prog 115 [.agg #[.string a, .string b], .agg #[.string c, .string d]] w B (fun v _ => v = .int .i64 (cmpO a b c d)) := by
  refine V_enter Try.func115 rfl Try.ntmps115 (Nat.le_of_ble_eq_true rfl) hB ?_
  refine V_seq ?_; refine V_region (id := 0) ?_; refine vo_step (ok_box rfl rfl rfl rfl) rfl ?_; refine vo_step (ok_box rfl rfl rfl rfl) rfl ?_; refine vo_step (ok_assign rfl rfl rfl) rfl ?_; refine vo_nil ?_; refine N_seq ?_; refine V_seq ?_; refine V_regionD (id := 1) [] mixed (by kernel_rfl) ?_; refine par_step (ok_fieldAt L rfl rfl rfl rfl) rfl ?_; refine par_step (ok_load1 L (src_at rfl) rfl rfl rfl rfl) rfl ?_; refine par_step (ok_fieldAt L rfl rfl rfl rfl) rfl ?_; refine par_step (ok_load1 L (src_at rfl) rfl rfl rfl rfl) rfl ?_; refine par_step (ok_callx L rfl rfl (blt_lt rfl) rfl rfl rfl (fun u H hH _ _ => scmp_ret hH)) rfl ?_; refine par_step (ok_fieldAt L rfl rfl rfl rfl) rfl ?_; refine par_step (ok_load1 L (src_at rfl) rfl rfl rfl rfl) rfl ?_; refine par_step (ok_fieldAt L rfl rfl rfl rfl) rfl ?_; refine par_step (ok_load1 L (src_at rfl) rfl rfl rfl rfl) rfl ?_; refine par_step (ok_callx L rfl rfl (blt_lt rfl) rfl rfl rfl (fun u H hH _ _ => scmp_ret hH)) rfl ?_; refine par_step (ok_buildSlice L rfl rfl rfl rfl rfl rfl rfl rfl rfl) rfl ?_; refine par_step (ok_callx L rfl rfl (blt_lt rfl) rfl rfl rfl (fun u H hH _ _ v hv => or2_ret hH hv)) rfl ?_; refine par_step (ok_assign rfl rfl rfl) rfl ?_; refine par_nil ?_; refine N_seq ?_
  refine V_ret L (rs := [.tmp 4]) rfl (fun _ _ h => h) Since.refl fun u H hH hle => ?_
  rfl
theorem cmpG_ret {a b r c d s : ByteArray} {w : World} {B : Heap} (hB : B.Le (hp w)) :
    Ret Try.prog 96 [.agg #[.string a, .string b, .string r], .agg #[.string c, .string d, .string s]] w B (fun v _ => v = .int .i64 (cmpG a b r c d s)) := by
  refine V_enter Try.func96 rfl Try.ntmps96 (Nat.le_of_ble_eq_true rfl) hB ?_
  refine V_seq ?_; refine V_region (id := 0) ?_; refine vo_step (ok_box rfl rfl rfl rfl) rfl ?_; refine vo_step (ok_box rfl rfl rfl rfl) rfl ?_; refine vo_step (ok_assign rfl rfl rfl) rfl ?_; refine vo_nil ?_; refine N_seq ?_; refine V_seq ?_; refine V_regionD (id := 1) [] mixed (by kernel_rfl) ?_; refine par_step (ok_fieldAt L rfl rfl rfl rfl) rfl ?_; refine par_step (ok_loadA L (vs := [_, _]) (src_at rfl) rfl rfl rfl rfl ⟨_, rfl⟩) rfl ?_; refine par_step (ok_fieldAt L rfl rfl rfl rfl) rfl ?_; refine par_step (ok_loadA L (vs := [_, _]) (src_at rfl) rfl rfl rfl rfl ⟨_, rfl⟩) rfl ?_; refine par_step (ok_callx L rfl rfl (blt_lt rfl) rfl rfl rfl (fun u H hH _ _ => cmpO_ret hH)) rfl ?_; refine par_step (ok_fieldAt L rfl rfl rfl rfl) rfl ?_; refine par_step (ok_load1 L (src_at rfl) rfl rfl rfl rfl) rfl ?_; refine par_step (ok_fieldAt L rfl rfl rfl rfl) rfl ?_; refine par_step (ok_load1 L (src_at rfl) rfl rfl rfl rfl) rfl ?_; refine par_step (ok_callx L rfl rfl (blt_lt rfl) rfl rfl rfl (fun u H hH _ _ => scmp_ret hH)) rfl ?_; refine par_step (ok_buildSlice L rfl rfl rfl rfl rfl rfl rfl rfl rfl) rfl ?_; refine par_step (ok_callx L rfl rfl (blt_lt rfl) rfl rfl rfl (fun u H hH _ _ v hv => or2_ret hH hv)) rfl ?_; refine par_step (ok_assign rfl rfl rfl) rfl ?_; refine par_nil ?_; refine N_seq ?_
  refine V_ret L (rs := [.tmp 4]) rfl (fun _ _ h => h) Since.refl fun u H hH hle => ?_
  rfl
theorem cmpU_ret {a b r c d s : ByteArray} {w : World} {B : Heap} (hB : B.Le (hp w)) :
    Ret Try.prog 97 [.agg #[.string a, .string b, .string r], .agg #[.string c, .string d, .string s]] w B (fun v _ => v = .int .i64 (cmpG a b r c d s)) := by
  refine V_enter Try.func97 rfl Try.ntmps97 (Nat.le_of_ble_eq_true rfl) hB ?_
  refine V_seq ?_; refine V_region (id := 0) ?_; refine vo_step (ok_box rfl rfl rfl rfl) rfl ?_; refine vo_step (ok_box rfl rfl rfl rfl) rfl ?_; refine vo_step (ok_assign rfl rfl rfl) rfl ?_; refine vo_nil ?_; refine N_seq ?_; refine V_seq ?_; refine V_region (id := 1) ?_; refine vo_step (ok_loadA L (vs := [_, _, _]) (src_at rfl) rfl rfl rfl rfl ⟨_, rfl⟩) rfl ?_; refine vo_step (ok_loadA L (vs := [_, _, _]) (src_at rfl) rfl rfl rfl rfl ⟨_, rfl⟩) rfl ?_; refine vo_step (ok_callx L rfl rfl (blt_lt rfl) rfl rfl rfl (fun u H hH _ _ => cmpG_ret hH)) rfl ?_; refine vo_step (ok_assign rfl rfl rfl) rfl ?_; refine vo_nil ?_; refine N_seq ?_
  refine V_ret L (rs := [.tmp 4]) rfl (fun _ _ h => h) Since.refl fun u H hH hle => ?_
  rfl
end Go.V
/- The order of byte strings: plain laws; the reference's order is the program's. -/
namespace Go.V
open Go.Proofs Go.RowKit
theorem cb_refl : ∀ (a : List UInt8), Lib.compareBytes a a = 0
  | [] => rfl
  | a :: xs => by
    unfold Lib.compareBytes
    rw [if_neg (UInt8.lt_irrefl a), if_neg (UInt8.lt_irrefl a)]
    exact cb_refl xs
theorem cb_eq : ∀ (a b : List UInt8), Lib.compareBytes a b = 0 → a = b
  | [], [], _ => rfl
  | [], _ :: _, h => by cases h
  | _ :: _, [], h => by cases h
  | a :: xs, b :: bs, h => by
    unfold Lib.compareBytes at h
    split at h
    · cases h
    · split at h
      · cases h
      · rename_i h1 h2
        have : a = b := UInt8.le_antisymm (UInt8.not_lt.1 h2) (UInt8.not_lt.1 h1)
        rw [this, cb_eq xs bs h]
theorem cb_anti : ∀ (a b : List UInt8), Lib.compareBytes b a = - Lib.compareBytes a b
  | [], [] => rfl
  | [], _ :: _ => rfl
  | _ :: _, [] => rfl
  | a :: xs, b :: bs => by
    unfold Lib.compareBytes
    by_cases h1 : a < b
    · simp [h1, UInt8.lt_asymm h1]
    · by_cases h2 : b < a
      · simp [h1, h2]
      · simp [h1, h2]; exact cb_anti xs bs
theorem cb_trans : ∀ (a b c : List UInt8), Lib.compareBytes a b ≤ 0 → Lib.compareBytes b c ≤ 0 → Lib.compareBytes a c ≤ 0
  | [], _, [], _, _ => Int.le_refl _
  | [], _, _ :: _, _, _ => by unfold Lib.compareBytes; decide
  | _ :: _, [], _, h, _ => by unfold Lib.compareBytes at h; exact absurd h (by decide)
  | _ :: _, _ :: _, [], _, h => by unfold Lib.compareBytes at h; exact absurd h (by decide)
  | a :: xs, b :: bs, c :: cs, h1, h2 => by
    unfold Lib.compareBytes at h1 h2 ⊢
    by_cases ab : a < b
    · by_cases bc : b < c
      · rw [if_pos (UInt8.lt_trans ab bc)]; decide
      · rw [if_neg bc] at h2
        by_cases cb : c < b
        · rw [if_pos cb] at h2; exact absurd h2 (by decide)
        · have : b = c := UInt8.le_antisymm (UInt8.not_lt.1 cb) (UInt8.not_lt.1 bc)
          subst this; rw [if_pos ab]; decide
    · rw [if_neg ab] at h1
      by_cases ba : b < a
      · rw [if_pos ba] at h1; exact absurd h1 (by decide)
      · have : a = b := UInt8.le_antisymm (UInt8.not_lt.1 ba) (UInt8.not_lt.1 ab)
        subst this
        rw [if_neg ab] at h1
        by_cases ac : a < c
        · rw [if_pos ac]; decide
        · rw [if_neg ac] at h2 ⊢
          by_cases ca : c < a
          · rw [if_pos ca] at h2; exact absurd h2 (by decide)
          · rw [if_neg ca] at h2 ⊢
            exact cb_trans xs bs cs h1 h2
/-- A comparison that is a total order, 0 for equal ones alone. -/
structure Ord3 {α : Type} (c : α → α → Int) : Prop where
  refl : ∀ a, c a a = 0
  eq : ∀ a b, c a b = 0 → a = b
  anti : ∀ a b, c b a = - c a b
  trans : ∀ a b d, c a b ≤ 0 → c b d ≤ 0 → c a d ≤ 0
theorem ba_ext {a b : ByteArray} (h : a.data.toList = b.data.toList) : a = b := by
  obtain ⟨⟨x⟩⟩ := a; obtain ⟨⟨y⟩⟩ := b; simp at h; subst h; rfl
theorem cmpB_ord : Ord3 cmpB := ⟨fun a => cb_refl _, fun a b h => ba_ext (cb_eq _ _ h), fun a b => cb_anti _ _, fun a b d h1 h2 => cb_trans _ _ _ h1 h2⟩
/-- First by the one, then by the other. -/
def lexC {α β : Type} (c : α → α → Int) (e : β → β → Int) (x y : α × β) : Int := orL [c x.1 y.1, e x.2 y.2]
theorem orL2 (x y : Int) : orL [x, y] = if x = 0 then y else x := by
  simp only [orL]
  by_cases hx : x = 0
  · rw [if_pos hx, if_pos hx]; split <;> simp_all
  · rw [if_neg hx, if_neg hx]
theorem Ord3.lt_of {α : Type} {c : α → α → Int} (h : Ord3 c) {a b d : α} (h1 : c a b ≤ 0) (h2 : c b d ≤ 0) (h3 : c a d = 0) : c a b = 0 ∧ c b d = 0 := by
  obtain rfl := h.eq _ _ h3
  have := h.anti a b
  constructor <;> omega
theorem Ord3.lex {α β : Type} {c : α → α → Int} {e : β → β → Int} (hc : Ord3 c) (he : Ord3 e) : Ord3 (lexC c e) := by
  refine ⟨fun a => ?_, fun a b h => ?_, fun a b => ?_, fun a b d h1 h2 => ?_⟩
  · unfold lexC; rw [orL2, hc.refl, if_pos rfl, he.refl]
  · unfold lexC at h
    rw [orL2] at h
    by_cases h0 : c a.1 b.1 = 0
    · rw [if_pos h0] at h
      exact Prod.ext (hc.eq _ _ h0) (he.eq _ _ h)
    · rw [if_neg h0] at h; exact absurd h h0
  · unfold lexC
    rw [orL2, orL2, hc.anti a.1 b.1, he.anti a.2 b.2]
    by_cases h0 : c a.1 b.1 = 0
    · rw [if_pos h0, if_pos (by omega)]
    · rw [if_neg h0, if_neg (by omega)]
  · unfold lexC at h1 h2 ⊢
    rw [orL2] at h1 h2 ⊢
    have l1 : c a.1 b.1 ≤ 0 := by split at h1 <;> omega
    have l2 : c b.1 d.1 ≤ 0 := by split at h2 <;> omega
    have l3 := hc.trans _ _ _ l1 l2
    by_cases h0 : c a.1 d.1 = 0
    · obtain ⟨e1, e2⟩ := hc.lt_of l1 l2 h0
      rw [if_pos e1] at h1
      rw [if_pos e2] at h2
      rw [if_pos h0]
      exact he.trans _ _ _ h1 h2
    · rw [if_neg h0]; exact l3
abbrev Str3 := (ByteArray × ByteArray) × ByteArray
def cmp3 : Str3 → Str3 → Int := lexC (lexC cmpB cmpB) cmpB
theorem cmp3_ord : Ord3 cmp3 := (cmpB_ord.lex cmpB_ord).lex cmpB_ord
/-! ### the reference's order -/
attribute [local irreducible] V N X VO Par StepOK Has Ret RetL Src
end Go.V
/- Sorted lists of what has a total order: plain laws. -/
namespace Go.V
open Go.Proofs Go.RowKit
section
variable {α : Type} {c : α → α → Int}
theorem Ord3.irr (h : Ord3 c) (a : α) : ¬ c a a < 0 := by rw [h.refl]; decide
theorem Ord3.asym (h : Ord3 c) {a b : α} (h1 : c a b < 0) : ¬ c b a < 0 := by have := h.anti a b; omega
theorem Ord3.tr (h : Ord3 c) {a b d : α} (h1 : c a b < 0) (h2 : c b d < 0) : c a d < 0 := by
  have h3 := h.trans a b d (by omega) (by omega)
  by_cases h4 : c a d = 0
  · have := h.lt_of (a := a) (b := b) (d := d) (by omega) (by omega) h4; omega
  · omega
theorem Ord3.ne (h : Ord3 c) {a b : α} (h1 : c a b < 0) : a ≠ b := fun e => by subst e; exact h.irr a h1
theorem Ord3.tri (h : Ord3 c) {a b : α} (h1 : ¬ c a b < 0) (h2 : a ≠ b) : c b a < 0 := by
  have := h.anti a b
  have h3 : c a b ≠ 0 := fun e => h2 (h.eq _ _ e)
  omega
/-- Strictly sorted. -/
def Sst (c : α → α → Int) (l : List α) : Prop := l.Pairwise fun x y => c x y < 0
theorem Sst.nil : Sst c [] := List.Pairwise.nil
theorem Sst.nodup (h : Ord3 c) {l : List α} (hs : Sst c l) : l.Nodup := hs.imp fun h1 => h.ne h1
theorem sst_ext (h : Ord3 c) : ∀ {l m : List α}, Sst c l → Sst c m → (∀ z, z ∈ l ↔ z ∈ m) → l = m
  | [], [], _, _, _ => rfl
  | [], y :: m, _, _, e => by have := (e y).2 (List.mem_cons_self ..); cases this
  | y :: l, [], _, _, e => by have := (e y).1 (List.mem_cons_self ..); cases this
  | y :: l, x :: m, hl, hm, e => by
    have h1 := List.pairwise_cons.1 hl
    have h2 := List.pairwise_cons.1 hm
    have exy : y = x := by
      rcases List.mem_cons.1 ((e y).1 (List.mem_cons_self ..)) with e1 | e1
      · exact e1
      · rcases List.mem_cons.1 ((e x).2 (List.mem_cons_self ..)) with e2 | e2
        · exact e2.symm
        · exact absurd (h1.1 x e2) (h.asym (h2.1 y e1))
    subst exy
    congr 1
    refine sst_ext h h1.2 h2.2 fun z => ?_
    constructor
    · intro hz
      rcases List.mem_cons.1 ((e z).1 (List.mem_cons_of_mem _ hz)) with e1 | e1
      · subst e1; exact absurd (h1.1 _ hz) (h.irr _)
      · exact e1
    · intro hz
      rcases List.mem_cons.1 ((e z).2 (List.mem_cons_of_mem _ hz)) with e1 | e1
      · subst e1; exact absurd (h2.1 _ hz) (h.irr _)
      · exact e1
/-- Put in ahead of the first greater one. -/
def insS (c : α → α → Int) (t : α) : List α → List α
  | [] => [t]
  | y :: l => if c t y < 0 then t :: y :: l else y :: insS c t l
theorem mem_insS {t z : α} : ∀ {l : List α}, z ∈ insS c t l ↔ z = t ∨ z ∈ l
  | [] => by simp [insS]
  | y :: l => by
    simp only [insS]
    split
    · simp
    · rw [List.mem_cons, mem_insS, List.mem_cons]
      constructor
      · rintro (e | e | e)
        · exact .inr (.inl e)
        · exact .inl e
        · exact .inr (.inr e)
      · rintro (e | e | e)
        · exact .inr (.inl e)
        · exact .inl e
        · exact .inr (.inr e)
theorem insS_length (t : α) : ∀ (l : List α), (insS c t l).length = l.length + 1
  | [] => rfl
  | y :: l => by
    simp only [insS]
    split
    · rfl
    · simp only [List.length_cons, insS_length t l]
theorem sst_insS (h : Ord3 c) {t : α} : ∀ {l : List α}, Sst c l → t ∉ l → Sst c (insS c t l)
  | [], _, _ => List.pairwise_singleton ..
  | y :: l, hs, ht => by
    have h1 := List.pairwise_cons.1 hs
    simp only [insS]
    split
    · rename_i hlt
      refine List.pairwise_cons.2 ⟨fun z hz => ?_, hs⟩
      rcases List.mem_cons.1 hz with rfl | hz
      · exact hlt
      · exact h.tr hlt (h1.1 z hz)
    · rename_i hlt
      refine List.pairwise_cons.2 ⟨fun z hz => ?_, sst_insS h h1.2 fun e => ht (List.mem_cons_of_mem _ e)⟩
      rcases mem_insS.1 hz with rfl | hz
      · exact h.tri hlt fun e => ht (by rw [e]; exact List.mem_cons_self ..)
      · exact h1.1 z hz
/-- Two sorted lists are merged; f tells which ones are taken. -/
def mrgS (c : α → α → Int) (f : Bool → Bool → Bool) : Nat → List α → List α → List α
  | 0, _, _ => []
  | n + 1, [], [] => []
  | n + 1, a :: l, [] => (if f true false = true then [a] else []) ++ mrgS c f n l []
  | n + 1, [], b :: m => (if f false true = true then [b] else []) ++ mrgS c f n [] m
  | n + 1, a :: l, b :: m =>
    if c a b < 0 then (if f true false = true then [a] else []) ++ mrgS c f n l (b :: m)
    else if c a b > 0 then (if f false true = true then [b] else []) ++ mrgS c f n (a :: l) m
    else (if f true true = true then [a] else []) ++ mrgS c f n l m
/-- Which ones are taken. -/
def Tk (f : Bool → Bool → Bool) (l m : List α) (z : α) : Prop := (z ∈ l ∧ z ∉ m ∧ f true false = true) ∨ (z ∉ l ∧ z ∈ m ∧ f false true = true) ∨ (z ∈ l ∧ z ∈ m ∧ f true true = true)
theorem mem_mrgS (h : Ord3 c) (f : Bool → Bool → Bool) {z : α} : ∀ {n : Nat} {l m : List α}, l.length + m.length ≤ n → Sst c l → Sst c m → (z ∈ mrgS c f n l m ↔ Tk f l m z)
  | 0, l, m, hn, _, _ => by
    have h1 : l = [] := List.eq_nil_of_length_eq_zero (by omega)
    have h2 : m = [] := List.eq_nil_of_length_eq_zero (by omega)
    subst h1 h2
    simp [mrgS, Tk]
  | n + 1, [], [], _, _, _ => by simp [mrgS, Tk]
  | n + 1, a :: l, [], hn, hl, hm => by
    have h1 := List.pairwise_cons.1 hl
    have ih := mem_mrgS h f (z := z) (n := n) (l := l) (m := []) (by simp only [List.length_cons, List.length_nil] at hn ⊢; omega) h1.2 hm
    simp only [mrgS, List.mem_append, ih, Tk, List.mem_cons, List.not_mem_nil, not_false_eq_true, true_and, false_and, and_false, or_false]
    by_cases hf : f true false = true
    · simp [hf]
    · simp [hf]
  | n + 1, [], b :: m, hn, hl, hm => by
    have h1 := List.pairwise_cons.1 hm
    have ih := mem_mrgS h f (z := z) (n := n) (l := []) (m := m) (by simp only [List.length_cons, List.length_nil] at hn ⊢; omega) hl h1.2
    simp only [mrgS, List.mem_append, ih, Tk, List.mem_cons, List.not_mem_nil, not_false_eq_true, true_and, false_and, and_false, or_false, false_or]
    by_cases hf : f false true = true
    · simp [hf]
    · simp [hf]
  | n + 1, a :: l, b :: m, hn, hl, hm => by
    have h1 := List.pairwise_cons.1 hl
    have h2 := List.pairwise_cons.1 hm
    have ha : a ∉ l := fun e => h.irr a (h1.1 a e)
    have hb : b ∉ m := fun e => h.irr b (h2.1 b e)
    simp only [List.length_cons] at hn
    simp only [mrgS]
    by_cases h3 : c a b < 0
    · have ih := mem_mrgS h f (z := z) (n := n) (l := l) (m := b :: m) (by simp only [List.length_cons]; omega) h1.2 hm
      have hab : a ∉ b :: m := fun e => by
        rcases List.mem_cons.1 e with e | e
        · exact h.ne h3 e
        · exact h.irr a (h.tr h3 (h2.1 a e))
      rw [if_pos h3, List.mem_append, ih]
      unfold Tk
      by_cases hz : z = a
      · subst hz
        by_cases hf : f true false = true <;> simp [hf, ha, hab]
      · have e1 : z ∈ a :: l ↔ z ∈ l := by rw [List.mem_cons]; exact or_iff_right hz
        rw [e1]
        by_cases hf : f true false = true <;> simp [hf, hz]
    · rw [if_neg h3]
      by_cases h4 : c a b > 0
      · have h5 : c b a < 0 := by have := h.anti a b; omega
        have ih := mem_mrgS h f (z := z) (n := n) (l := a :: l) (m := m) (by simp only [List.length_cons]; omega) hl h2.2
        have hba : b ∉ a :: l := fun e => by
          rcases List.mem_cons.1 e with e | e
          · exact h.ne h5 e
          · exact h.irr b (h.tr h5 (h1.1 b e))
        rw [if_pos h4, List.mem_append, ih]
        unfold Tk
        by_cases hz : z = b
        · subst hz
          by_cases hf : f false true = true <;> simp [hf, hb, hba]
        · have e1 : z ∈ b :: m ↔ z ∈ m := by rw [List.mem_cons]; exact or_iff_right hz
          rw [e1]
          by_cases hf : f false true = true <;> simp [hf, hz]
      · have e : a = b := h.eq _ _ (by omega)
        subst e
        have ih := mem_mrgS h f (z := z) (n := n) (l := l) (m := m) (by omega) h1.2 h2.2
        rw [if_neg h4, List.mem_append, ih]
        unfold Tk
        by_cases hz : z = a
        · subst hz
          by_cases hf : f true true = true <;> simp [hf, ha, hb]
        · have e1 : z ∈ a :: l ↔ z ∈ l := by rw [List.mem_cons]; exact or_iff_right hz
          have e2 : z ∈ a :: m ↔ z ∈ m := by rw [List.mem_cons]; exact or_iff_right hz
          rw [e1, e2]
          by_cases hf : f true true = true <;> simp [hf, hz]
theorem Tk.or {f : Bool → Bool → Bool} {l m : List α} {z : α} (h : Tk f l m z) : z ∈ l ∨ z ∈ m := by
  rcases h with ⟨h, _⟩ | ⟨_, h, _⟩ | ⟨h, _⟩
  · exact .inl h
  · exact .inr h
  · exact .inl h
theorem sst_one (p : Bool) (a : α) : Sst c (if p = true then [a] else []) := by
  split
  · exact List.pairwise_singleton ..
  · exact Sst.nil
theorem sst_head {p : Bool} {a : α} {r : List α} (hr : Sst c r) (hlt : ∀ z ∈ r, c a z < 0) : Sst c ((if p = true then [a] else []) ++ r) := by
  refine List.pairwise_append.2 ⟨sst_one p a, hr, fun x hx z hz => ?_⟩
  split at hx
  · rw [List.mem_singleton] at hx; subst hx; exact hlt z hz
  · cases hx
theorem sst_mrgS (h : Ord3 c) (f : Bool → Bool → Bool) : ∀ {n : Nat} {l m : List α}, l.length + m.length ≤ n → Sst c l → Sst c m → Sst c (mrgS c f n l m)
  | 0, _, _, _, _, _ => Sst.nil
  | n + 1, [], [], _, _, _ => Sst.nil
  | n + 1, a :: l, [], hn, hl, hm => by
    have h1 := List.pairwise_cons.1 hl
    have hn' : l.length + ([] : List α).length ≤ n := by simp only [List.length_cons, List.length_nil] at hn ⊢; omega
    refine sst_head (sst_mrgS h f hn' h1.2 hm) fun z hz => ?_
    rcases ((mem_mrgS h f hn' h1.2 hm).1 hz).or with e | e
    · exact h1.1 z e
    · cases e
  | n + 1, [], b :: m, hn, hl, hm => by
    have h1 := List.pairwise_cons.1 hm
    have hn' : ([] : List α).length + m.length ≤ n := by simp only [List.length_cons, List.length_nil] at hn ⊢; omega
    refine sst_head (sst_mrgS h f hn' hl h1.2) fun z hz => ?_
    rcases ((mem_mrgS h f hn' hl h1.2).1 hz).or with e | e
    · cases e
    · exact h1.1 z e
  | n + 1, a :: l, b :: m, hn, hl, hm => by
    have h1 := List.pairwise_cons.1 hl
    have h2 := List.pairwise_cons.1 hm
    simp only [List.length_cons] at hn
    simp only [mrgS]
    split
    · rename_i h3
      have hn' : l.length + (b :: m).length ≤ n := by simp only [List.length_cons]; omega
      refine sst_head (sst_mrgS h f hn' h1.2 hm) fun z hz => ?_
      rcases ((mem_mrgS h f hn' h1.2 hm).1 hz).or with e | e
      · exact h1.1 z e
      · rcases List.mem_cons.1 e with e | e
        · rw [e]; exact h3
        · exact h.tr h3 (h2.1 z e)
    · split
      · rename_i h4
        have h5 : c b a < 0 := by have := h.anti a b; omega
        have hn' : (a :: l).length + m.length ≤ n := by simp only [List.length_cons]; omega
        refine sst_head (sst_mrgS h f hn' hl h2.2) fun z hz => ?_
        rcases ((mem_mrgS h f hn' hl h2.2).1 hz).or with e | e
        · rcases List.mem_cons.1 e with e | e
          · rw [e]; exact h5
          · exact h.tr h5 (h1.1 z e)
        · exact h2.1 z e
      · have e0 : a = b := h.eq _ _ (by omega)
        have hn' : l.length + m.length ≤ n := by omega
        refine sst_head (sst_mrgS h f hn' h1.2 h2.2) fun z hz => ?_
        rcases ((mem_mrgS h f hn' h1.2 h2.2).1 hz).or with e | e
        · exact h1.1 z e
        · rw [e0]; exact h2.1 z e
variable [DecidableEq α]
/-- The sorted list of the members of a list, some having been taken. -/
def sortS (c : α → α → Int) : List α → List α → List α
  | out, [] => out
  | out, t :: r => sortS c (if t ∈ out then out else insS c t out) r
theorem sst_sortS (h : Ord3 c) : ∀ {l out : List α}, Sst c out → Sst c (sortS c out l)
  | [], _, hs => hs
  | t :: r, out, hs => by
    simp only [sortS]
    refine sst_sortS h ?_
    split
    · exact hs
    · rename_i ht; exact sst_insS h hs ht
theorem mem_sortS {z : α} : ∀ {l out : List α}, z ∈ sortS c out l ↔ z ∈ out ∨ z ∈ l
  | [], _ => by simp [sortS]
  | t :: r, out => by
    simp only [sortS]
    rw [mem_sortS]
    split
    · rename_i ht
      constructor
      · rintro (e | e)
        · exact .inl e
        · exact .inr (List.mem_cons_of_mem _ e)
      · rintro (e | e)
        · exact .inl e
        · rcases List.mem_cons.1 e with rfl | e
          · exact .inl ht
          · exact .inr e
    · rw [mem_insS, List.mem_cons]
      constructor
      · rintro ((e | e) | e)
        · exact .inr (.inl e)
        · exact .inl e
        · exact .inr (.inr e)
      · rintro (e | e | e)
        · exact .inl (.inr e)
        · exact .inl (.inl e)
        · exact .inr e
theorem sortS_length : ∀ (l out : List α), (sortS c out l).length ≤ out.length + l.length
  | [], _ => Nat.le_refl _
  | t :: r, out => by
    have := sortS_length r (if t ∈ out then out else insS c t out)
    simp only [sortS]
    refine Nat.le_trans this ?_
    split
    · simp only [List.length_cons]; omega
    · rw [insS_length]; simp only [List.length_cons]; omega
theorem sortS_self (h : Ord3 c) {l : List α} (hs : Sst c l) : sortS c [] l = l := sst_ext h (sst_sortS h Sst.nil) hs fun z => by rw [mem_sortS]; simp
end
end Go.V
/- The walks of names: texts are read. -/
namespace Go.V
open Go.Proofs Go.RowKit
attribute [local irreducible] V N X VO Par StepOK Has Ret RetL Src
/-- The library's variable that its searches look at. -/
def GlobM (B : Heap) : Prop := ∃ m cs t fr, B 0 = some (.cells cs t fr) ∧ cs[0]? = some (.int .i64 m)
theorem GlobM.mono {B H : Heap} (h : GlobM B) (hl : B.Le H) : GlobM H := let ⟨m, cs, t, fr, hb, hc⟩ := h; ⟨m, cs, t, fr, hl _ _ hb, hc⟩
def cutA (s : ByteArray) (c : UInt8) : ByteArray × ByteArray × Bool :=
  (⟨(Lib.cut s.data.toList [c]).1.toArray⟩, ⟨(Lib.cut s.data.toList [c]).2.1.toArray⟩, (Lib.cut s.data.toList [c]).2.2)
def hasA (s : ByteArray) (c : UInt8) : Bool := decide (0 ≤ Lib.indexByte s.data.toList c)
def cntA (s : ByteArray) (c : UInt8) : Nat := Lib.countByte s.data.toList c
def partsA (s : ByteArray) : Option (ByteArray × ByteArray × ByteArray × Bool) :=
  if ((cutA s 58).2.2 && !hasA (cutA s 58).1 35 && !hasA (cutA s 58).2.1 58) = true ∧ cntA (cutA s 58).2.1 35 ≤ 1 then
    some ((cutA s 58).1, (cutA (cutA s 58).2.1 35).1, (cutA (cutA s 58).2.1 35).2.1, (cutA (cutA s 58).2.1 35).2.2)
  else none
end Go.V
/- The walks of names: objects, goals and subjects are read. -/
namespace Go.V
open Go.Proofs Go.RowKit
attribute [local irreducible] V N X VO Par StepOK Has Ret RetL Src
abbrev sNil : ByteArray := ⟨#[]⟩
def pgA (s : ByteArray) : ByteArray × ByteArray × ByteArray × Int :=
  match partsA s with
  | none => (sNil, sNil, sNil, 5)
  | some (a, b, c, d) => if d = false then (sNil, sNil, sNil, 5) else if allE [a, b, c] = 0 then (a, b, c, 0) else (sNil, sNil, sNil, allE [a, b, c])
def psA (s : ByteArray) : ByteArray × ByteArray × ByteArray × Int :=
  match partsA s with
  | none => (sNil, sNil, sNil, 5)
  | some (a, b, c, d) => if allE [a, b] = 0 then (if d = true then (if chk c = 0 then (a, b, c, 0) else (sNil, sNil, sNil, chk c)) else (a, b, c, 0)) else (sNil, sNil, sNil, allE [a, b])
end Go.V
/- Tuples (chapter 2): plain laws. -/
namespace Go.V.L2
open Go.Proofs Go.RowKit Go.V
/-- A tuple: its goal, and its subject. -/
abbrev U := Str3 × Str3
def ucs (t : U) : List Value := [.string t.1.1.1, .string t.1.1.2, .string t.1.2, .string t.2.1.1, .string t.2.1.2, .string t.2.2]
theorem ucs_len (t : U) : (ucs t).length = 6 := rfl
def cmpT : U → U → Int := lexC cmp3 cmp3
theorem cmpT_ord : Ord3 cmpT := cmp3_ord.lex cmp3_ord
instance memU (t : U) (l : List U) : Decidable (t ∈ l) := decidable_of_iff (l.any (fun x => decide (x = t)) = true) (by simp)
/-- The error of a tuple. -/
def tE (t : U) : Int := if allE [t.1.1.1, t.1.1.2, t.1.2] = 0 then subjE t.2.1.1 t.2.1.2 t.2.2 else allE [t.1.1.1, t.1.1.2, t.1.2]
/-- Strings of a tuple are not too long. -/
def TZ (t : U) : Prop := (t.1.1.1.size ≤ 1099511627776 ∧ t.1.1.2.size ≤ 1099511627776 ∧ t.1.2.size ≤ 1099511627776) ∧ t.2.1.1.size ≤ 1099511627776 ∧ t.2.1.2.size ≤ 1099511627776 ∧ t.2.2.size ≤ 1099511627776
instance (t : U) : Decidable (TZ t) := inferInstanceAs (Decidable (_ ∧ _))
theorem sst_iff {α : Type} {c : α → α → Int} (h : Ord3 c) : ∀ {l : List α}, Sst c l ↔ ∀ (j : Nat) (a b : α), l[j]? = some a → l[j + 1]? = some b → c a b < 0
  | [] => ⟨fun _ j a b h1 _ => by simp at h1, fun _ => Sst.nil⟩
  | [x] => ⟨fun _ j a b _ h2 => by simp at h2, fun _ => List.pairwise_singleton ..⟩
  | x :: y :: l => by
    constructor
    · intro hs j a b h1 h2
      have hp := List.pairwise_cons.1 hs
      cases j with
      | zero => simp at h1 h2; subst h1 h2; exact hp.1 _ (List.mem_cons_self ..)
      | succ j => exact (sst_iff h).1 hp.2 j a b (by simpa using h1) (by simpa using h2)
    · intro hj
      have hl : Sst c (y :: l) := (sst_iff h).2 fun j a b h1 h2 => hj (j + 1) a b (by simpa using h1) (by simpa using h2)
      have hxy : c x y < 0 := hj 0 x y rfl rfl
      refine List.pairwise_cons.2 ⟨fun z hz => ?_, hl⟩
      rcases List.mem_cons.1 hz with rfl | hz
      · exact hxy
      · exact h.tr hxy ((List.pairwise_cons.1 hl).1 z hz)
instance {α : Type} (c : α → α → Int) (l : List α) : Decidable (Sst c l) := inferInstanceAs (Decidable (l.Pairwise _))
def isB (l : List U) : Bool := decide (Sst cmpT l)
theorem isB_no {l : List U} {j : Nat} {a b : U} (h1 : l[j]? = some a) (h2 : l[j + 1]? = some b) (h : ¬ cmpT a b < 0) : isB l = false := decide_eq_false fun hs => h ((sst_iff cmpT_ord).1 hs j a b h1 h2)
theorem isB_yes {l : List U} (h : ∀ j a b, l[j]? = some a → l[j + 1]? = some b → cmpT a b < 0) : isB l = true := decide_eq_true ((sst_iff cmpT_ord).2 h)
/-- Which tuple a text is. -/
def ptA (s : ByteArray) : U × Int :=
  if (cutA s 64).2.2 = true ∧ hasA (cutA s 64).2.1 64 = false then
    (if (pgA (cutA s 64).1).2.2.2 = 0 then
      (if (psA (cutA s 64).2.1).2.2.2 = 0 then
        (((((pgA (cutA s 64).1).1, (pgA (cutA s 64).1).2.1), (pgA (cutA s 64).1).2.2.1), (((psA (cutA s 64).2.1).1, (psA (cutA s 64).2.1).2.1), (psA (cutA s 64).2.1).2.2.1)), 0)
      else ((((⟨#[]⟩, ⟨#[]⟩), ⟨#[]⟩), ((⟨#[]⟩, ⟨#[]⟩), ⟨#[]⟩)), (psA (cutA s 64).2.1).2.2.2))
    else ((((⟨#[]⟩, ⟨#[]⟩), ⟨#[]⟩), ((⟨#[]⟩, ⟨#[]⟩), ⟨#[]⟩)), (pgA (cutA s 64).1).2.2.2))
  else ((((⟨#[]⟩, ⟨#[]⟩), ⟨#[]⟩), ((⟨#[]⟩, ⟨#[]⟩), ⟨#[]⟩)), 5)
end Go.V.L2
/- The kit's nineteenth floor: slices that are made and written to; results that are owned. -/
namespace Go.V
open Go.RowKit
/-- The cells of k zeros. -/
def zsL (P : Program) (e : TypeId) (k : Nat) : List Value := match P.info? e with
  | some i => match i.zero with
    | some z => (madeCells z.cells k).toList
    | none => []
  | none => []
theorem zsL_length {P : Program} {e : TypeId} {s by_ k : Nat} (h : elI P e = some (s, by_)) : (zsL P e k).length = k := by
  obtain ⟨i, z, hi, hz, _, _, _, _⟩ := elI_spec h
  unfold zsL
  rw [hi]; dsimp only; rw [hz]
  simp [size_madeCells]
/-- An owned slice without room behind it. -/
def SlE (e : TypeId) (s n : Nat) (xs : List Value) : Res where
  P x _ u C := xs.length = n * s ∧ ((n = 0 ∧ x = .slice none 0 0 ∧ ∀ k, ¬ C k) ∨ ∃ b, x = .slice (some ⟨b, 0, none⟩) n n ∧ u.heap[b]? = some (.cells xs.toArray e) ∧ n ≤ maxLen ∧ ∀ k, C k ↔ k = b)
  st := fun ⟨hl, h⟩ _ _ _ hk => ⟨hl, by
    rcases h with h | ⟨b, h1, h2, h3, h4⟩
    · exact .inl h
    · exact .inr ⟨b, h1, (hk b ((h4 b).2 rfl)).trans h2, h3, h4⟩⟩
section
variable {P : Program} {F : Fr} {B : Heap} {O : Boxes} {n : Nat} {ops : Array Oper} {κ : Kap} {d : Nat} {ty : TypeId} {pos : String} {aft : Array Edge} {g : Option (Nat × Bool)} {a : Act} {u : World} {H : Heap} {fp : Nat → Nat → Prop} {os : List Oper} {Q : Exit → Act → World → Prop} {ex : Exs}
/-- 'make([]T, c)'. -/
theorem ok_makeN (L : Tabs P) {t e : TypeId} {x y : Operand} {kl kc : IntKind} {s by_ : Nat} (c : Nat) {p q : Int} (hn : Nat.blt d n = true) (hg : gK ops κ ⟨some d, .makeSlice t x y, ty, pos, aft, g⟩ = some true) (ht : L.sl t = some e) (he : elI P e = some (s, by_))
    (hx : evK κ x = some (.int kl q)) (hy : evK κ y = some (.int kc p)) (hq : q = c) (hp : p = c) (hb : by_ * c ≤ 281474976710656) (hc : c ≤ maxLen) : StepOK P F B n ops O κ ⟨some d, .makeSlice t x y, ty, pos, aft, g⟩ d (.own (SlE e s c (zsL P e (c * s)))) := by
  rintro κ' a u hl ⟨H, fp, hh⟩
  unfold After
  rw [if_pos (wanted_gK hh hl hg)]
  have en := hh.env hl
  have hzl := zsL_length (k := c * s) he
  obtain ⟨i, z, hi, hz, hs1, hs2, hs3, hs4⟩ := elI_spec he
  have h1 := en.is_ x _ (by simp [Op.operands]) hx
  have h2 := en.is_ y _ (by simp [Op.operands]) hy
  subst hp
  subst hq
  have hb' : (i.bytes : Int) * (c : Int) ≤ 281474976710656 := by
    have h : ((by_ * c : Nat) : Int) ≤ 281474976710656 := by omega
    rw [hs2]; rwa [Int.natCast_mul] at h
  have h63 : (c : Int) ≤ 9223372036854775807 := by simp [maxLen] at hc; omega
  have hr := run_make (P := P) u t e i z (Tabs.sl_spec ht) hi hz kl kc c c (by omega) (by omega) hb' h63
  simp only [Int.toNat_natCast] at hr
  have hrun : (execOp a.eval ⟨some d, .makeSlice t x y, ty, pos, aft, g⟩).run P u = .ok (.value (.slice (some ⟨u.heap.size, 0, none⟩) c c)) (u.alloc (.cells (madeCells z.cells (c * i.size)) e)) := by
    simp only [execOp, h1, h2, Sem.run_bind, hr, Result.andThen_ok]; rfl
  rw [hrun]
  simp only [Upon]
  have hzs : zsL P e (c * s) = (madeCells z.cells (c * i.size)).toList := by
    unfold zsL
    rw [hi]; dsimp only; rw [hz, hs1]
  have hg2 := hh.grow (Grow.hid hh.sub (.cells (madeCells z.cells (c * i.size)) e))
  refine ⟨H, _, hg2.putR (C := fun k => k = u.heap.size) (by simp [Act.put]) rfl (fun t ht => eval_put_other ht) ⟨hzl, .inr ⟨u.heap.size, eval_put_same (by rw [hh.size]; exact blt_lt hn), by rw [heap_push_same, hzs], hc, fun _ => Iff.rfl⟩⟩ (fun k hk => ?_) fun t r' _ ht k hf hk => ?_⟩
  · subst hk
    exact ⟨size_of_heap (heap_push_same u _), none_of_ge hh.sub (Nat.le_refl _), .inl hh.keep.size, fun y hy e => by have := size_of_heap (hh.boxes y hy).1; omega⟩
  · have := ((hh.slot t _ ht).2 k hf).1
    omega
/-- The block of an owned slice gets a number. -/
theorem Has.boxE {t : Nat} {e : TypeId} {s m : Nat} {xs : List Value} (hm : 0 < m) (hk : κ t = some (.own (SlE e s m xs))) (h : Has F B O n κ a u) :
    ∃ b, (xs.length = m * s ∧ m ≤ maxLen) ∧ Has F B (bx b xs e :: O) n (upd κ t (.is (.slice (some ⟨b, 0, none⟩) m m))) a u := by
  obtain ⟨H, fp, h⟩ := h
  obtain ⟨⟨hl, hv⟩, hM⟩ := h.slot t _ hk
  rcases hv with ⟨h0, _, _⟩ | ⟨b, hv, hb, h4, hC⟩
  · omega
  · have := h.toBox hk hb ((hC b).2 rfl)
    rw [hv] at this
    exact ⟨b, ⟨hl, h4⟩, H, fp, this⟩
theorem Has.unboxE {t b m : Nat} {e : TypeId} {s : Nat} {xs : List Value} {O1 O2 : Boxes} (hO : O = O1 ++ bx b xs e :: O2) (hd : F.ds = []) (hk : κ t = some (.is (.slice (some ⟨b, 0, none⟩) m m))) (hl : xs.length = m * s) (h4 : m ≤ maxLen)
    (h : Has F B O n κ a u) : Has F B (O1 ++ O2) n (upd κ t (.own (SlE e s m xs))) a u := by
  obtain ⟨H, fp, h⟩ := h
  subst hO
  have hb := (h.boxes (bx b xs e) (by simp)).1
  exact ⟨H, _, h.ofBox (by rw [hd]; simp) ⟨hl, .inr ⟨b, h.slot t _ hk, hb, h4, fun _ => Iff.rfl⟩⟩⟩
theorem V_boxE (t : Nat) {e : TypeId} {s m : Nat} {xs : List Value} {c : Code} (hm : 0 < m) (hk : κ t = some (.own (SlE e s m xs)))
    (h : ∀ b, (xs.length = m * s ∧ m ≤ maxLen) → V P F B n (bx b xs e :: O) (upd κ t (.is (.slice (some ⟨b, 0, none⟩) m m))) c Q) : V P F B n O κ c Q := fun a u hh =>
  let ⟨b, h1, h'⟩ := hh.boxE hm hk; h b h1 a u h'
theorem V_unboxE (t : Nat) {b m : Nat} {e : TypeId} {s : Nat} {xs : List Value} (O1 : Boxes) {O2 : Boxes} {c : Code} (hO : O = O1 ++ bx b xs e :: O2) (hk : κ t = some (.is (.slice (some ⟨b, 0, none⟩) m m))) (hl : xs.length = m * s) (h4 : m ≤ maxLen)
    (h : V P F B n (O1 ++ O2) (upd κ t (.own (SlE e s m xs))) c Q) (hd : F.ds = [] := by rfl) : V P F B n O κ c Q := fun a u hh => h a u (hh.unboxE hO hd hk hl h4)
/-- An element of a flat list turns. -/
theorem set_at {α : Type} {f : α → List Value} {s : Nat} (hf : ∀ a, (f a).length = s) (l : List α) (k m : Nat) (zs : List Value) (y : α) (hl : l.length = k) (hz : zs.length = (m - k) * s) (hk : k < m) :
    (l.flatMap f ++ zs).take (k * s) ++ (f y ++ (l.flatMap f ++ zs).drop (k * s + s)) = (l ++ [y]).flatMap f ++ zs.drop s := by
  have h1 : (l.flatMap f).length = k * s := by
    subst hl
    clear hz hk
    induction l with
    | nil => simp
    | cons x l ih => rw [List.flatMap_cons, List.length_append, hf, ih, List.length_cons, Nat.add_mul, Nat.one_mul]; omega
  have h2 : s ≤ zs.length := by rw [hz]; exact Nat.le_mul_of_pos_left _ (by omega)
  rw [← h1, List.take_left', List.drop_append]
  · rw [List.drop_eq_nil_of_le (by omega), List.nil_append, show (l.flatMap f).length + s - (l.flatMap f).length = s by omega, List.flatMap_append]
    simp
  · rfl
/-! ### results that are owned -/
/-- What is returned is the caller's. -/
def OwnP (w : World) (r : Res) (v : Value) (H : Heap) (u : World) : Prop := ∃ C : Nat → Prop, r.P v H u C ∧ ∀ k, C k → w.heap.size ≤ k ∧ k < u.heap.size ∧ H k = none
def RetO (P : Program) (f : FuncId) (args : List Value) (w : World) (B : Heap) (r : Res) : Prop := RetL P f args w B noL (OwnP w r)
theorem ok_callO (L : Tabs P) {o : Oper} {d f : Nat} {args : Array Operand} {at_ : Array TypeId} {cap : List Value} {r : Res} {fo : Operand}
    (hop : o.op = .call { callee := .value fo, args := args, argTypes := at_ }) (hd : o.dst = some d) (hn : d < n) (hg : gK ops κ o = some true)
    (hf : evK κ fo = some (.func (.func f) #[] cap.toArray)) (hfn : L.fn f = some ())
    (h : ∀ u H, H.Le (hp u) → B.Le H → Below F.w0.heap.size F.w0 F.w0 → Args κ H args.toList [] (fun vs => RetO P f (vs ++ cap) u H r)) :
    StepOK P F B n ops O κ o d (.own r) := by
  rintro κ' a u hl ⟨H, fp, hh⟩
  unfold After
  rw [if_pos (wanted_gK hh hl hg)]
  have e := hh.env hl
  have hfe : a.eval fo = .func (.func f) #[] cap.toArray := e.is_ fo _ (by simp [hop, Op.operands, Call.operands]) hf
  have hc := Args.use e args.toList [] (fun x hx => by simp [hop, Op.operands, Call.operands] at hx ⊢; exact .inr hx) (h u H e.sub e.base (Below.refl _ _))
  simp only [List.reverse_nil, List.nil_append] at hc
  rw [run_call L hop hfe hfn]
  simp only [Upon]
  refine Calls.mono hc fun e' u' hp => ?_
  obtain ⟨v, rfl, H', g', C, hv, hC⟩ := hp
  have h2 := hh.grow g'
  refine ⟨v, rfl, ?_⟩
  simp only [hd]
  refine ⟨H', _, h2.putR (C := C) (by simp [Act.put]) rfl (fun t ht => eval_put_other ht) (by rw [eval_put_same (by rw [hh.size]; exact hn)]; exact hv) (fun k hk => ?_) fun t r' _ ht k hf hk => ?_⟩
  · obtain ⟨h3, h4, h5⟩ := hC k hk
    exact ⟨h4, h5, .inl (Nat.le_trans hh.keep.size h3), fun y hy e => by have := size_of_heap (hh.boxes y hy).1; omega⟩
  · have h3 := (hC k hk).1
    have := ((hh.slot t _ ht).2 k hf).1
    omega
/-- A return, the one result being owned. -/
theorem V_retO {fn : Func} {B0 : Heap} {t : Nat} {r : Res} (hrs : fn.results = #[.tmp t]) (hQ : ∀ a u, bodyPostM Fence.wide 0 P fn (PostL F.w0 B0 F.L (OwnP F.w0 r)) .ret a u → Q .ret a u) (hs : Since F B0 B) (hk : κ t = some (.own r)) (hL : F.L = noL := by rfl) : V P F B n O κ .ret Q :=
  V_retG hQ hs fun O' a u H fp _ hh => by
    obtain ⟨hown, hM⟩ := hh.slot t _ hk
    refine ⟨a.eval (.tmp t), ?_, fp t, hown, fun k hk => ?_⟩
    · simp [results, hrs, Act.eval]
    · obtain ⟨h1, h2, h3, _⟩ := hM k hk
      refine ⟨?_, h1, h2⟩
      rcases h3 with h3 | h3
      · exact h3
      · have h3' : F.L k := h3
        rw [hL] at h3'; exact h3'.elim
theorem RetO.mono {P : Program} {f : FuncId} {args : List Value} {w : World} {B : Heap} {r r' : Res} (h : RetO P f args w B r) (hi : ∀ v H u C, r.P v H u C → r'.P v H u C) : RetO P f args w B r' :=
  RetL.mono h fun _ _ _ _ ⟨C, h1, h2⟩ => ⟨C, hi _ _ _ _ h1, h2⟩
/-! ### what is owned is lent for a call -/
open Classical in
/-- The visible heap, and what is lent. -/
noncomputable def joinH (H : Heap) (u : World) (C : Nat → Prop) : Heap := fun k => if C k then hp u k else H k
theorem joinH_in {H : Heap} {u : World} {C : Nat → Prop} {k : Nat} (h : C k) : joinH H u C k = hp u k := if_pos h
theorem joinH_out {H : Heap} {u : World} {C : Nat → Prop} {k : Nat} (h : ¬ C k) : joinH H u C k = H k := if_neg h
theorem joinH_sub {H : Heap} {u : World} {C : Nat → Prop} (h : H.Le (hp u)) : (joinH H u C).Le (hp u) := fun k v hv => by
  by_cases hc : C k
  · rwa [joinH_in hc] at hv
  · rw [joinH_out hc] at hv; exact h _ _ hv
theorem joinH_le {H : Heap} {u : World} {C : Nat → Prop} (h : ∀ k, C k → H k = none) : H.Le (joinH H u C) := fun k v hv => by
  by_cases hc : C k
  · rw [h k hc] at hv; cases hv
  · rwa [joinH_out hc]
def Lend (r : Res) (φ : Value → Heap → Prop) : Prop := ∀ x H u C, r.P x H u C → φ x (joinH H u C)
theorem lend_SlE {e : TypeId} {s m : Nat} {xs : List Value} : Lend (SlE e s m xs) (SlV e s xs m true) := fun x H u C ⟨hl, h⟩ => ⟨hl, by
  rcases h with ⟨h0, hv, _⟩ | ⟨b, hv, hb, h3, hC⟩
  · exact .inl ⟨h0, hv⟩
  · exact .inr ⟨b, 0, m, _, _, _, hv, (joinH_in ((hC b).2 rfl)).trans hb, by simp, Nat.le_refl _, fun _ => rfl⟩⟩
theorem RetO.toRet {P : Program} {f : FuncId} {args : List Value} {w : World} {B : Heap} {r : Res} {φ : Value → Heap → Prop} (h : RetO P f args w B r) (hl : Lend r φ) : Ret P f args w B φ :=
  Calls.mono h fun _ u ⟨v, he, H, g, C, h1, h2⟩ => ⟨v, he, joinH H u C, ⟨g.keep, joinH_sub g.sub, fun k x hx => joinH_le (fun k hk => (h2 k hk).2.2) _ _ (g.le _ _ hx), fun k hk hn => (joinH_out fun hc => by have := (h2 k hc).1; omega).trans (g.fresh k hk hn)⟩, hl _ _ _ _ h1⟩
theorem V_enterO {f : FuncId} {fn : Func} {c : Code} {args : List Value} {w : World} {B : Heap} {r : Res} (hf : P.funcs[f]? = some fn) (hb : fn.body = some c) (hn : fn.ntmps = n)
    (hs : args.length ≤ n) (hB : B.Le (hp w)) (h : V P (Fr.pure w) B n [] (argsK 0 args) c (bodyPostM Fence.wide 0 P fn (PostL w B noL (OwnP w r)))) : RetO P f args w B r :=
  calls_of_V hf hb (h _ w ⟨B, fun _ => noL, by subst hn; exact has_enter noL (fun _ h => h.elim) hs hB _⟩)
end
end Go.V
/- The kit's twentieth floor: variables of the call's own that are held beside their slots: their fields' addresses are taken, in whatever order. -/
namespace Go.V
open Go.RowKit
/-- A variable of which the number is known: what it holds. -/
def HeldR (b : Nat) (cs : List Value) (ty : TypeId) : Res where
  P _ _ u C := u.heap[b]? = some (.cells cs.toArray ty) ∧ ∀ k, C k ↔ k = b
  st := fun ⟨h1, h2⟩ _ _ _ hk => ⟨(hk b ((h2 b).2 rfl)).trans h1, h2⟩
section
variable {P : Program} {F : Fr} {B : Heap} {O : Boxes} {n : Nat} {ops : Array Oper} {κ : Kap} {d : Nat} {ty : TypeId} {pos : String} {aft : Array Edge} {g : Option (Nat × Bool)} {a : Act} {u : World} {H : Heap} {fp : Nat → Nat → Prop} {os : List Oper} {Q : Exit → Act → World → Prop} {ex : Exs}
theorem Has.hold {t q : Nat} {cs : List Value} {ty : TypeId} (hk : κ t = some (.own (Cell cs ty))) (h : Has F B O n κ a u) : ∃ b, Has F B O n (upd (upd (upd κ t nilK) q (.own (HeldR b cs ty))) t (.is (.pointer (some ⟨b, 0, none⟩)))) a u := by
  obtain ⟨H, fp, h⟩ := h
  obtain ⟨⟨b, hv, hb, hC⟩, hM⟩ := h.slot t _ hk
  have h2 := h.usePut (d := q) (a' := a) (r' := HeldR b cs ty) (C := fp t) hk ⟨Keep.refl _ _, h.sub, Heap.Le.refl _, fun _ _ _ => rfl⟩ rfl rfl (fun _ _ => rfl) ⟨hb, hC⟩ fun k hk => ⟨.inl hk, (hM k hk).1, (hM k hk).2.1⟩
  have h3 := h2.name t
  rw [hv] at h3
  exact ⟨b, H, _, h3⟩
theorem Has.release {t q b : Nat} {cs : List Value} {ty : TypeId} (hk : κ q = some (.own (HeldR b cs ty))) (ht : κ t = some (.is (.pointer (some ⟨b, 0, none⟩)))) (h : Has F B O n κ a u) : Has F B O n (upd (upd κ q nilK) t (.own (Cell cs ty))) a u := by
  obtain ⟨H, fp, h⟩ := h
  obtain ⟨⟨hb, hC⟩, hM⟩ := h.slot q _ hk
  have hx : a.eval (.tmp t) = .pointer (some ⟨b, 0, none⟩) := h.slot t _ ht
  exact ⟨H, _, h.usePut (d := t) (a' := a) (r' := Cell cs ty) (C := fp q) hk ⟨Keep.refl _ _, h.sub, Heap.Le.refl _, fun _ _ _ => rfl⟩ rfl rfl (fun _ _ => rfl) ⟨b, hx, hb, hC⟩ fun k hk => ⟨.inl hk, (hM k hk).1, (hM k hk).2.1⟩⟩
theorem V_hold (t q : Nat) {cs : List Value} {ty : TypeId} {c : Code} (hk : κ t = some (.own (Cell cs ty))) (h : ∀ b, V P F B n O (upd (upd (upd κ t nilK) q (.own (HeldR b cs ty))) t (.is (.pointer (some ⟨b, 0, none⟩)))) c Q) : V P F B n O κ c Q := fun a u hh => let ⟨b, h'⟩ := hh.hold (q := q) hk; h b a u h'
theorem V_release (t q : Nat) {b : Nat} {cs : List Value} {ty : TypeId} {c : Code} (hk : κ q = some (.own (HeldR b cs ty))) (ht : κ t = some (.is (.pointer (some ⟨b, 0, none⟩)))) (h : V P F B n O (upd (upd κ q nilK) t (.own (Cell cs ty))) c Q) : V P F B n O κ c Q := fun a u hh => h a u (hh.release hk ht)
/-- An operation that reads what a slot beside its operands holds. -/
def StepOKR (P : Program) (F : Fr) (B : Heap) (n : Nat) (ops : Array Oper) (O : Boxes) (κ : Kap) (o : Oper) (q d : Nat) (k : Kn) : Prop :=
  ∀ κ' a u, (∀ t ∈ o.looksAt ops, κ' t = κ t) → κ' q = κ q → Has F B O n κ' a u → After P ops o (fun a' u' => Has F B O n (upd κ' d k) a' u') a u
theorem par_stepR {o : Oper} {q d : Nat} {k : Kn} (hs : StepOKR P F B n ops O κ o q d k) (hd : vd o = some d) (he : (exR ex o).contains q = true) (h : Par P F B n O ops ex (upd κ d k) os Q) : Par P F B n O ops ex κ (o :: os) Q := by
  have hm : q ∈ exR ex o := by simpa using he
  refine ⟨[(d, k)], fun p hp => ?_, fun κ' a u hl hh => hs κ' a u (fun t ht => hl t (List.mem_append_left _ ht)) (hl q (List.mem_append_right _ (List.mem_append_right _ hm))) hh, h⟩
  simp only [List.mem_cons, List.mem_nil_iff, or_false] at hp
  subst hp
  exact List.mem_append_left _ (by simp [hd])
/-- An operation that turns what a slot beside its operands holds. -/
def StepOKS (P : Program) (F : Fr) (B : Heap) (n : Nat) (ops : Array Oper) (O : Boxes) (κ : Kap) (o : Oper) (q : Nat) (k : Kn) : Prop :=
  ∀ κ' a u, (∀ t ∈ o.looksAt ops, κ' t = κ t) → κ' q = κ q → Has F B O n κ' a u → After P ops o (fun a' u' => Has F B O n (upd κ' q k) a' u') a u
theorem par_stepS {o : Oper} {q : Nat} {k : Kn} (hs : StepOKS P F B n ops O κ o q k) (he : (exO ex o).contains q = true) (h : Par P F B n O ops ex (upd κ q k) os Q) : Par P F B n O ops ex κ (o :: os) Q := by
  have hm : q ∈ exO ex o := by simpa using he
  refine ⟨[(q, k)], fun p hp => ?_, fun κ' a u hl hh => hs κ' a u (fun t ht => hl t (List.mem_append_left _ ht)) (hl q (List.mem_append_right _ (List.mem_append_left _ hm))) hh, h⟩
  simp only [List.mem_cons, List.mem_nil_iff, or_false] at hp
  subst hp
  exact List.mem_append_right _ hm
theorem ok_loadHA (L : Tabs P) {x : Operand} {q b : Nat} {t t' : TypeId} {s off : Nat} {cs vs : List Value} (hx : evK κ x = some (.pointer (some ⟨b, off, none⟩))) (hq : κ q = some (.own (HeldR b cs t'))) (hn : Nat.blt d n = true) (hg : gK ops κ ⟨some d, .load t x, ty, pos, aft, g⟩ = some true)
    (hl : L.ld t = some (true, s)) (hlen : vs.length = s) (hc : ∃ r, cs.drop off = vs ++ r) : StepOKR P F B n ops O κ ⟨some d, .load t x, ty, pos, aft, g⟩ q d (.is (.agg vs.toArray)) := by
  rintro κ' a u hlk hqk ⟨H, fp, hh⟩
  unfold After
  rw [if_pos (wanted_gK hh hlk hg)]
  have e := hh.env hlk
  have h1 := e.is_ x _ (by simp [Op.operands]) hx
  obtain ⟨⟨h2, hC⟩, hM⟩ := hh.slot q _ (hqk.trans hq)
  obtain ⟨r, hc⟩ := hc
  have hrun : (execOp a.eval ⟨some d, .load t x, ty, pos, aft, g⟩).run P u = .ok (.value (.agg vs.toArray)) u := by
    simp only [execOp, h1, Instr.loadAt, Instr.sureAddr, Sem.run_bind, Sem.run_pure, Result.andThen_ok]
    rw [run_loadVar_agg (Tabs.ld_spec hl) u _ vs hlen (fun j v hj => by
      have h3 : cs[off + j]? = some v := by
        have := congrArg (·[j]?) hc
        simp only [List.getElem?_drop] at this
        rw [this, List.getElem?_append_left (by
          rcases Nat.lt_or_ge j vs.length with h | h
          · exact h
          · rw [List.getElem?_eq_none h] at hj; cases hj)]
        exact hj
      show u.cell? (Addr.add ⟨b, off, none⟩ j) = some v
      have : Addr.add ⟨b, off, none⟩ j = ⟨b, off + j, none⟩ := by simp [Addr.add]
      rw [this, cell_of_heap h2]; simpa using h3)]
    rfl
  rw [hrun]
  simp only [Upon]
  exact ⟨H, fp, hh.put (k := .is (.agg vs.toArray)) (blt_lt hn) trivial rfl⟩
theorem ok_storeH (L : Tabs P) {t t' : TypeId} {ag : Bool} {z b off q : Nat} {p x : Operand} {v : Value} {cs cs' : List Value} (hg : gK ops κ ⟨none, .store t p x, ty, pos, aft, g⟩ = some true) (hp : evK κ p = some (.pointer (some ⟨b, off, none⟩))) (hq : κ q = some (.own (HeldR b cs t'))) (hx : evK κ x = some v)
    (hl : L.ld t = some (ag, z)) (hlen : (cellsL v).length = z) (hcs : Nat.ble (off + z) cs.length = true) (hpl : (cellsL v).all plainV = true) (hr : cs.take off ++ (cellsL v ++ cs.drop (off + z)) = cs') :
    StepOKS P F B n ops O κ ⟨none, .store t p x, ty, pos, aft, g⟩ q (.own (HeldR b cs' t')) := by
  rintro κ' a u hlk hqk ⟨H, fp, hh⟩
  subst hr
  unfold After
  rw [if_pos (wanted_gK hh hlk hg)]
  have e := hh.env hlk
  have hev := e.is_ x v (by simp [Op.operands]) hx
  have hes := e.is_ p _ (by simp [Op.operands]) hp
  have hqs := hqk.trans hq
  obtain ⟨⟨hb, hC⟩, hM⟩ := hh.slot q _ hqs
  have hrun : (execOp a.eval ⟨none, .store t p x, ty, pos, aft, g⟩).run P u = .ok .skip (u.setRow b (cs.take off ++ (cellsL v ++ cs.drop (off + z))).toArray) := by
    simp only [execOp, hes, hev, Instr.storeAt, Instr.sureAddr, Sem.run_bind, Sem.run_pure, Result.andThen_ok]
    have := run_storeVar_at (P := P) (off := off) (Tabs.ld_spec hl) hb hlen (Nat.le_of_ble_eq_true hcs) hpl
    rw [this]
    simp
  rw [hrun]
  simp only [Upon, Act.put]
  have hset := setRow_heap u b cs.toArray (cs.take off ++ (cellsL v ++ cs.drop (off + z))).toArray t' (0, 0) hb
  have hbm := hM b ((hC b).2 rfl)
  have := hh.usePut (d := q) (a' := a) (r' := HeldR b (cs.take off ++ (cellsL v ++ cs.drop (off + z))) t') (C := fun k => k = b) hqs (grow_setRow hh.sub hb ((hC b).2 rfl) hbm.2.1 _) rfl rfl (fun _ _ => rfl) ⟨hset, fun _ => Iff.rfl⟩ (fun k hk => by
    subst hk; exact ⟨.inl ((hC k).2 rfl), by rw [setRow_size]; exact hbm.1, hbm.2.1⟩)
  rw [upd_upd] at this
  exact ⟨H, _, this⟩
theorem SlE.shape {e : TypeId} {s m : Nat} {xs : List Value} : ∀ v H u C, (SlE e s m xs).P v H u C → ∃ p, v = .slice p m m := fun v _ _ _ ⟨_, h⟩ => by
  rcases h with ⟨rfl, rfl, _⟩ | ⟨b, rfl, _⟩
  · exact ⟨_, rfl⟩
  · exact ⟨_, rfl⟩
/-! ### what is held being known by what it satisfies -/
/-- What is stored is known by what it satisfies. -/
def StP (Φ : List Value → Heap → Prop) (φ : Value → Heap → Prop) (off z : Nat) : List Value → Heap → Prop := fun cs' H => ∃ cs v, Φ cs H ∧ φ v H ∧ cs' = cs.take off ++ (cellsL v ++ cs.drop (off + z))
theorem StP.mono {Φ : List Value → Heap → Prop} {φ : Value → Heap → Prop} {off z : Nat} (h1 : MonoX Φ) (h2 : Kn.mono (.sat φ)) : MonoX (StP Φ φ off z) := fun _ _ _ ⟨cs, v, a1, a2, a3⟩ hle => ⟨cs, v, h1 _ _ _ a1 hle, h2 _ _ _ a2 hle, a3⟩
/-! ### what is appended to nothing; a call to which is shown what a slot owns -/
end
end Go.V
/- The walks of tuples (chapter 2): check, order, texts, sorted lists. -/
namespace Go.V.L2
open Go.Proofs Go.RowKit Go.V
abbrev uv (t : U) : Value := .agg #[.string t.1.1.1, .string t.1.1.2, .string t.1.2, .string t.2.1.1, .string t.2.1.2, .string t.2.2]
abbrev tyU : TypeId := 52
/-- A slice of tuples that is seen. -/
abbrev US (l : List U) (fu : Bool) : Value → Heap → Prop := SlV tyU 6 (l.flatMap ucs) l.length fu
theorem us_at {l : List U} {i : Nat} {t : U} (h : l[i]? = some t) : ((l.flatMap ucs).drop (i * 6)).take 6 = [.string t.1.1.1, .string t.1.1.2, .string t.1.2, .string t.2.1.1, .string t.2.1.2, .string t.2.2] := flatMap_at ucs_len l i t h
attribute [local irreducible] V N X VO Par StepOK Has Ret RetL Src
theorem tcheck_ret {t : U} (hz : TZ t) {w : World} {B : Heap} (hB : B.Le (hp w)) : Ret Try.prog 60 [uv t] w B (fun v _ => v = .int .i64 (tE t)) := by
  obtain ⟨⟨z1, z2, z3⟩, z4, z5, z6⟩ := hz
  unfold tE
  refine V_enter Try.func60 rfl Try.ntmps60 (Nat.le_of_ble_eq_true rfl) hB ?_
  by_cases h : allE [t.1.1.1, t.1.1.2, t.1.2] = 0
  · rw [if_pos h]
    refine V_seq ?_; refine V_region (id := 0) ?_; refine vo_step (ok_box rfl rfl rfl rfl) rfl ?_; refine vo_step (ok_assign rfl rfl rfl) rfl ?_; refine vo_nil ?_; refine N_seq ?_; refine V_seq ?_; refine V_seq ?_; refine V_region (id := 1) ?_; refine vo_step (ok_fieldAt L rfl rfl rfl rfl) rfl ?_; refine vo_step (ok_loadA L (vs := [_, _, _]) (src_at rfl) rfl rfl rfl rfl ⟨_, rfl⟩) rfl ?_; refine vo_step (ok_callx L rfl rfl (blt_lt rfl) rfl rfl rfl (fun u H hH _ _ => goal_ret (by first | assumption | omega | decide) (by first | assumption | omega | decide) (by first | assumption | omega | decide) hH)) rfl ?_; refine vo_step (ok_assign rfl rfl rfl) rfl ?_; refine vo_nil ?_; refine N_seq ?_; refine V_seq ?_; refine V_region (id := 2) ?_; refine vo_step (ok_move rfl rfl rfl) rfl ?_; refine vo_step (ok_neq rfl rfl rfl rfl (decide_eq_false (by omega))) rfl ?_; refine vo_nil ?_; refine N_seq ?_; refine V_false rfl ?_; refine V_skip ?_; refine N_seq ?_; refine V_seq ?_; refine V_region (id := 4) ?_; refine vo_step (ok_fieldAt L rfl rfl rfl rfl) rfl ?_; refine vo_step (ok_loadA L (vs := [_, _, _]) (src_at rfl) rfl rfl rfl rfl ⟨_, rfl⟩) rfl ?_; refine vo_step (ok_callx L rfl rfl (blt_lt rfl) rfl rfl rfl (fun u H hH _ _ => subject_ret (by first | assumption | omega | decide) (by first | assumption | omega | decide) (by first | assumption | omega | decide) hH)) rfl ?_; refine vo_step (ok_assign rfl rfl rfl) rfl ?_; refine vo_nil ?_; refine N_seq ?_
    refine V_ret L (rs := [.tmp 2]) rfl (fun _ _ h => h) Since.refl fun u H hH hle => ?_
    rfl
  · rw [if_neg h]
    refine V_seq ?_; refine V_region (id := 0) ?_; refine vo_step (ok_box rfl rfl rfl rfl) rfl ?_; refine vo_step (ok_assign rfl rfl rfl) rfl ?_; refine vo_nil ?_; refine N_seq ?_; refine V_seq ?_; refine V_seq ?_; refine V_region (id := 1) ?_; refine vo_step (ok_fieldAt L rfl rfl rfl rfl) rfl ?_; refine vo_step (ok_loadA L (vs := [_, _, _]) (src_at rfl) rfl rfl rfl rfl ⟨_, rfl⟩) rfl ?_; refine vo_step (ok_callx L rfl rfl (blt_lt rfl) rfl rfl rfl (fun u H hH _ _ => goal_ret (by first | assumption | omega | decide) (by first | assumption | omega | decide) (by first | assumption | omega | decide) hH)) rfl ?_; refine vo_step (ok_assign rfl rfl rfl) rfl ?_; refine vo_nil ?_; refine N_seq ?_; refine V_seq ?_; refine V_region (id := 2) ?_; refine vo_step (ok_move rfl rfl rfl) rfl ?_; refine vo_step (ok_neq rfl rfl rfl rfl (decide_eq_true (by omega))) rfl ?_; refine vo_nil ?_; refine N_seq ?_; refine V_true rfl ?_; refine V_seq ?_; refine V_region (id := 3) ?_; refine vo_step (ok_move rfl rfl rfl) rfl ?_; refine vo_step (ok_assign rfl rfl rfl) rfl ?_; refine vo_nil ?_; refine N_seq ?_
    refine V_ret L (rs := [.tmp 2]) rfl (fun _ _ h => h) Since.refl fun u H hH hle => ?_
    rfl
theorem tcmp_ret {a b : U} {w : World} {B : Heap} (hB : B.Le (hp w)) : Ret Try.prog 76 [uv a, uv b] w B (fun v _ => v = .int .i64 (cmpT a b)) := by
  refine V_enter Try.func76 rfl Try.ntmps76 (Nat.le_of_ble_eq_true rfl) hB ?_
  refine V_seq ?_; refine V_region (id := 0) ?_; refine vo_step (ok_box rfl rfl rfl rfl) rfl ?_; refine vo_step (ok_box rfl rfl rfl rfl) rfl ?_; refine vo_step (ok_assign rfl rfl rfl) rfl ?_; refine vo_nil ?_; refine N_seq ?_; refine V_seq ?_; refine V_regionD (id := 1) [] mixed (by kernel_rfl) ?_; refine par_step (ok_fieldAt L rfl rfl rfl rfl) rfl ?_; refine par_step (ok_loadA L (vs := [_, _, _]) (src_at rfl) rfl rfl rfl rfl ⟨_, rfl⟩) rfl ?_; refine par_step (ok_fieldAt L rfl rfl rfl rfl) rfl ?_; refine par_step (ok_loadA L (vs := [_, _, _]) (src_at rfl) rfl rfl rfl rfl ⟨_, rfl⟩) rfl ?_; refine par_step (ok_callx L rfl rfl (blt_lt rfl) rfl rfl rfl (fun u H hH _ _ => cmpG_ret hH)) rfl ?_; refine par_step (ok_fieldAt L rfl rfl rfl rfl) rfl ?_; refine par_step (ok_loadA L (vs := [_, _, _]) (src_at rfl) rfl rfl rfl rfl ⟨_, rfl⟩) rfl ?_; refine par_step (ok_fieldAt L rfl rfl rfl rfl) rfl ?_; refine par_step (ok_loadA L (vs := [_, _, _]) (src_at rfl) rfl rfl rfl rfl ⟨_, rfl⟩) rfl ?_; refine par_step (ok_callx L rfl rfl (blt_lt rfl) rfl rfl rfl (fun u H hH _ _ => cmpU_ret hH)) rfl ?_; refine par_step (ok_buildSlice L rfl rfl rfl rfl rfl rfl rfl rfl rfl) rfl ?_; refine par_step (ok_callx L rfl rfl (blt_lt rfl) rfl rfl rfl (fun u H hH _ _ v hv => or2_ret hH hv)) rfl ?_; refine par_step (ok_assign rfl rfl rfl) rfl ?_; refine par_nil ?_; refine N_seq ?_
  refine V_ret L (rs := [.tmp 4]) rfl (fun _ _ h => h) Since.refl fun u H hH hle => ?_
  rfl
theorem tis_ret {l : List U} {fu : Bool} (hl : l.length ≤ 1000000) {r : Bool} (hr : isB l = r) {v : Value} {w : World} {B : Heap} (hB : B.Le (hp w)) (hv : US l fu v B) :
    Ret Try.prog 117 [v] w B (fun v _ => v = .bool r) := by
  subst hr
  refine V_enter Try.func117 rfl Try.ntmps117 (Nat.le_of_ble_eq_true rfl) hB ?_
  refine V_seen 0 (US l fu) rfl SlV.mono hv ?_
  refine V_seq ?_; refine V_region (id := 0) ?_; refine vo_step (ok_assign rfl rfl rfl) rfl ?_; refine vo_nil ?_; refine N_seq ?_; refine V_seq ?_; refine V_seq ?_; refine V_region (id := 1) ?_; refine vo_step (ok_assign rfl rfl rfl) rfl ?_; refine vo_nil ?_; refine N_seq ?_; refine V_block ?_
  refine V_loop (fun i : Nat => [(0, .sat (US l fu)), (3, .is (.int .i64 (i + 1 : Nat)))])
    (fun i => ∀ j a b, j < i → l[j]? = some a → l[j + 1]? = some b → cmpT a b < 0) (fun i => l.length - i) 0 (fun j a b h => by omega) ⟨rfl, rfl, trivial⟩ ?_
  rintro i hall
  by_cases hlt : i + 1 < l.length
  · obtain ⟨a, ha⟩ := get_some (show i < l.length by omega)
    obtain ⟨b, hb⟩ := get_some hlt
    have hca := us_at ha
    have hcb := us_at hb
    have hsub : IntKind.i64.wrap (((i + 1 : Nat) : Int) - 1) = (i : Int) := wrap_i64 (by omega) (by omega) |>.trans (by omega)
    by_cases hc : cmpT a b < 0
    · refine V_seq ?_; refine V_seq ?_; refine V_region (id := 2) ?_; refine vo_step (ok_move rfl rfl rfl) rfl ?_; refine vo_step (ok_moves' rfl rfl rfl) rfl ?_; refine vo_step (ok_lenV L rfl rfl rfl rfl) rfl ?_; refine vo_step (ok_lss rfl rfl rfl rfl (decide_eq_true (by omega))) rfl ?_; refine vo_nil ?_; refine N_seq ?_; refine V_true rfl ?_; refine V_skip ?_; refine N_seq ?_; refine V_seq ?_; refine V_block ?_; refine V_seq ?_; refine V_regionD (id := 4) [] mixed (by kernel_rfl) ?_; refine par_step (ok_moves' rfl rfl rfl) rfl ?_; refine par_step (ok_move rfl rfl rfl) rfl ?_; refine par_step (ok_sub rfl rfl rfl rfl (by assumption)) rfl ?_; refine par_step (ok_indexV L _ rfl rfl rfl rfl rfl rfl rfl (by first | omega | decide) (by assumption)) rfl ?_; refine par_step (ok_loadPA L (vs := [_, _, _, _, _, _]) rfl rfl rfl rfl rfl ⟨_, rfl⟩) rfl ?_; refine par_step (ok_moves' rfl rfl rfl) rfl ?_; refine par_step (ok_move rfl rfl rfl) rfl ?_; refine par_step (ok_indexV L _ rfl rfl rfl rfl rfl rfl rfl (by first | omega | decide) (by assumption)) rfl ?_; refine par_step (ok_loadPA L (vs := [_, _, _, _, _, _]) rfl rfl rfl rfl rfl ⟨_, rfl⟩) rfl ?_; refine par_step (ok_callx L rfl rfl (blt_lt rfl) rfl rfl rfl (fun u H hH _ _ => tcmp_ret hH)) rfl ?_; refine par_step (ok_geq rfl rfl rfl rfl (decide_eq_false (by omega))) rfl ?_; refine par_nil ?_; refine N_seq ?_; refine V_false rfl ?_; refine V_skip ?_; refine N_block ?_; refine N_seq ?_; refine V_region (id := 3) ?_; refine vo_step (ok_move rfl rfl rfl) rfl ?_; refine vo_step (ok_add rfl rfl rfl rfl (wrap_i64 (by omega) (by omega))) rfl ?_; refine vo_step (ok_assign rfl rfl rfl) rfl ?_; refine vo_nil ?_
      exact N_round (x := i) (i + 1) (fun j a' b' hj h1 h2 => by
        by_cases hji : j = i
        · subst hji; rw [ha] at h1; rw [hb] at h2; cases h1; cases h2; exact hc
        · exact hall j a' b' (by omega) h1 h2) (by omega) ⟨rfl, rfl, trivial⟩
    · rw [isB_no ha hb hc]
      refine V_seq ?_; refine V_seq ?_; refine V_region (id := 2) ?_; refine vo_step (ok_move rfl rfl rfl) rfl ?_; refine vo_step (ok_moves' rfl rfl rfl) rfl ?_; refine vo_step (ok_lenV L rfl rfl rfl rfl) rfl ?_; refine vo_step (ok_lss rfl rfl rfl rfl (decide_eq_true (by omega))) rfl ?_; refine vo_nil ?_; refine N_seq ?_; refine V_true rfl ?_; refine V_skip ?_; refine N_seq ?_; refine V_seq ?_; refine V_block ?_; refine V_seq ?_; refine V_regionD (id := 4) [] mixed (by kernel_rfl) ?_; refine par_step (ok_moves' rfl rfl rfl) rfl ?_; refine par_step (ok_move rfl rfl rfl) rfl ?_; refine par_step (ok_sub rfl rfl rfl rfl (by assumption)) rfl ?_; refine par_step (ok_indexV L _ rfl rfl rfl rfl rfl rfl rfl (by first | omega | decide) (by assumption)) rfl ?_; refine par_step (ok_loadPA L (vs := [_, _, _, _, _, _]) rfl rfl rfl rfl rfl ⟨_, rfl⟩) rfl ?_; refine par_step (ok_moves' rfl rfl rfl) rfl ?_; refine par_step (ok_move rfl rfl rfl) rfl ?_; refine par_step (ok_indexV L _ rfl rfl rfl rfl rfl rfl rfl (by first | omega | decide) (by assumption)) rfl ?_; refine par_step (ok_loadPA L (vs := [_, _, _, _, _, _]) rfl rfl rfl rfl rfl ⟨_, rfl⟩) rfl ?_; refine par_step (ok_callx L rfl rfl (blt_lt rfl) rfl rfl rfl (fun u H hH _ _ => tcmp_ret hH)) rfl ?_; refine par_step (ok_geq rfl rfl rfl rfl (decide_eq_true (by omega))) rfl ?_; refine par_nil ?_; refine N_seq ?_; refine V_true rfl ?_; refine V_seq ?_; refine V_region (id := 5) ?_; refine vo_step (ok_assign rfl rfl rfl) rfl ?_; refine vo_nil ?_; refine N_seq ?_
      refine V_ret L (rs := [.tmp 2]) rfl (fun _ _ h => h) Since.refl fun u H hH hle => ?_
      rfl
  · rw [isB_yes fun j a b h1 h2 => hall j a b (by
      have : j + 1 < l.length := by
        rcases Nat.lt_or_ge (j + 1) l.length with h | h
        · exact h
        · rw [List.getElem?_eq_none h] at h2; cases h2
      omega) h1 h2]
    refine V_seq ?_; refine V_seq ?_; refine V_region (id := 2) ?_; refine vo_step (ok_move rfl rfl rfl) rfl ?_; refine vo_step (ok_moves' rfl rfl rfl) rfl ?_; refine vo_step (ok_lenV L rfl rfl rfl rfl) rfl ?_; refine vo_step (ok_lss rfl rfl rfl rfl (decide_eq_false (by omega))) rfl ?_; refine vo_nil ?_; refine N_seq ?_; refine V_false rfl ?_; refine V_exit ?_; refine X_then ?_; refine X_then ?_; refine X_here ?_; refine N_seq ?_; refine V_seq ?_; refine V_region (id := 6) ?_; refine vo_step (ok_assign rfl rfl rfl) rfl ?_; refine vo_nil ?_; refine N_seq ?_
    refine V_ret L (rs := [.tmp 2]) rfl (fun _ _ h => h) Since.refl fun u H hH hle => ?_
    rfl
end Go.V.L2
/- The walks of the definition of names. -/
namespace Go.V
open Go.Proofs Go.RowKit
attribute [local irreducible] V N X VO Par StepOK Has Ret RetL Src
set_option maxHeartbeats 1000000 in
theorem rcheck_ret {s : ByteArray} (hs : s.size ≤ 9223372036854775807) {w : World} {B : Heap} (hB : B.Le (hp w)) :
    Ret Try.prog 106 [.string s] w B (fun v _ => v = .int .i64 (chk s)) := by
  refine V_enter Try.func106 rfl Try.ntmps106 (Nat.le_of_ble_eq_true rfl) hB ?_
  by_cases h0 : 1 ≤ s.size ∧ s.size ≤ 16
  · obtain ⟨h1, h2⟩ := h0
    refine V_seq ?_; refine V_region (id := 0) ?_; refine vo_step (ok_assign rfl rfl rfl) rfl ?_; refine vo_nil ?_; refine N_seq ?_; refine V_seq ?_; refine V_region (id := 1) ?_; refine vo_step (ok_move rfl rfl rfl) rfl ?_; refine vo_step (ok_lenS L rfl rfl rfl rfl) rfl ?_; refine vo_step (ok_gtr rfl rfl rfl rfl (decide_eq_true (by omega))) rfl ?_; refine vo_step (ok_move rfl rfl rfl) rfl ?_; refine vo_step (ok_move rfl rfl rfl) rfl ?_; refine vo_step (ok_lenS L rfl rfl rfl rfl) rfl ?_; refine vo_step (ok_leq rfl rfl rfl rfl (decide_eq_true (by omega))) rfl ?_; refine vo_step (ok_pick rfl rfl rfl rfl) rfl ?_; refine vo_step (ok_assign rfl rfl rfl) rfl ?_; refine vo_nil ?_; refine N_seq ?_; refine V_seq ?_; refine V_seq ?_; refine V_region (id := 2) ?_; refine vo_step (ok_assign rfl rfl rfl) rfl ?_; refine vo_nil ?_; refine N_seq ?_; refine V_block ?_
    refine V_loop (fun p : Nat × Bool => [(0, .is (.string s)), (3, .is (.bool p.2)), (4, .is (.int .i64 p.1))])
      (fun p => p.1 ≤ s.size ∧ (p.2 = true → (s.data.toList.take p.1).all okB = true) ∧ (p.2 = false → chk s = 6)) (fun p => s.size - p.1) (0, true) ⟨Nat.zero_le _, fun _ => by simp, fun h => by cases h⟩ ⟨rfl, rfl, rfl, trivial⟩ ?_
    rintro ⟨k, b⟩ ⟨hk, hall, hbad⟩
    dsimp only at hk hall hbad ⊢
    by_cases hlt : k < s.size
    · cases b with
      | false =>
        refine V_seq ?_; refine V_seq ?_; refine V_region (id := 3) ?_; refine vo_step (ok_move rfl rfl rfl) rfl ?_; refine vo_step (ok_move rfl rfl rfl) rfl ?_; refine vo_step (ok_lenS L rfl rfl rfl rfl) rfl ?_; refine vo_step (ok_lss rfl rfl rfl rfl (decide_eq_true (by omega))) rfl ?_; refine vo_step (ok_move rfl rfl rfl) rfl ?_; refine vo_step (ok_move rfl rfl rfl) rfl ?_; refine vo_step (ok_pick rfl rfl rfl rfl) rfl ?_; refine vo_nil ?_; refine N_seq ?_; refine V_false rfl ?_; refine V_exit ?_; refine X_then ?_; refine X_then ?_; refine X_here ?_; refine N_seq ?_; refine V_seq ?_; refine V_seq ?_; refine V_region (id := 6) ?_; refine vo_step (ok_move rfl rfl rfl) rfl ?_; refine vo_nil ?_; refine N_seq ?_; refine V_false rfl ?_; refine V_skip ?_; refine N_seq ?_; refine V_seq ?_; refine V_region (id := 8) ?_; refine vo_step (ok_assign rfl rfl rfl) rfl ?_; refine vo_nil ?_; refine N_seq ?_
        refine V_ret L (rs := [.tmp 2]) rfl (fun _ _ h => h) Since.refl fun u H hH hle => ?_
        exact congrArg _ (hbad rfl).symm
      | true =>
        obtain ⟨c, hc⟩ := getElem?_lt hlt
        have hu := u8_lt c
        by_cases a1 : 97 ≤ (c.toNat : Int)
        · by_cases a4 : (c.toNat : Int) ≤ 122
          · refine V_seq ?_; refine V_seq ?_; refine V_region (id := 3) ?_; refine vo_step (ok_move rfl rfl rfl) rfl ?_; refine vo_step (ok_move rfl rfl rfl) rfl ?_; refine vo_step (ok_lenS L rfl rfl rfl rfl) rfl ?_; refine vo_step (ok_lss rfl rfl rfl rfl (decide_eq_true (by omega))) rfl ?_; refine vo_step (ok_move rfl rfl rfl) rfl ?_; refine vo_step (ok_move rfl rfl rfl) rfl ?_; refine vo_step (ok_pick rfl rfl rfl rfl) rfl ?_; refine vo_nil ?_; refine N_seq ?_; refine V_true rfl ?_; refine V_skip ?_; refine N_seq ?_; refine V_seq ?_; refine V_block ?_; refine V_region (id := 5) ?_; refine vo_step (ok_move rfl rfl rfl) rfl ?_; refine vo_step (ok_move rfl rfl rfl) rfl ?_; refine vo_step (ok_indexS L rfl rfl rfl rfl rfl (by assumption)) rfl ?_; refine vo_step (ok_geq rfl rfl rfl rfl (decide_eq_true (by omega))) rfl ?_; refine vo_step (ok_move rfl rfl rfl) rfl ?_; refine vo_step (ok_move rfl rfl rfl) rfl ?_; refine vo_step (ok_move rfl rfl rfl) rfl ?_; refine vo_step (ok_indexS L rfl rfl rfl rfl rfl (by assumption)) rfl ?_; refine vo_step (ok_leq rfl rfl rfl rfl (decide_eq_true (by omega))) rfl ?_; refine vo_step (ok_pick rfl rfl rfl rfl) rfl ?_; refine vo_step (ok_move rfl rfl rfl) rfl ?_; refine vo_step (ok_skip rfl (blt_lt rfl) rfl) rfl ?_; refine vo_step (ok_skip rfl (blt_lt rfl) rfl) rfl ?_; refine vo_step (ok_skip rfl (blt_lt rfl) rfl) rfl ?_; refine vo_step (ok_skip rfl (blt_lt rfl) rfl) rfl ?_; refine vo_step (ok_skip rfl (blt_lt rfl) rfl) rfl ?_; refine vo_step (ok_skip rfl (blt_lt rfl) rfl) rfl ?_; refine vo_step (ok_skip rfl (blt_lt rfl) rfl) rfl ?_; refine vo_step (ok_skip rfl (blt_lt rfl) rfl) rfl ?_; refine vo_step (ok_skip rfl (blt_lt rfl) rfl) rfl ?_; refine vo_step (ok_skip rfl (blt_lt rfl) rfl) rfl ?_; refine vo_step (ok_pick rfl rfl rfl rfl) rfl ?_; refine vo_step (ok_assign rfl rfl rfl) rfl ?_; refine vo_nil ?_; refine N_block ?_; refine N_seq ?_; refine V_region (id := 4) ?_; refine vo_step (ok_move rfl rfl rfl) rfl ?_; refine vo_step (ok_add rfl rfl rfl rfl (wrap_i64 (by omega) (by omega))) rfl ?_; refine vo_step (ok_assign rfl rfl rfl) rfl ?_; refine vo_nil ?_
            exact N_round (x := (k, true)) (k + 1, true) ⟨hlt, fun _ => take_all hc (okB_4 (by omega) (by omega)) (hall rfl), fun h => (by cases h)⟩ (by dsimp only; omega) ⟨rfl, rfl, rfl, trivial⟩
          · refine V_seq ?_; refine V_seq ?_; refine V_region (id := 3) ?_; refine vo_step (ok_move rfl rfl rfl) rfl ?_; refine vo_step (ok_move rfl rfl rfl) rfl ?_; refine vo_step (ok_lenS L rfl rfl rfl rfl) rfl ?_; refine vo_step (ok_lss rfl rfl rfl rfl (decide_eq_true (by omega))) rfl ?_; refine vo_step (ok_move rfl rfl rfl) rfl ?_; refine vo_step (ok_move rfl rfl rfl) rfl ?_; refine vo_step (ok_pick rfl rfl rfl rfl) rfl ?_; refine vo_nil ?_; refine N_seq ?_; refine V_true rfl ?_; refine V_skip ?_; refine N_seq ?_; refine V_seq ?_; refine V_block ?_; refine V_region (id := 5) ?_; refine vo_step (ok_move rfl rfl rfl) rfl ?_; refine vo_step (ok_move rfl rfl rfl) rfl ?_; refine vo_step (ok_indexS L rfl rfl rfl rfl rfl (by assumption)) rfl ?_; refine vo_step (ok_geq rfl rfl rfl rfl (decide_eq_true (by omega))) rfl ?_; refine vo_step (ok_move rfl rfl rfl) rfl ?_; refine vo_step (ok_move rfl rfl rfl) rfl ?_; refine vo_step (ok_move rfl rfl rfl) rfl ?_; refine vo_step (ok_indexS L rfl rfl rfl rfl rfl (by assumption)) rfl ?_; refine vo_step (ok_leq rfl rfl rfl rfl (decide_eq_false (by omega))) rfl ?_; refine vo_step (ok_pick rfl rfl rfl rfl) rfl ?_; refine vo_step (ok_move rfl rfl rfl) rfl ?_; refine vo_step (ok_move rfl rfl rfl) rfl ?_; refine vo_step (ok_move rfl rfl rfl) rfl ?_; refine vo_step (ok_indexS L rfl rfl rfl rfl rfl (by assumption)) rfl ?_; refine vo_step (ok_geq rfl rfl rfl rfl (decide_eq_true (by omega))) rfl ?_; refine vo_step (ok_move rfl rfl rfl) rfl ?_; refine vo_step (ok_move rfl rfl rfl) rfl ?_; refine vo_step (ok_move rfl rfl rfl) rfl ?_; refine vo_step (ok_indexS L rfl rfl rfl rfl rfl (by assumption)) rfl ?_; refine vo_step (ok_leq rfl rfl rfl rfl (decide_eq_false (by omega))) rfl ?_; refine vo_step (ok_pick rfl rfl rfl rfl) rfl ?_; refine vo_step (ok_pick rfl rfl rfl rfl) rfl ?_; refine vo_step (ok_assign rfl rfl rfl) rfl ?_; refine vo_nil ?_; refine N_block ?_; refine N_seq ?_; refine V_region (id := 4) ?_; refine vo_step (ok_move rfl rfl rfl) rfl ?_; refine vo_step (ok_add rfl rfl rfl rfl (wrap_i64 (by omega) (by omega))) rfl ?_; refine vo_step (ok_assign rfl rfl rfl) rfl ?_; refine vo_nil ?_
            exact N_round (x := (k, true)) (k + 1, false) ⟨hlt, fun h => (by cases h), fun _ => chk_at hc (okB_3 (by omega))⟩ (by dsimp only; omega) ⟨rfl, rfl, rfl, trivial⟩
        · by_cases a2 : 48 ≤ (c.toNat : Int)
          · by_cases a3 : (c.toNat : Int) ≤ 57
            · refine V_seq ?_; refine V_seq ?_; refine V_region (id := 3) ?_; refine vo_step (ok_move rfl rfl rfl) rfl ?_; refine vo_step (ok_move rfl rfl rfl) rfl ?_; refine vo_step (ok_lenS L rfl rfl rfl rfl) rfl ?_; refine vo_step (ok_lss rfl rfl rfl rfl (decide_eq_true (by omega))) rfl ?_; refine vo_step (ok_move rfl rfl rfl) rfl ?_; refine vo_step (ok_move rfl rfl rfl) rfl ?_; refine vo_step (ok_pick rfl rfl rfl rfl) rfl ?_; refine vo_nil ?_; refine N_seq ?_; refine V_true rfl ?_; refine V_skip ?_; refine N_seq ?_; refine V_seq ?_; refine V_block ?_; refine V_region (id := 5) ?_; refine vo_step (ok_move rfl rfl rfl) rfl ?_; refine vo_step (ok_move rfl rfl rfl) rfl ?_; refine vo_step (ok_indexS L rfl rfl rfl rfl rfl (by assumption)) rfl ?_; refine vo_step (ok_geq rfl rfl rfl rfl (decide_eq_false (by omega))) rfl ?_; refine vo_step (ok_move rfl rfl rfl) rfl ?_; refine vo_step (ok_skip rfl (blt_lt rfl) rfl) rfl ?_; refine vo_step (ok_skip rfl (blt_lt rfl) rfl) rfl ?_; refine vo_step (ok_skip rfl (blt_lt rfl) rfl) rfl ?_; refine vo_step (ok_skip rfl (blt_lt rfl) rfl) rfl ?_; refine vo_step (ok_pick rfl rfl rfl rfl) rfl ?_; refine vo_step (ok_move rfl rfl rfl) rfl ?_; refine vo_step (ok_move rfl rfl rfl) rfl ?_; refine vo_step (ok_move rfl rfl rfl) rfl ?_; refine vo_step (ok_indexS L rfl rfl rfl rfl rfl (by assumption)) rfl ?_; refine vo_step (ok_geq rfl rfl rfl rfl (decide_eq_true (by omega))) rfl ?_; refine vo_step (ok_move rfl rfl rfl) rfl ?_; refine vo_step (ok_move rfl rfl rfl) rfl ?_; refine vo_step (ok_move rfl rfl rfl) rfl ?_; refine vo_step (ok_indexS L rfl rfl rfl rfl rfl (by assumption)) rfl ?_; refine vo_step (ok_leq rfl rfl rfl rfl (decide_eq_true (by omega))) rfl ?_; refine vo_step (ok_pick rfl rfl rfl rfl) rfl ?_; refine vo_step (ok_pick rfl rfl rfl rfl) rfl ?_; refine vo_step (ok_assign rfl rfl rfl) rfl ?_; refine vo_nil ?_; refine N_block ?_; refine N_seq ?_; refine V_region (id := 4) ?_; refine vo_step (ok_move rfl rfl rfl) rfl ?_; refine vo_step (ok_add rfl rfl rfl rfl (wrap_i64 (by omega) (by omega))) rfl ?_; refine vo_step (ok_assign rfl rfl rfl) rfl ?_; refine vo_nil ?_
              exact N_round (x := (k, true)) (k + 1, true) ⟨hlt, fun _ => take_all hc (okB_5 (by omega) (by omega)) (hall rfl), fun h => (by cases h)⟩ (by dsimp only; omega) ⟨rfl, rfl, rfl, trivial⟩
            · refine V_seq ?_; refine V_seq ?_; refine V_region (id := 3) ?_; refine vo_step (ok_move rfl rfl rfl) rfl ?_; refine vo_step (ok_move rfl rfl rfl) rfl ?_; refine vo_step (ok_lenS L rfl rfl rfl rfl) rfl ?_; refine vo_step (ok_lss rfl rfl rfl rfl (decide_eq_true (by omega))) rfl ?_; refine vo_step (ok_move rfl rfl rfl) rfl ?_; refine vo_step (ok_move rfl rfl rfl) rfl ?_; refine vo_step (ok_pick rfl rfl rfl rfl) rfl ?_; refine vo_nil ?_; refine N_seq ?_; refine V_true rfl ?_; refine V_skip ?_; refine N_seq ?_; refine V_seq ?_; refine V_block ?_; refine V_region (id := 5) ?_; refine vo_step (ok_move rfl rfl rfl) rfl ?_; refine vo_step (ok_move rfl rfl rfl) rfl ?_; refine vo_step (ok_indexS L rfl rfl rfl rfl rfl (by assumption)) rfl ?_; refine vo_step (ok_geq rfl rfl rfl rfl (decide_eq_false (by omega))) rfl ?_; refine vo_step (ok_move rfl rfl rfl) rfl ?_; refine vo_step (ok_skip rfl (blt_lt rfl) rfl) rfl ?_; refine vo_step (ok_skip rfl (blt_lt rfl) rfl) rfl ?_; refine vo_step (ok_skip rfl (blt_lt rfl) rfl) rfl ?_; refine vo_step (ok_skip rfl (blt_lt rfl) rfl) rfl ?_; refine vo_step (ok_pick rfl rfl rfl rfl) rfl ?_; refine vo_step (ok_move rfl rfl rfl) rfl ?_; refine vo_step (ok_move rfl rfl rfl) rfl ?_; refine vo_step (ok_move rfl rfl rfl) rfl ?_; refine vo_step (ok_indexS L rfl rfl rfl rfl rfl (by assumption)) rfl ?_; refine vo_step (ok_geq rfl rfl rfl rfl (decide_eq_true (by omega))) rfl ?_; refine vo_step (ok_move rfl rfl rfl) rfl ?_; refine vo_step (ok_move rfl rfl rfl) rfl ?_; refine vo_step (ok_move rfl rfl rfl) rfl ?_; refine vo_step (ok_indexS L rfl rfl rfl rfl rfl (by assumption)) rfl ?_; refine vo_step (ok_leq rfl rfl rfl rfl (decide_eq_false (by omega))) rfl ?_; refine vo_step (ok_pick rfl rfl rfl rfl) rfl ?_; refine vo_step (ok_pick rfl rfl rfl rfl) rfl ?_; refine vo_step (ok_assign rfl rfl rfl) rfl ?_; refine vo_nil ?_; refine N_block ?_; refine N_seq ?_; refine V_region (id := 4) ?_; refine vo_step (ok_move rfl rfl rfl) rfl ?_; refine vo_step (ok_add rfl rfl rfl rfl (wrap_i64 (by omega) (by omega))) rfl ?_; refine vo_step (ok_assign rfl rfl rfl) rfl ?_; refine vo_nil ?_
              exact N_round (x := (k, true)) (k + 1, false) ⟨hlt, fun h => (by cases h), fun _ => chk_at hc (okB_2 (by omega) (by omega))⟩ (by dsimp only; omega) ⟨rfl, rfl, rfl, trivial⟩
          · refine V_seq ?_; refine V_seq ?_; refine V_region (id := 3) ?_; refine vo_step (ok_move rfl rfl rfl) rfl ?_; refine vo_step (ok_move rfl rfl rfl) rfl ?_; refine vo_step (ok_lenS L rfl rfl rfl rfl) rfl ?_; refine vo_step (ok_lss rfl rfl rfl rfl (decide_eq_true (by omega))) rfl ?_; refine vo_step (ok_move rfl rfl rfl) rfl ?_; refine vo_step (ok_move rfl rfl rfl) rfl ?_; refine vo_step (ok_pick rfl rfl rfl rfl) rfl ?_; refine vo_nil ?_; refine N_seq ?_; refine V_true rfl ?_; refine V_skip ?_; refine N_seq ?_; refine V_seq ?_; refine V_block ?_; refine V_region (id := 5) ?_; refine vo_step (ok_move rfl rfl rfl) rfl ?_; refine vo_step (ok_move rfl rfl rfl) rfl ?_; refine vo_step (ok_indexS L rfl rfl rfl rfl rfl (by assumption)) rfl ?_; refine vo_step (ok_geq rfl rfl rfl rfl (decide_eq_false (by omega))) rfl ?_; refine vo_step (ok_move rfl rfl rfl) rfl ?_; refine vo_step (ok_skip rfl (blt_lt rfl) rfl) rfl ?_; refine vo_step (ok_skip rfl (blt_lt rfl) rfl) rfl ?_; refine vo_step (ok_skip rfl (blt_lt rfl) rfl) rfl ?_; refine vo_step (ok_skip rfl (blt_lt rfl) rfl) rfl ?_; refine vo_step (ok_pick rfl rfl rfl rfl) rfl ?_; refine vo_step (ok_move rfl rfl rfl) rfl ?_; refine vo_step (ok_move rfl rfl rfl) rfl ?_; refine vo_step (ok_move rfl rfl rfl) rfl ?_; refine vo_step (ok_indexS L rfl rfl rfl rfl rfl (by assumption)) rfl ?_; refine vo_step (ok_geq rfl rfl rfl rfl (decide_eq_false (by omega))) rfl ?_; refine vo_step (ok_move rfl rfl rfl) rfl ?_; refine vo_step (ok_skip rfl (blt_lt rfl) rfl) rfl ?_; refine vo_step (ok_skip rfl (blt_lt rfl) rfl) rfl ?_; refine vo_step (ok_skip rfl (blt_lt rfl) rfl) rfl ?_; refine vo_step (ok_skip rfl (blt_lt rfl) rfl) rfl ?_; refine vo_step (ok_pick rfl rfl rfl rfl) rfl ?_; refine vo_step (ok_pick rfl rfl rfl rfl) rfl ?_; refine vo_step (ok_assign rfl rfl rfl) rfl ?_; refine vo_nil ?_; refine N_block ?_; refine N_seq ?_; refine V_region (id := 4) ?_; refine vo_step (ok_move rfl rfl rfl) rfl ?_; refine vo_step (ok_add rfl rfl rfl rfl (wrap_i64 (by omega) (by omega))) rfl ?_; refine vo_step (ok_assign rfl rfl rfl) rfl ?_; refine vo_nil ?_
            exact N_round (x := (k, true)) (k + 1, false) ⟨hlt, fun h => (by cases h), fun _ => chk_at hc (okB_1 (by omega) (by omega))⟩ (by dsimp only; omega) ⟨rfl, rfl, rfl, trivial⟩
    · cases b with
      | false =>
        refine V_seq ?_; refine V_seq ?_; refine V_region (id := 3) ?_; refine vo_step (ok_move rfl rfl rfl) rfl ?_; refine vo_step (ok_move rfl rfl rfl) rfl ?_; refine vo_step (ok_lenS L rfl rfl rfl rfl) rfl ?_; refine vo_step (ok_lss rfl rfl rfl rfl (decide_eq_false (by omega))) rfl ?_; refine vo_step (ok_move rfl rfl rfl) rfl ?_; refine vo_step (ok_skip rfl (blt_lt rfl) rfl) rfl ?_; refine vo_step (ok_pick rfl rfl rfl rfl) rfl ?_; refine vo_nil ?_; refine N_seq ?_; refine V_false rfl ?_; refine V_exit ?_; refine X_then ?_; refine X_then ?_; refine X_here ?_; refine N_seq ?_; refine V_seq ?_; refine V_seq ?_; refine V_region (id := 6) ?_; refine vo_step (ok_move rfl rfl rfl) rfl ?_; refine vo_nil ?_; refine N_seq ?_; refine V_false rfl ?_; refine V_skip ?_; refine N_seq ?_; refine V_seq ?_; refine V_region (id := 8) ?_; refine vo_step (ok_assign rfl rfl rfl) rfl ?_; refine vo_nil ?_; refine N_seq ?_
        refine V_ret L (rs := [.tmp 2]) rfl (fun _ _ h => h) Since.refl fun u H hH hle => ?_
        exact congrArg _ (hbad rfl).symm
      | true =>
        refine V_seq ?_; refine V_seq ?_; refine V_region (id := 3) ?_; refine vo_step (ok_move rfl rfl rfl) rfl ?_; refine vo_step (ok_move rfl rfl rfl) rfl ?_; refine vo_step (ok_lenS L rfl rfl rfl rfl) rfl ?_; refine vo_step (ok_lss rfl rfl rfl rfl (decide_eq_false (by omega))) rfl ?_; refine vo_step (ok_move rfl rfl rfl) rfl ?_; refine vo_step (ok_skip rfl (blt_lt rfl) rfl) rfl ?_; refine vo_step (ok_pick rfl rfl rfl rfl) rfl ?_; refine vo_nil ?_; refine N_seq ?_; refine V_false rfl ?_; refine V_exit ?_; refine X_then ?_; refine X_then ?_; refine X_here ?_; refine N_seq ?_; refine V_seq ?_; refine V_seq ?_; refine V_region (id := 6) ?_; refine vo_step (ok_move rfl rfl rfl) rfl ?_; refine vo_nil ?_; refine N_seq ?_; refine V_true rfl ?_; refine V_seq ?_; refine V_region (id := 7) ?_; refine vo_step (ok_assign rfl rfl rfl) rfl ?_; refine vo_nil ?_; refine N_seq ?_
        refine V_ret L (rs := [.tmp 2]) rfl (fun _ _ h => h) Since.refl fun u H hH hle => ?_
        exact congrArg _ (chk_all h1 h2 (all_take (by omega) (hall rfl))).symm
  · have hbad := chk_bad h0
    by_cases h1 : 1 ≤ s.size
    · have h2 : 16 < s.size := by omega
      refine V_seq ?_; refine V_region (id := 0) ?_; refine vo_step (ok_assign rfl rfl rfl) rfl ?_; refine vo_nil ?_; refine N_seq ?_; refine V_seq ?_; refine V_region (id := 1) ?_; refine vo_step (ok_move rfl rfl rfl) rfl ?_; refine vo_step (ok_lenS L rfl rfl rfl rfl) rfl ?_; refine vo_step (ok_gtr rfl rfl rfl rfl (decide_eq_true (by omega))) rfl ?_; refine vo_step (ok_move rfl rfl rfl) rfl ?_; refine vo_step (ok_move rfl rfl rfl) rfl ?_; refine vo_step (ok_lenS L rfl rfl rfl rfl) rfl ?_; refine vo_step (ok_leq rfl rfl rfl rfl (decide_eq_false (by omega))) rfl ?_; refine vo_step (ok_pick rfl rfl rfl rfl) rfl ?_; refine vo_step (ok_assign rfl rfl rfl) rfl ?_; refine vo_nil ?_; refine N_seq ?_; refine V_seq ?_; refine V_seq ?_; refine V_region (id := 2) ?_; refine vo_step (ok_assign rfl rfl rfl) rfl ?_; refine vo_nil ?_; refine N_seq ?_; refine V_block ?_
      refine V_loop (fun _ : Unit => [(0, .is (.string s)), (3, .is (.bool false)), (4, .is (.int .i64 0))]) (fun _ => True) (fun _ => 0) () trivial ⟨rfl, rfl, rfl, trivial⟩ ?_
      rintro _ _
      refine V_seq ?_; refine V_seq ?_; refine V_region (id := 3) ?_; refine vo_step (ok_move rfl rfl rfl) rfl ?_; refine vo_step (ok_move rfl rfl rfl) rfl ?_; refine vo_step (ok_lenS L rfl rfl rfl rfl) rfl ?_; refine vo_step (ok_lss rfl rfl rfl rfl (decide_eq_true (by omega))) rfl ?_; refine vo_step (ok_move rfl rfl rfl) rfl ?_; refine vo_step (ok_move rfl rfl rfl) rfl ?_; refine vo_step (ok_pick rfl rfl rfl rfl) rfl ?_; refine vo_nil ?_; refine N_seq ?_; refine V_false rfl ?_; refine V_exit ?_; refine X_then ?_; refine X_then ?_; refine X_here ?_; refine N_seq ?_; refine V_seq ?_; refine V_seq ?_; refine V_region (id := 6) ?_; refine vo_step (ok_move rfl rfl rfl) rfl ?_; refine vo_nil ?_; refine N_seq ?_; refine V_false rfl ?_; refine V_skip ?_; refine N_seq ?_; refine V_seq ?_; refine V_region (id := 8) ?_; refine vo_step (ok_assign rfl rfl rfl) rfl ?_; refine vo_nil ?_; refine N_seq ?_
      refine V_ret L (rs := [.tmp 2]) rfl (fun _ _ h => h) Since.refl fun u H hH hle => ?_
      exact congrArg _ hbad.symm
    · refine V_seq ?_; refine V_region (id := 0) ?_; refine vo_step (ok_assign rfl rfl rfl) rfl ?_; refine vo_nil ?_; refine N_seq ?_; refine V_seq ?_; refine V_region (id := 1) ?_; refine vo_step (ok_move rfl rfl rfl) rfl ?_; refine vo_step (ok_lenS L rfl rfl rfl rfl) rfl ?_; refine vo_step (ok_gtr rfl rfl rfl rfl (decide_eq_false (by omega))) rfl ?_; refine vo_step (ok_move rfl rfl rfl) rfl ?_; refine vo_step (ok_skip rfl (blt_lt rfl) rfl) rfl ?_; refine vo_step (ok_skip rfl (blt_lt rfl) rfl) rfl ?_; refine vo_step (ok_skip rfl (blt_lt rfl) rfl) rfl ?_; refine vo_step (ok_pick rfl rfl rfl rfl) rfl ?_; refine vo_step (ok_assign rfl rfl rfl) rfl ?_; refine vo_nil ?_; refine N_seq ?_; refine V_seq ?_; refine V_seq ?_; refine V_region (id := 2) ?_; refine vo_step (ok_assign rfl rfl rfl) rfl ?_; refine vo_nil ?_; refine N_seq ?_; refine V_block ?_
      refine V_loop (fun _ : Unit => [(0, .is (.string s)), (3, .is (.bool false)), (4, .is (.int .i64 0))]) (fun _ => True) (fun _ => 0) () trivial ⟨rfl, rfl, rfl, trivial⟩ ?_
      rintro _ _
      refine V_seq ?_; refine V_seq ?_; refine V_region (id := 3) ?_; refine vo_step (ok_move rfl rfl rfl) rfl ?_; refine vo_step (ok_move rfl rfl rfl) rfl ?_; refine vo_step (ok_lenS L rfl rfl rfl rfl) rfl ?_; refine vo_step (ok_lss rfl rfl rfl rfl (decide_eq_false (by omega))) rfl ?_; refine vo_step (ok_move rfl rfl rfl) rfl ?_; refine vo_step (ok_skip rfl (blt_lt rfl) rfl) rfl ?_; refine vo_step (ok_pick rfl rfl rfl rfl) rfl ?_; refine vo_nil ?_; refine N_seq ?_; refine V_false rfl ?_; refine V_exit ?_; refine X_then ?_; refine X_then ?_; refine X_here ?_; refine N_seq ?_; refine V_seq ?_; refine V_seq ?_; refine V_region (id := 6) ?_; refine vo_step (ok_move rfl rfl rfl) rfl ?_; refine vo_nil ?_; refine N_seq ?_; refine V_false rfl ?_; refine V_skip ?_; refine N_seq ?_; refine V_seq ?_; refine V_region (id := 8) ?_; refine vo_step (ok_assign rfl rfl rfl) rfl ?_; refine vo_nil ?_; refine N_seq ?_
      refine V_ret L (rs := [.tmp 2]) rfl (fun _ _ h => h) Since.refl fun u H hH hle => ?_
      exact congrArg _ hbad.symm
theorem max2 (a b : ByteArray) : (if chk b > chk a then chk b else chk a) = allE [a, b] := by
  simp only [allE]
  rcases chk_cases a with h | h <;> rcases chk_cases b with h' | h' <;> simp [h, h']
theorem max3 (a b c : ByteArray) : (if chk c > allE [a, b] then chk c else allE [a, b]) = allE [a, b, c] := by
  simp only [allE]
  rcases chk_cases a with h | h <;> rcases chk_cases b with h' | h' <;> rcases chk_cases c with h'' | h'' <;> simp [h, h', h'']
theorem robject_ret {a b : ByteArray} (ha : a.size ≤ 9223372036854775807) (hb : b.size ≤ 9223372036854775807) {w : World} {B : Heap} (hB : B.Le (hp w)) :
    Ret Try.prog 105 [.agg #[.string a, .string b]] w B (fun v _ => v = .int .i64 (allE [a, b])) := by
  refine V_enter Try.func105 rfl Try.ntmps105 (Nat.le_of_ble_eq_true rfl) hB ?_
  refine V_seq ?_; refine V_region (id := 0) ?_; refine vo_step (ok_box rfl rfl rfl rfl) rfl ?_; refine vo_step (ok_assign rfl rfl rfl) rfl ?_; refine vo_nil ?_; refine N_seq ?_; refine V_seq ?_; refine V_regionD (id := 1) [] mixed (by kernel_rfl) ?_; refine par_step (ok_fieldAt L rfl rfl rfl rfl) rfl ?_; refine par_step (ok_load1 L (src_at rfl) rfl rfl rfl rfl) rfl ?_; refine par_step (ok_callx L rfl rfl (blt_lt rfl) rfl rfl rfl (fun u H hH _ _ => rcheck_ret (by first | omega | decide) hH)) rfl ?_; refine par_step (ok_fieldAt L rfl rfl rfl rfl) rfl ?_; refine par_step (ok_load1 L (src_at rfl) rfl rfl rfl rfl) rfl ?_; refine par_step (ok_callx L rfl rfl (blt_lt rfl) rfl rfl rfl (fun u H hH _ _ => rcheck_ret (by first | omega | decide) hH)) rfl ?_; refine par_step (ok_max rfl rfl rfl rfl rfl) rfl ?_; refine par_step (ok_assign rfl rfl rfl) rfl ?_; refine par_nil ?_; refine N_seq ?_
  refine V_ret L (rs := [.tmp 2]) rfl (fun _ _ h => h) Since.refl fun u H hH hle => ?_
  exact congrArg _ (max2 a b)
end Go.V
/- The walks of the definition of tuples (chapter 2). -/
namespace Go.V.L2
open Go.Proofs Go.RowKit Go.V
theorem allE_two : ∀ (l : List ByteArray), allE l = 0 ∨ allE l = 6
  | [] => .inl rfl
  | s :: l => by
    simp only [allE]
    split
    · exact allE_two l
    · rename_i h; exact .inr ((chk_cases s).resolve_left h)
theorem subjE_two (a b c : ByteArray) : subjE a b c = 0 ∨ subjE a b c = 6 := by
  unfold subjE
  split <;> exact allE_two _
theorem cmpT_1 {a b : U} (h : a.1 ≠ b.1) : cmpT a b = cmp3 a.1 b.1 := by
  unfold cmpT lexC; rw [orL2, if_neg fun e => h (cmp3_ord.eq _ _ e)]
theorem drop_g {α : Type} {l : List α} {k : Nat} {g : α} (h : l[k]? = some g) : l.drop k = g :: l.drop (k + 1) := by
  obtain ⟨hl, he⟩ := List.getElem?_eq_some_iff.1 h
  rw [List.drop_eq_getElem_cons hl, he]
attribute [local irreducible] V N X VO Par StepOK Has Ret RetL Src
end Go.V.L2
/- Plain words: the texts of valid names are read again. -/
namespace Go.V
open Go.RowKit
def noB (s : ByteArray) (c : UInt8) : Prop := c ∉ s.data.toList
theorem indexByte_mid (r : List UInt8) (c : UInt8) : ∀ (l : List UInt8), c ∉ l → Lib.indexByte (l ++ c :: r) c = l.length
  | [], _ => by simp [Lib.indexByte]
  | b :: l, h => by
    have h1 : ¬ (b == c) = true := fun e => h (by rw [beq_iff_eq] at e; rw [e]; exact List.mem_cons_self ..)
    have ih := indexByte_mid r c l (fun e => h (List.mem_cons_of_mem _ e))
    rw [List.cons_append, Lib.indexByte, if_neg h1, ih, if_neg (by rw [beq_iff_eq]; omega)]
    simp
theorem indexByte_no (c : UInt8) : ∀ (l : List UInt8), c ∉ l → Lib.indexByte l c = -1
  | [], _ => rfl
  | b :: l, h => by
    have h1 : ¬ (b == c) = true := fun e => h (by rw [beq_iff_eq] at e; rw [e]; exact List.mem_cons_self ..)
    rw [Lib.indexByte, if_neg h1, indexByte_no c l (fun e => h (List.mem_cons_of_mem _ e))]
    rfl
theorem cut_mid {l r : List UInt8} {c : UInt8} (h : c ∉ l) : Lib.cut (l ++ c :: r) [c] = (l, r, true) := by
  unfold Lib.cut
  rw [Lib.index_one, indexByte_mid r c l h, if_pos (by omega)]
  simp
theorem cut_no {l : List UInt8} {c : UInt8} (h : c ∉ l) : Lib.cut l [c] = (l, [], false) := by
  unfold Lib.cut
  rw [Lib.index_one, indexByte_no c l h, if_neg (by omega)]
theorem list_app (a b : ByteArray) : (a ++ b).data.toList = a.data.toList ++ b.data.toList := by
  rw [ByteArray.data_append, Array.toList_append]
theorem ba_ext' {a b : ByteArray} (h : a.data.toList = b.data.toList) : a = b := by
  obtain ⟨⟨x⟩⟩ := a; obtain ⟨⟨y⟩⟩ := b; simp at h; subst h; rfl
theorem cutA_mid {a b : ByteArray} {c : UInt8} (h : noB a c) : cutA (a ++ ⟨#[c]⟩ ++ b) c = (a, b, true) := by
  have e : (a ++ ⟨#[c]⟩ ++ b).data.toList = a.data.toList ++ c :: b.data.toList := by rw [list_app, list_app]; simp
  unfold cutA
  rw [e, cut_mid h]
theorem cutA_no {a : ByteArray} {c : UInt8} (h : noB a c) : cutA a c = (a, ⟨#[]⟩, false) := by
  unfold cutA
  rw [cut_no h]
theorem hasA_no {a : ByteArray} {c : UInt8} (h : noB a c) : hasA a c = false := by
  unfold hasA
  rw [indexByte_no c _ h]; rfl
theorem cntA_no {a : ByteArray} {c : UInt8} (h : noB a c) : cntA a c = 0 := by
  unfold cntA Lib.countByte
  exact List.count_eq_zero_of_not_mem h
theorem allE2 {a b : ByteArray} (h : allE [a, b] = 0) : chk a = 0 ∧ chk b = 0 := by
  simp only [allE] at h
  rcases chk_cases a with h1 | h1 <;> rcases chk_cases b with h2 | h2 <;> simp [h1, h2] at h ⊢
theorem allE3 {a b c : ByteArray} (h : allE [a, b, c] = 0) : chk a = 0 ∧ chk b = 0 ∧ chk c = 0 := by
  simp only [allE] at h
  rcases chk_cases a with h1 | h1 <;> rcases chk_cases b with h2 | h2 <;> rcases chk_cases c with h3 | h3 <;> simp [h1, h2, h3] at h ⊢
theorem allE2_of {a b : ByteArray} (ha : chk a = 0) (hb : chk b = 0) : allE [a, b] = 0 := by simp [allE, ha, hb]
theorem allE3_of {a b c : ByteArray} (ha : chk a = 0) (hb : chk b = 0) (hc : chk c = 0) : allE [a, b, c] = 0 := by simp [allE, ha, hb, hc]
theorem subjE_zero {a b c : ByteArray} (h : subjE a b c = 0) : chk a = 0 ∧ chk b = 0 ∧ (c = ⟨#[]⟩ ∨ chk c = 0) := by
  unfold subjE at h
  split at h
  · rename_i hc; exact ⟨(allE2 h).1, (allE2 h).2, .inl hc⟩
  · exact ⟨(allE3 h).1, (allE3 h).2.1, .inr (allE3 h).2.2⟩
end Go.V
/- The walks of the definition of names: texts are read. -/
namespace Go.V
open Go.Proofs Go.RowKit
/-- Where a byte is. -/
def fi (c : UInt8) : List UInt8 → Nat
  | [] => 0
  | x :: l => if x = c then 0 else fi c l + 1
theorem fi_no {c : UInt8} : ∀ {l : List UInt8}, c ∉ l → fi c l = l.length
  | [], _ => rfl
  | x :: l, h => by
    rw [fi, if_neg fun e => h (by rw [e]; exact List.mem_cons_self ..), fi_no fun e => h (List.mem_cons_of_mem _ e), List.length_cons]
theorem fi_app {c : UInt8} {q : List UInt8} : ∀ {p : List UInt8}, c ∉ p → fi c (p ++ q) = p.length + fi c q
  | [], _ => by simp
  | x :: p, h => by
    rw [List.cons_append, fi, if_neg fun e => h (by rw [e]; exact List.mem_cons_self ..), fi_app fun e => h (List.mem_cons_of_mem _ e), List.length_cons]; omega
theorem fi_lt {c : UInt8} {q : List UInt8} : ∀ {p : List UInt8}, c ∈ p → fi c (p ++ q) < p.length
  | x :: p, h => by
    rw [List.cons_append, fi]
    split
    · simp
    · rename_i hx
      have := fi_lt (q := q) ((List.mem_cons.1 h).resolve_left fun e => hx e.symm)
      simp only [List.length_cons]; omega
/-- A string that has a byte. -/
theorem split_b (s : ByteArray) (c : UInt8) : noB s c ∨ ∃ a b, s = a ++ ⟨#[c]⟩ ++ b ∧ noB a c := by
  by_cases h : c ∈ s.data.toList
  · obtain ⟨p, q, e, hp⟩ := List.eq_append_cons_of_mem h
    refine .inr ⟨⟨p.toArray⟩, ⟨q.toArray⟩, ba_ext' ?_, by unfold noB; simpa using hp⟩
    rw [list_app, list_app, e]
    simp
  · exact .inl h
theorem ext_mid (p q r : ByteArray) (i j : Nat) (hi : i = p.size) (hj : j = p.size + q.size) : (p ++ q ++ r).extract i j = q := by
  subst hi hj
  apply ba_ext'
  rw [ByteArray.data_extract, Array.toList_extract, List.extract, list_app, list_app]
  have h1 : p.data.toList.length = p.size := len_toList p
  have h2 : q.data.toList.length = q.size := len_toList q
  rw [List.append_assoc, ← h1, List.drop_left, List.take_left' (by omega)]
theorem hasA_yes {a : ByteArray} {c : UInt8} (h : ¬ noB a c) : hasA a c = true := by
  rcases split_b a c with h1 | ⟨p, q, rfl, hp⟩
  · exact absurd h1 h
  · unfold hasA
    have e : (p ++ ⟨#[c]⟩ ++ q).data.toList = p.data.toList ++ c :: q.data.toList := by rw [list_app, list_app]; simp
    rw [e, indexByte_mid _ _ _ hp]
    simp
/-- What the definition reads. -/
def rp1 (s : ByteArray) : ByteArray × ByteArray × ByteArray × Bool × Int :=
  match partsA s with
  | none => (sNil, sNil, sNil, false, 5)
  | some (x, y, z, d) => (x, y, z, d, if d = true then allE [x, y, z] else allE [x, y])
theorem mid_list (a b : ByteArray) (c : UInt8) : (a ++ ⟨#[c]⟩ ++ b).data.toList = a.data.toList ++ c :: b.data.toList := by rw [list_app, list_app]; simp
theorem mid_size (a b : ByteArray) (c : UInt8) : (a ++ ⟨#[c]⟩ ++ b).size = a.size + 1 + b.size := by rw [ByteArray.size_append, ByteArray.size_append]; rfl
theorem count_pos {s : ByteArray} {c : UInt8} (h : ¬ noB s c) : 0 < s.data.toList.count c := List.count_pos_iff.2 (Classical.not_not.1 h)
attribute [local irreducible] V N X VO Par StepOK Has Ret RetL Src
set_option maxHeartbeats 1000000 in
theorem place_ret {s : ByteArray} {c : UInt8} {a n : Nat} (ha : fi c s.data.toList = a) (hn : s.data.toList.count c = n) (hs : s.size ≤ 1000000) {w : World} {B : Heap} (hB : B.Le (hp w)) :
    Ret Try.prog 107 [.string s, .int .u8 c.toNat] w B (fun v _ => v = .tuple #[.int .i64 a, .int .i64 n]) := by
  subst ha hn
  have hlen := len_toList s
  refine V_enter Try.func107 rfl Try.ntmps107 (Nat.le_of_ble_eq_true rfl) hB ?_
  refine V_seq ?_; refine V_region (id := 0) ?_; refine vo_step (ok_assign rfl rfl rfl) rfl ?_; refine vo_step (ok_assign rfl rfl rfl) rfl ?_; refine vo_nil ?_; refine N_seq ?_; refine V_seq ?_; refine V_region (id := 1) ?_; refine vo_step (ok_move rfl rfl rfl) rfl ?_; refine vo_step (ok_lenS L rfl rfl rfl rfl) rfl ?_; refine vo_step (ok_assign rfl rfl rfl) rfl ?_; refine vo_step (ok_assign rfl rfl rfl) rfl ?_; refine vo_nil ?_; refine N_seq ?_; refine V_seq ?_; refine V_seq ?_; refine V_region (id := 2) ?_; refine vo_step (ok_move rfl rfl rfl) rfl ?_; refine vo_step (ok_lenS L rfl rfl rfl rfl) rfl ?_; refine vo_step (ok_sub rfl rfl rfl rfl (wrap_i64 (by omega) (by omega))) rfl ?_; refine vo_step (ok_assign rfl rfl rfl) rfl ?_; refine vo_nil ?_; refine N_seq ?_; refine V_block ?_
  refine V_loop (fun x : Nat × Nat × Nat × Int => [(0, .is (.string s)), (1, .is (.int .u8 c.toNat)), (6, .is (.int .i64 x.2.1)), (7, .is (.int .i64 x.2.2.1)), (8, .is (.int .i64 x.2.2.2))])
    (fun x => x.1 ≤ s.size ∧ x.2.1 = x.1 + fi c (s.data.toList.drop x.1) ∧ x.2.2.1 = (s.data.toList.drop x.1).count c ∧ x.2.2.2 = (x.1 : Int) - 1 ∧ x.2.2.1 ≤ s.size - x.1) (fun x => x.1) (s.size, s.size, 0, (s.size : Int) - 1)
    ⟨Nat.le_refl _, by rw [List.drop_eq_nil_of_le (by omega)]; rfl, by rw [List.drop_eq_nil_of_le (by omega)]; rfl, rfl, Nat.zero_le _⟩ ⟨rfl, rfl, rfl, rfl, rfl, trivial⟩ ?_
  rintro ⟨i, a, n, z⟩ ⟨hi, ha, hn, hz, hb⟩
  dsimp only at hi ha hn hz hb ⊢
  cases i with
  | zero =>
    rw [List.drop_zero] at ha hn
    have hz0 : z < 0 := by omega
    obtain rfl : a = fi c s.data.toList := by omega
    subst hn
    refine V_seq ?_; refine V_seq ?_; refine V_region (id := 3) ?_; refine vo_step (ok_move rfl rfl rfl) rfl ?_; refine vo_step (ok_geq rfl rfl rfl rfl (decide_eq_false (by omega))) rfl ?_; refine vo_nil ?_; refine N_seq ?_; refine V_false rfl ?_; refine V_exit ?_; refine X_then ?_; refine X_then ?_; refine X_here ?_; refine N_seq ?_; refine V_seq ?_; refine V_region (id := 8) ?_; refine vo_step (ok_move rfl rfl rfl) rfl ?_; refine vo_step (ok_move rfl rfl rfl) rfl ?_; refine vo_step (ok_assign rfl rfl rfl) rfl ?_; refine vo_step (ok_assign rfl rfl rfl) rfl ?_; refine vo_nil ?_; refine N_seq ?_
    refine V_ret L (rs := [.tmp 4, .tmp 5]) rfl (fun _ _ h => h) Since.refl fun u H hH hle => ?_
    rfl
  | succ k =>
    obtain rfl : z = (k : Int) := by omega
    obtain ⟨x, hc⟩ := getElem?_lt (show k < s.size by omega)
    have hd : s.data.toList[k]? = some x := by
      have : s.data[k]? = some x := hc
      simpa using this
    have hdr : s.data.toList.drop k = x :: s.data.toList.drop (k + 1) := by
      have h1 : k < s.data.toList.length := by omega
      rw [List.drop_eq_getElem_cons h1]
      rw [List.getElem?_eq_getElem h1] at hd
      rw [Option.some.inj hd]
    by_cases hx : x = c
    · subst hx
      refine V_seq ?_; refine V_seq ?_; refine V_region (id := 3) ?_; refine vo_step (ok_move rfl rfl rfl) rfl ?_; refine vo_step (ok_geq rfl rfl rfl rfl (decide_eq_true (by omega))) rfl ?_; refine vo_nil ?_; refine N_seq ?_; refine V_true rfl ?_; refine V_skip ?_; refine N_seq ?_; refine V_seq ?_; refine V_block ?_; refine V_seq ?_; refine V_region (id := 5) ?_; refine vo_step (ok_move rfl rfl rfl) rfl ?_; refine vo_step (ok_move rfl rfl rfl) rfl ?_; refine vo_step (ok_indexS L rfl rfl rfl rfl rfl (by assumption)) rfl ?_; refine vo_step (ok_move rfl rfl rfl) rfl ?_; refine vo_step (ok_eql rfl rfl rfl rfl (decide_eq_true (by omega))) rfl ?_; refine vo_nil ?_; refine N_seq ?_; refine V_true rfl ?_; refine V_seq ?_; refine V_region (id := 6) ?_; refine vo_step (ok_move rfl rfl rfl) rfl ?_; refine vo_step (ok_assign rfl rfl rfl) rfl ?_; refine vo_nil ?_; refine N_seq ?_; refine V_region (id := 7) ?_; refine vo_step (ok_move rfl rfl rfl) rfl ?_; refine vo_step (ok_add rfl rfl rfl rfl (wrap_i64 (by omega) (by omega))) rfl ?_; refine vo_step (ok_assign rfl rfl rfl) rfl ?_; refine vo_nil ?_; refine N_block ?_; refine N_seq ?_; refine V_region (id := 4) ?_; refine vo_step (ok_move rfl rfl rfl) rfl ?_; refine vo_step (ok_sub rfl rfl rfl rfl (wrap_i64 (by omega) (by omega))) rfl ?_; refine vo_step (ok_assign rfl rfl rfl) rfl ?_; refine vo_nil ?_
      exact N_round (x := (k + 1, a, n, (k : Int))) (k, k, n + 1, (k : Int) - 1) ⟨by dsimp only; omega, by dsimp only; rw [hdr, fi, if_pos rfl]; rfl, by dsimp only; rw [hdr, List.count_cons_self, hn], rfl, by dsimp only; omega⟩ (by dsimp only; omega) ⟨rfl, rfl, rfl, rfl, rfl, trivial⟩
    · have hxc : (x.toNat : Int) ≠ (c.toNat : Int) := fun e => hx (UInt8.toNat_inj.1 (by omega))
      refine V_seq ?_; refine V_seq ?_; refine V_region (id := 3) ?_; refine vo_step (ok_move rfl rfl rfl) rfl ?_; refine vo_step (ok_geq rfl rfl rfl rfl (decide_eq_true (by omega))) rfl ?_; refine vo_nil ?_; refine N_seq ?_; refine V_true rfl ?_; refine V_skip ?_; refine N_seq ?_; refine V_seq ?_; refine V_block ?_; refine V_seq ?_; refine V_region (id := 5) ?_; refine vo_step (ok_move rfl rfl rfl) rfl ?_; refine vo_step (ok_move rfl rfl rfl) rfl ?_; refine vo_step (ok_indexS L rfl rfl rfl rfl rfl (by assumption)) rfl ?_; refine vo_step (ok_move rfl rfl rfl) rfl ?_; refine vo_step (ok_eql rfl rfl rfl rfl (decide_eq_false (by omega))) rfl ?_; refine vo_nil ?_; refine N_seq ?_; refine V_false rfl ?_; refine V_skip ?_; refine N_block ?_; refine N_seq ?_; refine V_region (id := 4) ?_; refine vo_step (ok_move rfl rfl rfl) rfl ?_; refine vo_step (ok_sub rfl rfl rfl rfl (wrap_i64 (by omega) (by omega))) rfl ?_; refine vo_step (ok_assign rfl rfl rfl) rfl ?_; refine vo_nil ?_
      exact N_round (x := (k + 1, a, n, (k : Int))) (k, a, n, (k : Int) - 1) ⟨by dsimp only; omega, by dsimp only; rw [hdr, fi, if_neg hx, ha]; omega, by dsimp only; rw [hdr, List.count_cons_of_ne hx, hn], rfl, by dsimp only; omega⟩ (by dsimp only; omega) ⟨rfl, rfl, rfl, rfl, rfl, trivial⟩
set_option maxHeartbeats 2000000 in
theorem rparse1_ret {s : ByteArray} {r : ByteArray × ByteArray × ByteArray × Bool × Int} (hr : rp1 s = r) (hs : s.size ≤ 1000000) {w : World} {B : Heap} (hB : B.Le (hp w)) :
    Ret Try.prog 84 [.string s] w B (fun v _ => v = .tuple #[.agg #[.string r.1, .string r.2.1], .string r.2.2.1, .bool r.2.2.2.1, .int .i64 r.2.2.2.2]) := by
  subst hr
  have bad : partsA s = none → ∀ {m k m2 k2 : Nat}, fi 58 s.data.toList = m → s.data.toList.count 58 = k → fi 35 s.data.toList = m2 → s.data.toList.count 35 = k2 → (k ≠ 1 ∨ 1 < k2 ∨ m2 < m) →
      Ret Try.prog 84 [.string s] w B (fun v _ => v = .tuple #[.agg #[.string (rp1 s).1, .string (rp1 s).2.1], .string (rp1 s).2.2.1, .bool (rp1 s).2.2.2.1, .int .i64 (rp1 s).2.2.2.2]) := by
    intro hp m k m2 k2 e1 e2 e3 e4 hor
    have hr1 : rp1 s = (sNil, sNil, sNil, false, 5) := by unfold rp1; rw [hp]
    rw [hr1]
    refine V_enter Try.func84 rfl Try.ntmps84 (Nat.le_of_ble_eq_true rfl) hB ?_
    by_cases c1 : k = 1
    · by_cases c2 : 1 < k2
      · refine V_seq ?_; refine V_region (id := 0) ?_; refine vo_step (ok_alloc L rfl rfl rfl rfl) rfl ?_; refine vo_step (ok_assign rfl rfl rfl) rfl ?_; refine vo_step (ok_assign rfl rfl rfl) rfl ?_; refine vo_step (ok_assign rfl rfl rfl) rfl ?_; refine vo_nil ?_; refine N_seq ?_; refine V_seq ?_; refine V_region (id := 1) ?_; refine vo_step (ok_move rfl rfl rfl) rfl ?_; refine vo_step (ok_callx L rfl rfl (blt_lt rfl) rfl rfl rfl (fun u H hH _ _ => place_ret (c := 58) e1 e2 hs hH)) rfl ?_; refine vo_step (ok_move rfl rfl rfl) rfl ?_; refine vo_step (ok_extract rfl rfl rfl rfl) rfl ?_; refine vo_step (ok_extract rfl rfl rfl rfl) rfl ?_; refine vo_step (ok_assign rfl rfl rfl) rfl ?_; refine vo_step (ok_assign rfl rfl rfl) rfl ?_; refine vo_nil ?_; refine N_seq ?_; refine V_seq ?_; refine V_region (id := 2) ?_; refine vo_step (ok_move rfl rfl rfl) rfl ?_; refine vo_step (ok_callx L rfl rfl (blt_lt rfl) rfl rfl rfl (fun u H hH _ _ => place_ret (c := 35) e3 e4 hs hH)) rfl ?_; refine vo_step (ok_move rfl rfl rfl) rfl ?_; refine vo_step (ok_extract rfl rfl rfl rfl) rfl ?_; refine vo_step (ok_extract rfl rfl rfl rfl) rfl ?_; refine vo_step (ok_assign rfl rfl rfl) rfl ?_; refine vo_step (ok_assign rfl rfl rfl) rfl ?_; refine vo_nil ?_; refine N_seq ?_; refine V_seq ?_; refine V_seq ?_; refine V_region (id := 3) ?_; refine vo_step (ok_move rfl rfl rfl) rfl ?_; refine vo_step (ok_neq rfl rfl rfl rfl (decide_eq_false (by omega))) rfl ?_; refine vo_step (ok_move rfl rfl rfl) rfl ?_; refine vo_step (ok_move rfl rfl rfl) rfl ?_; refine vo_step (ok_gtr rfl rfl rfl rfl (decide_eq_true (by omega))) rfl ?_; refine vo_step (ok_pick rfl rfl rfl rfl) rfl ?_; refine vo_step (ok_move rfl rfl rfl) rfl ?_; refine vo_step (ok_skip rfl (blt_lt rfl) rfl) rfl ?_; refine vo_step (ok_skip rfl (blt_lt rfl) rfl) rfl ?_; refine vo_step (ok_skip rfl (blt_lt rfl) rfl) rfl ?_; refine vo_step (ok_pick rfl rfl rfl rfl) rfl ?_; refine vo_nil ?_; refine N_seq ?_; refine V_true rfl ?_; refine V_seq ?_; refine V_region (id := 4) ?_; refine vo_step (ok_build (cs := [_, _]) rfl rfl pl47 rfl rfl) rfl ?_; refine vo_step (ok_store L rfl rfl rfl rfl rfl rfl rfl rfl) rfl ?_; refine vo_step (ok_assign rfl rfl rfl) rfl ?_; refine vo_step (ok_assign rfl rfl rfl) rfl ?_; refine vo_step (ok_assign rfl rfl rfl) rfl ?_; refine vo_nil ?_; refine N_seq ?_
        refine V_ret L (rs := [.cell 2 47, .tmp 3, .tmp 4, .tmp 5]) rfl (fun _ _ h => h) Since.refl fun u H hH hle => ?_
        exact ⟨_, src_own rfl, rfl, rfl⟩
      · have c3 : m2 < m := by omega
        refine V_seq ?_; refine V_region (id := 0) ?_; refine vo_step (ok_alloc L rfl rfl rfl rfl) rfl ?_; refine vo_step (ok_assign rfl rfl rfl) rfl ?_; refine vo_step (ok_assign rfl rfl rfl) rfl ?_; refine vo_step (ok_assign rfl rfl rfl) rfl ?_; refine vo_nil ?_; refine N_seq ?_; refine V_seq ?_; refine V_region (id := 1) ?_; refine vo_step (ok_move rfl rfl rfl) rfl ?_; refine vo_step (ok_callx L rfl rfl (blt_lt rfl) rfl rfl rfl (fun u H hH _ _ => place_ret (c := 58) e1 e2 hs hH)) rfl ?_; refine vo_step (ok_move rfl rfl rfl) rfl ?_; refine vo_step (ok_extract rfl rfl rfl rfl) rfl ?_; refine vo_step (ok_extract rfl rfl rfl rfl) rfl ?_; refine vo_step (ok_assign rfl rfl rfl) rfl ?_; refine vo_step (ok_assign rfl rfl rfl) rfl ?_; refine vo_nil ?_; refine N_seq ?_; refine V_seq ?_; refine V_region (id := 2) ?_; refine vo_step (ok_move rfl rfl rfl) rfl ?_; refine vo_step (ok_callx L rfl rfl (blt_lt rfl) rfl rfl rfl (fun u H hH _ _ => place_ret (c := 35) e3 e4 hs hH)) rfl ?_; refine vo_step (ok_move rfl rfl rfl) rfl ?_; refine vo_step (ok_extract rfl rfl rfl rfl) rfl ?_; refine vo_step (ok_extract rfl rfl rfl rfl) rfl ?_; refine vo_step (ok_assign rfl rfl rfl) rfl ?_; refine vo_step (ok_assign rfl rfl rfl) rfl ?_; refine vo_nil ?_; refine N_seq ?_; refine V_seq ?_; refine V_seq ?_; refine V_region (id := 3) ?_; refine vo_step (ok_move rfl rfl rfl) rfl ?_; refine vo_step (ok_neq rfl rfl rfl rfl (decide_eq_false (by omega))) rfl ?_; refine vo_step (ok_move rfl rfl rfl) rfl ?_; refine vo_step (ok_move rfl rfl rfl) rfl ?_; refine vo_step (ok_gtr rfl rfl rfl rfl (decide_eq_false (by omega))) rfl ?_; refine vo_step (ok_pick rfl rfl rfl rfl) rfl ?_; refine vo_step (ok_move rfl rfl rfl) rfl ?_; refine vo_step (ok_move rfl rfl rfl) rfl ?_; refine vo_step (ok_move rfl rfl rfl) rfl ?_; refine vo_step (ok_lss rfl rfl rfl rfl (decide_eq_true (by omega))) rfl ?_; refine vo_step (ok_pick rfl rfl rfl rfl) rfl ?_; refine vo_nil ?_; refine N_seq ?_; refine V_true rfl ?_; refine V_seq ?_; refine V_region (id := 4) ?_; refine vo_step (ok_build (cs := [_, _]) rfl rfl pl47 rfl rfl) rfl ?_; refine vo_step (ok_store L rfl rfl rfl rfl rfl rfl rfl rfl) rfl ?_; refine vo_step (ok_assign rfl rfl rfl) rfl ?_; refine vo_step (ok_assign rfl rfl rfl) rfl ?_; refine vo_step (ok_assign rfl rfl rfl) rfl ?_; refine vo_nil ?_; refine N_seq ?_
        refine V_ret L (rs := [.cell 2 47, .tmp 3, .tmp 4, .tmp 5]) rfl (fun _ _ h => h) Since.refl fun u H hH hle => ?_
        exact ⟨_, src_own rfl, rfl, rfl⟩
    · refine V_seq ?_; refine V_region (id := 0) ?_; refine vo_step (ok_alloc L rfl rfl rfl rfl) rfl ?_; refine vo_step (ok_assign rfl rfl rfl) rfl ?_; refine vo_step (ok_assign rfl rfl rfl) rfl ?_; refine vo_step (ok_assign rfl rfl rfl) rfl ?_; refine vo_nil ?_; refine N_seq ?_; refine V_seq ?_; refine V_region (id := 1) ?_; refine vo_step (ok_move rfl rfl rfl) rfl ?_; refine vo_step (ok_callx L rfl rfl (blt_lt rfl) rfl rfl rfl (fun u H hH _ _ => place_ret (c := 58) e1 e2 hs hH)) rfl ?_; refine vo_step (ok_move rfl rfl rfl) rfl ?_; refine vo_step (ok_extract rfl rfl rfl rfl) rfl ?_; refine vo_step (ok_extract rfl rfl rfl rfl) rfl ?_; refine vo_step (ok_assign rfl rfl rfl) rfl ?_; refine vo_step (ok_assign rfl rfl rfl) rfl ?_; refine vo_nil ?_; refine N_seq ?_; refine V_seq ?_; refine V_region (id := 2) ?_; refine vo_step (ok_move rfl rfl rfl) rfl ?_; refine vo_step (ok_callx L rfl rfl (blt_lt rfl) rfl rfl rfl (fun u H hH _ _ => place_ret (c := 35) e3 e4 hs hH)) rfl ?_; refine vo_step (ok_move rfl rfl rfl) rfl ?_; refine vo_step (ok_extract rfl rfl rfl rfl) rfl ?_; refine vo_step (ok_extract rfl rfl rfl rfl) rfl ?_; refine vo_step (ok_assign rfl rfl rfl) rfl ?_; refine vo_step (ok_assign rfl rfl rfl) rfl ?_; refine vo_nil ?_; refine N_seq ?_; refine V_seq ?_; refine V_seq ?_; refine V_region (id := 3) ?_; refine vo_step (ok_move rfl rfl rfl) rfl ?_; refine vo_step (ok_neq rfl rfl rfl rfl (decide_eq_true (by omega))) rfl ?_; refine vo_step (ok_move rfl rfl rfl) rfl ?_; refine vo_step (ok_skip rfl (blt_lt rfl) rfl) rfl ?_; refine vo_step (ok_skip rfl (blt_lt rfl) rfl) rfl ?_; refine vo_step (ok_pick rfl rfl rfl rfl) rfl ?_; refine vo_step (ok_move rfl rfl rfl) rfl ?_; refine vo_step (ok_skip rfl (blt_lt rfl) rfl) rfl ?_; refine vo_step (ok_skip rfl (blt_lt rfl) rfl) rfl ?_; refine vo_step (ok_skip rfl (blt_lt rfl) rfl) rfl ?_; refine vo_step (ok_pick rfl rfl rfl rfl) rfl ?_; refine vo_nil ?_; refine N_seq ?_; refine V_true rfl ?_; refine V_seq ?_; refine V_region (id := 4) ?_; refine vo_step (ok_build (cs := [_, _]) rfl rfl pl47 rfl rfl) rfl ?_; refine vo_step (ok_store L rfl rfl rfl rfl rfl rfl rfl rfl) rfl ?_; refine vo_step (ok_assign rfl rfl rfl) rfl ?_; refine vo_step (ok_assign rfl rfl rfl) rfl ?_; refine vo_step (ok_assign rfl rfl rfl) rfl ?_; refine vo_nil ?_; refine N_seq ?_
      refine V_ret L (rs := [.cell 2 47, .tmp 3, .tmp 4, .tmp 5]) rfl (fun _ _ h => h) Since.refl fun u H hH hle => ?_
      exact ⟨_, src_own rfl, rfl, rfl⟩
  rcases split_b s 58 with h58 | ⟨a, b, rfl, ha⟩
  · refine bad ?_ rfl rfl rfl rfl (.inl ?_)
    · unfold partsA; rw [cutA_no h58]; simp
    · rw [List.count_eq_zero_of_not_mem h58]; decide
  · have hcut : cutA (a ++ ⟨#[58]⟩ ++ b) 58 = (a, b, true) := cutA_mid ha
    have hls := mid_list a b 58
    have hsz := mid_size a b 58
    by_cases hb : noB b 58
    · have hf1 : fi 58 (a ++ ⟨#[58]⟩ ++ b).data.toList = a.size := by rw [hls, fi_app ha, len_toList]; simp [fi]
      have hc1 : (a ++ ⟨#[58]⟩ ++ b).data.toList.count 58 = 1 := by rw [hls, List.count_append, List.count_cons_self, List.count_eq_zero_of_not_mem ha, List.count_eq_zero_of_not_mem hb]
      by_cases ha3 : noB a 35
      · have hf2 : fi 35 (a ++ ⟨#[58]⟩ ++ b).data.toList = a.size + 1 + fi 35 b.data.toList := by rw [hls, fi_app ha3, len_toList, fi, if_neg (by decide)]; omega
        have hc2 : (a ++ ⟨#[58]⟩ ++ b).data.toList.count 35 = b.data.toList.count 35 := by rw [hls, List.count_append, List.count_eq_zero_of_not_mem ha3, List.count_cons_of_ne (by decide)]; omega
        have hn1 := hasA_no ha3
        have hn2 := hasA_no hb
        have za : a.size ≤ 1099511627776 := by omega
        have zb : b.size ≤ 1099511627776 := by omega
        have hadd1 : IntKind.i64.wrap ((a.size : Int) + 1) = ((a.size + 1 : Nat) : Int) := wrap_i64 (by omega) (by omega) |>.trans (by omega)
        have x1 : (a ++ ⟨#[58]⟩ ++ b).extract 0 a.size = a := by
          have := ext_mid ⟨#[]⟩ a (⟨#[58]⟩ ++ b) 0 a.size rfl (by show _ = 0 + _; omega)
          conv => rhs; rw [← this]
          congr 1; apply ba_ext'; simp [list_app]
        rcases split_b b 35 with hb3 | ⟨c, e, rfl, hc3⟩
        · have hp : partsA (a ++ ⟨#[58]⟩ ++ b) = some (a, b, sNil, false) := by
            unfold partsA; rw [hcut]
            simp only [hn1, hn2, cntA_no hb3, cutA_no hb3]
            simp
          have hr1 : rp1 (a ++ ⟨#[58]⟩ ++ b) = (a, b, sNil, false, allE [a, b]) := by unfold rp1; rw [hp]; rfl
          rw [hr1]
          have hf3 : fi 35 (a ++ ⟨#[58]⟩ ++ b).data.toList = a.size + 1 + b.size := by rw [hf2, fi_no hb3, len_toList]
          have hc3 : (a ++ ⟨#[58]⟩ ++ b).data.toList.count 35 = 0 := by rw [hc2, List.count_eq_zero_of_not_mem hb3]
          have x2 : (a ++ ⟨#[58]⟩ ++ b).extract (a.size + 1) (a.size + 1 + b.size) = b := by
            have := ext_mid (a ++ ⟨#[58]⟩) b ⟨#[]⟩ (a.size + 1) (a.size + 1 + b.size) (by rw [ByteArray.size_append]; rfl) (by rw [ByteArray.size_append]; rfl)
            conv => rhs; rw [← this]
            congr 1; apply ba_ext'; simp [list_app]
          generalize a ++ ⟨#[58]⟩ ++ b = s at *
          refine V_enter Try.func84 rfl Try.ntmps84 (Nat.le_of_ble_eq_true rfl) hB ?_
          refine V_seq ?_; refine V_region (id := 0) ?_; refine vo_step (ok_alloc L rfl rfl rfl rfl) rfl ?_; refine vo_step (ok_assign rfl rfl rfl) rfl ?_; refine vo_step (ok_assign rfl rfl rfl) rfl ?_; refine vo_step (ok_assign rfl rfl rfl) rfl ?_; refine vo_nil ?_; refine N_seq ?_; refine V_seq ?_; refine V_region (id := 1) ?_; refine vo_step (ok_move rfl rfl rfl) rfl ?_; refine vo_step (ok_callx L rfl rfl (blt_lt rfl) rfl rfl rfl (fun u H hH _ _ => place_ret (c := 58) hf1 hc1 hs hH)) rfl ?_; refine vo_step (ok_move rfl rfl rfl) rfl ?_; refine vo_step (ok_extract rfl rfl rfl rfl) rfl ?_; refine vo_step (ok_extract rfl rfl rfl rfl) rfl ?_; refine vo_step (ok_assign rfl rfl rfl) rfl ?_; refine vo_step (ok_assign rfl rfl rfl) rfl ?_; refine vo_nil ?_; refine N_seq ?_; refine V_seq ?_; refine V_region (id := 2) ?_; refine vo_step (ok_move rfl rfl rfl) rfl ?_; refine vo_step (ok_callx L rfl rfl (blt_lt rfl) rfl rfl rfl (fun u H hH _ _ => place_ret (c := 35) hf3 hc3 hs hH)) rfl ?_; refine vo_step (ok_move rfl rfl rfl) rfl ?_; refine vo_step (ok_extract rfl rfl rfl rfl) rfl ?_; refine vo_step (ok_extract rfl rfl rfl rfl) rfl ?_; refine vo_step (ok_assign rfl rfl rfl) rfl ?_; refine vo_step (ok_assign rfl rfl rfl) rfl ?_; refine vo_nil ?_; refine N_seq ?_; refine V_seq ?_; refine V_seq ?_; refine V_region (id := 3) ?_; refine vo_step (ok_move rfl rfl rfl) rfl ?_; refine vo_step (ok_neq rfl rfl rfl rfl (decide_eq_false (by omega))) rfl ?_; refine vo_step (ok_move rfl rfl rfl) rfl ?_; refine vo_step (ok_move rfl rfl rfl) rfl ?_; refine vo_step (ok_gtr rfl rfl rfl rfl (decide_eq_false (by omega))) rfl ?_; refine vo_step (ok_pick rfl rfl rfl rfl) rfl ?_; refine vo_step (ok_move rfl rfl rfl) rfl ?_; refine vo_step (ok_move rfl rfl rfl) rfl ?_; refine vo_step (ok_move rfl rfl rfl) rfl ?_; refine vo_step (ok_lss rfl rfl rfl rfl (decide_eq_false (by omega))) rfl ?_; refine vo_step (ok_pick rfl rfl rfl rfl) rfl ?_; refine vo_nil ?_; refine N_seq ?_; refine V_false rfl ?_; refine V_skip ?_; refine N_seq ?_; refine V_seq ?_; refine V_regionD (id := 5) [] mixed (by kernel_rfl) ?_; refine par_step (ok_move rfl rfl rfl) rfl ?_; refine par_step (ok_move rfl rfl rfl) rfl ?_; refine par_step (ok_sliceS L (kl := .i64) (pl := 0) 0 a.size rfl rfl rfl rfl rfl ⟨rfl, rfl⟩ (by omega) (by omega) x1) rfl ?_; refine par_step (ok_move rfl rfl rfl) rfl ?_; refine par_step (ok_move rfl rfl rfl) rfl ?_; refine par_step (ok_add rfl rfl rfl rfl (by assumption)) rfl ?_; refine par_step (ok_move rfl rfl rfl) rfl ?_; refine par_step (ok_sliceS L (a.size + 1) (a.size + 1 + b.size) rfl rfl rfl rfl ⟨rfl, rfl⟩ ⟨rfl, rfl⟩ (by omega) (by omega) x2) rfl ?_; refine par_step (ok_build (cs := [_, _]) rfl rfl pl47 rfl rfl) rfl ?_; refine par_step (ok_alloc L rfl rfl rfl rfl) rfl ?_; refine par_step (ok_store L rfl rfl rfl rfl rfl rfl rfl rfl) rfl ?_; refine par_nil ?_; refine N_seq ?_; refine V_seq ?_; refine V_seq ?_; refine V_region (id := 6) ?_; refine vo_step (ok_move rfl rfl rfl) rfl ?_; refine vo_step (ok_eql rfl rfl rfl rfl (decide_eq_true (by omega))) rfl ?_; refine vo_nil ?_; refine N_seq ?_; refine V_true rfl ?_; refine V_seq ?_; refine V_regionD (id := 7) [] mixed (by kernel_rfl) ?_; refine par_step (ok_loadA L (vs := [_, _]) (src_own rfl) rfl rfl rfl rfl ⟨_, rfl⟩) rfl ?_; refine par_step (ok_loadA L (vs := [_, _]) (src_own rfl) rfl rfl rfl rfl ⟨_, rfl⟩) rfl ?_; refine par_step (ok_callx L rfl rfl (blt_lt rfl) rfl rfl rfl (fun u H hH _ _ => robject_ret (by first | assumption | omega | decide) (by first | assumption | omega | decide) hH)) rfl ?_; refine par_step (ok_store L rfl rfl rfl rfl rfl rfl rfl rfl) rfl ?_; refine par_step (ok_assign rfl rfl rfl) rfl ?_; refine par_step (ok_assign rfl rfl rfl) rfl ?_; refine par_step (ok_assign rfl rfl rfl) rfl ?_; refine par_nil ?_; refine N_seq ?_
          refine V_ret L (rs := [.cell 2 47, .tmp 3, .tmp 4, .tmp 5]) rfl (fun _ _ h => h) Since.refl fun u H hH hle => ?_
          exact ⟨_, src_own rfl, rfl, rfl⟩
        · have hls2 := mid_list c e 35
          have hsz2 := mid_size c e 35
          by_cases he3 : noB e 35
          · have hcn : (c ++ ⟨#[35]⟩ ++ e).data.toList.count 35 = 1 := by rw [hls2, List.count_append, List.count_cons_self, List.count_eq_zero_of_not_mem hc3, List.count_eq_zero_of_not_mem he3]
            have hp : partsA (a ++ ⟨#[58]⟩ ++ (c ++ ⟨#[35]⟩ ++ e)) = some (a, c, e, true) := by
              unfold partsA; rw [hcut]
              have h4 : cntA (c ++ ⟨#[35]⟩ ++ e) 35 = 1 := hcn
              simp only [hn1, hn2, h4, cutA_mid hc3]
              simp
            have hr1 : rp1 (a ++ ⟨#[58]⟩ ++ (c ++ ⟨#[35]⟩ ++ e)) = (a, c, e, true, allE [a, c, e]) := by unfold rp1; rw [hp]; rfl
            rw [hr1]
            have hf3 : fi 35 (a ++ ⟨#[58]⟩ ++ (c ++ ⟨#[35]⟩ ++ e)).data.toList = a.size + 1 + c.size := by rw [hf2, hls2, fi_app hc3, len_toList]; simp [fi]
            have hc4 : (a ++ ⟨#[58]⟩ ++ (c ++ ⟨#[35]⟩ ++ e)).data.toList.count 35 = 1 := by rw [hc2, hcn]
            have x2 : (a ++ ⟨#[58]⟩ ++ (c ++ ⟨#[35]⟩ ++ e)).extract (a.size + 1) (a.size + 1 + c.size) = c := by
              have := ext_mid (a ++ ⟨#[58]⟩) c (⟨#[35]⟩ ++ e) (a.size + 1) (a.size + 1 + c.size) (by rw [ByteArray.size_append]; rfl) (by rw [ByteArray.size_append]; rfl)
              conv => rhs; rw [← this]
              congr 1; apply ba_ext'; simp [list_app]
            have x3 : (a ++ ⟨#[58]⟩ ++ (c ++ ⟨#[35]⟩ ++ e)).extract (a.size + 1 + c.size + 1) (a ++ ⟨#[58]⟩ ++ (c ++ ⟨#[35]⟩ ++ e)).size = e := by
              have := ext_mid (a ++ ⟨#[58]⟩ ++ c ++ ⟨#[35]⟩) e ⟨#[]⟩ (a.size + 1 + c.size + 1) (a ++ ⟨#[58]⟩ ++ (c ++ ⟨#[35]⟩ ++ e)).size (by simp only [ByteArray.size_append]; rfl) (by simp only [ByteArray.size_append]; rw [show (⟨#[58]⟩ : ByteArray).size = 1 from rfl, show (⟨#[35]⟩ : ByteArray).size = 1 from rfl]; omega)
              conv => rhs; rw [← this]
              congr 1; apply ba_ext'; simp [list_app]
            have hsz3 : (a ++ ⟨#[58]⟩ ++ (c ++ ⟨#[35]⟩ ++ e)).size = a.size + 1 + (c.size + 1 + e.size) := by rw [hsz, hsz2]
            have zc : c.size ≤ 1099511627776 := by omega
            have ze : e.size ≤ 1099511627776 := by omega
            have hadd2 : IntKind.i64.wrap (((a.size + 1 + c.size : Nat) : Int) + 1) = ((a.size + 1 + c.size + 1 : Nat) : Int) := wrap_i64 (by omega) (by omega) |>.trans (by omega)
            have hmx := max3 a c e
            generalize a ++ ⟨#[58]⟩ ++ (c ++ ⟨#[35]⟩ ++ e) = s at *
            refine V_enter Try.func84 rfl Try.ntmps84 (Nat.le_of_ble_eq_true rfl) hB ?_
            refine V_seq ?_; refine V_region (id := 0) ?_; refine vo_step (ok_alloc L rfl rfl rfl rfl) rfl ?_; refine vo_step (ok_assign rfl rfl rfl) rfl ?_; refine vo_step (ok_assign rfl rfl rfl) rfl ?_; refine vo_step (ok_assign rfl rfl rfl) rfl ?_; refine vo_nil ?_; refine N_seq ?_; refine V_seq ?_; refine V_region (id := 1) ?_; refine vo_step (ok_move rfl rfl rfl) rfl ?_; refine vo_step (ok_callx L rfl rfl (blt_lt rfl) rfl rfl rfl (fun u H hH _ _ => place_ret (c := 58) hf1 hc1 hs hH)) rfl ?_; refine vo_step (ok_move rfl rfl rfl) rfl ?_; refine vo_step (ok_extract rfl rfl rfl rfl) rfl ?_; refine vo_step (ok_extract rfl rfl rfl rfl) rfl ?_; refine vo_step (ok_assign rfl rfl rfl) rfl ?_; refine vo_step (ok_assign rfl rfl rfl) rfl ?_; refine vo_nil ?_; refine N_seq ?_; refine V_seq ?_; refine V_region (id := 2) ?_; refine vo_step (ok_move rfl rfl rfl) rfl ?_; refine vo_step (ok_callx L rfl rfl (blt_lt rfl) rfl rfl rfl (fun u H hH _ _ => place_ret (c := 35) hf3 hc4 hs hH)) rfl ?_; refine vo_step (ok_move rfl rfl rfl) rfl ?_; refine vo_step (ok_extract rfl rfl rfl rfl) rfl ?_; refine vo_step (ok_extract rfl rfl rfl rfl) rfl ?_; refine vo_step (ok_assign rfl rfl rfl) rfl ?_; refine vo_step (ok_assign rfl rfl rfl) rfl ?_; refine vo_nil ?_; refine N_seq ?_; refine V_seq ?_; refine V_seq ?_; refine V_region (id := 3) ?_; refine vo_step (ok_move rfl rfl rfl) rfl ?_; refine vo_step (ok_neq rfl rfl rfl rfl (decide_eq_false (by omega))) rfl ?_; refine vo_step (ok_move rfl rfl rfl) rfl ?_; refine vo_step (ok_move rfl rfl rfl) rfl ?_; refine vo_step (ok_gtr rfl rfl rfl rfl (decide_eq_false (by omega))) rfl ?_; refine vo_step (ok_pick rfl rfl rfl rfl) rfl ?_; refine vo_step (ok_move rfl rfl rfl) rfl ?_; refine vo_step (ok_move rfl rfl rfl) rfl ?_; refine vo_step (ok_move rfl rfl rfl) rfl ?_; refine vo_step (ok_lss rfl rfl rfl rfl (decide_eq_false (by omega))) rfl ?_; refine vo_step (ok_pick rfl rfl rfl rfl) rfl ?_; refine vo_nil ?_; refine N_seq ?_; refine V_false rfl ?_; refine V_skip ?_; refine N_seq ?_; refine V_seq ?_; refine V_regionD (id := 5) [] mixed (by kernel_rfl) ?_; refine par_step (ok_move rfl rfl rfl) rfl ?_; refine par_step (ok_move rfl rfl rfl) rfl ?_; refine par_step (ok_sliceS L (kl := .i64) (pl := 0) 0 a.size rfl rfl rfl rfl rfl ⟨rfl, rfl⟩ (by omega) (by omega) x1) rfl ?_; refine par_step (ok_move rfl rfl rfl) rfl ?_; refine par_step (ok_move rfl rfl rfl) rfl ?_; refine par_step (ok_add rfl rfl rfl rfl (by assumption)) rfl ?_; refine par_step (ok_move rfl rfl rfl) rfl ?_; refine par_step (ok_sliceS L (a.size + 1) (a.size + 1 + c.size) rfl rfl rfl rfl ⟨rfl, rfl⟩ ⟨rfl, rfl⟩ (by omega) (by omega) x2) rfl ?_; refine par_step (ok_build (cs := [_, _]) rfl rfl pl47 rfl rfl) rfl ?_; refine par_step (ok_alloc L rfl rfl rfl rfl) rfl ?_; refine par_step (ok_store L rfl rfl rfl rfl rfl rfl rfl rfl) rfl ?_; refine par_nil ?_; refine N_seq ?_; refine V_seq ?_; refine V_seq ?_; refine V_region (id := 6) ?_; refine vo_step (ok_move rfl rfl rfl) rfl ?_; refine vo_step (ok_eql rfl rfl rfl rfl (decide_eq_false (by omega))) rfl ?_; refine vo_nil ?_; refine N_seq ?_; refine V_false rfl ?_; refine V_skip ?_; refine N_seq ?_; refine V_seq ?_; refine V_regionD (id := 8) [] mixed (by kernel_rfl) ?_; refine par_step (ok_loadA L (vs := [_, _]) (src_own rfl) rfl rfl rfl rfl ⟨_, rfl⟩) rfl ?_; refine par_step (ok_move rfl rfl rfl) rfl ?_; refine par_step (ok_move rfl rfl rfl) rfl ?_; refine par_step (ok_add rfl rfl rfl rfl (by assumption)) rfl ?_; refine par_step (ok_sliceS L (kh := .i64) (ph := 0) (a.size + 1 + c.size + 1) _ rfl rfl rfl rfl ⟨rfl, rfl⟩ rfl (by omega) (by omega) x3) rfl ?_; refine par_step (ok_loadA L (vs := [_, _]) (src_own rfl) rfl rfl rfl rfl ⟨_, rfl⟩) rfl ?_; refine par_step (ok_callx L rfl rfl (blt_lt rfl) rfl rfl rfl (fun u H hH _ _ => robject_ret (by first | assumption | omega | decide) (by first | assumption | omega | decide) hH)) rfl ?_; refine par_step (ok_move rfl rfl rfl) rfl ?_; refine par_step (ok_move rfl rfl rfl) rfl ?_; refine par_step (ok_add rfl rfl rfl rfl (by assumption)) rfl ?_; refine par_step (ok_sliceS L (kh := .i64) (ph := 0) (a.size + 1 + c.size + 1) _ rfl rfl rfl rfl ⟨rfl, rfl⟩ rfl (by omega) (by omega) x3) rfl ?_; refine par_step (ok_callx L rfl rfl (blt_lt rfl) rfl rfl rfl (fun u H hH _ _ => rcheck_ret (by first | omega | decide) hH)) rfl ?_; refine par_step (ok_max rfl rfl rfl rfl (by assumption)) rfl ?_; refine par_step (ok_store L rfl rfl rfl rfl rfl rfl rfl rfl) rfl ?_; refine par_step (ok_assign rfl rfl rfl) rfl ?_; refine par_step (ok_assign rfl rfl rfl) rfl ?_; refine par_step (ok_assign rfl rfl rfl) rfl ?_; refine par_nil ?_; refine N_seq ?_
            refine V_ret L (rs := [.cell 2 47, .tmp 3, .tmp 4, .tmp 5]) rfl (fun _ _ h => h) Since.refl fun u H hH hle => ?_
            exact ⟨_, src_own rfl, rfl, rfl⟩
          · have hcn : 1 < (c ++ ⟨#[35]⟩ ++ e).data.toList.count 35 := by have := count_pos he3; rw [hls2, List.count_append, List.count_cons_self]; omega
            refine bad ?_ rfl rfl rfl rfl (.inr (.inl (by rw [hc2]; exact hcn)))
            unfold partsA; rw [hcut]
            have h4 : ¬ cntA (c ++ ⟨#[35]⟩ ++ e) 35 ≤ 1 := by unfold cntA Lib.countByte; omega
            simp only [h4, and_false, if_false]
      · refine bad ?_ rfl rfl rfl rfl (.inr (.inr ?_))
        · unfold partsA; rw [hcut]
          simp only [hasA_yes ha3]
          simp
        · rw [hf1, hls, ← len_toList]
          exact fi_lt (Classical.not_not.1 ha3)
    · refine bad ?_ rfl rfl rfl rfl (.inl ?_)
      · unfold partsA; rw [hcut]
        simp only [hasA_yes hb]
        simp
      · have := count_pos hb
        rw [hls, List.count_append, List.count_cons_self]; omega
theorem rparse1_ret' {s x y z : ByteArray} {d : Bool} {e : Int} (hr : rp1 s = (x, y, z, d, e)) (hs : s.size ≤ 1000000) {w : World} {B : Heap} (hB : B.Le (hp w)) :
    Ret Try.prog 84 [.string s] w B (fun v _ => v = .tuple #[.agg #[.string x, .string y], .string z, .bool d, .int .i64 e]) := rparse1_ret hr hs hB
end Go.V
