/- The kit's fourth floor: the rules for code. -/
import Derived.Test.YtnfekidcmfljoaaKitC
namespace Go.V
open Go.RowKit

section code
variable {P : Program} {w0 : World} {B : Heap} {n : Nat} {O : Boxes} {κ : Kap} {Q : Exit → Act → World → Prop}

def V (P : Program) (w0 : World) (B : Heap) (n : Nat) (O : Boxes) (κ : Kap) (c : Code) (Q : Exit → Act → World → Prop) : Prop :=
  ∀ a u, Has w0 B O n κ a u → c.wp P Q a u
/-- The end of a piece of code is met. -/
def N (w0 : World) (B : Heap) (n : Nat) (O : Boxes) (κ : Kap) (Q : Exit → Act → World → Prop) : Prop := ∀ a u, Has w0 B O n κ a u → Q .normal a u
def X (w0 : World) (B : Heap) (n : Nat) (O : Boxes) (κ : Kap) (id : Nat) (Q : Exit → Act → World → Prop) : Prop := ∀ a u, Has w0 B O n κ a u → Q (.exit id) a u

theorem V_seq {x y : Code} (h : V P w0 B n O κ x (Exit.then (fun a u => y.wp P Q a u) Q)) : V P w0 B n O κ (.seq x y) Q := fun a u hh => wp_seq (h a u hh)
theorem V_skip (h : N w0 B n O κ Q) : V P w0 B n O κ .skip Q := fun a u hh => wp_skip (h a u hh)
theorem V_label {l : Nat} (h : N w0 B n O κ Q) : V P w0 B n O κ (.label l) Q := fun a u hh => wp_label (h a u hh)
theorem V_block {id : Nat} {c : Code} (h : V P w0 B n O κ c (Exit.inBlock id Q)) : V P w0 B n O κ (.block id c) Q := fun a u hh => wp_block (h a u hh)
theorem V_exit {id : Nat} (h : X w0 B n O κ id Q) : V P w0 B n O κ (.exit id) Q := fun a u hh => wp_exit (h a u hh)
theorem N_seq {y : Code} (h : V P w0 B n O κ y Q) : N w0 B n O κ (Exit.then (fun a u => y.wp P Q a u) Q) := h
theorem N_block {id : Nat} (h : N w0 B n O κ Q) : N w0 B n O κ (Exit.inBlock id Q) := h
theorem X_then {id : Nat} {K : Act → World → Prop} (h : X w0 B n O κ id Q) : X w0 B n O κ id (Exit.then K Q) := h
theorem X_here {id : Nat} (h : N w0 B n O κ Q) : X w0 B n O κ id (Exit.inBlock id Q) := fun a u hh => by
  show (if id = id then Q .normal a u else Q (.exit id) a u)
  rw [if_pos rfl]; exact h a u hh
theorem X_there {id id' : Nat} (hne : Nat.beq id id' = false) (h : X w0 B n O κ id Q) : X w0 B n O κ id (Exit.inBlock id' Q) := fun a u hh => by
  show (if id = id' then Q .normal a u else Q (.exit id) a u)
  rw [if_neg (fun e => by subst e; simp at hne)]; exact h a u hh

theorem V_cond {c : Operand} {x y : Code} {b : Bool} (hc : evK κ c = some (.bool b)) (h : V P w0 B n O κ (bif b then x else y) Q) : V P w0 B n O κ (.cond c x y) Q := fun a u hh => by
  obtain ⟨H, hH⟩ := hh
  have e := hH.env (ops := #[]) (o := ⟨none, .move c, 0, "", #[], none⟩) (κ := κ) (fun _ _ => rfl)
  refine wp_cond (t := b) (e.is_ c _ (by simp [Op.operands]) hc) ?_
  have := h a u ⟨H, hH⟩
  cases b <;> exact this
theorem V_true {c : Operand} {x y : Code} (hc : evK κ c = some (.bool true)) (h : V P w0 B n O κ x Q) : V P w0 B n O κ (.cond c x y) Q := V_cond hc h
theorem V_false {c : Operand} {x y : Code} (hc : evK κ c = some (.bool false)) (h : V P w0 B n O κ y Q) : V P w0 B n O κ (.cond c x y) Q := V_cond hc h

theorem V_region {id : Nat} {l : List Oper} {dr : Bool} (hd : dr = false ∨ (dr = true ∧ P.follows .mixedOrders = true ∧ sepB l.toArray = true))
    (h : Par P w0 B n l.toArray (fun O κ => N w0 B n O κ Q) dr l O κ) : V P w0 B n O κ (.region id l.toArray dr) Q := fun a u hh =>
  region_of_par (Fin := fun O κ => N w0 B n O κ Q) hd (by simpa using h) hh fun O' κ' a' u' hf hh' => hf a' u' hh'

theorem par_nil {ops : Array Oper} {Fin : Boxes → Kap → Prop} {dr : Bool} (h : Fin O κ) : Par P w0 B n ops Fin dr [] O κ := h
theorem par_step {ops : Array Oper} {Fin : Boxes → Kap → Prop} {dr : Bool} {o : Oper} {os : List Oper} {d : Nat} {k : Kn} (hs : StepOK P w0 B n ops O κ o d k) (hd : vd o = some d)
    (h : Par P w0 B n ops Fin dr os O (upd κ d k)) : Par P w0 B n ops Fin dr (o :: os) O κ := .inl ⟨d, k, hd, hs, h⟩

/-! ### what is still known -/
def LiveOK : List (Nat × Kn) → Kap → Prop
  | [], _ => True
  | (t, k) :: l, κ => κ t = some k ∧ LiveOK l κ
theorem LiveOK.get {κ : Kap} {t : Nat} {k : Kn} : ∀ {l : List (Nat × Kn)}, LiveOK l κ → ofL l t = some k → κ t = some k
  | [], _, h => by cases h
  | (s, k') :: l, hl, h => by
    unfold ofL at h
    by_cases hst : t = s
    · subst hst; rw [upd_same] at h; cases h; exact hl.1
    · rw [upd_other _ _ hst] at h; exact LiveOK.get hl.2 h
theorem Has.live {l : List (Nat × Kn)} {a : Act} {u : World} (hl : LiveOK l κ) (h : Has w0 B O n κ a u) : Has w0 B O n (ofL l) a u := by
  obtain ⟨H, h⟩ := h
  exact ⟨H, h.size, h.defers, h.below, h.sub, h.base, h.fresh, h.boxes, h.apart, fun t k hk => h.slot t k (hl.get hk),
    fun s t cs ty cs' ty' hst hs ht => h.owns s t cs ty cs' ty' hst (hl.get hs) (hl.get ht), fun t φ hk => h.mono t φ (hl.get hk)⟩
theorem V_live (l : List (Nat × Kn)) {c : Code} (hl : LiveOK l κ) (h : V P w0 B n O (ofL l) c Q) : V P w0 B n O κ c Q := fun a u hh => h a u (hh.live hl)
theorem N_live (l : List (Nat × Kn)) (hl : LiveOK l κ) (h : N w0 B n O (ofL l) Q) : N w0 B n O κ Q := fun a u hh => h a u (hh.live hl)

theorem V_loop {T : Type} (F : T → List (Nat × Kn)) (I : T → Prop) (μ : T → Nat) (x0 : T) {c : Code} (hI : I x0) (h0 : LiveOK (F x0) κ)
    (round : ∀ x, I x → V P w0 B n O (ofL (F x)) c (Exit.then (fun a u => ∃ x', (I x' ∧ μ x' < μ x) ∧ Has w0 B O n (ofL (F x')) a u) Q)) :
    V P w0 B n O κ (.loop c) Q := fun a u hh => by
  intro b k cs
  have key : ∀ m x a u, μ x = m → I x → Has w0 B O n (ofL (F x)) a u →
      ∃ e a' w', Q e a' w' ∧ Arrives P (lone (b.at a (.code c :: .inLoop c :: k)) cs u) b k cs e a' w' := by
    intro m
    induction m using Nat.strongRecOn with
    | _ m ih =>
      intro x a u hm hI hh
      obtain ⟨e, a₁, w₁, hq, harr⟩ := round x hI a u hh b (.inLoop c :: k) cs
      cases e with
      | normal =>
        obtain ⟨x', ⟨hI', hlt⟩, hh'⟩ := hq
        obtain ⟨e₂, a₂, w₂, hq₂, harr₂⟩ := ih (μ x') (hm ▸ hlt) x' a₁ w₁ rfl hI' hh'
        exact ⟨e₂, a₂, w₂, hq₂, .of_steps (Steps.trans harr (.one step_inLoop)) harr₂⟩
      | exit id => exact ⟨_, a₁, w₁, hq, .pass (x := .inLoop c) rfl (fun _ _ => .inl (by simp)) harr⟩
      | goto l => exact ⟨_, a₁, w₁, hq, .pass (x := .inLoop c) rfl (fun _ _ => .inl (by simp)) harr⟩
      | ret => exact ⟨_, a₁, w₁, hq, .pass (x := .inLoop c) rfl (fun _ _ => .inl (by simp)) harr⟩
      | panic ch => exact ⟨_, a₁, w₁, hq, .pass (x := .inLoop c) rfl (fun _ _ => .inl (by simp)) harr⟩
      | outgrown => exact ⟨_, a₁, w₁, hq, .pass (x := .inLoop c) rfl (fun _ _ => .inl (by simp)) harr⟩
  obtain ⟨e, a', w', hq, harr⟩ := key _ x0 a u rfl hI (hh.live h0)
  exact ⟨e, a', w', hq, .of_steps (.one step_loop) harr⟩
/-- The end of a round. -/
theorem N_round {T : Type} {F : T → List (Nat × Kn)} {I : T → Prop} {μ : T → Nat} {x : T} (x' : T) (hI : I x') (hμ : μ x' < μ x) (hl : LiveOK (F x') κ) :
    N w0 B n O κ (Exit.then (fun a u => ∃ x', (I x' ∧ μ x' < μ x) ∧ Has w0 B O n (ofL (F x')) a u) Q) := fun _ _ hh => ⟨x', ⟨hI, hμ⟩, hh.live hl⟩
/-- Ways meet again. -/
theorem V_seq_mid {T : Type} (F : T → List (Nat × Kn)) (I : T → Prop) {x y : Code} (h : V P w0 B n O κ x (Exit.then (fun a u => ∃ t, I t ∧ Has w0 B O n (ofL (F t)) a u) Q))
    (hy : ∀ t, I t → V P w0 B n O (ofL (F t)) y Q) : V P w0 B n O κ (.seq x y) Q := fun a u hh => by
  refine wp_seq (Go.wp_mono (h a u hh) fun e a u he => ?_)
  cases e with
  | normal => obtain ⟨t, hI, hh'⟩ := he; exact hy t hI a u hh'
  | _ => exact he
theorem N_mid {T : Type} {F : T → List (Nat × Kn)} {I : T → Prop} (t : T) (hI : I t) (hl : LiveOK (F t) κ) :
    N w0 B n O κ (Exit.then (fun a u => ∃ t, I t ∧ Has w0 B O n (ofL (F t)) a u) Q) := fun _ _ hh => ⟨t, hI, hh.live hl⟩
/-- Ways through a region meet again. -/
theorem par_mid {T : Type} (F : T → List (Nat × Kn)) (I : T → Prop) {ops : Array Oper} {dr : Bool} {os : List Oper}
    (h : Par P w0 B n ops (fun O' κ' => O' = O ∧ ∃ t, I t ∧ LiveOK (F t) κ') dr os O κ) (hy : ∀ t, I t → N w0 B n O (ofL (F t)) Q) : Par P w0 B n ops (fun O κ => N w0 B n O κ Q) dr os O κ := by
  have gen : ∀ (os : List Oper) (O1 : Boxes) (κ1 : Kap), Par P w0 B n ops (fun O' κ' => O' = O ∧ ∃ t, I t ∧ LiveOK (F t) κ') dr os O1 κ1 → Par P w0 B n ops (fun O κ => N w0 B n O κ Q) dr os O1 κ1 := by
    intro os
    induction os with
    | nil => rintro O1 κ1 ⟨rfl, t, hI, hl⟩; exact N_live _ hl (hy t hI)
    | cons o os ih =>
      intro O1 κ1 h
      rcases h with ⟨d, k, hd, hs, hr⟩ | ⟨hf, O', κ', hs, hr⟩
      · exact .inl ⟨d, k, hd, hs, ih _ _ hr⟩
      · exact .inr ⟨hf, O', κ', hs, ih _ _ hr⟩
  exact gen os O κ h

/-! ### what is known of a slot is opened -/
structure Since (w0 : World) (B H : Heap) : Prop where
  le : B.Le H
  fresh : ∀ k, k < w0.heap.size → H k = B k
theorem Since.refl : Since w0 B B := ⟨Heap.Le.refl _, fun _ _ => rfl⟩
theorem Since.trans {C D : Heap} (h : Since w0 B C) (k : Since w0 C D) : Since w0 B D := ⟨h.le.trans k.le, fun i hi => (k.fresh i hi).trans (h.fresh i hi)⟩
theorem Has.opn {t : Nat} {φ : Value → Heap → Prop} {a : Act} {u : World} (hk : κ t = some (.sat φ)) (h : Has w0 B O n κ a u) :
    ∃ v H, Since w0 B H ∧ φ v H ∧ Has w0 H O n (upd κ t (.is v)) a u := by
  obtain ⟨H, h⟩ := h
  obtain ⟨v, hv, hp⟩ := h.slot t _ hk
  refine ⟨v, H, ⟨h.base, h.fresh⟩, hp, H, h.size, h.defers, h.below, h.sub, Heap.Le.refl _, fun _ _ => rfl, h.boxes, h.apart, fun s k hs => ?_, fun s r cs ty cs' ty' hst hs hr => ?_, fun s ψ hs => ?_⟩
  · by_cases hst : s = t
    · subst hst; rw [upd_same] at hs; cases hs; exact ⟨v, hv, rfl⟩
    · rw [upd_other _ _ hst] at hs; exact h.slot s k hs
  · have key : ∀ x cs ty, upd κ t (.is v) x = some (.own cs ty) → κ x = some (.own cs ty) := fun x cs ty hx => by
      by_cases hxd : x = t
      · subst hxd; rw [upd_same] at hx; cases hx
      · rw [upd_other _ _ hxd] at hx; exact hx
    exact h.owns s r cs ty cs' ty' hst (key _ _ _ hs) (key _ _ _ hr)
  · by_cases hst : s = t
    · subst hst; rw [upd_same] at hs; cases hs
    · rw [upd_other _ _ hst] at hs; exact h.mono s ψ hs
theorem V_opn (t : Nat) {φ : Value → Heap → Prop} {c : Code} (hk : κ t = some (.sat φ)) (h : ∀ v H, Since w0 B H → φ v H → V P w0 H n O (upd κ t (.is v)) c Q) : V P w0 B n O κ c Q := fun a u hh => by
  obtain ⟨v, H, hs, hp, hh'⟩ := hh.opn hk
  exact h v H hs hp a u hh'
theorem N_opn (t : Nat) {φ : Value → Heap → Prop} (hk : κ t = some (.sat φ)) (h : ∀ v H, Since w0 B H → φ v H → N w0 H n O (upd κ t (.is v)) Q) : N w0 B n O κ Q := fun a u hh => by
  obtain ⟨v, H, hs, hp, hh'⟩ := hh.opn hk
  exact h v H hs hp a u hh'
/-- A block of the call's own gets a number. -/
theorem Has.box {t : Nat} {cs : List Value} {ty : TypeId} {a : Act} {u : World} (hk : κ t = some (.own cs ty)) (h : Has w0 B O n κ a u) :
    ∃ b, (∀ y ∈ O, y.1 ≠ b) ∧ Has w0 B ((b, cs, ty) :: O) n (upd κ t (.is (.pointer (some ⟨b, 0, none⟩)))) a u := by
  obtain ⟨H, h⟩ := h
  obtain ⟨v, hv, b, rfl, h1, h2, h3, h4⟩ := h.slot t _ hk
  refine ⟨b, h4, H, h.size, h.defers, h.below, h.sub, h.base, h.fresh, fun y hy => ?_, List.pairwise_cons.2 ⟨fun y hy => Ne.symm (h4 y hy), h.apart⟩, fun s k hs => ?_, fun s r cs' ty' cs'' ty'' hst hs hr => ?_, fun s ψ hs => ?_⟩
  · rcases List.mem_cons.1 hy with rfl | hy
    · exact ⟨h1, h2, h3⟩
    · exact h.boxes y hy
  · by_cases hst : s = t
    · subst hst; rw [upd_same] at hs; cases hs; exact ⟨_, hv, rfl⟩
    · rw [upd_other _ _ hst] at hs
      obtain ⟨x, hx, hh⟩ := h.slot s k hs
      refine ⟨x, hx, ?_⟩
      cases k with
      | is _ => exact hh
      | sat _ => exact hh
      | own cs' ty' =>
        obtain ⟨b', rfl, g1, g2, g3, g4⟩ := hh
        refine ⟨b', rfl, g1, g2, g3, fun y hy => ?_⟩
        rcases List.mem_cons.1 hy with rfl | hy
        · intro e
          exact h.owns s t cs' ty' cs ty hst hs hk (by rw [hx, hv]; simp at e; rw [e])
        · exact g4 y hy
  · have key : ∀ x cs1 ty1, upd κ t (.is (.pointer (some ⟨b, 0, none⟩))) x = some (.own cs1 ty1) → κ x = some (.own cs1 ty1) := fun x cs1 ty1 hx => by
      by_cases hxd : x = t
      · subst hxd; rw [upd_same] at hx; cases hx
      · rw [upd_other _ _ hxd] at hx; exact hx
    exact h.owns s r cs' ty' cs'' ty'' hst (key _ _ _ hs) (key _ _ _ hr)
  · by_cases hst : s = t
    · subst hst; rw [upd_same] at hs; cases hs
    · rw [upd_other _ _ hst] at hs; exact h.mono s ψ hs
theorem V_box (t : Nat) {cs : List Value} {ty : TypeId} {c : Code} (hk : κ t = some (.own cs ty)) (h : ∀ b, (∀ y ∈ O, y.1 ≠ b) → V P w0 B n ((b, cs, ty) :: O) (upd κ t (.is (.pointer (some ⟨b, 0, none⟩)))) c Q) : V P w0 B n O κ c Q := fun a u hh => by
  obtain ⟨b, hb, hh'⟩ := hh.box hk
  exact h b hb a u hh'
theorem N_box (t : Nat) {cs : List Value} {ty : TypeId} (hk : κ t = some (.own cs ty)) (h : ∀ b, (∀ y ∈ O, y.1 ≠ b) → N w0 B n ((b, cs, ty) :: O) (upd κ t (.is (.pointer (some ⟨b, 0, none⟩)))) Q) : N w0 B n O κ Q := fun a u hh => by
  obtain ⟨b, hb, hh'⟩ := hh.box hk
  exact h b hb a u hh'

/-! ### a function's beginning and end -/
theorem V_enter {f : FuncId} {fn : Func} {c : Code} {args : List Value} {w : World} {B : Heap} {φ : Value → Heap → Prop} (hf : P.funcs[f]? = some fn) (hb : fn.body = some c) (hn : fn.ntmps = n)
    (hs : args.length ≤ n) (hB : B.Le (hp w)) (h : V P w B n [] (argsK 0 args) c (bodyPost P fn (Post w B φ))) : Ret P f args w B φ := by
  refine calls_of_wp hf hb (h _ w ⟨B, ?_⟩)
  have hsz : (args.toArray ++ Array.replicate (fn.ntmps - args.toArray.size) undef).size = n := by simp; omega
  refine ⟨hsz, rfl, Below.refl _ _, hB, Heap.Le.refl _, fun _ _ => rfl, (fun y hy => by cases hy), List.Pairwise.nil, fun t k hk => ?_, fun s t cs ty cs' ty' _ hs' _ => ?_, fun t φ hk => ?_⟩
  · have : ∀ (vs : List Value) (i t : Nat) (k : Kn), argsK i vs t = some k → ∃ v, k = .is v ∧ i ≤ t ∧ vs[t - i]? = some v := by
      intro vs
      induction vs with
      | nil => intro i t k h; cases h
      | cons v vs ih =>
        intro i t k h
        unfold argsK at h
        by_cases hti : t = i
        · subst hti; rw [upd_same] at h; cases h; exact ⟨v, rfl, Nat.le_refl _, by simp⟩
        · rw [upd_other _ _ hti] at h
          obtain ⟨x, hx, hle, hg⟩ := ih (i + 1) t k h
          exact ⟨x, hx, by omega, by rw [show t - i = (t - (i + 1)) + 1 by omega, List.getElem?_cons_succ]; exact hg⟩
    obtain ⟨v, rfl, _, hv⟩ := this args 0 t k hk
    refine ⟨v, ?_, rfl⟩
    rw [Nat.sub_zero] at hv
    have hlt : t < args.length := by
      rcases Nat.lt_or_ge t args.length with h | h
      · exact h
      · rw [List.getElem?_eq_none h] at hv; cases hv
    rw [Array.getElem?_append_left (by simpa using hlt)]
    simpa using hv
  all_goals
    have key : ∀ (vs : List Value) (i t : Nat) (k : Kn), argsK i vs t = some k → ∃ v, k = .is v := by
      intro vs
      induction vs with
      | nil => intro i t k h; cases h
      | cons v vs ih =>
        intro i t k h
        unfold argsK at h
        by_cases hti : t = i
        · subst hti; rw [upd_same] at h; cases h; exact ⟨v, rfl⟩
        · rw [upd_other _ _ hti] at h; exact ih (i + 1) t k h
  · obtain ⟨v, hv⟩ := key _ _ _ _ hs'; cases hv
  · obtain ⟨v, hv⟩ := key _ _ _ _ hk; cases hv

def tup : List Value → Value
  | [v] => v
  | vs => .tuple vs.toArray
/-- The results, one by one. -/
def ResK (L : Tabs P) (w0 : World) (B : Heap) (O : Boxes) (κ : Kap) (H : Heap) : List ResultVar → List Value → (List Value → Prop) → Prop
  | [], acc, K => K acc.reverse
  | .tmp t :: rs, acc, K => match κ t with
    | some (.is v) => ResK L w0 B O κ H rs (v :: acc) K
    | some (.sat φ) => ∀ v, φ v H → ResK L w0 B O κ H rs (v :: acc) K
    | _ => False
  | .cell t ty :: rs, acc, K => ∃ cs, Src w0 B O κ (.tmp t) cs 0 ∧ L.ld ty = some (true, cs.length) ∧ ResK L w0 B O κ H rs (.agg cs.toArray :: acc) K

def rdR (tmps : Array Value) : ResultVar → Sem Value
  | .tmp t => pure (tmps.getD t undef)
  | .cell b t => do loadVar t (← asAddr (tmps.getD b undef))
theorem results_rdR (fn : Func) (tmps : Array Value) : results fn tmps = (do
    let vs ← fn.results.mapM (rdR tmps)
    pure (if h : vs.size = 1 then vs[0] else .tuple vs)) := by
  unfold results
  congr 1

theorem V_ret (L : Tabs P) {fn : Func} {B0 : Heap} {φ : Value → Heap → Prop} {rs : List ResultVar} (hrs : fn.results = rs.toArray) (hQ : ∀ a u, bodyPost P fn (Post w0 B0 φ) .ret a u → Q .ret a u) (hs : Since w0 B0 B)
    (h : ∀ u H, H.Le (hp u) → B.Le H → ResK L w0 B O κ H rs [] (fun vs => φ (tup vs) H)) : V P w0 B n O κ .ret Q := fun a u hh => by
  obtain ⟨H, hH⟩ := hh
  refine wp_ret (hQ a u ?_)
  have hr := h u H hH.sub hH.base
  have step : ∀ (rs : List ResultVar) (acc : List Value) (K : List Value → Prop), ResK L w0 B O κ H rs acc K →
      ∃ vs, (rs.mapM (rdR a.tmps)).run P u = .ok vs u ∧ K (acc.reverse ++ vs) := by
    intro rs
    induction rs with
    | nil => intro acc K hk; exact ⟨[], rfl, by simpa [ResK] using hk⟩
    | cons r rs ih =>
      intro acc K hk
      have fin : ∀ v, (rdR a.tmps r).run P u = .ok v u → ResK L w0 B O κ H rs (v :: acc) K →
          ∃ vs, ((r :: rs).mapM (rdR a.tmps)).run P u = .ok vs u ∧ K (acc.reverse ++ vs) := fun v hv hk => by
        obtain ⟨vs, h1, h2⟩ := ih (v :: acc) K hk
        refine ⟨v :: vs, ?_, by simpa using h2⟩
        simp only [List.mapM_cons, Sem.run_bind]
        rw [hv]
        simp only [Result.andThen_ok]
        rw [h1]
        rfl
      cases r with
      | tmp t =>
        simp only [ResK] at hk
        split at hk
        · rename_i v hkt
          obtain ⟨x, hx, hxx⟩ := hH.slot t _ hkt
          obtain rfl : x = v := hxx
          exact fin x (by simp [rdR, hx]) hk
        · rename_i φ' hkt
          obtain ⟨x, hx, hxx⟩ := hH.slot t _ hkt
          exact fin x (by simp [rdR, hx]) (hk x hxx)
        · exact hk.elim
      | cell b t =>
        obtain ⟨cs, hsrc, hld, hk⟩ := hk
        have e := hH.env (ops := #[]) (o := ⟨none, .move (.tmp b), 0, "", #[], none⟩) (κ := κ) (fun _ _ => rfl)
        obtain ⟨b', t', fr, h1, h2⟩ := hsrc _ a u H (by simp [Op.operands]) e
        refine fin (.agg cs.toArray) ?_ hk
        have h1' : a.tmps.getD b undef = .pointer (some ⟨b', 0, none⟩) := h1
        simp only [rdR, Sem.run_bind, h1', asAddr, Sem.run_pure, Result.andThen_ok]
        refine run_loadVar_agg (Tabs.ld_spec hld) u _ cs rfl fun j v hj => ?_
        have : Addr.add ⟨b', 0, none⟩ j = ⟨b', j, none⟩ := by simp [Addr.add]; intro h; exact h.symm
        rw [this, cell_of_heap h2]; simpa using hj
  obtain ⟨vs, h1, h2⟩ := step rs [] _ hr
  refine ⟨hH.defers, tup vs, ?_, tup vs, rfl, H, ⟨hH.below, hH.sub, hs.le.trans hH.base, fun k hk => (hH.fresh k hk).trans (hs.fresh k hk)⟩, by simpa using h2⟩
  rw [results_rdR, hrs]
  simp only [Sem.run_bind]
  have : (rs.toArray.mapM (rdR a.tmps)).run P u = .ok vs.toArray u := by
    rw [List.mapM_toArray, Sem.run_map, h1]
    rfl
  rw [this]
  simp only [Result.andThen_ok, Sem.run_pure]
  congr 1
  match vs with
  | [] => rfl
  | [v] => rfl
  | _ :: _ :: _ => rfl
end code
end Go.V
