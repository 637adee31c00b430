/- The kit's fourth floor: the rules for code. -/
import Derived.Test.YtpnmjelhnacmlaaKitC
import Derived.RangeFuncRecord
namespace Go.V
open Go.RowKit

section code
variable {P : Program} {F : Fr} {B : Heap} {n : Nat} {O : Boxes} {κ : Kap} {Q : Exit → Act → World → Prop}

def V (P : Program) (F : Fr) (B : Heap) (n : Nat) (O : Boxes) (κ : Kap) (c : Code) (Q : Exit → Act → World → Prop) : Prop :=
  ∀ a u, Has F B O n κ a u → c.wpIn (FW F.r) 0 P Q a u
/-- The end of a piece of code is met. -/
def N (F : Fr) (B : Heap) (n : Nat) (O : Boxes) (κ : Kap) (Q : Exit → Act → World → Prop) : Prop := ∀ a u, Has F B O n κ a u → Q .normal a u
def X (F : Fr) (B : Heap) (n : Nat) (O : Boxes) (κ : Kap) (id : Nat) (Q : Exit → Act → World → Prop) : Prop := ∀ a u, Has F B O n κ a u → Q (.exit id) a u
/-- Operations of a straight region that are still to come. -/
def VO (P : Program) (F : Fr) (B : Heap) (n : Nat) (O : Boxes) (ops : Array Oper) (κ : Kap) (os : List Oper) (Q : Exit → Act → World → Prop) : Prop :=
  ∀ a u, Has F B O n κ a u → Ops P ops (fun a u => Q .normal a u) os a u
/-- Operations of a drawn region that are still to come. -/
def Par (P : Program) (F : Fr) (B : Heap) (n : Nat) (O : Boxes) (ops : Array Oper) (ex : Exs) (κ : Kap) (os : List Oper) (Q : Exit → Act → World → Prop) : Prop :=
  ParG P (Has F B O n) ops ex (fun κ => N F B n O κ Q) os κ

theorem V_seq {x y : Code} (h : V P F B n O κ x (Exit.then (fun a u => y.wpIn (FW F.r) 0 P Q a u) Q)) : V P F B n O κ (.seq x y) Q := fun a u hh => wpIn_seq (h a u hh)
theorem V_skip (h : N F B n O κ Q) : V P F B n O κ .skip Q := fun a u hh => wpIn_skip (h a u hh)
theorem V_label {l : Nat} (h : N F B n O κ Q) : V P F B n O κ (.label l) Q := fun a u hh => wpIn_label (h a u hh)
theorem V_block {id : Nat} {c : Code} (h : V P F B n O κ c (Exit.inBlock id Q)) : V P F B n O κ (.block id c) Q := fun a u hh => wpIn_block (h a u hh)
theorem V_exit {id : Nat} (h : X F B n O κ id Q) : V P F B n O κ (.exit id) Q := fun a u hh => wpIn_exit (h a u hh)
theorem N_seq {y : Code} (h : V P F B n O κ y Q) : N F B n O κ (Exit.then (fun a u => y.wpIn (FW F.r) 0 P Q a u) Q) := h
theorem N_block {id : Nat} (h : N F B n O κ Q) : N F B n O κ (Exit.inBlock id Q) := h
theorem X_then {id : Nat} {K : Act → World → Prop} (h : X F B n O κ id Q) : X F B n O κ id (Exit.then K Q) := h
theorem X_here {id : Nat} (h : N F B n O κ Q) : X F B n O κ id (Exit.inBlock id Q) := fun a u hh => by
  show (if id = id then Q .normal a u else Q (.exit id) a u)
  rw [if_pos rfl]; exact h a u hh
theorem X_there {id id' : Nat} (hne : Nat.beq id id' = false) (h : X F B n O κ id Q) : X F B n O κ id (Exit.inBlock id' Q) := fun a u hh => by
  show (if id = id' then Q .normal a u else Q (.exit id) a u)
  rw [if_neg (fun e => by subst e; simp at hne)]; exact h a u hh

theorem V_cond {c : Operand} {x y : Code} {b : Bool} (hc : evK κ c = some (.bool b)) (h : V P F B n O κ (bif b then x else y) Q) : V P F B n O κ (.cond c x y) Q := fun a u hh => by
  obtain ⟨H, fp, hH⟩ := hh
  have e := hH.env (ops := #[]) (o := ⟨none, .move c, 0, "", #[], none⟩) (κ := κ) (fun _ _ => rfl)
  refine wpIn_cond (t := b) (e.is_ c _ (by simp [Op.operands]) hc) ?_
  have := h a u ⟨H, fp, hH⟩
  cases b <;> exact this
theorem V_true {c : Operand} {x y : Code} (hc : evK κ c = some (.bool true)) (h : V P F B n O κ x Q) : V P F B n O κ (.cond c x y) Q := V_cond hc h
theorem V_false {c : Operand} {x y : Code} (hc : evK κ c = some (.bool false)) (h : V P F B n O κ y Q) : V P F B n O κ (.cond c x y) Q := V_cond hc h

theorem V_region {id : Nat} {l : List Oper} (h : VO P F B n O l.toArray κ l Q) : V P F B n O κ (.region id l.toArray false) Q := fun a u hh => region_straight (by simpa using h a u hh)
theorem V_regionD {id : Nat} {l : List Oper} (ex : Exs) (hm : P.follows .mixedOrders = true) (hs : sepB l.toArray ex = true) (h : Par P F B n O l.toArray ex κ l Q) : V P F B n O κ (.region id l.toArray true) Q := fun a u hh =>
  region_drawn (St := Has F B O n) (ex := ex) (Fin := fun κ => N F B n O κ Q) hm hs (fun _ _ _ h => h.drew) (by simpa [Par] using h) hh fun κ' a' u' hf hh' => hf a' u' hh'
theorem vo_nil {ops : Array Oper} (h : N F B n O κ Q) : VO P F B n O ops κ [] Q := h
theorem par_nil {ops : Array Oper} {ex : Exs} (h : N F B n O κ Q) : Par P F B n O ops ex κ [] Q := h
theorem vo_step {ops : Array Oper} {o : Oper} {os : List Oper} {d : Nat} {k : Kn} (hs : StepOK P F B n ops O κ o d k) (_ : vd o = some d) (h : VO P F B n O ops (upd κ d k) os Q) : VO P F B n O ops κ (o :: os) Q :=
  fun a u hh => After.mono (fun a' u' hh' => h a' u' hh') (hs κ a u (fun _ _ => rfl) hh)
theorem par_step {ops : Array Oper} {ex : Exs} {o : Oper} {os : List Oper} {d : Nat} {k : Kn} (hs : StepOK P F B n ops O κ o d k) (hd : vd o = some d) (h : Par P F B n O ops ex (upd κ d k) os Q) : Par P F B n O ops ex κ (o :: os) Q :=
  ⟨[(d, k)], fun p hp => by simp at hp; subst hp; simp [tch, hd], hs.stepG, h⟩

/-! ### what is still known -/
def LiveOK : List (Nat × Kn) → Kap → Prop
  | [], _ => True
  | (t, k) :: l, κ => κ t = some k ∧ LiveOK l κ
theorem LiveOK.get {κ : Kap} {t : Nat} {k : Kn} : ∀ {l : List (Nat × Kn)}, LiveOK l κ → ofL l t = some k → κ t = some k
  | [], _, h => by cases h
  | (s, k') :: l, hl, h => by
    unfold ofL at h
    by_cases hst : t = s
    · subst hst; rw [upd_same] at h; cases h; exact hl.1
    · rw [upd_other _ _ hst] at h; exact LiveOK.get hl.2 h
theorem Has.sub_kap {κ2 : Kap} {a : Act} {u : World} (hs : ∀ t k, κ2 t = some k → κ t = some k) (h : Has F B O n κ a u) : Has F B O n κ2 a u := let ⟨H, fp, h⟩ := h; ⟨H, fp, h.sub_kap hs⟩
theorem Has.live {l : List (Nat × Kn)} {a : Act} {u : World} (hl : LiveOK l κ) (h : Has F B O n κ a u) : Has F B O n (ofL l) a u := h.sub_kap fun _ _ hk => hl.get hk
theorem V_live (l : List (Nat × Kn)) {c : Code} (hl : LiveOK l κ) (h : V P F B n O (ofL l) c Q) : V P F B n O κ c Q := fun a u hh => h a u (hh.live hl)
theorem N_live (l : List (Nat × Kn)) (hl : LiveOK l κ) (h : N F B n O (ofL l) Q) : N F B n O κ Q := fun a u hh => h a u (hh.live hl)

/-! ### what is known of a slot is opened -/
structure SinceW (N : Nat) (L : Nat → Prop) (B H : Heap) : Prop where
  le : B.Le H
  fresh : ∀ k, k < N → ¬ L k → H k = B k
abbrev Since (F : Fr) (B H : Heap) : Prop := SinceW F.w0.heap.size F.L B H
theorem SinceW.refl {N : Nat} {L : Nat → Prop} : SinceW N L B B := ⟨Heap.Le.refl _, fun _ _ _ => rfl⟩
theorem SinceW.trans {N : Nat} {L : Nat → Prop} {C D : Heap} (h : SinceW N L B C) (k : SinceW N L C D) : SinceW N L B D := ⟨h.le.trans k.le, fun i hi hl => (k.fresh i hi hl).trans (h.fresh i hi hl)⟩
theorem Since.refl : Since F B B := SinceW.refl
theorem HasH.since {B0 : Heap} {a : Act} {u : World} {H : Heap} {fp : Nat → Nat → Prop} (hs : Since F B0 B) (h : HasH F B O n κ a u H fp) : HasH F B0 O n κ a u H fp :=
  ⟨h.size, h.defers, h.nodup, h.marks, h.lent, h.keep, h.sub, hs.le.trans h.base, fun k hk hl => (h.fresh k hk hl).trans (hs.fresh k hk hl), h.boxes, h.apart, h.slot, h.owns, h.mono⟩
theorem Has.since {B0 : Heap} {a : Act} {u : World} (hs : Since F B0 B) (h : Has F B O n κ a u) : Has F B0 O n κ a u := let ⟨H, fp, h⟩ := h; ⟨H, fp, h.since hs⟩
/-- All that is seen now is the base. -/
theorem HasH.rebase {a : Act} {u : World} {H : Heap} {fp : Nat → Nat → Prop} (h : HasH F B O n κ a u H fp) : HasH F H O n κ a u H fp :=
  ⟨h.size, h.defers, h.nodup, h.marks, h.lent, h.keep, h.sub, Heap.Le.refl _, fun _ _ _ => rfl, h.boxes, h.apart, h.slot, h.owns, h.mono⟩
theorem HasH.isSince {a : Act} {u : World} {H : Heap} {fp : Nat → Nat → Prop} (h : HasH F B O n κ a u H fp) : Since F B H := ⟨h.base, h.fresh⟩
/-- A slot's value is set down. -/
theorem HasH.name {a : Act} {u : World} {H : Heap} {fp : Nat → Nat → Prop} (t : Nat) (h : HasH F B O n κ a u H fp) : HasH F B O n (upd κ t (.is (a.eval (.tmp t)))) a u H fp :=
  ⟨h.size, h.defers, h.nodup, h.marks, h.lent, h.keep, h.sub, h.base, h.fresh, h.boxes, h.apart, fun s k hs => by
    by_cases hst : s = t
    · subst hst; rw [upd_same] at hs; cases hs; exact rfl
    · rw [upd_other _ _ hst] at hs; exact h.slot s k hs, fun s r r1 r2 hsr h1 h2 => by
    have key : ∀ x r, upd κ t (.is (a.eval (.tmp t))) x = some (.own r) → κ x = some (.own r) := fun x r hx => by
      by_cases hxd : x = t
      · subst hxd; rw [upd_same] at hx; cases hx
      · rw [upd_other _ _ hxd] at hx; exact hx
    exact h.owns s r r1 r2 hsr (key _ _ h1) (key _ _ h2), fun s k hs => by
    by_cases hst : s = t
    · subst hst; rw [upd_same] at hs; cases hs; trivial
    · rw [upd_other _ _ hst] at hs; exact h.mono s k hs⟩
theorem Has.opn {t : Nat} {φ : Value → Heap → Prop} {a : Act} {u : World} (hk : κ t = some (.sat φ)) (h : Has F B O n κ a u) :
    ∃ v H, Since F B H ∧ φ v H ∧ Has F H O n (upd κ t (.is v)) a u := by
  obtain ⟨H, fp, h⟩ := h
  exact ⟨_, H, h.isSince, h.slot t _ hk, H, fp, (h.name t).rebase⟩
theorem V_opn (t : Nat) {φ : Value → Heap → Prop} {c : Code} (hk : κ t = some (.sat φ)) (h : ∀ v H, Since F B H → φ v H → V P F H n O (upd κ t (.is v)) c Q) : V P F B n O κ c Q := fun a u hh => by
  obtain ⟨v, H, hs, hp, hh'⟩ := hh.opn hk
  exact h v H hs hp a u hh'
theorem N_opn (t : Nat) {φ : Value → Heap → Prop} (hk : κ t = some (.sat φ)) (h : ∀ v H, Since F B H → φ v H → N F H n O (upd κ t (.is v)) Q) : N F B n O κ Q := fun a u hh => by
  obtain ⟨v, H, hs, hp, hh'⟩ := hh.opn hk
  exact h v H hs hp a u hh'
theorem vo_opn (t : Nat) {φ : Value → Heap → Prop} {ops : Array Oper} {os : List Oper} (hk : κ t = some (.sat φ)) (h : ∀ v H, Since F B H → φ v H → VO P F H n O ops (upd κ t (.is v)) os Q) : VO P F B n O ops κ os Q := fun a u hh => by
  obtain ⟨v, H, hs, hp, hh'⟩ := hh.opn hk
  exact h v H hs hp a u hh'

/-- A loop, what is known of it and its blocks turning with a ghost. -/
theorem V_loopO {T : Type} (Ob : T → Boxes) (Fk : T → List (Nat × Kn)) (I : T → Prop) (μ : T → Nat) (x0 : T) {c : Code} (hI : I x0) (hO : O = Ob x0) (h0 : LiveOK (Fk x0) κ)
    (round : ∀ x, I x → V P F B n (Ob x) (ofL (Fk x)) c (Exit.then (fun a u => ∃ x', (I x' ∧ μ x' < μ x) ∧ Has F B (Ob x') n (ofL (Fk x')) a u) Q)) :
    V P F B n O κ (.loop c) Q := fun a u hh => by
  intro b k cs hro hb hr
  have key : ∀ m x a u, μ x = m → I x → Has F B (Ob x) n (ofL (Fk x)) a u →
      ∃ e a' w', Q e a' w' ∧ ArrivesIn (Machine.fenced P (FW F.r)) P (lone (b.atR a (.code c :: .inLoop c :: k)) cs u) b k cs e a' w' := by
    intro m
    induction m using Nat.strongRecOn with
    | _ m ih =>
      intro x a u hm hI hh
      obtain ⟨e, a₁, w₁, hq, harr⟩ := round x hI a u hh b (.inLoop c :: k) cs hro hb hr
      cases e with
      | normal =>
        obtain ⟨x', ⟨hI', hlt⟩, hh'⟩ := hq
        obtain ⟨e₂, a₂, w₂, hq₂, harr₂⟩ := ih (μ x') (hm ▸ hlt) x' a₁ w₁ rfl hI' hh'
        exact ⟨e₂, a₂, w₂, hq₂, .of_steps (StepsIn.trans harr (.one (fenced_calm hb hr rfl) stepR_inLoop)) harr₂⟩
      | exit id => exact ⟨_, a₁, w₁, hq, .pass (x := .inLoop c) rfl (fun _ _ => .inl (by simp)) harr⟩
      | goto l => exact ⟨_, a₁, w₁, hq, .pass (x := .inLoop c) rfl (fun _ _ => .inl (by simp)) harr⟩
      | ret => exact ⟨_, a₁, w₁, hq, .pass (x := .inLoop c) rfl (fun _ _ => .inl (by simp)) harr⟩
      | panic ch => exact ⟨_, a₁, w₁, hq, .pass (x := .inLoop c) rfl (fun _ _ => .inl (by simp)) harr⟩
      | outgrown => exact ⟨_, a₁, w₁, hq, .pass (x := .inLoop c) rfl (fun _ _ => .inl (by simp)) harr⟩
  subst hO
  obtain ⟨e, a', w', hq, harr⟩ := key _ x0 a u rfl hI (hh.live h0)
  exact ⟨e, a', w', hq, .of_steps (.one (fenced_calm hb hr rfl) stepR_loop) harr⟩
theorem V_loop {T : Type} (Fk : T → List (Nat × Kn)) (I : T → Prop) (μ : T → Nat) (x0 : T) {c : Code} (hI : I x0) (h0 : LiveOK (Fk x0) κ)
    (round : ∀ x, I x → V P F B n O (ofL (Fk x)) c (Exit.then (fun a u => ∃ x', (I x' ∧ μ x' < μ x) ∧ Has F B O n (ofL (Fk x')) a u) Q)) :
    V P F B n O κ (.loop c) Q := V_loopO (fun _ => O) Fk I μ x0 hI rfl h0 round
/-- The end of a round. -/
theorem N_round {T : Type} {Fk : T → List (Nat × Kn)} {I : T → Prop} {μ : T → Nat} {x : T} (x' : T) (hI : I x') (hμ : μ x' < μ x) (hl : LiveOK (Fk x') κ) :
    N F B n O κ (Exit.then (fun a u => ∃ x', (I x' ∧ μ x' < μ x) ∧ Has F B O n (ofL (Fk x')) a u) Q) := fun _ _ hh => ⟨x', ⟨hI, hμ⟩, hh.live hl⟩
/-- The end of a round, more being seen than at its beginning. -/
theorem N_roundS {T : Type} {B0 : Heap} {Fk : T → List (Nat × Kn)} {I : T → Prop} {μ : T → Nat} {x : T} (x' : T) (hs : Since F B0 B) (hI : I x') (hμ : μ x' < μ x) (hl : LiveOK (Fk x') κ) :
    N F B n O κ (Exit.then (fun a u => ∃ x', (I x' ∧ μ x' < μ x) ∧ Has F B0 O n (ofL (Fk x')) a u) Q) := fun _ _ hh => ⟨x', ⟨hI, hμ⟩, (hh.live hl).since hs⟩
theorem N_roundO {T : Type} {B0 : Heap} {Ob : T → Boxes} {Fk : T → List (Nat × Kn)} {I : T → Prop} {μ : T → Nat} {x : T} (x' : T) (hs : Since F B0 B) (hI : I x') (hμ : μ x' < μ x) (hO : O = Ob x') (hl : LiveOK (Fk x') κ) :
    N F B n O κ (Exit.then (fun a u => ∃ x', (I x' ∧ μ x' < μ x) ∧ Has F B0 (Ob x') n (ofL (Fk x')) a u) Q) := fun _ _ hh => ⟨x', ⟨hI, hμ⟩, hO ▸ (hh.live hl).since hs⟩
/-- Ways meet again. -/
theorem V_seq_mid {T : Type} (Fk : T → List (Nat × Kn)) (I : T → Prop) {x y : Code} (h : V P F B n O κ x (Exit.then (fun a u => ∃ t, I t ∧ Has F B O n (ofL (Fk t)) a u) Q))
    (hy : ∀ t, I t → V P F B n O (ofL (Fk t)) y Q) : V P F B n O κ (.seq x y) Q := fun a u hh => by
  refine wpIn_seq (Go.wpIn_mono (h a u hh) fun e a u he => ?_)
  cases e with
  | normal => obtain ⟨t, hI, hh'⟩ := he; exact hy t hI a u hh'
  | _ => exact he
theorem N_mid {T : Type} {B0 : Heap} {Fk : T → List (Nat × Kn)} {I : T → Prop} (t : T) (hs : Since F B0 B) (hI : I t) (hl : LiveOK (Fk t) κ) :
    N F B n O κ (Exit.then (fun a u => ∃ t, I t ∧ Has F B0 O n (ofL (Fk t)) a u) Q) := fun _ _ hh => ⟨t, hI, (hh.live hl).since hs⟩

/-! ### a function's beginning -/
theorem argsK_spec : ∀ (vs : List Value) (i t : Nat) (k : Kn), argsK i vs t = some k → ∃ v, k = .is v ∧ i ≤ t ∧ vs[t - i]? = some v
  | [], _, _, _, h => by cases h
  | v :: vs, i, t, k, h => by
    unfold argsK at h
    by_cases hti : t = i
    · subst hti; rw [upd_same] at h; cases h; exact ⟨v, rfl, Nat.le_refl _, by simp⟩
    · rw [upd_other _ _ hti] at h
      obtain ⟨x, hx, hle, hg⟩ := argsK_spec vs (i + 1) t k h
      exact ⟨x, hx, by omega, by rw [show t - i = (t - (i + 1)) + 1 by omega, List.getElem?_cons_succ]; exact hg⟩
theorem has_enter {w : World} {args : List Value} {nt : Nat} (L : Nat → Prop) (hL : ∀ k, L k → k < w.heap.size) (hs : args.length ≤ nt) (hB : B.Le (hp w)) (fp : Nat → Nat → Prop) :
    HasH ⟨w, none, [], L⟩ B [] nt (argsK 0 args) { tmps := args.toArray ++ Array.replicate (nt - args.toArray.size) undef, defers := [] } w B fp := by
  refine ⟨by simp; omega, rfl, List.nodup_nil, (fun _ h => by cases h), hL, Keep.refl _ _, hB, Heap.Le.refl _, fun _ _ _ => rfl, (fun y hy => by cases hy), List.Pairwise.nil, fun t k hk => ?_, fun s t r r' _ hs' _ => ?_, fun t k hk => ?_⟩
  · obtain ⟨v, rfl, _, hv⟩ := argsK_spec _ _ _ _ hk
    rw [Nat.sub_zero] at hv
    have hlt : t < args.length := by
      rcases Nat.lt_or_ge t args.length with h | h
      · exact h
      · rw [List.getElem?_eq_none h] at hv; cases hv
    show Act.eval _ (.tmp t) = v
    simp only [Act.eval, Array.getD_eq_getD_getElem?]
    rw [Array.getElem?_append_left (by simpa using hlt)]
    simp [hv]
  · obtain ⟨v, hv, _⟩ := argsK_spec _ _ _ _ hs'; cases hv
  · obtain ⟨v, rfl, _⟩ := argsK_spec _ _ _ _ hk; trivial
theorem fw_none : FW none = Fence.wide := rfl
theorem calls_of_V {f : FuncId} {fn : Func} {c : Code} {args : List Value} {w : World} {R : Ending → World → Prop} (hf : P.funcs[f]? = some fn) (hb : fn.body = some c)
    (h : c.wpIn (FW none) 0 P (bodyPostM Fence.wide 0 P fn R) { tmps := args.toArray ++ Array.replicate (fn.ntmps - args.toArray.size) undef, defers := [] } w) : Calls P f args.toArray w R :=
  callsIn_wide.1 (callsIn_of_wp_marks hf hb trivial h)
theorem V_enter {f : FuncId} {fn : Func} {c : Code} {args : List Value} {w : World} {B : Heap} {φ : Value → Heap → Prop} (hf : P.funcs[f]? = some fn) (hb : fn.body = some c) (hn : fn.ntmps = n)
    (hs : args.length ≤ n) (hB : B.Le (hp w)) (h : V P (Fr.pure w) B n [] (argsK 0 args) c (bodyPostM Fence.wide 0 P fn (Post w B φ))) : Ret P f args w B φ :=
  calls_of_V hf hb (h _ w ⟨B, fun _ => noL, by subst hn; exact has_enter noL (fun _ h => h.elim) hs hB _⟩)

def tup : List Value → Value
  | [v] => v
  | vs => .tuple vs.toArray
/-- The results, one by one. -/
def ResK (L : Tabs P) (F : Fr) (B : Heap) (O : Boxes) (κ : Kap) (H : Heap) : List ResultVar → List Value → (List Value → Prop) → Prop
  | [], acc, K => K acc.reverse
  | .tmp t :: rs, acc, K => match κ t with
    | some (.is v) => ResK L F B O κ H rs (v :: acc) K
    | some (.sat φ) => ∀ v, φ v H → ResK L F B O κ H rs (v :: acc) K
    | _ => False
  | .cell t ty :: rs, acc, K => ∃ cs, Src F B O κ (.tmp t) cs 0 ∧ (match L.ld ty with
    | some (true, s) => cs.length = s ∧ ResK L F B O κ H rs (.agg cs.toArray :: acc) K
    | some (false, _) => ∃ v r, cs = v :: r ∧ ResK L F B O κ H rs (v :: acc) K
    | none => False)

theorem resK_cellA {L : Tabs P} {H : Heap} {t : Nat} {ty s : Nat} {rs : List ResultVar} {acc cs : List Value} {K : List Value → Prop} (hs : Src F B O κ (.tmp t) cs 0) (hl : L.ld ty = some (true, s)) (hc : cs.length = s) (h : ResK L F B O κ H rs (.agg cs.toArray :: acc) K) : ResK L F B O κ H (.cell t ty :: rs) acc K :=
  ⟨cs, hs, by rw [hl]; exact ⟨hc, h⟩⟩
theorem resK_cell1 {L : Tabs P} {H : Heap} {t : Nat} {ty s : Nat} {rs : List ResultVar} {acc r : List Value} {v : Value} {K : List Value → Prop} (hs : Src F B O κ (.tmp t) (v :: r) 0) (hl : L.ld ty = some (false, s)) (h : ResK L F B O κ H rs (v :: acc) K) : ResK L F B O κ H (.cell t ty :: rs) acc K :=
  ⟨v :: r, hs, by rw [hl]; exact ⟨v, r, rfl, h⟩⟩
def rdR (tmps : Array Value) : ResultVar → Sem Value
  | .tmp t => pure (tmps.getD t undef)
  | .cell b t => do loadVar t (← asAddr (tmps.getD b undef))
theorem results_rdR (fn : Func) (tmps : Array Value) : results fn tmps = (do
    let vs ← fn.results.mapM (rdR tmps)
    pure (if h : vs.size = 1 then vs[0] else .tuple vs)) := by
  unfold results
  congr 1

theorem resK_run (L : Tabs P) {a : Act} {u : World} {H : Heap} {fp : Nat → Nat → Prop} (hH : HasH F B O n κ a u H fp) : ∀ (rs : List ResultVar) (acc : List Value) (K : List Value → Prop), ResK L F B O κ H rs acc K →
    ∃ vs, (rs.mapM (rdR a.tmps)).run P u = .ok vs u ∧ K (acc.reverse ++ vs) := by
  intro rs
  induction rs with
  | nil => intro acc K hk; exact ⟨[], rfl, by simpa [ResK] using hk⟩
  | cons r rs ih =>
    intro acc K hk
    have fin : ∀ v, (rdR a.tmps r).run P u = .ok v u → ResK L F B O κ H rs (v :: acc) K →
        ∃ vs, ((r :: rs).mapM (rdR a.tmps)).run P u = .ok vs u ∧ K (acc.reverse ++ vs) := fun v hv hk => by
      obtain ⟨vs, h1, h2⟩ := ih (v :: acc) K hk
      refine ⟨v :: vs, ?_, by simpa using h2⟩
      simp only [List.mapM_cons, Sem.run_bind]
      rw [hv]
      simp only [Result.andThen_ok]
      rw [h1]
      rfl
    cases r with
    | tmp t =>
      simp only [ResK] at hk
      split at hk
      · rename_i v hkt
        obtain rfl : a.eval (.tmp t) = v := hH.slot t _ hkt
        exact fin _ (by simp [rdR, Act.eval]) hk
      · rename_i φ' hkt
        exact fin (a.eval (.tmp t)) (by simp [rdR, Act.eval]) (hk _ (hH.slot t _ hkt))
      · exact hk.elim
    | cell b t =>
      obtain ⟨cs, hsrc, hk⟩ := hk
      have e := hH.env (ops := #[]) (o := ⟨none, .move (.tmp b), 0, "", #[], none⟩) (κ := κ) (fun _ _ => rfl)
      obtain ⟨b', t', fr, h1, h2⟩ := hsrc _ a u H fp (by simp [Op.operands]) e
      have h1' : a.tmps.getD b undef = .pointer (some ⟨b', 0, none⟩) := h1
      split at hk
      · rename_i s hld
        obtain ⟨hl, hk⟩ := hk
        refine fin (.agg cs.toArray) ?_ hk
        simp only [rdR, Sem.run_bind, h1', asAddr, Sem.run_pure, Result.andThen_ok]
        refine run_loadVar_agg (Tabs.ld_spec hld) u _ cs hl fun j v hj => ?_
        have : Addr.add ⟨b', 0, none⟩ j = ⟨b', j, none⟩ := by simp [Addr.add]; intro h; exact h.symm
        rw [this, cell_of_heap h2]; simpa using hj
      · rename_i s hld
        obtain ⟨v, r, rfl, hk⟩ := hk
        refine fin v ?_ hk
        simp only [rdR, Sem.run_bind, h1', asAddr, Sem.run_pure, Result.andThen_ok]
        exact run_loadVar_one (Tabs.ld_spec hld) u _ v (by rw [cell_of_heap h2]; simp)
      · exact hk.elim
theorem results_run (L : Tabs P) {fn : Func} {a : Act} {u : World} {H : Heap} {fp : Nat → Nat → Prop} (hH : HasH F B O n κ a u H fp) {rs : List ResultVar} (hrs : fn.results = rs.toArray) {K : List Value → Prop} (h : ResK L F B O κ H rs [] K) :
    ∃ vs, (results fn a.tmps).run P u = .ok (tup vs) u ∧ K vs := by
  obtain ⟨vs, h1, h2⟩ := resK_run L hH rs [] _ h
  refine ⟨vs, ?_, by simpa using h2⟩
  rw [results_rdR, hrs]
  simp only [Sem.run_bind]
  have : (rs.toArray.mapM (rdR a.tmps)).run P u = .ok vs.toArray u := by
    rw [List.mapM_toArray, Sem.run_map, h1]
    rfl
  rw [this]
  simp only [Result.andThen_ok, Sem.run_pure]
  congr 1
  match vs with
  | [] => rfl
  | [v] => rfl
  | _ :: _ :: _ => rfl

/-! ### a block of the call's own turns -/
structure Chg (b : Nat) (o : Obj) (u u' : World) : Prop where
  os : u'.os = u.os
  tape : u'.tape = u.tape
  output : u'.output = u.output
  size : u'.heap.size = u.heap.size
  dr : u.drawn ≤ u'.drawn
  here : u'.heap[b]? = some o
  other : ∀ k, k ≠ b → u'.heap[k]? = u.heap[k]?
theorem Chg.putObj {b : Nat} {u : World} {o : Obj} (h : b < u.heap.size) : Chg b o u (u.putObj b o) := ⟨rfl, rfl, rfl, World.putObj_size, Nat.le_refl _, World.putObj_heap_same h, fun _ hk => World.putObj_heap_other hk⟩
theorem HasH.boxSet {ds : List Nat} {O1 O2 : Boxes} {b : Nat} {o o' : Obj} {a a' : Act} {u u' : World} {H : Heap} {fp : Nat → Nat → Prop} (h : HasH F B (O1 ++ (b, o) :: O2) n κ a u H fp) (c : Chg b o' u u')
    (hds : ds.Sublist F.ds) (hb : b ∉ ds) (hat : a'.tmps = a.tmps) (had : a'.defers = ds.map mark) : HasH { F with ds := ds } B (O1 ++ (b, o') :: O2) n κ a' u' H fp := by
  have hmem : (b, o) ∈ O1 ++ (b, o) :: O2 := by simp
  obtain ⟨hb1, hb2, hb3⟩ := h.boxes _ hmem
  have hap := List.pairwise_append.1 h.apart
  have hne : ∀ y, (y ∈ O1 ∨ y ∈ O2) → y.1 ≠ b := fun y hy => by
    rcases hy with hy | hy
    · exact hap.2.2 y hy _ (List.mem_cons_self ..)
    · exact Ne.symm ((List.pairwise_cons.1 hap.2.1).1 y hy)
  have hsub : H.Le (hp u') := fun k x hx => by
    have : k ≠ b := fun e => by subst e; rw [hb2] at hx; cases hx
    exact (c.other k this).trans (h.sub k x hx)
  have split : ∀ y, y ∈ O1 ++ (b, o') :: O2 → y = (b, o') ∨ ((y ∈ O1 ∨ y ∈ O2) ∧ y ∈ O1 ++ (b, o) :: O2) := fun y hy => by
    rcases List.mem_append.1 hy with hy | hy
    · exact .inr ⟨.inl hy, List.mem_append_left _ hy⟩
    · rcases List.mem_cons.1 hy with rfl | hy
      · exact .inl rfl
      · exact .inr ⟨.inr hy, List.mem_append_right _ (List.mem_cons_of_mem _ hy)⟩
  refine ⟨by rw [hat]; exact h.size, had, h.nodup.sublist hds, fun D hD => ?_, h.lent, ?_, hsub, h.base, h.fresh, fun y hy => ?_, ?_, fun t k hk => ?_, h.owns, h.mono⟩
  · have hm := h.marks D (hds.subset hD)
    rcases List.mem_append.1 hm with hm | hm
    · exact List.mem_append_left _ hm
    · rcases List.mem_cons.1 hm with e | hm
      · cases e; exact absurd hD hb
      · exact List.mem_append_right _ (List.mem_cons_of_mem _ hm)
  · refine ⟨c.os.trans h.keep.os, c.tape.trans h.keep.tape, c.output.trans h.keep.output, c.size ▸ h.keep.size, fun k hk hl => ?_, Nat.le_trans h.keep.dr c.dr⟩
    have : k ≠ b := fun e => by
      subst e
      rcases hb3 with g | g
      · exact absurd hk (by simp at g ⊢; omega)
      · exact hl g
    exact (c.other k this).trans (h.keep.block k hk hl)
  · rcases split y hy with rfl | ⟨h1, h2⟩
    · exact ⟨c.here, hb2, hb3⟩
    · obtain ⟨g1, g2, g3⟩ := h.boxes y h2
      exact ⟨(c.other _ (hne y h1)).trans g1, g2, g3⟩
  · refine List.pairwise_append.2 ⟨hap.1, List.pairwise_cons.2 ⟨fun y hy => (List.pairwise_cons.1 hap.2.1).1 y hy, (List.pairwise_cons.1 hap.2.1).2⟩, fun y hy z hz => ?_⟩
    rcases List.mem_cons.1 hz with rfl | hz
    · exact hne y (.inl hy)
    · exact hap.2.2 y hy z (List.mem_cons_of_mem _ hz)
  · have hev : a'.eval (.tmp t) = a.eval (.tmp t) := by simp [Act.eval, hat]
    rw [hev]
    have hh := h.slot t k hk
    cases k with
    | is _ => exact hh
    | sat _ => exact hh
    | own r =>
      obtain ⟨h1, h2⟩ := hh
      refine ⟨r.st h1 (Heap.Le.refl _) hsub ⟨c.os, c.tape, c.output, Nat.le_of_eq c.size.symm, c.dr⟩ fun k hk => c.other k fun e => by subst e; exact (h2 k hk).2.2.2 _ hmem rfl, fun k hk => ?_⟩
      obtain ⟨g1, g2, g3, g4⟩ := h2 k hk
      refine ⟨c.size ▸ g1, g2, g3, fun y hy => ?_⟩
      rcases split y hy with rfl | ⟨_, g5⟩
      · exact g4 (b, o) hmem
      · exact g4 y g5

/-- The marks are come to: the frame leaves. -/
theorem has_close {fn : Func} {R : Ending → World → Prop} : ∀ (ds : List Nat) {F : Fr} {O : Boxes} {a : Act} {u : World} {H : Heap} {fp : Nat → Nat → Prop}, F.ds = ds → HasH F B O n κ a u H fp →
    (∀ (O' : Boxes) (u' : World), (∀ y ∈ O, y.1 ∉ F.ds → y ∈ O') → HasH { F with ds := [] } B O' n κ { a with defers := [] } u' H fp → LeavesInM Fence.wide 0 P fn a.tmps R [] .returning u') →
    LeavesInM Fence.wide 0 P fn a.tmps R a.defers .returning u
  | [], F, O, a, u, H, fp, hd, h, hk => by
    have h0 := h.defers
    rw [hd] at h0
    rw [h0]
    refine hk O u (fun y hy _ => hy) ?_
    obtain ⟨w0, r, ds, L⟩ := F
    obtain ⟨tm, df⟩ := a
    dsimp only at hd h0 ⊢
    subst hd
    have h0' : df = [] := h0
    subst h0'
    exact h
  | D :: ds, F, O, a, u, H, fp, hd, h, hk => by
    have h0 := h.defers
    rw [hd] at h0
    have hDm : (D, Obj.deferred (some [])) ∈ O := h.marks D (by rw [hd]; exact List.mem_cons_self ..)
    obtain ⟨O1, O2, rfl⟩ := List.append_of_mem hDm
    have hb := (h.boxes _ hDm).1
    have hnd := h.nodup
    rw [hd] at hnd
    have h2 := h.boxSet (ds := ds) (a' := { a with defers := ds.map mark }) (Chg.putObj (o := .deferred none) (size_of_heap hb)) (by rw [hd]; exact List.sublist_cons_self ..) (List.nodup_cons.1 hnd).1 rfl rfl
    have ih := has_close (fn := fn) (R := R) ds (F := { F with ds := ds }) (a := { a with defers := ds.map mark }) rfl h2 fun O' u' hO hh => hk O' u' (fun y hy hyd => by
      rw [hd] at hyd
      refine hO y ?_ fun hm => hyd (List.mem_cons_of_mem _ hm)
      rcases List.mem_append.1 hy with hy | hy
      · exact List.mem_append_left _ hy
      · rcases List.mem_cons.1 hy with rfl | hy
        · exact absurd (List.mem_cons_self ..) hyd
        · exact List.mem_append_right _ (List.mem_cons_of_mem _ hy)) hh
    rw [h0, List.map_cons]
    exact ⟨by simp, .inl ⟨D, _, rfl, run_takeDeferred hb, ih⟩⟩

/-- The frame returns. -/
theorem V_retG {fn : Func} {B0 : Heap} {φ : Value → Heap → World → Prop} (hQ : ∀ a u, bodyPostM Fence.wide 0 P fn (PostL F.w0 B0 F.L φ) .ret a u → Q .ret a u) (hs : Since F B0 B)
    (h : ∀ (O' : Boxes) (a : Act) (u : World) (H : Heap) (fp : Nat → Nat → Prop), (∀ y ∈ O, y.1 ∉ F.ds → y ∈ O') → HasH { F with ds := [] } B O' n κ a u H fp → ∃ v, (results fn a.tmps).run P u = .ok v u ∧ φ v H u) : V P F B n O κ .ret Q := fun a u hh => by
  obtain ⟨H, fp, hH⟩ := hh
  refine wpIn_ret (hQ a u ?_)
  refine has_close F.ds rfl hH fun O' u' hO hh => ?_
  obtain ⟨v, hr, hv⟩ := h O' _ u' H fp hO hh
  exact ⟨v, hr, v, rfl, H, ⟨hh.keep, hh.sub, hs.le.trans hh.base, fun k hk hl => (hh.fresh k hk hl).trans (hs.fresh k hk hl)⟩, hv⟩
theorem Src.more {O' : Boxes} {x : Operand} {cs : List Value} {off : Nat} (hO : ∀ y ∈ O, y ∈ O') (h : Src F B O κ x cs off) : Src F B O' κ x cs off := fun o a u H fp hx e =>
  h o a u H fp hx ⟨e.is_, e.sat_, fun t r ht hk => by
    obtain ⟨h1, h2⟩ := e.own_ t r ht hk
    exact ⟨h1, fun k hk => by obtain ⟨g1, g2, g3, g4⟩ := h2 k hk; exact ⟨g1, g2, g3, fun y hy => g4 y (hO y hy)⟩⟩, e.sub, e.base, fun y hy => e.boxes y (hO y hy), e.keep⟩
/-- A function's end that is no return. -/
theorem N_retG {fn : Func} {B0 : Heap} {φ : Value → Heap → World → Prop} (hQ : ∀ a u, bodyPostM Fence.wide 0 P fn (PostL F.w0 B0 F.L φ) .normal a u → Q .normal a u) (hs : Since F B0 B)
    (h : ∀ (O' : Boxes) (a : Act) (u : World) (H : Heap) (fp : Nat → Nat → Prop), (∀ y ∈ O, y.1 ∉ F.ds → y ∈ O') → HasH { F with ds := [] } B O' n κ a u H fp → ∃ v, (results fn a.tmps).run P u = .ok v u ∧ φ v H u) : N F B n O κ Q := fun a u hh => by
  obtain ⟨H, fp, hH⟩ := hh
  refine hQ a u ?_
  refine has_close F.ds rfl hH fun O' u' hO hh => ?_
  obtain ⟨v, hr, hv⟩ := h O' _ u' H fp hO hh
  exact ⟨v, hr, v, rfl, H, ⟨hh.keep, hh.sub, hs.le.trans hh.base, fun k hk hl => (hh.fresh k hk hl).trans (hs.fresh k hk hl)⟩, hv⟩
theorem V_ret (L : Tabs P) {fn : Func} {B0 : Heap} {φ : Value → Heap → Prop} {rs : List ResultVar} (hrs : fn.results = rs.toArray) (hQ : ∀ a u, bodyPostM Fence.wide 0 P fn (PostL F.w0 B0 F.L fun v H _ => φ v H) .ret a u → Q .ret a u) (hs : Since F B0 B)
    (h : ∀ u H, H.Le (hp u) → B.Le H → ResK L F B O κ H rs [] (fun vs => φ (tup vs) H)) (hd : F.ds = [] := by rfl) : V P F B n O κ .ret Q := fun a u hh => by
  obtain ⟨H, fp, hH⟩ := hh
  refine wpIn_ret (hQ a u ?_)
  have h0 := hH.defers
  rw [hd] at h0
  show LeavesInM _ _ _ _ _ _ a.defers _ _
  rw [h0]
  obtain ⟨vs, h1, h2⟩ := results_run L hH hrs (h u H hH.sub hH.base)
  exact ⟨_, h1, _, rfl, H, ⟨hH.keep, hH.sub, hs.le.trans hH.base, fun k hk hl => (hH.fresh k hk hl).trans (hs.fresh k hk hl)⟩, h2⟩
end code
end Go.V
