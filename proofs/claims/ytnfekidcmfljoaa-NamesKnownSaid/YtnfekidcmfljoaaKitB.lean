/- The kit's second floor: what each operation does to what is known of the slots; the rules for code. -/
import Derived.Test.YtnfekidcmfljoaaKitA
namespace Go.V
open Go.RowKit

/-! ### tables of a program's types -/
def ldI (P : Program) (t : TypeId) : Option (Bool × Nat) :=
  match P.underlying t, P.info? t with
  | some d, some i => some (match d with | .struct _ | .array _ _ => true | _ => false, i.size)
  | _, _ => none
def slI (P : Program) (t : TypeId) : Option Nat := match P.underlying t with | some (.slice e) => some e | _ => none
def stI (P : Program) (t : TypeId) : Option Unit := match P.underlying t with | some .string => some () | _ => none
def foI (P : Program) (p : Nat × Nat) : Option Nat :=
  match P.underlying p.1 with
  | some (.struct fs) => match fs[p.2]? with
    | some f => match P.info? f.type with
      | some i => if i.size = 0 then none else some f.offset
      | none => none
    | none => none
  | _ => none
def zrI (P : Program) (t : TypeId) : Option Value := match P.info? t with | some i => i.zero | none => none
def lookT {β : Type} (t : Nat) : List (Nat × β) → Option β
  | [] => none
  | (s, r) :: l => bif Nat.beq t s then some r else lookT t l
def lookT2 {β : Type} (t i : Nat) : List ((Nat × Nat) × β) → Option β
  | [] => none
  | ((s, j), r) :: l => bif Nat.beq t s && Nat.beq i j then some r else lookT2 t i l
structure Tabs (P : Program) where
  ldT : List (Nat × (Bool × Nat))
  slT : List (Nat × Nat)
  stT : List (Nat × Unit)
  foT : List ((Nat × Nat) × Nat)
  zrT : List (Nat × Value)
  fnT : List (Nat × Unit)
  ld_ok : ldT.all (fun p => ldI P p.1 == some p.2) = true
  sl_ok : slT.all (fun p => slI P p.1 == some p.2) = true
  st_ok : stT.all (fun p => stI P p.1 == some p.2) = true
  fo_ok : foT.all (fun p => foI P p.1 == some p.2) = true
  zr_ok : zrT.map (fun p => zrI P p.1) = zrT.map (fun p => some p.2)
  fn_ok : fnT.all (fun p => match P.funcs[p.1]? with | some fn => fn.body.isSome && fn.name != "runtime.NumGoroutine" | none => false) = true
theorem lookT_mem {β : Type} {t : Nat} {r : β} : ∀ {l : List (Nat × β)}, lookT t l = some r → (t, r) ∈ l
  | [], h => by cases h
  | (s, r') :: l, h => by
    unfold lookT at h
    cases hb : Nat.beq t s with
    | true => rw [hb] at h; obtain rfl := Nat.eq_of_beq_eq_true hb; simp at h; subst h; exact List.mem_cons_self ..
    | false => rw [hb] at h; exact List.mem_cons_of_mem _ (lookT_mem h)
theorem lookT2_mem {β : Type} {t i : Nat} {r : β} : ∀ {l : List ((Nat × Nat) × β)}, lookT2 t i l = some r → ((t, i), r) ∈ l
  | [], h => by cases h
  | ((s, j), r') :: l, h => by
    unfold lookT2 at h
    cases hb : Nat.beq t s && Nat.beq i j with
    | true =>
      rw [hb] at h
      rw [Bool.and_eq_true] at hb
      obtain rfl := Nat.eq_of_beq_eq_true hb.1
      obtain rfl := Nat.eq_of_beq_eq_true hb.2
      simp at h; subst h; exact List.mem_cons_self ..
    | false => rw [hb] at h; exact List.mem_cons_of_mem _ (lookT2_mem h)
section tabs
variable {P : Program} (L : Tabs P)
def Tabs.ld (t : Nat) : Option (Bool × Nat) := lookT t L.ldT
def Tabs.sl (t : Nat) : Option Nat := lookT t L.slT
def Tabs.st (t : Nat) : Option Unit := lookT t L.stT
def Tabs.fo (t i : Nat) : Option Nat := lookT2 t i L.foT
def Tabs.zr (t : Nat) : Option Value := lookT t L.zrT
def Tabs.fn (t : Nat) : Option Unit := lookT t L.fnT
variable {L}
theorem Tabs.ld_spec {t : Nat} {r : Bool × Nat} (h : L.ld t = some r) : ldI P t = some r := by
  simpa using List.all_eq_true.1 L.ld_ok _ (lookT_mem h)
theorem Tabs.sl_spec {t e : Nat} (h : L.sl t = some e) : P.underlying t = some (.slice e) := by
  have := List.all_eq_true.1 L.sl_ok _ (lookT_mem h)
  simp only [beq_iff_eq, slI] at this
  split at this
  · rename_i e' he; rw [he]; cases this; rfl
  · cases this
theorem Tabs.st_spec {t : Nat} {x : Unit} (h : L.st t = some x) : P.underlying t = some .string := by
  have := List.all_eq_true.1 L.st_ok _ (lookT_mem h)
  simp only [beq_iff_eq, stI] at this
  split at this
  · assumption
  · cases this
theorem Tabs.fo_spec {t i off : Nat} (h : L.fo t i = some off) : ∃ fs f j, P.underlying t = some (.struct fs) ∧ fs[i]? = some f ∧ P.info? f.type = some j ∧ j.size ≠ 0 ∧ f.offset = off := by
  have := List.all_eq_true.1 L.fo_ok _ (lookT2_mem h)
  simp only [beq_iff_eq, foI] at this
  split at this
  · rename_i fs hfs
    split at this
    · rename_i f hf
      split at this
      · rename_i j hj
        split at this
        · cases this
        · rename_i hz; exact ⟨fs, f, j, hfs, hf, hj, hz, by simpa using this⟩
      · cases this
    · cases this
  · cases this
theorem Tabs.zr_spec {t : Nat} {z : Value} (h : L.zr t = some z) : zrI P t = some z := List.map_inj_left.1 L.zr_ok _ (lookT_mem h)
theorem Tabs.fn_spec {t : Nat} {x : Unit} (h : L.fn t = some x) : ∃ fn, P.funcs[t]? = some fn ∧ fn.body.isSome = true ∧ (fn.name == "runtime.NumGoroutine") = false := by
  have := List.all_eq_true.1 L.fn_ok _ (lookT_mem h)
  simp only at this
  split at this
  · rename_i fn hf; simp only [Bool.and_eq_true] at this; exact ⟨fn, hf, this.1, by simpa using this.2⟩
  · cases this
end tabs

/-! ### reading slots -/
def evK (κ : Kap) : Operand → Option Value
  | .const v => some v
  | .func f => some (.func (.func f) #[] #[])
  | .global g => some (.pointer (some ⟨g, 0, none⟩))
  | .tmp t => match κ t with
    | some (.is v) => some v
    | _ => none
def evKs (κ : Kap) : List Operand → Option (List Value)
  | [] => some []
  | x :: xs => match evK κ x, evKs κ xs with
    | some v, some vs => some (v :: vs)
    | _, _ => none
def gK (ops : Array Oper) (κ : Kap) (o : Oper) : Option Bool :=
  match o.guard with
  | none => some true
  | some (j, want) => match (ops[j]?).bind (·.dst) with
    | none => none
    | some t => match κ t with
      | some (.is (.bool b)) => some (b == want)
      | some (.is (.tuple _)) => some false
      | _ => none

section
variable {P : Program} {w0 : World} {B : Heap} {O : Boxes} {n : Nat} {ops : Array Oper} {κ κ' : Kap} {o : Oper} {a : Act} {u : World} {H : Heap}

structure Env (w0 : World) (B : Heap) (O : Boxes) (κ : Kap) (o : Oper) (a : Act) (u : World) (H : Heap) : Prop where
  is_ : ∀ x v, x ∈ o.op.operands → evK κ x = some v → a.eval x = v
  sat_ : ∀ t φ, .tmp t ∈ o.op.operands → κ t = some (.sat φ) → φ (a.eval (.tmp t)) H
  own_ : ∀ t cs ty, .tmp t ∈ o.op.operands → κ t = some (.own cs ty) → ∃ b, a.eval (.tmp t) = .pointer (some ⟨b, 0, none⟩) ∧ u.heap[b]? = some (.cells cs.toArray ty) ∧ H b = none ∧ w0.heap.size ≤ b ∧ ∀ y ∈ O, y.1 ≠ b
  sub : H.Le (hp u)
  base : B.Le H
  boxes : ∀ y ∈ O, u.heap[y.1]? = some (.cells y.2.1.toArray y.2.2) ∧ H y.1 = none ∧ w0.heap.size ≤ y.1
  below : Below w0.heap.size w0 u

theorem looks_of {t : Nat} (h : Operand.tmp t ∈ o.op.operands) : t ∈ o.looksAt ops :=
  List.mem_append_left _ (List.mem_filterMap.2 ⟨.tmp t, by simpa using h, rfl⟩)

theorem eval_tmp {t : Nat} {v : Value} (h : a.tmps[t]? = some v) : a.eval (.tmp t) = v := by
  simp [Act.eval, h]

theorem HasH.env (h : HasH w0 B O n κ' a u H) (hl : ∀ t ∈ o.looksAt ops, κ' t = κ t) : Env w0 B O κ o a u H := {
  is_ := fun x v hx hv => by
    cases x with
    | tmp t =>
      simp only [evK] at hv
      split at hv
      · rename_i v' hk
        obtain ⟨y, hy, hh⟩ := h.slot t _ ((hl t (looks_of hx)).trans hk)
        have hh' : y = v' := hh
        cases hv; subst hh'
        exact eval_tmp hy
      · cases hv
    | const c => simp only [evK] at hv; cases hv; rfl
    | global g => simp only [evK] at hv; cases hv; rfl
    | func f => simp only [evK] at hv; cases hv; rfl
  sat_ := fun t φ hx hk => by
    obtain ⟨y, hy, hh⟩ := h.slot t _ ((hl t (looks_of hx)).trans hk)
    rw [eval_tmp hy]; exact hh
  own_ := fun t cs ty hx hk => by
    obtain ⟨y, hy, hh⟩ := h.slot t _ ((hl t (looks_of hx)).trans hk)
    rw [eval_tmp hy]; exact hh
  sub := h.sub
  base := h.base
  boxes := h.boxes
  below := h.below }

theorem wanted_gK {b : Bool} (h : HasH w0 B O n κ' a u H) (hl : ∀ t ∈ o.looksAt ops, κ' t = κ t) (hg : gK ops κ o = some b) :
    Region.wanted o (yielded ops a.tmps) = b := by
  unfold gK at hg
  unfold Region.wanted
  cases hgd : o.guard with
  | none => rw [hgd] at hg; simpa using hg
  | some gw =>
    obtain ⟨j, want⟩ := gw
    rw [hgd] at hg
    simp only at hg ⊢
    cases ht : (ops[j]?).bind (·.dst) with
    | none => rw [ht] at hg; cases hg
    | some t =>
      rw [ht] at hg
      simp only at hg
      have hlt : t ∈ o.looksAt ops := List.mem_append_right _ (by rw [hgd]; simp [ht])
      split at hg
      · rename_i b' hk
        obtain ⟨y, hy, hh⟩ := h.slot t _ ((hl t hlt).trans hk)
        have hh' : y = .bool b' := hh
        subst hh'
        have : yielded ops a.tmps j = some b' := by simp [yielded, ht, hy]
        rw [this]
        cases hg
        cases b' <;> cases want <;> rfl
      · rename_i vs hk
        obtain ⟨y, hy, hh⟩ := h.slot t _ ((hl t hlt).trans hk)
        have hh' : y = .tuple vs := hh
        subst hh'
        have : yielded ops a.tmps j = none := by simp [yielded, ht, hy]
        rw [this]
        cases hg
        rfl
      · cases hg

def Kn.mono : Kn → Prop
  | .sat φ => ∀ v H H', φ v H → Heap.Le H H' → φ v H'
  | _ => True
def Kn.plain : Kn → Value → Heap → Prop
  | .is v, x, _ => x = v
  | .sat φ, x, H => φ x H
  | .own _ _, _, _ => False

theorem Heap.Le.size {H : Heap} {u : World} {b : Nat} {x : Obj} (h : H.Le (hp u)) (hb : H b = some x) : b < u.heap.size := by
  have := h b x hb
  unfold hp at this
  rcases Nat.lt_or_ge b u.heap.size with h | h
  · exact h
  · rw [Array.getElem?_eq_none h] at this; cases this
theorem size_of_heap {u : World} {b : Nat} {x : Obj} (h : u.heap[b]? = some x) : b < u.heap.size := by
  rcases Nat.lt_or_ge b u.heap.size with h' | h'
  · exact h'
  · rw [Array.getElem?_eq_none h'] at h; cases h

/-- The world goes on: what lay there lies as it did; more may be seen. -/
structure Grow (u : World) (H : Heap) (u' : World) (H' : Heap) : Prop where
  below : Below u.heap.size u u'
  sub : H'.Le (hp u')
  le : H.Le H'
  fresh : ∀ k, k < u.heap.size → H' k = H k
theorem Grow.refl (h : H.Le (hp u)) : Grow u H u H := ⟨Below.refl _ _, h, Heap.Le.refl _, fun _ _ => rfl⟩

theorem HasH.grow {u' : World} {H' : Heap} (h : HasH w0 B O n κ a u H) (g : Grow u H u' H') : HasH w0 B O n κ a u' H' := {
  size := h.size
  defers := h.defers
  below := h.below.trans (g.below.mono h.below.size)
  sub := g.sub
  base := h.base.trans g.le
  fresh := fun k hk => (g.fresh k (Nat.lt_of_lt_of_le hk h.below.size)).trans (h.fresh k hk)
  boxes := fun y hy => by
    obtain ⟨h1, h2, h3⟩ := h.boxes y hy
    have hs := size_of_heap h1
    exact ⟨(g.below.block _ hs).trans h1, (g.fresh _ hs).trans h2, h3⟩
  apart := h.apart
  slot := fun t k hk => by
    obtain ⟨v, hv, hh⟩ := h.slot t k hk
    refine ⟨v, hv, ?_⟩
    cases k with
    | is x => exact hh
    | sat φ => exact h.mono t φ hk v H H' hh g.le
    | own cs ty =>
      obtain ⟨b, rfl, h1, h2, h3, h4⟩ := hh
      have hs := size_of_heap h1
      exact ⟨b, rfl, (g.below.block _ hs).trans h1, (g.fresh _ hs).trans h2, h3, h4⟩
  owns := h.owns
  mono := h.mono }

theorem HasH.put {d : Nat} {k : Kn} {v : Value} (h : HasH w0 B O n κ a u H) (hd : d < n) (hm : k.mono) (hk : k.plain v H) :
    HasH w0 B O n (upd κ d k) (a.put (some d) v) u H := {
  size := by simp [Act.put, h.size]
  defers := h.defers
  below := h.below
  sub := h.sub
  base := h.base
  fresh := h.fresh
  boxes := h.boxes
  apart := h.apart
  slot := fun t k' hk' => by
    by_cases ht : t = d
    · subst ht
      rw [upd_same] at hk'
      cases hk'
      refine ⟨v, by simp [Act.put, h.size, hd], ?_⟩
      cases k with
      | is x => exact hk
      | sat φ => exact hk
      | own cs ty => exact hk.elim
    · rw [upd_other _ _ ht] at hk'
      obtain ⟨x, hx, hh⟩ := h.slot t k' hk'
      exact ⟨x, by simp only [Act.put]; rw [Array.getElem?_setIfInBounds_ne (Ne.symm ht)]; exact hx, hh⟩
  owns := fun s t cs ty cs' ty' hst hs ht => by
    have key : ∀ x cs ty, upd κ d k x = some (.own cs ty) → x ≠ d ∧ κ x = some (.own cs ty) := fun x cs ty hx => by
      by_cases hxd : x = d
      · subst hxd; rw [upd_same] at hx; cases hx; exact hk.elim
      · rw [upd_other _ _ hxd] at hx; exact ⟨hxd, hx⟩
    obtain ⟨hsd, hs'⟩ := key _ _ _ hs
    obtain ⟨htd, ht'⟩ := key _ _ _ ht
    simp only [Act.put]
    rw [Array.getElem?_setIfInBounds_ne (Ne.symm hsd), Array.getElem?_setIfInBounds_ne (Ne.symm htd)]
    exact h.owns s t cs ty cs' ty' hst hs' ht'
  mono := fun t φ hk' => by
    by_cases ht : t = d
    · subst ht; rw [upd_same] at hk'; cases hk'; exact hm
    · rw [upd_other _ _ ht] at hk'; exact h.mono t φ hk' }

/-- An operation that yields a value and lets the world go on. -/
theorem ok_run {d : Nat} {k : Kn} (hd : o.dst = some d) (hn : d < n) (hg : gK ops κ o = some true) (hm : k.mono)
    (h : ∀ a u H, Env w0 B O κ o a u H → ∃ v u' H', (execOp a.eval o).run P u = .ok (.value v) u' ∧ Grow u H u' H' ∧ k.plain v H') :
    StepOK P w0 B n ops O κ o d k := by
  rintro κ' a u hl ⟨H, hh⟩
  unfold After
  rw [if_pos (wanted_gK hh hl hg)]
  obtain ⟨v, u', H', hr, g, hk⟩ := h a u H (hh.env hl)
  unfold Oper.wp
  rw [hr]
  simp only [Oper.upon]
  rw [hd]
  exact ⟨H', (hh.grow g).put hn hm hk⟩

theorem ok_pure {d : Nat} {k : Kn} (hd : o.dst = some d) (hn : d < n) (hg : gK ops κ o = some true) (hm : k.mono)
    (h : ∀ a u H, Env w0 B O κ o a u H → ∃ v, (execOp a.eval o).run P u = .ok (.value v) u ∧ k.plain v H) :
    StepOK P w0 B n ops O κ o d k :=
  ok_run hd hn hg hm fun a u H e => let ⟨v, hr, hk⟩ := h a u H e; ⟨v, u, H, hr, Grow.refl e.sub, hk⟩

/-- An operation that is not wanted. -/
theorem ok_skip {d : Nat} (hd : o.dst = some d) (hn : d < n) (hg : gK ops κ o = some false) : StepOK P w0 B n ops O κ o d (.is undef) := by
  rintro κ' a u hl ⟨H, hh⟩
  unfold After
  have := wanted_gK hh hl hg
  rw [if_neg (by rw [this]; decide), hd]
  exact ⟨H, hh.put hn trivial rfl⟩

/-- What a function hands back. -/
def Post (w : World) (B : Heap) (φ : Value → Heap → Prop) (e : Ending) (u : World) : Prop :=
  ∃ v, e = .returned v ∧ ∃ H, Grow w B u H ∧ φ v H
def Ret (P : Program) (f : FuncId) (args : List Value) (w : World) (B : Heap) (φ : Value → Heap → Prop) : Prop :=
  Calls P f args.toArray w (Post w B φ)
theorem Ret.mono {f : FuncId} {args : List Value} {w : World} {φ ψ : Value → Heap → Prop} (h : Ret P f args w B φ) (hi : ∀ v H, B.Le H → φ v H → ψ v H) : Ret P f args w B ψ :=
  Calls.mono h fun _ _ ⟨v, he, H, g, hp⟩ => ⟨v, he, H, g, hi v H g.le hp⟩

/-- The arguments of a call, one by one: a known value stands as it is, of another one what is known. -/
def Args (κ : Kap) (H : Heap) : List Operand → List Value → (List Value → Prop) → Prop
  | [], acc, K => K acc.reverse
  | x :: xs, acc, K => match x with
    | .tmp t => match κ t with
      | some (.is v) => Args κ H xs (v :: acc) K
      | some (.sat φ) => ∀ v, φ v H → Args κ H xs (v :: acc) K
      | _ => False
    | .const v => Args κ H xs (v :: acc) K
    | .global g => Args κ H xs (.pointer (some ⟨g, 0, none⟩) :: acc) K
    | .func f => Args κ H xs (.func (.func f) #[] #[] :: acc) K

theorem Args.use (e : Env w0 B O κ o a u H) {K : List Value → Prop} : ∀ (xs : List Operand) (acc : List Value), (∀ x ∈ xs, x ∈ o.op.operands) → Args κ H xs acc K → K (acc.reverse ++ xs.map a.eval)
  | [], acc, _, h => by simpa [Args] using h
  | x :: xs, acc, hx, h => by
    have step : ∀ v, a.eval x = v → Args κ H xs (v :: acc) K → K (acc.reverse ++ (x :: xs).map a.eval) := fun v hv hr => by
      have := Args.use e xs (v :: acc) (fun y hy => hx y (List.mem_cons_of_mem _ hy)) hr
      simpa [hv] using this
    have hxo := hx x (List.mem_cons_self ..)
    cases x with
    | tmp t =>
      simp only [Args] at h
      split at h
      · rename_i v hk; exact step v (e.is_ (.tmp t) v hxo (by simp [evK, hk])) h
      · rename_i φ hk; exact step _ rfl (h _ (e.sat_ t φ hxo hk))
      · exact h.elim
    | const v => exact step v rfl h
    | global g => exact step _ rfl h
    | func f => exact step _ rfl h

theorem run_callFunc (L : Tabs P) {f : Nat} {xs : Array Value} {w : World} (h : L.fn f = some ()) : (callFunc f xs).run P w = .ok (.enter f xs) w := by
  obtain ⟨fn, hf, hb, hn⟩ := Tabs.fn_spec h
  have hb' : fn.body ≠ none := by intro hx; simp [hx] at hb
  have hn' : fn.name ≠ "runtime.NumGoroutine" := by simpa using hn
  simp [callFunc, hf, hn', hb']

theorem ok_call (L : Tabs P) {d f : Nat} {args : Array Operand} {at_ : Array TypeId} {cap : List Value} {φ : Value → Heap → Prop} {fo : Operand}
    (hop : o.op = .call { callee := .value fo, args := args, argTypes := at_ }) (hd : o.dst = some d) (hn : d < n) (hg : gK ops κ o = some true)
    (hf : evK κ fo = some (.func (.func f) #[] cap.toArray)) (hfn : L.fn f = some ()) (hm : Kn.mono (.sat φ))
    (h : ∀ u H, H.Le (hp u) → B.Le H → Below w0.heap.size w0 u → Args κ H args.toList [] (fun vs => Ret P f (vs ++ cap) u H φ)) :
    StepOK P w0 B n ops O κ o d (.sat φ) := by
  rintro κ' a u hl ⟨H, hh⟩
  unfold After
  rw [if_pos (wanted_gK hh hl hg)]
  have e := hh.env hl
  have hfe : a.eval fo = .func (.func f) #[] cap.toArray := e.is_ fo _ (by simp [hop, Op.operands, Call.operands]) hf
  have hc := Args.use e args.toList [] (fun x hx => by simp [hop, Op.operands, Call.operands] at hx ⊢; exact .inr hx) (h u H e.sub e.base e.below)
  simp only [List.reverse_nil, List.nil_append] at hc
  have hrun : (execOp a.eval o).run P u = .ok (.enter f ((args.toList.map a.eval ++ cap).toArray)) u := by
    simp only [execOp, hop, resolve, hfe, Deferred.ofValue, Sem.run_bind, Sem.run_pure, Result.andThen_ok, invoke]
    rw [run_callFunc L hfn]
    simp
  unfold Oper.wp
  rw [hrun]
  simp only [Oper.upon]
  refine Calls.mono hc fun e' u' hp => ?_
  obtain ⟨v, rfl, H', g, hv⟩ := hp
  simp only [hd]
  exact ⟨H', (hh.grow g).put hn hm hv⟩

/-- As 'ok_call', the value being known. -/
theorem ok_callx (L : Tabs P) {d f : Nat} {args : Array Operand} {at_ : Array TypeId} {cap : List Value} {r : Value} {fo : Operand}
    (hop : o.op = .call { callee := .value fo, args := args, argTypes := at_ }) (hd : o.dst = some d) (hn : d < n) (hg : gK ops κ o = some true)
    (hf : evK κ fo = some (.func (.func f) #[] cap.toArray)) (hfn : L.fn f = some ())
    (h : ∀ u H, H.Le (hp u) → B.Le H → Below w0.heap.size w0 u → Args κ H args.toList [] (fun vs => Ret P f (vs ++ cap) u H (fun v _ => v = r))) :
    StepOK P w0 B n ops O κ o d (.is r) := by
  have := ok_call (O := O) L hop hd hn hg hf hfn (φ := fun v _ => v = r) (by intro v H H' h _; exact h) h
  intro κ' a u hl hh
  have := this κ' a u hl hh
  have conv : ∀ a u, Has w0 B O n (upd κ' d (.sat fun v _ => v = r)) a u → Has w0 B O n (upd κ' d (.is r)) a u := by
    rintro a u ⟨H, h⟩
    refine ⟨H, h.size, h.defers, h.below, h.sub, h.base, h.fresh, h.boxes, h.apart, fun t k hk => ?_, fun s t cs ty cs' ty' hst hs ht => ?_, fun t φ hk => ?_⟩
    · by_cases ht : t = d
      · subst ht
        rw [upd_same] at hk; cases hk
        obtain ⟨x, hx, hh⟩ := h.slot t _ (upd_same κ' t (.sat fun v _ => v = r))
        exact ⟨x, hx, hh⟩
      · rw [upd_other _ _ ht] at hk
        exact h.slot t k (by rw [upd_other _ _ ht]; exact hk)
    · have key : ∀ x cs ty, upd κ' d (.is r) x = some (.own cs ty) → upd κ' d (.sat fun v _ => v = r) x = some (.own cs ty) := fun x cs ty hx => by
        by_cases hxd : x = d
        · subst hxd; rw [upd_same] at hx; cases hx
        · rw [upd_other _ _ hxd] at hx ⊢; exact hx
      exact h.owns s t cs ty cs' ty' hst (key _ _ _ hs) (key _ _ _ ht)
    · by_cases ht : t = d
      · subst ht; rw [upd_same] at hk; cases hk
      · rw [upd_other _ _ ht] at hk; exact h.mono t φ (by rw [upd_other _ _ ht]; exact hk)
  unfold After at *
  split
  · rename_i hw; rw [if_pos hw] at this; exact Oper.wp_mono conv this
  · rename_i hw; rw [if_neg hw] at this; exact conv _ _ this
end
end Go.V
