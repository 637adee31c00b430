/- The kit's second floor: what each operation does to what is known of the slots; the rules for code. -/
import Derived.Test.YtpnmjelhnacmlaaKitA
namespace Go.V
open Go.RowKit

/-! ### tables of a program's types -/
def ldI (P : Program) (t : TypeId) : Option (Bool × Nat) :=
  match P.underlying t, P.info? t with
  | some d, some i => some (match d with | .struct _ | .array _ _ => true | _ => false, i.size)
  | _, _ => none
def slI (P : Program) (t : TypeId) : Option Nat := match P.underlying t with | some (.slice e) => some e | _ => none
def stI (P : Program) (t : TypeId) : Option Unit := match P.underlying t with | some .string => some () | _ => none
def foI (P : Program) (p : Nat × Nat) : Option Nat :=
  match P.underlying p.1 with
  | some (.struct fs) => match fs[p.2]? with
    | some f => match P.info? f.type with
      | some i => if i.size = 0 then none else some f.offset
      | none => none
    | none => none
  | _ => none
def zrI (P : Program) (t : TypeId) : Option Value := match P.info? t with | some i => i.zero | none => none
def lookT {β : Type} (t : Nat) : List (Nat × β) → Option β
  | [] => none
  | (s, r) :: l => bif Nat.beq t s then some r else lookT t l
def lookT2 {β : Type} (t i : Nat) : List ((Nat × Nat) × β) → Option β
  | [] => none
  | ((s, j), r) :: l => bif Nat.beq t s && Nat.beq i j then some r else lookT2 t i l
structure Tabs (P : Program) where
  ldT : List (Nat × (Bool × Nat))
  slT : List (Nat × Nat)
  stT : List (Nat × Unit)
  foT : List ((Nat × Nat) × Nat)
  zrT : List (Nat × Value)
  fnT : List (Nat × Unit)
  ld_ok : ldT.all (fun p => ldI P p.1 == some p.2) = true
  sl_ok : slT.all (fun p => slI P p.1 == some p.2) = true
  st_ok : stT.all (fun p => stI P p.1 == some p.2) = true
  fo_ok : foT.all (fun p => foI P p.1 == some p.2) = true
  zr_ok : zrT.map (fun p => zrI P p.1) = zrT.map (fun p => some p.2)
  fn_ok : fnT.all (fun p => match P.funcs[p.1]? with | some fn => fn.body.isSome && fn.name != "runtime.NumGoroutine" | none => false) = true
theorem lookT_mem {β : Type} {t : Nat} {r : β} : ∀ {l : List (Nat × β)}, lookT t l = some r → (t, r) ∈ l
  | [], h => by cases h
  | (s, r') :: l, h => by
    unfold lookT at h
    cases hb : Nat.beq t s with
    | true => rw [hb] at h; obtain rfl := Nat.eq_of_beq_eq_true hb; simp at h; subst h; exact List.mem_cons_self ..
    | false => rw [hb] at h; exact List.mem_cons_of_mem _ (lookT_mem h)
theorem lookT2_mem {β : Type} {t i : Nat} {r : β} : ∀ {l : List ((Nat × Nat) × β)}, lookT2 t i l = some r → ((t, i), r) ∈ l
  | [], h => by cases h
  | ((s, j), r') :: l, h => by
    unfold lookT2 at h
    cases hb : Nat.beq t s && Nat.beq i j with
    | true =>
      rw [hb] at h
      rw [Bool.and_eq_true] at hb
      obtain rfl := Nat.eq_of_beq_eq_true hb.1
      obtain rfl := Nat.eq_of_beq_eq_true hb.2
      simp at h; subst h; exact List.mem_cons_self ..
    | false => rw [hb] at h; exact List.mem_cons_of_mem _ (lookT2_mem h)
section tabs
variable {P : Program} (L : Tabs P)
def Tabs.ld (t : Nat) : Option (Bool × Nat) := lookT t L.ldT
def Tabs.sl (t : Nat) : Option Nat := lookT t L.slT
def Tabs.st (t : Nat) : Option Unit := lookT t L.stT
def Tabs.fo (t i : Nat) : Option Nat := lookT2 t i L.foT
def Tabs.zr (t : Nat) : Option Value := lookT t L.zrT
def Tabs.fn (t : Nat) : Option Unit := lookT t L.fnT
variable {L}
theorem Tabs.ld_spec {t : Nat} {r : Bool × Nat} (h : L.ld t = some r) : ldI P t = some r := by
  simpa using List.all_eq_true.1 L.ld_ok _ (lookT_mem h)
theorem Tabs.sl_spec {t e : Nat} (h : L.sl t = some e) : P.underlying t = some (.slice e) := by
  have := List.all_eq_true.1 L.sl_ok _ (lookT_mem h)
  simp only [beq_iff_eq, slI] at this
  split at this
  · rename_i e' he; rw [he]; cases this; rfl
  · cases this
theorem Tabs.st_spec {t : Nat} {x : Unit} (h : L.st t = some x) : P.underlying t = some .string := by
  have := List.all_eq_true.1 L.st_ok _ (lookT_mem h)
  simp only [beq_iff_eq, stI] at this
  split at this
  · assumption
  · cases this
theorem Tabs.fo_spec {t i off : Nat} (h : L.fo t i = some off) : ∃ fs f j, P.underlying t = some (.struct fs) ∧ fs[i]? = some f ∧ P.info? f.type = some j ∧ j.size ≠ 0 ∧ f.offset = off := by
  have := List.all_eq_true.1 L.fo_ok _ (lookT2_mem h)
  simp only [beq_iff_eq, foI] at this
  split at this
  · rename_i fs hfs
    split at this
    · rename_i f hf
      split at this
      · rename_i j hj
        split at this
        · cases this
        · rename_i hz; exact ⟨fs, f, j, hfs, hf, hj, hz, by simpa using this⟩
      · cases this
    · cases this
  · cases this
theorem Tabs.zr_spec {t : Nat} {z : Value} (h : L.zr t = some z) : zrI P t = some z := List.map_inj_left.1 L.zr_ok _ (lookT_mem h)
theorem Tabs.fn_spec {t : Nat} {x : Unit} (h : L.fn t = some x) : ∃ fn, P.funcs[t]? = some fn ∧ fn.body.isSome = true ∧ (fn.name == "runtime.NumGoroutine") = false := by
  have := List.all_eq_true.1 L.fn_ok _ (lookT_mem h)
  simp only at this
  split at this
  · rename_i fn hf; simp only [Bool.and_eq_true] at this; exact ⟨fn, hf, this.1, by simpa using this.2⟩
  · cases this
end tabs

/-! ### reading slots -/
def evK (κ : Kap) : Operand → Option Value
  | .const v => some v
  | .func f => some (.func (.func f) #[] #[])
  | .global g => some (.pointer (some ⟨g, 0, none⟩))
  | .tmp t => match κ t with
    | some (.is v) => some v
    | _ => none
def evKs (κ : Kap) : List Operand → Option (List Value)
  | [] => some []
  | x :: xs => match evK κ x, evKs κ xs with
    | some v, some vs => some (v :: vs)
    | _, _ => none
def gK (ops : Array Oper) (κ : Kap) (o : Oper) : Option Bool :=
  match o.guard with
  | none => some true
  | some (j, want) => match (ops[j]?).bind (·.dst) with
    | none => none
    | some t => match κ t with
      | some (.is (.bool b)) => some (b == want)
      | some (.is (.tuple _)) => some false
      | _ => none


section
variable {P : Program} {F : Fr} {B : Heap} {O : Boxes} {n : Nat} {ops : Array Oper} {κ κ' : Kap} {o : Oper} {a : Act} {u : World} {H : Heap} {fp : Nat → Nat → Prop}

structure Env (F : Fr) (B : Heap) (O : Boxes) (κ : Kap) (o : Oper) (a : Act) (u : World) (H : Heap) (fp : Nat → Nat → Prop) : Prop where
  is_ : ∀ x v, x ∈ o.op.operands → evK κ x = some v → a.eval x = v
  sat_ : ∀ t φ, .tmp t ∈ o.op.operands → κ t = some (.sat φ) → φ (a.eval (.tmp t)) H
  own_ : ∀ t r, .tmp t ∈ o.op.operands → κ t = some (.own r) → r.P (a.eval (.tmp t)) H u (fp t) ∧ Mine F O u H (fp t)
  sub : H.Le (hp u)
  base : B.Le H
  boxes : ∀ y ∈ O, u.heap[y.1]? = some y.2 ∧ H y.1 = none ∧ (F.w0.heap.size ≤ y.1 ∨ F.L y.1)
  keep : Keep F.L F.w0 u

theorem looks_of {t : Nat} (h : Operand.tmp t ∈ o.op.operands) : t ∈ o.looksAt ops :=
  List.mem_append_left _ (List.mem_filterMap.2 ⟨.tmp t, by simpa using h, rfl⟩)

theorem HasH.env (h : HasH F B O n κ' a u H fp) (hl : ∀ t ∈ o.looksAt ops, κ' t = κ t) : Env F B O κ o a u H fp := {
  is_ := fun x v hx hv => by
    cases x with
    | tmp t =>
      simp only [evK] at hv
      split at hv
      · rename_i v' hk
        cases hv
        exact h.slot t _ ((hl t (looks_of hx)).trans hk)
      · cases hv
    | const c => simp only [evK] at hv; cases hv; rfl
    | global g => simp only [evK] at hv; cases hv; rfl
    | func f => simp only [evK] at hv; cases hv; rfl
  sat_ := fun t φ hx hk => h.slot t _ ((hl t (looks_of hx)).trans hk)
  own_ := fun t r hx hk => h.slot t _ ((hl t (looks_of hx)).trans hk)
  sub := h.sub
  base := h.base
  boxes := h.boxes
  keep := h.keep }

theorem tmps_of_eval {t : Nat} {v : Value} (h : a.eval (.tmp t) = v) (hv : v ≠ undef) : a.tmps[t]? = some v := by
  simp only [Act.eval, Array.getD_eq_getD_getElem?] at h
  cases hx : a.tmps[t]? with
  | none => rw [hx] at h; exact absurd h.symm hv
  | some y => rw [hx] at h; exact congrArg some h

theorem wanted_gK {b : Bool} (h : HasH F B O n κ' a u H fp) (hl : ∀ t ∈ o.looksAt ops, κ' t = κ t) (hg : gK ops κ o = some b) :
    Region.wanted o (yielded ops a.tmps) = b := by
  unfold gK at hg
  unfold Region.wanted
  cases hgd : o.guard with
  | none => rw [hgd] at hg; simpa using hg
  | some gw =>
    obtain ⟨j, want⟩ := gw
    rw [hgd] at hg
    simp only at hg ⊢
    cases ht : (ops[j]?).bind (·.dst) with
    | none => rw [ht] at hg; cases hg
    | some t =>
      rw [ht] at hg
      simp only at hg
      have hlt : t ∈ o.looksAt ops := List.mem_append_right _ (by rw [hgd]; simp [ht])
      split at hg
      · rename_i b' hk
        have hy := tmps_of_eval (h.slot t _ ((hl t hlt).trans hk)) (by simp [undef])
        have : yielded ops a.tmps j = some b' := by simp [yielded, ht, hy]
        rw [this]
        cases hg
        cases b' <;> cases want <;> rfl
      · rename_i vs hk
        have hy : a.eval (.tmp t) = .tuple vs := h.slot t _ ((hl t hlt).trans hk)
        have : yielded ops a.tmps j = none := by
          simp only [yielded, ht, Option.bind_some]
          simp only [Act.eval, Array.getD_eq_getD_getElem?] at hy
          cases hx : a.tmps[t]? with
          | none => simp
          | some y => rw [hx] at hy; simp at hy; subst hy; simp
        rw [this]
        cases hg
        rfl
      · cases hg

def Kn.plain : Kn → Value → Heap → Prop
  | .is v, x, _ => x = v
  | .sat φ, x, H => φ x H
  | .own _, _, _ => False

theorem Heap.Le.size {H : Heap} {u : World} {b : Nat} {x : Obj} (h : H.Le (hp u)) (hb : H b = some x) : b < u.heap.size := by
  have := h b x hb
  unfold hp at this
  rcases Nat.lt_or_ge b u.heap.size with h | h
  · exact h
  · rw [Array.getElem?_eq_none h] at this; cases this
theorem size_of_heap {u : World} {b : Nat} {x : Obj} (h : u.heap[b]? = some x) : b < u.heap.size := by
  rcases Nat.lt_or_ge b u.heap.size with h' | h'
  · exact h'
  · rw [Array.getElem?_eq_none h'] at h; cases h
theorem none_of_ge (h : H.Le (hp u)) {k : Nat} (hk : u.heap.size ≤ k) : H k = none := by
  cases hx : H k with
  | none => rfl
  | some x => have := h.size hx; omega

/-- The world goes on; what is lent is no slot's, and no box. -/
theorem HasH.growL {L : Nat → Prop} {u' : World} {H' : Heap} (h : HasH F B O n κ a u H fp) (g : Grow L u H u' H') (hL : ∀ k, L k → k < u.heap.size → (F.w0.heap.size ≤ k ∨ F.L k) ∧ ∀ y ∈ O, y.1 ≠ k)
    (hS : ∀ t r, κ t = some (.own r) → ∀ k, fp t k → ¬ L k) : HasH F B O n κ a u' H' fp := {
  size := h.size
  defers := h.defers
  nodup := h.nodup
  marks := h.marks
  lent := h.lent
  keep := h.keep.trans g.keep fun k hk hl => by
    have hks := Nat.lt_of_lt_of_le hk h.keep.size
    rcases (hL k hl hks).1 with h | h
    · omega
    · exact h
  sub := g.sub
  base := h.base.trans g.le
  fresh := fun k hk hl => by
    have hks := Nat.lt_of_lt_of_le hk h.keep.size
    refine (g.fresh k hks fun hl' => ?_).trans (h.fresh k hk hl)
    rcases (hL k hl' hks).1 with h | h
    · omega
    · exact hl h
  boxes := fun y hy => by
    obtain ⟨h1, h2, h3⟩ := h.boxes y hy
    have hs := size_of_heap h1
    have hn : ¬ L y.1 := fun hl => (hL y.1 hl hs).2 y hy rfl
    exact ⟨(g.keep.block _ hs hn).trans h1, (g.fresh _ hs hn).trans h2, h3⟩
  apart := h.apart
  slot := fun t k hk => by
    have hh := h.slot t k hk
    cases k with
    | is x => exact hh
    | sat φ => exact h.mono t _ hk _ H H' hh g.le
    | own r =>
      obtain ⟨h1, h2⟩ := hh
      have hn := hS t r hk
      refine ⟨r.st h1 g.le g.sub g.keep.on fun k hk => g.keep.block _ (h2 k hk).1 (hn k hk), fun k hk => ?_⟩
      obtain ⟨g1, g2, g3, g4⟩ := h2 k hk
      exact ⟨Nat.lt_of_lt_of_le g1 g.keep.size, (g.fresh _ g1 (hn k hk)).trans g2, g3, g4⟩
  owns := h.owns
  mono := h.mono }
theorem HasH.grow {u' : World} {H' : Heap} (h : HasH F B O n κ a u H fp) (g : Grow noL u H u' H') : HasH F B O n κ a u' H' fp :=
  h.growL g (fun _ hl => hl.elim) (fun _ _ _ _ _ hl => hl)

/-- Fewer slots are known. -/
theorem HasH.sub_kap {κ2 : Kap} (h : HasH F B O n κ a u H fp) (hs : ∀ t k, κ2 t = some k → κ t = some k) : HasH F B O n κ2 a u H fp :=
  ⟨h.size, h.defers, h.nodup, h.marks, h.lent, h.keep, h.sub, h.base, h.fresh, h.boxes, h.apart, fun t k hk => h.slot t k (hs t k hk), fun s t r r' hst h1 h2 => h.owns s t r r' hst (hs _ _ h1) (hs _ _ h2), fun t k hk => h.mono t k (hs t k hk)⟩

theorem eval_put_same {d : Nat} {v : Value} (hd : d < a.tmps.size) : (a.put (some d) v).eval (.tmp d) = v := by
  simp [Act.eval, Act.put, hd]
theorem eval_put_other {d t : Nat} {v : Value} (h : t ≠ d) : (a.put (some d) v).eval (.tmp t) = a.eval (.tmp t) := by
  simp only [Act.eval, Act.put, Array.getD_eq_getD_getElem?]
  rw [Array.getElem?_setIfInBounds_ne (Ne.symm h)]

theorem HasH.put {d : Nat} {k : Kn} {v : Value} (h : HasH F B O n κ a u H fp) (hd : d < n) (hm : k.mono) (hk : k.plain v H) :
    HasH F B O n (upd κ d k) (a.put (some d) v) u H fp := {
  size := by simp [Act.put, h.size]
  defers := h.defers
  nodup := h.nodup
  marks := h.marks
  lent := h.lent
  keep := h.keep
  sub := h.sub
  base := h.base
  fresh := h.fresh
  boxes := h.boxes
  apart := h.apart
  slot := fun t k' hk' => by
    by_cases ht : t = d
    · subst ht
      rw [upd_same] at hk'
      cases hk'
      rw [eval_put_same (by rw [h.size]; exact hd)]
      cases k with
      | is x => exact hk
      | sat φ => exact hk
      | own r => exact hk.elim
    · rw [upd_other _ _ ht] at hk'
      rw [eval_put_other ht]
      exact h.slot t k' hk'
  owns := fun s t r r' hst hs ht => by
    have key : ∀ x r, upd κ d k x = some (.own r) → κ x = some (.own r) := fun x r hx => by
      by_cases hxd : x = d
      · subst hxd; rw [upd_same] at hx; cases hx; exact hk.elim
      · rw [upd_other _ _ hxd] at hx; exact hx
    exact h.owns s t r r' hst (key _ _ hs) (key _ _ ht)
  mono := fun t φ hk' => by
    by_cases ht : t = d
    · subst ht; rw [upd_same] at hk'; cases hk'; exact hm
    · rw [upd_other _ _ ht] at hk'; exact h.mono t φ hk' }

/-- A slot is filled with what is owned (a number beyond the slots: nothing is filled). -/
def fpu (fp : Nat → Nat → Prop) (d : Nat) (C : Nat → Prop) : Nat → Nat → Prop := fun s => if s = d then C else fp s
theorem fpu_same (fp : Nat → Nat → Prop) (d : Nat) (C : Nat → Prop) : fpu fp d C d = C := if_pos rfl
theorem fpu_other (fp : Nat → Nat → Prop) {s d : Nat} (C : Nat → Prop) (h : s ≠ d) : fpu fp d C s = fp s := if_neg h
theorem HasH.putR {d : Nat} {r : Res} {C : Nat → Prop} {a' : Act} (h : HasH F B O n κ a u H fp) (hsz : a'.tmps.size = a.tmps.size) (hdf : a'.defers = a.defers) (hev : ∀ t, t ≠ d → a'.eval (.tmp t) = a.eval (.tmp t))
    (hr : r.P (a'.eval (.tmp d)) H u C) (hM : Mine F O u H C) (hap : ∀ t r', t ≠ d → κ t = some (.own r') → ∀ k, fp t k → ¬ C k) : HasH F B O n (upd κ d (.own r)) a' u H (fpu fp d C) := {
  size := hsz.trans h.size
  defers := hdf.trans h.defers
  nodup := h.nodup
  marks := h.marks
  lent := h.lent
  keep := h.keep
  sub := h.sub
  base := h.base
  fresh := h.fresh
  boxes := h.boxes
  apart := h.apart
  slot := fun t k' hk' => by
    by_cases ht : t = d
    · subst ht
      rw [upd_same] at hk'
      cases hk'
      rw [fpu_same]
      exact ⟨hr, hM⟩
    · rw [upd_other _ _ ht] at hk'
      rw [hev t ht, fpu_other _ _ ht]
      exact h.slot t k' hk'
  owns := fun s t r1 r2 hst hs ht => by
    by_cases hsd : s = d
    · subst hsd
      rw [fpu_same, fpu_other _ _ (Ne.symm hst)]
      rw [upd_other _ _ (Ne.symm hst)] at ht
      exact fun k hc hf => hap t r2 (Ne.symm hst) ht k hf hc
    · rw [upd_other _ _ hsd] at hs
      rw [fpu_other _ _ hsd]
      by_cases htd : t = d
      · subst htd; rw [fpu_same]; exact hap s r1 hsd hs
      · rw [upd_other _ _ htd] at ht
        rw [fpu_other _ _ htd]
        exact h.owns s t r1 r2 hst hs ht
  mono := fun t φ hk' => by
    by_cases ht : t = d
    · subst ht; rw [upd_same] at hk'; cases hk'; trivial
    · rw [upd_other _ _ ht] at hk'; exact h.mono t φ hk' }

/-- An operation that yields a value and lets the world go on. -/
theorem ok_run {d : Nat} {k : Kn} (hd : o.dst = some d) (hn : d < n) (hg : gK ops κ o = some true) (hm : k.mono)
    (h : ∀ a u H fp, Env F B O κ o a u H fp → ∃ v u' H', (execOp a.eval o).run P u = .ok (.value v) u' ∧ Grow noL u H u' H' ∧ k.plain v H') :
    StepOK P F B n ops O κ o d k := by
  rintro κ' a u hl ⟨H, fp, hh⟩
  unfold After
  rw [if_pos (wanted_gK hh hl hg)]
  obtain ⟨v, u', H', hr, g, hk⟩ := h a u H fp (hh.env hl)
  rw [hr]
  simp only [Upon]
  rw [hd]
  exact ⟨H', fp, (hh.grow g).put hn hm hk⟩

theorem ok_pure {d : Nat} {k : Kn} (hd : o.dst = some d) (hn : d < n) (hg : gK ops κ o = some true) (hm : k.mono)
    (h : ∀ a u H fp, Env F B O κ o a u H fp → ∃ v, (execOp a.eval o).run P u = .ok (.value v) u ∧ k.plain v H) :
    StepOK P F B n ops O κ o d k :=
  ok_run hd hn hg hm fun a u H fp e => let ⟨v, hr, hk⟩ := h a u H fp e; ⟨v, u, H, hr, Grow.refl e.sub, hk⟩

/-- An operation that is not wanted. -/
theorem ok_skip {d : Nat} (hd : o.dst = some d) (hn : d < n) (hg : gK ops κ o = some false) : StepOK P F B n ops O κ o d (.is undef) := by
  rintro κ' a u hl ⟨H, fp, hh⟩
  unfold After
  have := wanted_gK hh hl hg
  rw [if_neg (by rw [this]; decide), hd]
  exact ⟨H, fp, hh.put hn trivial rfl⟩

/-- What a function hands back, some blocks having been lent to it. -/
def PostL (w : World) (B : Heap) (L : Nat → Prop) (φ : Value → Heap → World → Prop) (e : Ending) (u : World) : Prop :=
  ∃ v, e = .returned v ∧ ∃ H, Grow L w B u H ∧ φ v H u
def RetL (P : Program) (f : FuncId) (args : List Value) (w : World) (B : Heap) (L : Nat → Prop) (φ : Value → Heap → World → Prop) : Prop :=
  Calls P f args.toArray w (PostL w B L φ)
abbrev Post (w : World) (B : Heap) (φ : Value → Heap → Prop) : Ending → World → Prop := PostL w B noL fun v H _ => φ v H
def Ret (P : Program) (f : FuncId) (args : List Value) (w : World) (B : Heap) (φ : Value → Heap → Prop) : Prop :=
  Calls P f args.toArray w (Post w B φ)
theorem RetL.mono {f : FuncId} {args : List Value} {w : World} {L : Nat → Prop} {φ ψ : Value → Heap → World → Prop} (h : RetL P f args w B L φ) (hi : ∀ v H u, Grow L w B u H → φ v H u → ψ v H u) : RetL P f args w B L ψ :=
  Calls.mono h fun _ _ ⟨v, he, H, g, hp⟩ => ⟨v, he, H, g, hi v H _ g hp⟩
theorem Ret.mono {f : FuncId} {args : List Value} {w : World} {φ ψ : Value → Heap → Prop} (h : Ret P f args w B φ) (hi : ∀ v H, B.Le H → φ v H → ψ v H) : Ret P f args w B ψ :=
  Calls.mono h fun _ _ ⟨v, he, H, g, hp⟩ => ⟨v, he, H, g, hi v H g.le hp⟩

/-- The arguments of a call, one by one: a known value stands as it is, of another one what is known. -/
def Args (κ : Kap) (H : Heap) : List Operand → List Value → (List Value → Prop) → Prop
  | [], acc, K => K acc.reverse
  | x :: xs, acc, K => match x with
    | .tmp t => match κ t with
      | some (.is v) => Args κ H xs (v :: acc) K
      | some (.sat φ) => ∀ v, φ v H → Args κ H xs (v :: acc) K
      | _ => False
    | .const v => Args κ H xs (v :: acc) K
    | .global g => Args κ H xs (.pointer (some ⟨g, 0, none⟩) :: acc) K
    | .func f => Args κ H xs (.func (.func f) #[] #[] :: acc) K

theorem Args.use (e : Env F B O κ o a u H fp) {K : List Value → Prop} : ∀ (xs : List Operand) (acc : List Value), (∀ x ∈ xs, x ∈ o.op.operands) → Args κ H xs acc K → K (acc.reverse ++ xs.map a.eval)
  | [], acc, _, h => by simpa [Args] using h
  | x :: xs, acc, hx, h => by
    have step : ∀ v, a.eval x = v → Args κ H xs (v :: acc) K → K (acc.reverse ++ (x :: xs).map a.eval) := fun v hv hr => by
      have := Args.use e xs (v :: acc) (fun y hy => hx y (List.mem_cons_of_mem _ hy)) hr
      simpa [hv] using this
    have hxo := hx x (List.mem_cons_self ..)
    cases x with
    | tmp t =>
      simp only [Args] at h
      split at h
      · rename_i v hk; exact step v (e.is_ (.tmp t) v hxo (by simp [evK, hk])) h
      · rename_i φ hk; exact step _ rfl (h _ (e.sat_ t φ hxo hk))
      · exact h.elim
    | const v => exact step v rfl h
    | global g => exact step _ rfl h
    | func f => exact step _ rfl h

theorem run_callFunc (L : Tabs P) {f : Nat} {xs : Array Value} {w : World} (h : L.fn f = some ()) : (callFunc f xs).run P w = .ok (.enter f xs) w := by
  obtain ⟨fn, hf, hb, hn⟩ := Tabs.fn_spec h
  have hb' : fn.body ≠ none := by intro hx; simp [hx] at hb
  have hn' : fn.name ≠ "runtime.NumGoroutine" := by simpa using hn
  simp [callFunc, hf, hn', hb']


theorem run_call {f : Nat} (L : Tabs P) {args : Array Operand} {at_ : Array TypeId} {cap : List Value} {fo : Operand} (hop : o.op = .call { callee := .value fo, args := args, argTypes := at_ }) (hfe : a.eval fo = .func (.func f) #[] cap.toArray) (hfn : L.fn f = some ()) :
    (execOp a.eval o).run P u = .ok (.enter f ((args.toList.map a.eval ++ cap).toArray)) u := by
  simp only [execOp, hop, resolve, hfe, Deferred.ofValue, Sem.run_bind, Sem.run_pure, Result.andThen_ok, invoke]
  rw [run_callFunc L hfn]
  simp
theorem ok_call (L : Tabs P) {d f : Nat} {args : Array Operand} {at_ : Array TypeId} {cap : List Value} {φ : Value → Heap → Prop} {fo : Operand}
    (hop : o.op = .call { callee := .value fo, args := args, argTypes := at_ }) (hd : o.dst = some d) (hn : d < n) (hg : gK ops κ o = some true)
    (hf : evK κ fo = some (.func (.func f) #[] cap.toArray)) (hfn : L.fn f = some ()) (hm : Kn.mono (.sat φ))
    (h : ∀ u H, H.Le (hp u) → B.Le H → Below F.w0.heap.size F.w0 F.w0 → Args κ H args.toList [] (fun vs => Ret P f (vs ++ cap) u H φ)) :
    StepOK P F B n ops O κ o d (.sat φ) := by
  rintro κ' a u hl ⟨H, fp, hh⟩
  unfold After
  rw [if_pos (wanted_gK hh hl hg)]
  have e := hh.env hl
  have hfe : a.eval fo = .func (.func f) #[] cap.toArray := e.is_ fo _ (by simp [hop, Op.operands, Call.operands]) hf
  have hc := Args.use e args.toList [] (fun x hx => by simp [hop, Op.operands, Call.operands] at hx ⊢; exact .inr hx) (h u H e.sub e.base (Below.refl _ _))
  simp only [List.reverse_nil, List.nil_append] at hc
  rw [run_call L hop hfe hfn]
  simp only [Upon]
  refine Calls.mono hc fun e' u' hp => ?_
  obtain ⟨v, rfl, H', g, hv⟩ := hp
  refine ⟨v, rfl, ?_⟩
  simp only [hd]
  exact ⟨H', fp, (hh.grow g).put hn hm hv⟩

/-- As 'ok_call', the value being known. -/
theorem ok_callx (L : Tabs P) {d f : Nat} {args : Array Operand} {at_ : Array TypeId} {cap : List Value} {r : Value} {fo : Operand}
    (hop : o.op = .call { callee := .value fo, args := args, argTypes := at_ }) (hd : o.dst = some d) (hn : d < n) (hg : gK ops κ o = some true)
    (hf : evK κ fo = some (.func (.func f) #[] cap.toArray)) (hfn : L.fn f = some ())
    (h : ∀ u H, H.Le (hp u) → B.Le H → Below F.w0.heap.size F.w0 F.w0 → Args κ H args.toList [] (fun vs => Ret P f (vs ++ cap) u H (fun v _ => v = r))) :
    StepOK P F B n ops O κ o d (.is r) := by
  rintro κ' a u hl ⟨H, fp, hh⟩
  unfold After
  rw [if_pos (wanted_gK hh hl hg)]
  have e := hh.env hl
  have hfe : a.eval fo = .func (.func f) #[] cap.toArray := e.is_ fo _ (by simp [hop, Op.operands, Call.operands]) hf
  have hc := Args.use e args.toList [] (fun x hx => by simp [hop, Op.operands, Call.operands] at hx ⊢; exact .inr hx) (h u H e.sub e.base (Below.refl _ _))
  simp only [List.reverse_nil, List.nil_append] at hc
  rw [run_call L hop hfe hfn]
  simp only [Upon]
  refine Calls.mono hc fun e' u' hp => ?_
  obtain ⟨v, rfl, H', g, hv⟩ := hp
  refine ⟨v, rfl, ?_⟩
  simp only [hd]
  exact ⟨H', fp, (hh.grow g).put (k := .is r) hn trivial hv⟩
end
end Go.V
