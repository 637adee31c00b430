/- The kit's own floor: symbolic frames over the given model: regions in whatever order, straight code, loops, calls by contract. -/
import Derived.WalkKit
import Derived.Orders
import Derived.KernelRfl
namespace Go.V
open Go.RowKit

abbrev Heap := Nat → Option Obj
def hp (w : World) : Heap := fun k => w.heap[k]?
def Heap.Le (H H' : Heap) : Prop := ∀ k o, H k = some o → H' k = some o
theorem Heap.Le.refl (H : Heap) : H.Le H := fun _ _ h => h
theorem Heap.Le.trans {A B C : Heap} (h : A.Le B) (k : B.Le C) : A.Le C := fun i o e => k i o (h i o e)

/-- What is known of a slot. -/
inductive Kn where
  | is (v : Value)
  | sat (φ : Value → Heap → Prop)
  | own (cs : List Value) (ty : TypeId)

abbrev Kap := Nat → Option Kn
def upd (κ : Kap) (t : Nat) (k : Kn) : Kap := fun s => bif Nat.beq s t then some k else κ s
theorem upd_same (κ : Kap) (t : Nat) (k : Kn) : upd κ t k t = some k := by simp [upd, cond]
theorem upd_other (κ : Kap) {s t : Nat} (k : Kn) (h : s ≠ t) : upd κ t k s = κ s := by
  have : Nat.beq s t = false := by
    cases hb : Nat.beq s t with
    | true => exact absurd (Nat.eq_of_beq_eq_true hb) h
    | false => rfl
  simp [upd, this]
theorem upd_comm (κ : Kap) {s t : Nat} (k k' : Kn) (h : s ≠ t) : upd (upd κ s k) t k' = upd (upd κ t k') s k := by
  funext x
  by_cases h1 : x = s
  · subst h1; rw [upd_other _ _ h, upd_same, upd_same]
  · by_cases h2 : x = t
    · subst h2; rw [upd_same, upd_other _ _ h1, upd_same]
    · rw [upd_other _ _ h2, upd_other _ _ h1, upd_other _ _ h1, upd_other _ _ h2]
def ofL : List (Nat × Kn) → Kap
  | [] => fun _ => none
  | (t, k) :: l => upd (ofL l) t k
def argsK : Nat → List Value → Kap
  | _, [] => fun _ => none
  | i, v :: vs => upd (argsK (i + 1) vs) i (.is v)

abbrev Boxes := List (Nat × List Value × TypeId)

def Kn.holds (w0 : World) (O : Boxes) (u : World) (H : Heap) : Kn → Value → Prop
  | .is v, x => x = v
  | .sat φ, x => φ x H
  | .own cs ty, x => ∃ b, x = .pointer (some ⟨b, 0, none⟩) ∧ u.heap[b]? = some (.cells cs.toArray ty) ∧ H b = none ∧ w0.heap.size ≤ b ∧ ∀ y ∈ O, y.1 ≠ b

structure HasH (w0 : World) (B : Heap) (O : Boxes) (n : Nat) (κ : Kap) (a : Act) (u : World) (H : Heap) : Prop where
  size : a.tmps.size = n
  defers : a.defers = []
  below : Below w0.heap.size w0 u
  sub : H.Le (hp u)
  base : B.Le H
  fresh : ∀ k, k < w0.heap.size → H k = B k
  boxes : ∀ y ∈ O, u.heap[y.1]? = some (.cells y.2.1.toArray y.2.2) ∧ H y.1 = none ∧ w0.heap.size ≤ y.1
  apart : O.Pairwise fun x y => x.1 ≠ y.1
  slot : ∀ t k, κ t = some k → ∃ v, a.tmps[t]? = some v ∧ k.holds w0 O u H v
  owns : ∀ s t cs ty cs' ty', s ≠ t → κ s = some (.own cs ty) → κ t = some (.own cs' ty') → a.tmps[s]? ≠ a.tmps[t]?
  mono : ∀ t φ, κ t = some (.sat φ) → ∀ v H H', φ v H → Heap.Le H H' → φ v H'
def Has (w0 : World) (B : Heap) (O : Boxes) (n : Nat) (κ : Kap) (a : Act) (u : World) : Prop := ∃ H, HasH w0 B O n κ a u H

/-- A slot that an operation fills; of a store the slot that it writes through. -/
def vd (o : Oper) : Option Nat :=
  match o.dst with
  | some d => some d
  | none => match o.op with
    | .store _ (.tmp s) _ => some s
    | _ => none

def After (P : Program) (ops : Array Oper) (o : Oper) (K : Act → World → Prop) (a : Act) (u : World) : Prop :=
  if Region.wanted o (yielded ops a.tmps) = true then o.wp P a u K (fun _ _ _ => False) else K (a.put o.dst undef) u

def StepOK (P : Program) (w0 : World) (B : Heap) (n : Nat) (ops : Array Oper) (O : Boxes) (κ : Kap) (o : Oper) (d : Nat) (k : Kn) : Prop :=
  ∀ κ' a u, (∀ t ∈ o.looksAt ops, κ' t = κ t) → Has w0 B O n κ' a u → After P ops o (fun a' u' => Has w0 B O n (upd κ' d k) a' u') a u

theorem StepOK.local {P : Program} {w0 : World} {B : Heap} {n : Nat} {ops : Array Oper} {O : Boxes} {κ κ2 : Kap} {o : Oper} {d : Nat} {k : Kn}
    (h : StepOK P w0 B n ops O κ o d k) (he : ∀ t ∈ o.looksAt ops, κ2 t = κ t) : StepOK P w0 B n ops O κ2 o d k :=
  fun κ' a u hl hh => h κ' a u (fun t ht => (hl t ht).trans (he t ht)) hh

section par
variable (P : Program) (w0 : World) (B : Heap) (n : Nat) (ops : Array Oper) (Fin : Boxes → Kap → Prop)

/-- A region's operations in the order of the text; 'dr': does it draw its order? -/
def Par (dr : Bool) : List Oper → Boxes → Kap → Prop
  | [], O, κ => Fin O κ
  | o :: os, O, κ => (∃ d k, vd o = some d ∧ StepOK P w0 B n ops O κ o d k ∧ Par dr os O (upd κ d k)) ∨
      (dr = false ∧ ∃ O' κ', (∀ a u, Has w0 B O n κ a u → After P ops o (fun a' u' => Has w0 B O' n κ' a' u') a u) ∧ Par dr os O' κ')

def ParI (O : Boxes) : List Nat → Kap → Prop
  | [], κ => Fin O κ
  | i :: is, κ => ∃ o d k, ops[i]? = some o ∧ vd o = some d ∧ StepOK P w0 B n ops O κ o d k ∧ ParI O is (upd κ d k)
end par

def apartV (ops : Array Oper) (x y : Oper) : Bool :=
  match vd x, vd y with
  | some d, some e => !(y.looksAt ops).contains d && !(x.looksAt ops).contains e && d != e
  | _, _ => false

/-- Two operations that touch each other's slots wait for one another; edges lead back. -/
def sepB (ops : Array Oper) : Bool :=
  let b := Region.before ops
  (List.range ops.size).all fun i =>
    ((ops.getD i default).after.all fun e => !Region.binds .any e || decide (e.on < i)) &&
    (List.range i).all fun j => (b.getD i 0).testBit j || apartV ops (ops.getD j default) (ops.getD i default)

section sound
variable {P : Program} {w0 : World} {B : Heap} {n : Nat} {ops : Array Oper} {Fin : Boxes → Kap → Prop} {O : Boxes}

theorem apartV_spec {x y : Oper} {d e : Nat} (hd : vd x = some d) (he : vd y = some e) (h : apartV ops x y = true) :
    d ∉ y.looksAt ops ∧ e ∉ x.looksAt ops ∧ d ≠ e := by
  simp [apartV, hd, he] at h
  exact ⟨h.1.1, h.1.2, h.2⟩

theorem ParI.swap {i j : Nat} {l : List Nat} {κ : Kap} (hap : ∀ x y, ops[j]? = some x → ops[i]? = some y → apartV ops x y = true)
    (h : ParI P w0 B n ops Fin O (j :: i :: l) κ) : ParI P w0 B n ops Fin O (i :: j :: l) κ := by
  obtain ⟨x, d, k, hx, hd, sx, y, e, k', hy, he, sy, rest⟩ := h
  obtain ⟨h1, h2, h3⟩ := apartV_spec hd he (hap x y hx hy)
  refine ⟨y, e, k', hy, he, sy.local fun t ht => (upd_other _ _ (fun hh => by subst hh; exact h1 ht)).symm, x, d, k, hx, hd,
    sx.local fun t ht => upd_other _ _ (fun hh => by subst hh; exact h2 ht), ?_⟩
  rw [upd_comm _ _ _ (Ne.symm h3)]
  exact rest

theorem ParI.front {i : Nat} : ∀ (l1 : List Nat) {l2 : List Nat} {κ : Kap}, (∀ j ∈ l1, ∀ x y, ops[j]? = some x → ops[i]? = some y → apartV ops x y = true) →
    ParI P w0 B n ops Fin O (l1 ++ i :: l2) κ → ParI P w0 B n ops Fin O (i :: (l1 ++ l2)) κ
  | [], _, _, _, h => h
  | j :: l1, l2, κ, hap, h => by
    have h' : ParI P w0 B n ops Fin O (j :: (l1 ++ i :: l2)) κ := h
    obtain ⟨x, d, k, hx, hd, sx, rest⟩ := h'
    have r := ParI.front l1 (fun m hm => hap m (List.mem_cons_of_mem _ hm)) rest
    exact ParI.swap (l := l1 ++ l2) (hap j (List.mem_cons_self ..)) ⟨x, d, k, hx, hd, sx, r⟩

theorem par_parI : ∀ (m i : Nat) {κ : Kap}, i + m = ops.size → Par P w0 B n ops Fin true (ops.toList.drop i) O κ → ParI P w0 B n ops Fin O (List.range' i m) κ
  | 0, i, κ, hm, h => by
    rw [List.drop_eq_nil_of_le (by simp; omega)] at h
    exact h
  | m + 1, i, κ, hm, h => by
    have hi : i < ops.toList.length := by simp; omega
    rw [List.drop_eq_getElem_cons hi] at h
    rcases h with ⟨d, k, hd, sx, rest⟩ | ⟨hf, _⟩
    · refine ⟨ops.toList[i], d, k, ?_, hd, sx, par_parI m (i + 1) (by omega) rest⟩
      have hi' : i < ops.size := by simpa using hi
      rw [Array.getElem?_eq_getElem hi']
      simp
    · cases hf

theorem before_go (f : Array Nat → Oper → Nat) : ∀ (l : List Oper) (acc : Array Nat),
    (l.foldl (fun acc o => acc.push (f acc o)) acc).size = acc.size + l.length ∧
    ∀ k, k < (l.foldl (fun acc o => acc.push (f acc o)) acc).size → acc.size ≤ k →
      ∃ (o : Oper) (pre : Array Nat), l[k - acc.size]? = some o ∧ pre.size = k ∧ (∀ j, j < k → (l.foldl (fun acc o => acc.push (f acc o)) acc)[j]? = pre[j]?) ∧
        (l.foldl (fun acc o => acc.push (f acc o)) acc)[k]? = some (f pre o)
  | [], acc => ⟨by simp, fun k hk hle => by simp at hk; omega⟩
  | o :: l, acc => by
    have ih := before_go f l (acc.push (f acc o))
    simp only [List.foldl_cons]
    refine ⟨by rw [ih.1]; simp; omega, fun k hk hle => ?_⟩
    have stay : ∀ (l : List Oper) (acc : Array Nat) (j : Nat), j < acc.size → (l.foldl (fun acc o => acc.push (f acc o)) acc)[j]? = acc[j]? := by
      intro l
      induction l with
      | nil => intro acc j _; rfl
      | cons o l ih =>
        intro acc j hj
        simp only [List.foldl_cons]
        rw [ih _ j (by simp; omega), Array.getElem?_push_lt hj, Array.getElem?_eq_getElem hj]
    by_cases he : k = acc.size
    · subst he
      refine ⟨o, acc, by simp, rfl, fun j hj => ?_, ?_⟩
      · rw [stay _ _ j (by simp; omega), Array.getElem?_push_lt hj, Array.getElem?_eq_getElem hj]
      · rw [stay _ _ _ (by simp)]; simp
    · obtain ⟨o', pre, h1, h2, h3, h4⟩ := ih.2 k hk (by simp; omega)
      refine ⟨o', pre, ?_, h2, h3, h4⟩
      rw [← h1]
      have : k - acc.size = (k - (acc.push (f acc o)).size) + 1 := by simp; omega
      rw [this, List.getElem?_cons_succ]

theorem testBit_fold {acc : Array Nat} {j : Nat} : ∀ (es : List Edge) (s : Nat),
    (es.foldl (fun s e => if Region.binds .any e then s ||| 2 ^ e.on ||| acc.getD e.on 0 else s) s).testBit j = true →
      s.testBit j = true ∨ ∃ e ∈ es, Region.binds .any e = true ∧ (e.on = j ∨ (acc.getD e.on 0).testBit j = true)
  | [], s, h => .inl h
  | e :: es, s, h => by
    simp only [List.foldl_cons] at h
    rcases testBit_fold es _ h with h | ⟨e', he', hb, hh⟩
    · split at h
      · rename_i hb
        simp only [Nat.testBit_or, Bool.or_eq_true] at h
        rcases h with (h | h) | h
        · exact .inl h
        · refine .inr ⟨e, List.mem_cons_self .., hb, .inl ?_⟩
          rw [Nat.testBit_two_pow] at h
          simpa using h
        · exact .inr ⟨e, List.mem_cons_self .., hb, .inr h⟩
      · exact .inl h
    · exact .inr ⟨e', List.mem_cons_of_mem _ he', hb, hh⟩

theorem before_spec {k j : Nat} (hk : k < ops.size) (h : ((Region.before ops).getD k 0).testBit j = true) :
    ∃ e ∈ (ops[k]'hk).after, Region.binds .any e = true ∧ (e.on = j ∨ (e.on < k ∧ ((Region.before ops).getD e.on 0).testBit j = true)) := by
  have hg := before_go (fun acc o => o.after.foldl (fun s e => if Region.binds .any e then s ||| 2 ^ e.on ||| acc.getD e.on 0 else s) 0) ops.toList #[]
  have hb : Region.before ops = ops.toList.foldl (fun acc o => acc.push (o.after.foldl (fun s e => if Region.binds .any e then s ||| 2 ^ e.on ||| acc.getD e.on 0 else s) 0)) #[] := by
    unfold Region.before; rw [← Array.foldl_toList]
  rw [hb] at h ⊢
  obtain ⟨o, pre, h1, h2, h3, h4⟩ := hg.2 k (by rw [hg.1]; simpa using hk) (by simp)
  have ho : ops[k] = o := by
    have : ops[k]? = some o := by simpa using h1
    rw [Array.getElem?_eq_getElem hk] at this
    exact Option.some.inj this
  rw [ho]
  generalize (ops.toList.foldl (fun acc o => acc.push (o.after.foldl (fun s e => if Region.binds .any e then s ||| 2 ^ e.on ||| acc.getD e.on 0 else s) 0)) #[]) = F at *
  rw [Array.getD_eq_getD_getElem?, h4, Option.getD_some, ← Array.foldl_toList] at h
  rcases testBit_fold _ _ h with h | ⟨e, he, hbd, hh⟩
  · simp at h
  · refine ⟨e, by simpa using he, hbd, ?_⟩
    rcases hh with hh | hh
    · exact .inl hh
    · by_cases hlt : e.on < k
      · exact .inr ⟨hlt, by rw [Array.getD_eq_getD_getElem?, h3 _ hlt, ← Array.getD_eq_getD_getElem?]; exact hh⟩
      · rw [Array.getD_eq_getD_getElem?, Array.getElem?_eq_none (by omega)] at hh
        simp at hh

def ClosedL (ops : Array Oper) (listed : Array Bool) : Prop :=
  ∀ k (hk : k < ops.size), listed.getD k true = true → ∀ e ∈ (ops[k]'hk).after, Region.binds .any e = true → listed.getD e.on false = true

theorem closed_before {listed : Array Bool} (hsz : listed.size = ops.size) (hc : ClosedL ops listed) : ∀ (k : Nat) (hk : k < ops.size),
    (∀ e ∈ (ops[k]'hk).after, Region.binds .any e = true → listed.getD e.on false = true) → ∀ j, ((Region.before ops).getD k 0).testBit j = true → listed.getD j false = true := by
  intro k
  induction k using Nat.strongRecOn with
  | _ k ih =>
    intro hk he j hj
    obtain ⟨e, hem, hb, hh⟩ := before_spec hk hj
    rcases hh with rfl | ⟨hlt, hh⟩
    · exact he e hem hb
    · have hl := he e hem hb
      have hlk : e.on < ops.size := by omega
      refine ih e.on hlt hlk (fun e' he' hb' => hc e.on hlk ?_ e' he' hb') j hh
      simp only [Array.getD_eq_getD_getElem?] at hl ⊢
      rw [Array.getElem?_eq_getElem (by omega)] at hl ⊢
      simpa using hl

theorem After.wpOp {i : Nat} {o : Oper} {K : Act → World → Prop} {Q : Exit → Act → World → Prop} {a : Act} {u : World} (ho : ops[i]? = some o)
    (h : After P ops o K a u) : Go.wpOp P ops Q i K a u := by
  unfold Go.wpOp
  unfold After at h
  simp only [ho]
  split
  · rename_i hw
    rw [if_pos hw] at h
    refine .inl ?_
    unfold Oper.wp at *
    generalize (execOp a.eval o).run P u = r at *
    cases r with
    | ok x w' =>
      cases x <;> simp only [Oper.upon] at h ⊢ <;> first
        | exact h
        | (refine Calls.mono h fun e w'' he => ?_
           cases e with
           | returned v => exact he
           | panicked c => exact he.elim
           | outgrown => obtain ⟨_, _, hf⟩ := he; exact hf.elim)
        | exact h.elim
    | halt x w' => cases x <;> simp only [Oper.upon] at h
  · rename_i hw
    rw [if_neg hw] at h
    exact h

theorem getD_set {l : Array Bool} {i j : Nat} {x : Bool} (d : Bool) (hi : i < l.size) : (l.setIfInBounds i x).getD j d = if i = j then x else l.getD j d := by
  simp only [Array.getD_eq_getD_getElem?]
  by_cases h : i = j
  · subst h; simp [hi]
  · simp [h]

theorem wpAny_of_par (hsep : sepB ops = true) : ∀ (fuel : Nat) (listed : Array Bool) (l : List Nat) (κ : Kap) (a : Act) (u : World),
    l.length = fuel → l.Pairwise (· < ·) → listed.size = ops.size → (∀ i, i ∈ l ↔ i < ops.size ∧ listed.getD i true = false) → ClosedL ops listed →
    ParI P w0 B n ops Fin O l κ → Has w0 B O n κ a u →
    wpAny P .any ops (fun e a' u' => e = .normal ∧ ∃ κ', Fin O κ' ∧ Has w0 B O n κ' a' u') fuel listed a u := by
  intro fuel
  induction fuel with
  | zero =>
    intro listed l κ a u hlen _ hsz hmem _ hp hh
    obtain rfl : l = [] := List.eq_nil_of_length_eq_zero hlen
    refine ⟨?_, rfl, κ, hp, hh⟩
    unfold Region.ready
    rw [List.filter_eq_nil_iff]
    intro i hi
    have := (hmem i).2
    have hi' : i < ops.size := by simpa using hi
    cases hl : listed.getD i true
    · exact absurd (this ⟨hi', hl⟩) (by simp)
    · simp
  | succ fuel ih =>
    intro listed l κ a u hlen hsort hsz hmem hcl hp hh
    have hsep' := hsep
    simp only [sepB, List.all_eq_true, Bool.and_eq_true] at hsep'
    have hedge : ∀ i (hi : i < ops.size), ∀ e ∈ (ops[i]'hi).after, Region.binds .any e = true → e.on < i := fun i hi e he hb => by
      have h1 := (hsep' i (by simpa using hi)).1
      rw [Array.getD_eq_getD_getElem?, Array.getElem?_eq_getElem hi, Option.getD_some, Array.all_eq_true'] at h1
      have := h1 e he
      simp [hb] at this
      exact this
    constructor
    · intro hr
      exfalso
      cases l with
      | nil => simp at hlen
      | cons i l =>
        obtain ⟨hi, hli⟩ := (hmem i).1 (List.mem_cons_self ..)
        have : i ∈ Region.ready .any ops listed := by
          refine mem_ready.2 ⟨hli, ops[i], by simp [hi], fun e he hb => ?_⟩
          have hlt := hedge i hi e he hb
          cases hle : listed.getD e.on true
          · have hin := (hmem e.on).2 ⟨by omega, hle⟩
            rcases List.mem_cons.1 hin with h | h
            · omega
            · have := List.rel_of_pairwise_cons hsort h
              omega
          · rw [Array.getD_eq_getD_getElem?, Array.getElem?_eq_getElem (by omega)] at hle ⊢
            simpa using hle
        rw [hr] at this
        cases this
    · intro i hi
      obtain ⟨hli, o, ho, hall⟩ := mem_ready.1 hi
      have hisz : i < ops.size := by
        rcases Nat.lt_or_ge i ops.size with h | h
        · exact h
        · rw [Array.getElem?_eq_none h] at ho; cases ho
      have hio : ops[i] = o := by rw [Array.getElem?_eq_getElem hisz] at ho; exact Option.some.inj ho
      have hil : i ∈ l := (hmem i).2 ⟨hisz, hli⟩
      obtain ⟨l1, l2, rfl⟩ := List.append_of_mem hil
      have hap : ∀ j ∈ l1, ∀ x y, ops[j]? = some x → ops[i]? = some y → apartV ops x y = true := by
        intro j hj x y hx hy
        have hji : j < i := (List.pairwise_append.1 hsort).2.2 j hj i (List.mem_cons_self ..)
        obtain ⟨hjs, hjl⟩ := (hmem j).1 (List.mem_append_left _ hj)
        have h2 := (hsep' i (by simpa using hisz)).2 j (by simpa using hji)
        rw [Bool.or_eq_true] at h2
        rcases h2 with h2 | h2
        · exfalso
          have := closed_before hsz hcl i hisz (fun e he hb => by rw [hio] at he; exact hall e he hb) j h2
          rw [Array.getD_eq_getD_getElem?, Array.getElem?_eq_getElem (by omega)] at this hjl
          simp at this hjl
          rw [this] at hjl; cases hjl
        · rw [Array.getD_eq_getD_getElem?, Array.getD_eq_getD_getElem?, hx, hy] at h2
          exact h2
      obtain ⟨o', d, k, ho', hd, sx, rest⟩ := ParI.front l1 hap hp
      obtain rfl : o = o' := by rw [ho] at ho'; exact Option.some.inj ho'
      have hst := sx κ a u (fun _ _ => rfl) hh
      refine After.wpOp ho ?_
      have hmono : ∀ (K K' : Act → World → Prop), (∀ a u, K a u → K' a u) → After P ops o K a u → After P ops o K' a u := fun K K' hk h => by
        unfold After at *
        split at h
        · rename_i hw; rw [if_pos hw]; exact Oper.wp_mono hk h
        · rename_i hw; rw [if_neg hw]; exact hk _ _ h
      refine hmono _ _ (fun a' u' hh' => ?_) hst
      have hli' : i < listed.size := by omega
      refine ih (listed.setIfInBounds i true) (l1 ++ l2) _ a' u' (by simp at hlen ⊢; omega) ?_ (by simpa using hsz) ?_ ?_ rest hh'
      · rw [List.pairwise_append] at hsort ⊢
        exact ⟨hsort.1, (List.pairwise_cons.1 hsort.2.1).2, fun x hx y hy => hsort.2.2 x hx y (List.mem_cons_of_mem _ hy)⟩
      · intro j
        rw [getD_set true hli']
        have hnd : i ∉ l1 ++ l2 := by
          rw [List.pairwise_append] at hsort
          intro hm
          rcases List.mem_append.1 hm with hm | hm
          · have := hsort.2.2 i hm i (List.mem_cons_self ..); omega
          · have := (List.pairwise_cons.1 hsort.2.1).1 i hm; omega
        by_cases hij : i = j
        · subst hij; simp [hnd]
        · rw [if_neg hij, ← hmem j]
          simp only [List.mem_append, List.mem_cons]
          constructor
          · rintro (h | h); exact .inl h; exact .inr (.inr h)
          · rintro (h | h | h); exact .inl h; exact absurd h.symm hij; exact .inr h
      · intro k hk hkl e he hb
        rw [getD_set _ hli'] at hkl ⊢
        by_cases hie : i = e.on
        · rw [if_pos hie]
        · rw [if_neg hie]
          by_cases hik : i = k
          · subst hik; rw [hio] at he; exact hall e he hb
          · rw [if_neg hik] at hkl; exact hcl k hk hkl e he hb

theorem wpList_of_par {os : List Oper} : ∀ {O : Boxes} {κ : Kap} {a : Act} {u : World}, Par P w0 B n ops Fin false os O κ → Has w0 B O n κ a u →
    wpList P ops (fun e a' u' => e = .normal ∧ ∃ O' κ', Fin O' κ' ∧ Has w0 B O' n κ' a' u') os a u := by
  induction os with
  | nil => intro O κ a u h hh; exact ⟨rfl, O, κ, h, hh⟩
  | cons o os ih =>
    intro O κ a u h hh
    have key : ∀ (K : Act → World → Prop), (∀ a' u', K a' u' → wpList P ops (fun e a' u' => e = .normal ∧ ∃ O' κ', Fin O' κ' ∧ Has w0 B O' n κ' a' u') os a' u') → After P ops o K a u →
        wpList P ops (fun e a' u' => e = .normal ∧ ∃ O' κ', Fin O' κ' ∧ Has w0 B O' n κ' a' u') (o :: os) a u := fun K hk h => by
      unfold After at h
      simp only [wpList]
      split at h
      · rename_i hw
        rw [if_pos hw]
        refine .inl ?_
        have h := Oper.wp_mono hk h
        unfold Oper.wp at *
        generalize (execOp a.eval o).run P u = r at *
        cases r with
        | ok x w' =>
          cases x <;> simp only [Oper.upon] at h ⊢ <;> first
            | exact h
            | (refine Calls.mono h fun e w'' he => ?_
               cases e with
               | returned v => exact he
               | panicked c => exact he.elim
               | outgrown => obtain ⟨_, _, hf⟩ := he; exact hf.elim)
            | exact h.elim
        | halt x w' => cases x <;> simp only [Oper.upon] at h
      · rename_i hw
        rw [if_neg hw]
        exact hk _ _ h
    rcases h with ⟨d, k, hd, sx, rest⟩ | ⟨_, O', κ', sx, rest⟩
    · exact key _ (fun a' u' hh' => ih rest hh') (sx κ a u (fun _ _ => rfl) hh)
    · exact key _ (fun a' u' hh' => ih rest hh') (sx a u hh)

theorem region_of_par {id : Nat} {dr : Bool} {Q : Exit → Act → World → Prop} {κ : Kap} {a : Act} {u : World}
    (hd : dr = false ∨ (dr = true ∧ P.follows .mixedOrders = true ∧ sepB ops = true)) (hp : Par P w0 B n ops Fin dr ops.toList O κ) (hh : Has w0 B O n κ a u)
    (hQ : ∀ O' κ' a' u', Fin O' κ' → Has w0 B O' n κ' a' u' → Q .normal a' u') : (Code.region id ops dr).wp P Q a u := by
  rcases hd with rfl | ⟨rfl, hm, hs⟩
  · refine Go.wp_mono (wp_region_list (wpList_of_par hp hh)) fun e a' u' he => ?_
    obtain ⟨rfl, O', κ', hf, hh'⟩ := he
    exact hQ O' κ' a' u' hf hh'
  · refine Go.wp_mono (wp_region_any hm (wpAny_of_par (Fin := Fin) (w0 := w0) (B := B) (n := n) (O := O) hs ops.size _ (List.range ops.size) κ a _ (by simp) List.pairwise_lt_range (by simp) ?_ ?_ ?_ ?_)) fun e a' u' he => ?_
    · intro i; simp
      intro hi; simp [hi]
    · intro k hk hkl; simp [hk] at hkl
    · have := par_parI (P := P) (w0 := w0) (B := B) (n := n) (ops := ops) (Fin := Fin) (O := O) ops.size 0 (by simp) (κ := κ) (by simpa using hp)
      simpa [List.range_eq_range'] using this
    · obtain ⟨H, h⟩ := hh
      exact ⟨H, h.size, h.defers, h.below.drew, h.sub, h.base, h.fresh, h.boxes, h.apart, h.slot, h.owns, h.mono⟩
    · obtain ⟨rfl, κ', hf, hh'⟩ := he
      exact hQ O κ' a' u' hf hh'
end sound
end Go.V
