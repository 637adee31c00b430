/- The kit's own floor: symbolic frames over the given model: regions in whatever order, straight code, rounds, calls by contract. -/
import Derived.WalkKit
import Derived.OrdersIn
import Derived.RangeFuncIn
import Derived.RangeFuncLeaves
import Derived.RangeFuncCalls
import Derived.KernelRfl
namespace Go.V
open Go.RowKit

abbrev Heap := Nat → Option Obj
def hp (w : World) : Heap := fun k => w.heap[k]?
def Heap.Le (H H' : Heap) : Prop := ∀ k o, H k = some o → H' k = some o
theorem Heap.Le.refl (H : Heap) : H.Le H := fun _ _ h => h
theorem Heap.Le.trans {A B C : Heap} (h : A.Le B) (k : B.Le C) : A.Le C := fun i o e => k i o (h i o e)

/-- A world goes on. -/
structure On (u u' : World) : Prop where
  os : u'.os = u.os
  tape : u'.tape = u.tape
  output : u'.output = u.output
  size : u.heap.size ≤ u'.heap.size
  dr : u.drawn ≤ u'.drawn
theorem On.refl (u : World) : On u u := ⟨rfl, rfl, rfl, Nat.le_refl _, Nat.le_refl _⟩
/-- What is owned: a value, and blocks that nobody else knows. -/
structure Res where
  P : Value → Heap → World → (Nat → Prop) → Prop
  st : ∀ {v H u C H' u'}, P v H u C → H.Le H' → H'.Le (hp u') → On u u' → (∀ k, C k → u'.heap[k]? = u.heap[k]?) → P v H' u' C
/-- What is known of a slot. -/
inductive Kn where
  | is (v : Value)
  | sat (φ : Value → Heap → Prop)
  | own (r : Res)

abbrev Kap := Nat → Option Kn
def upd (κ : Kap) (t : Nat) (k : Kn) : Kap := fun s => bif Nat.beq s t then some k else κ s
theorem upd_same (κ : Kap) (t : Nat) (k : Kn) : upd κ t k t = some k := by simp [upd, cond]
theorem upd_other (κ : Kap) {s t : Nat} (k : Kn) (h : s ≠ t) : upd κ t k s = κ s := by
  have : Nat.beq s t = false := by
    cases hb : Nat.beq s t with
    | true => exact absurd (Nat.eq_of_beq_eq_true hb) h
    | false => rfl
  simp [upd, this]
theorem upd_comm (κ : Kap) {s t : Nat} (k k' : Kn) (h : s ≠ t) : upd (upd κ s k) t k' = upd (upd κ t k') s k := by
  funext x
  by_cases h1 : x = s
  · subst h1; rw [upd_other _ _ h, upd_same, upd_same]
  · by_cases h2 : x = t
    · subst h2; rw [upd_same, upd_other _ _ h1, upd_same]
    · rw [upd_other _ _ h2, upd_other _ _ h1, upd_other _ _ h1, upd_other _ _ h2]
def ofL : List (Nat × Kn) → Kap
  | [] => fun _ => none
  | (t, k) :: l => upd (ofL l) t k
def argsK : Nat → List Value → Kap
  | _, [] => fun _ => none
  | i, v :: vs => upd (argsK (i + 1) vs) i (.is v)

/-- Blocks of the call's own that have a number, and what lies there. -/
abbrev Boxes := List (Nat × Obj)
abbrev bx (b : Nat) (cs : List Value) (ty : TypeId) : Nat × Obj := (b, .cells cs.toArray ty)

/-- Whose frame it is: the world at its start; the round that it is; the marks that it has laid; the blocks that it was lent. -/
structure Fr where
  w0 : World
  r : Option Nat
  ds : List Nat
  L : Nat → Prop
abbrev noL : Nat → Prop := fun _ => False
abbrev Fr.pure (w : World) : Fr := ⟨w, none, [], noL⟩
/-- All but some blocks stays. -/
structure Keep (C : Nat → Prop) (w u : World) : Prop where
  os : u.os = w.os
  tape : u.tape = w.tape
  output : u.output = w.output
  size : w.heap.size ≤ u.heap.size
  block : ∀ k, k < w.heap.size → ¬ C k → u.heap[k]? = w.heap[k]?
  dr : w.drawn ≤ u.drawn
theorem Keep.on {C : Nat → Prop} {w u : World} (h : Keep C w u) : On w u := ⟨h.os, h.tape, h.output, h.size, h.dr⟩
theorem Keep.refl (C : Nat → Prop) (w : World) : Keep C w w := ⟨rfl, rfl, rfl, Nat.le_refl _, fun _ _ _ => rfl, Nat.le_refl _⟩
theorem Keep.trans {C D : Nat → Prop} {a b c : World} (h : Keep C a b) (k : Keep D b c) (hD : ∀ i, i < a.heap.size → D i → C i) : Keep C a c :=
  ⟨k.os.trans h.os, k.tape.trans h.tape, k.output.trans h.output, Nat.le_trans h.size k.size, fun i hi hC => (k.block i (Nat.lt_of_lt_of_le hi h.size) fun hd => hC (hD i hi hd)).trans (h.block i hi hC), Nat.le_trans h.dr k.dr⟩
theorem Keep.below {w u : World} (h : Keep noL w u) : Below w.heap.size w u := ⟨h.os, h.tape, h.output, h.size, fun k hk => h.block k hk (fun e => e)⟩
theorem Keep.of_below {C : Nat → Prop} {w u : World} (h : Below w.heap.size w u) (hd : w.drawn ≤ u.drawn) : Keep C w u := ⟨h.os, h.tape, h.output, h.size, fun k hk _ => h.block k hk, hd⟩
theorem Keep.weak {C D : Nat → Prop} {w u : World} (h : Keep C w u) (hi : ∀ k, k < w.heap.size → C k → D k) : Keep D w u := ⟨h.os, h.tape, h.output, h.size, fun k hk hd => h.block k hk fun hc => hd (hi k hk hc), h.dr⟩

/-- The world goes on: what lay there lies as it did, but for what was lent; more may be seen. -/
structure Grow (L : Nat → Prop) (u : World) (H : Heap) (u' : World) (H' : Heap) : Prop where
  keep : Keep L u u'
  sub : H'.Le (hp u')
  le : H.Le H'
  fresh : ∀ k, k < u.heap.size → ¬ L k → H' k = H k
theorem Grow.refl {u : World} {H : Heap} (h : H.Le (hp u)) : Grow noL u H u H := ⟨Keep.refl _ _, h, Heap.Le.refl _, fun _ _ _ => rfl⟩
theorem Grow.below {u u' : World} {H H' : Heap} (h : Grow noL u H u' H') : Below u.heap.size u u' := h.keep.below

def mark (D : Nat) : Deferred := { target := .collected D, args := #[] }
/-- Blocks that are the frame's own, and that nobody sees. -/
def Mine (F : Fr) (O : Boxes) (u : World) (H : Heap) (C : Nat → Prop) : Prop := ∀ k, C k → k < u.heap.size ∧ H k = none ∧ (F.w0.heap.size ≤ k ∨ F.L k) ∧ ∀ y ∈ O, y.1 ≠ k
def Kn.holds (F : Fr) (O : Boxes) (u : World) (H : Heap) (C : Nat → Prop) : Kn → Value → Prop
  | .is v, x => x = v
  | .sat φ, x => φ x H
  | .own r, x => r.P x H u C ∧ Mine F O u H C
def Kn.mono : Kn → Prop
  | .sat φ => ∀ v H H', φ v H → Heap.Le H H' → φ v H'
  | _ => True

structure HasH (F : Fr) (B : Heap) (O : Boxes) (n : Nat) (κ : Kap) (a : Act) (u : World) (H : Heap) (fp : Nat → Nat → Prop) : Prop where
  size : a.tmps.size = n
  defers : a.defers = F.ds.map mark
  nodup : F.ds.Nodup
  marks : ∀ D ∈ F.ds, (D, Obj.deferred (some [])) ∈ O
  lent : ∀ k, F.L k → k < F.w0.heap.size
  keep : Keep F.L F.w0 u
  sub : H.Le (hp u)
  base : B.Le H
  fresh : ∀ k, k < F.w0.heap.size → ¬ F.L k → H k = B k
  boxes : ∀ y ∈ O, u.heap[y.1]? = some y.2 ∧ H y.1 = none ∧ (F.w0.heap.size ≤ y.1 ∨ F.L y.1)
  apart : O.Pairwise fun x y => x.1 ≠ y.1
  slot : ∀ t k, κ t = some k → k.holds F O u H (fp t) (a.eval (.tmp t))
  owns : ∀ s t r r', s ≠ t → κ s = some (.own r) → κ t = some (.own r') → ∀ k, fp s k → ¬ fp t k
  mono : ∀ t k, κ t = some k → k.mono
def Has (F : Fr) (B : Heap) (O : Boxes) (n : Nat) (κ : Kap) (a : Act) (u : World) : Prop := ∃ H fp, HasH F B O n κ a u H fp

/-- A slot that an operation fills; of a store the slot that it writes through. -/
def vd (o : Oper) : Option Nat :=
  match o.dst with
  | some d => some d
  | none => match o.op with
    | .store _ (.tmp s) _ => some s
    | _ => none

/-- What an operation's run must come to, whatever frame it runs in. -/
def Upon (P : Program) (o : Oper) (K : Act → World → Prop) (a : Act) : Result Next → Prop
  | .ok (.value v) w' => K (a.put o.dst v) w'
  | .ok .skip w' => K (a.put o.dst undef) w'
  | .ok (.enter f args) w' => Calls P f args w' fun e w'' => ∃ v, e = .returned v ∧ K (a.put o.dst v) w''
  | .ok (.round l f tmps assign body) w' => RoundIn Fence.wide 0 P l f tmps assign body w' fun e w'' => ∃ v, e = .returned v ∧ K (a.put o.dst v) w''
  | _ => False
theorem Upon.mono {P : Program} {o : Oper} {K K' : Act → World → Prop} {a : Act} (h : ∀ a u, K a u → K' a u) {r : Result Next} (hh : Upon P o K a r) : Upon P o K' a r := by
  cases r with
  | ok x w' =>
    cases x with
    | value v => exact h _ _ hh
    | skip => exact h _ _ hh
    | enter f args => exact Calls.mono hh fun _ _ ⟨v, he, hk⟩ => ⟨v, he, h _ _ hk⟩
    | round l f tmps assign body => exact RoundIn.mono hh fun _ _ ⟨v, he, hk⟩ => ⟨v, he, h _ _ hk⟩
    | _ => exact hh.elim
  | halt x w' => exact hh.elim
def After (P : Program) (ops : Array Oper) (o : Oper) (K : Act → World → Prop) (a : Act) (u : World) : Prop :=
  if Region.wanted o (yielded ops a.tmps) = true then Upon P o K a ((execOp a.eval o).run P u) else K (a.put o.dst undef) u
theorem After.mono {P : Program} {ops : Array Oper} {o : Oper} {K K' : Act → World → Prop} {a : Act} {u : World} (h : ∀ a u, K a u → K' a u) (hh : After P ops o K a u) : After P ops o K' a u := by
  unfold After at *
  split
  · rename_i hw; rw [if_pos hw] at hh; exact Upon.mono h hh
  · rename_i hw; rw [if_neg hw] at hh; exact h _ _ hh

/-- The widest fence, in a round or not. -/
def FW (r : Option Nat) : Fence := { Fence.wide with round := r }
theorem FW.call {P : Program} {f : FuncId} {args : Array Value} {w : World} {R : Ending → World → Prop} (r : Option Nat) (m : Nat) (h : Calls P f args w R) : CallsIn (FW r) m P f args w R := (callsIn_wide (n := m)).2 h
theorem FW.round {P : Program} {l : Nat} {f : FuncId} {tmps : Array Value} {assign body : Code} {w : World} {R : Ending → World → Prop} (r : Option Nat) (m : Nat) (h : RoundIn Fence.wide m P l f tmps assign body w R) : RoundIn (FW r) m P l f tmps assign body w R := h
theorem not_defer {P : Program} {o : Oper} {K : Act → World → Prop} {a : Act} {u : World} (h : Upon P o K a ((execOp a.eval o).run P u)) : ∀ c, o.op ≠ .defer c := fun c hc => by
  obtain ⟨dst, op, ty, pos, aft, g⟩ := o
  dsimp only at hc
  subst hc
  have e : execOp a.eval ⟨dst, .defer c, ty, pos, aft, g⟩ = (do pure (.defer (← resolve a.eval c ty))) := rfl
  rw [e, Sem.run_bind] at h
  cases hr : (resolve a.eval c ty).run P u with
  | ok d w' => rw [hr] at h; exact h
  | halt x w' => rw [hr] at h; exact h
theorem Upon.wpIn {P : Program} {o : Oper} {K : Act → World → Prop} {Q : Exit → Act → World → Prop} {a : Act} {u : World} {r : Option Nat} (h : Upon P o K a ((execOp a.eval o).run P u)) : o.wpIn (FW r) 0 P a u K Q := by
  refine ⟨fun _ _ => trivial, ?_⟩
  rw [Oper.semAt_eq _ _ _ (not_defer h)]
  generalize (execOp a.eval o).run P u = res at h
  cases res with
  | ok x w' =>
    cases x with
    | value v => exact h
    | skip => exact h
    | enter f args => exact ⟨fun e => (by cases e), FW.call _ _ (Calls.mono h fun e w'' ⟨v, he, hk⟩ => by subst he; exact hk)⟩
    | round l f tmps assign body => exact ⟨fun e => (by cases e), FW.round _ _ (RoundIn.mono h fun e w'' ⟨v, he, hk⟩ => by subst he; exact hk)⟩
    | defer d => exact h.elim
    | row a b => exact h.elim
    | _ => exact h.elim
  | halt x w' => exact h.elim
theorem After.wpOpIn {P : Program} {ops : Array Oper} {i : Nat} {o : Oper} {K : Act → World → Prop} {Q : Exit → Act → World → Prop} {a : Act} {u : World} {r : Option Nat} (ho : ops[i]? = some o)
    (h : After P ops o K a u) : wpOpIn (FW r) 0 P ops Q i K a u := by
  unfold Go.wpOpIn
  unfold After at h
  simp only [ho]
  split
  · rename_i hw; rw [if_pos hw] at h; exact Upon.wpIn h
  · rename_i hw; rw [if_neg hw] at h; exact ⟨fun _ _ => trivial, h⟩

def upds (κ : Kap) : List (Nat × Kn) → Kap
  | [] => κ
  | p :: us => upds (upd κ p.1 p.2) us
theorem upds_notin : ∀ (us : List (Nat × Kn)) (κ : Kap) (t : Nat), (∀ p ∈ us, p.1 ≠ t) → upds κ us t = κ t
  | [], _, _, _ => rfl
  | p :: us, κ, t, h => by
    rw [upds, upds_notin us _ t fun q hq => h q (List.mem_cons_of_mem _ hq), upd_other _ _ (Ne.symm (h p (List.mem_cons_self ..)))]
theorem upds_in : ∀ (us : List (Nat × Kn)) (κ κ' : Kap) (t : Nat), (∃ p ∈ us, p.1 = t) → upds κ us t = upds κ' us t
  | [], _, _, _, ⟨_, hp, _⟩ => by cases hp
  | p :: us, κ, κ', t, h => by
    by_cases hh : ∃ q ∈ us, q.1 = t
    · exact upds_in us _ _ t hh
    · have hn : ∀ q ∈ us, q.1 ≠ t := fun q hq e => hh ⟨q, hq, e⟩
      obtain ⟨q, hq, e⟩ := h
      rcases List.mem_cons.1 hq with rfl | hq
      · rw [upds, upds, upds_notin us _ t hn, upds_notin us _ t hn, ← e, upd_same, upd_same]
      · exact absurd e (hn q hq)
theorem upds_comm {us vs : List (Nat × Kn)} (h : ∀ p ∈ us, ∀ q ∈ vs, p.1 ≠ q.1) (κ : Kap) : upds (upds κ us) vs = upds (upds κ vs) us := by
  funext t
  by_cases h1 : ∃ p ∈ us, p.1 = t
  · obtain ⟨p, hp, rfl⟩ := h1
    rw [upds_notin vs _ _ fun q hq => (h p hp q hq).symm]
    exact upds_in us _ _ _ ⟨p, hp, rfl⟩
  · have hn : ∀ q ∈ us, q.1 ≠ t := fun q hq e => h1 ⟨q, hq, e⟩
    rw [upds_notin us _ t hn]
    by_cases h2 : ∃ p ∈ vs, p.1 = t
    · exact upds_in vs _ _ _ h2
    · have hm : ∀ q ∈ vs, q.1 ≠ t := fun q hq e => h2 ⟨q, hq, e⟩
      rw [upds_notin vs _ t hm, upds_notin vs _ t hm, upds_notin us _ t hn]

/-- What an operation touches beside the slot that it fills: by that slot. -/
abbrev Exs := List (Nat × List Nat)
def exL (d : Nat) : Exs → List Nat
  | [] => []
  | p :: ps => bif Nat.beq p.1 d then p.2 else exL d ps
def exO (ex : Exs) (o : Oper) : List Nat := match o.dst with
  | some d => exL d ex
  | none => match o.op with
    | .store _ (.tmp s) _ => exL (s + 100000) ex
    | _ => []
/-- What it looks at beside its operands. -/
def exR (ex : Exs) (o : Oper) : List Nat := match o.dst with | some d => exL (d + 200000) ex | none => []
def tch (ex : Exs) (o : Oper) : List Nat := (match vd o with | some d => [d] | none => []) ++ exO ex o
def lks (ops : Array Oper) (ex : Exs) (o : Oper) : List Nat := o.looksAt ops ++ (exO ex o ++ exR ex o)
section par
variable (P : Program) (St : Kap → Act → World → Prop) (ops : Array Oper) (ex : Exs) (Fin : Kap → Prop)
def StepG (κ : Kap) (o : Oper) (us : List (Nat × Kn)) : Prop :=
  ∀ κ' a u, (∀ t ∈ lks ops ex o, κ' t = κ t) → St κ' a u → After P ops o (fun a' u' => St (upds κ' us) a' u') a u
/-- A region's operations in the order of the text, of a region that draws its order. -/
def ParG : List Oper → Kap → Prop
  | [], κ => Fin κ
  | o :: os, κ => ∃ us, (∀ p ∈ us, p.1 ∈ tch ex o) ∧ StepG P St ops ex κ o us ∧ ParG os (upds κ us)
def ParI : List Nat → Kap → Prop
  | [], κ => Fin κ
  | i :: is, κ => ∃ o us, ops[i]? = some o ∧ (∀ p ∈ us, p.1 ∈ tch ex o) ∧ StepG P St ops ex κ o us ∧ ParI is (upds κ us)
end par
theorem StepG.local {P : Program} {St : Kap → Act → World → Prop} {ops : Array Oper} {ex : Exs} {κ κ2 : Kap} {o : Oper} {us : List (Nat × Kn)}
    (h : StepG P St ops ex κ o us) (he : ∀ t ∈ lks ops ex o, κ2 t = κ t) : StepG P St ops ex κ2 o us :=
  fun κ' a u hl hh => h κ' a u (fun t ht => (hl t ht).trans (he t ht)) hh

def noneIn (l m : List Nat) : Bool := l.all fun x => !m.contains x
theorem noneIn_spec {l m : List Nat} (h : noneIn l m = true) : ∀ x ∈ l, x ∉ m := fun x hx hm => by
  have := List.all_eq_true.1 h x hx
  simp at this
  exact this hm
def apartV (ops : Array Oper) (ex : Exs) (x y : Oper) : Bool :=
  noneIn (tch ex x) (lks ops ex y) && (noneIn (tch ex y) (lks ops ex x) && noneIn (tch ex x) (tch ex y))

/-- Two operations that touch each other's slots wait for one another; edges lead back. -/
def sepB (ops : Array Oper) (ex : Exs) : Bool :=
  let b := Region.before ops
  (List.range ops.size).all fun i =>
    ((ops.getD i default).after.all fun e => !Region.binds .any e || decide (e.on < i)) &&
    (List.range i).all fun j => (b.getD i 0).testBit j || apartV ops ex (ops.getD j default) (ops.getD i default)

section sound
variable {P : Program} {St : Kap → Act → World → Prop} {ops : Array Oper} {ex : Exs} {Fin : Kap → Prop}

theorem ParI.swap {i j : Nat} {l : List Nat} {κ : Kap} (hap : ∀ x y, ops[j]? = some x → ops[i]? = some y → apartV ops ex x y = true)
    (h : ParI P St ops ex Fin (j :: i :: l) κ) : ParI P St ops ex Fin (i :: j :: l) κ := by
  obtain ⟨x, us, hx, hd, sx, y, vs, hy, he, sy, rest⟩ := h
  have hap := hap x y hx hy
  simp only [apartV, Bool.and_eq_true] at hap
  have h1 := noneIn_spec hap.1
  have h2 := noneIn_spec hap.2.1
  have h3 := noneIn_spec hap.2.2
  refine ⟨y, vs, hy, he, sy.local fun t ht => (upds_notin us κ t fun p hp e => h1 p.1 (hd p hp) (e ▸ ht)).symm, x, us, hx, hd,
    sx.local fun t ht => upds_notin vs κ t fun p hp e => h2 p.1 (he p hp) (e ▸ ht), ?_⟩
  rw [upds_comm (us := vs) (vs := us) (fun p hp q hq e => h3 q.1 (hd q hq) (e ▸ he p hp))]
  exact rest

theorem ParI.front {i : Nat} : ∀ (l1 : List Nat) {l2 : List Nat} {κ : Kap}, (∀ j ∈ l1, ∀ x y, ops[j]? = some x → ops[i]? = some y → apartV ops ex x y = true) →
    ParI P St ops ex Fin (l1 ++ i :: l2) κ → ParI P St ops ex Fin (i :: (l1 ++ l2)) κ
  | [], _, _, _, h => h
  | j :: l1, l2, κ, hap, h => by
    have h' : ParI P St ops ex Fin (j :: (l1 ++ i :: l2)) κ := h
    obtain ⟨x, us, hx, hd, sx, rest⟩ := h'
    have r := ParI.front l1 (fun m hm => hap m (List.mem_cons_of_mem _ hm)) rest
    exact ParI.swap (l := l1 ++ l2) (hap j (List.mem_cons_self ..)) ⟨x, us, hx, hd, sx, r⟩

theorem parG_parI : ∀ (m i : Nat) {κ : Kap}, i + m = ops.size → ParG P St ops ex Fin (ops.toList.drop i) κ → ParI P St ops ex Fin (List.range' i m) κ
  | 0, i, κ, hm, h => by
    rw [List.drop_eq_nil_of_le (by simp; omega)] at h
    exact h
  | m + 1, i, κ, hm, h => by
    have hi : i < ops.toList.length := by simp; omega
    rw [List.drop_eq_getElem_cons hi] at h
    obtain ⟨us, hd, sx, rest⟩ := h
    refine ⟨ops.toList[i], us, ?_, hd, sx, parG_parI m (i + 1) (by omega) rest⟩
    have hi' : i < ops.size := by simpa using hi
    rw [Array.getElem?_eq_getElem hi']
    simp

theorem before_go (f : Array Nat → Oper → Nat) : ∀ (l : List Oper) (acc : Array Nat),
    (l.foldl (fun acc o => acc.push (f acc o)) acc).size = acc.size + l.length ∧
    ∀ k, k < (l.foldl (fun acc o => acc.push (f acc o)) acc).size → acc.size ≤ k →
      ∃ (o : Oper) (pre : Array Nat), l[k - acc.size]? = some o ∧ pre.size = k ∧ (∀ j, j < k → (l.foldl (fun acc o => acc.push (f acc o)) acc)[j]? = pre[j]?) ∧
        (l.foldl (fun acc o => acc.push (f acc o)) acc)[k]? = some (f pre o)
  | [], acc => ⟨by simp, fun k hk hle => by simp at hk; omega⟩
  | o :: l, acc => by
    have ih := before_go f l (acc.push (f acc o))
    simp only [List.foldl_cons]
    refine ⟨by rw [ih.1]; simp; omega, fun k hk hle => ?_⟩
    have stay : ∀ (l : List Oper) (acc : Array Nat) (j : Nat), j < acc.size → (l.foldl (fun acc o => acc.push (f acc o)) acc)[j]? = acc[j]? := by
      intro l
      induction l with
      | nil => intro acc j _; rfl
      | cons o l ih =>
        intro acc j hj
        simp only [List.foldl_cons]
        rw [ih _ j (by simp; omega), Array.getElem?_push_lt hj, Array.getElem?_eq_getElem hj]
    by_cases he : k = acc.size
    · subst he
      refine ⟨o, acc, by simp, rfl, fun j hj => ?_, ?_⟩
      · rw [stay _ _ j (by simp; omega), Array.getElem?_push_lt hj, Array.getElem?_eq_getElem hj]
      · rw [stay _ _ _ (by simp)]; simp
    · obtain ⟨o', pre, h1, h2, h3, h4⟩ := ih.2 k hk (by simp; omega)
      refine ⟨o', pre, ?_, h2, h3, h4⟩
      rw [← h1]
      have : k - acc.size = (k - (acc.push (f acc o)).size) + 1 := by simp; omega
      rw [this, List.getElem?_cons_succ]

theorem testBit_fold {acc : Array Nat} {j : Nat} : ∀ (es : List Edge) (s : Nat),
    (es.foldl (fun s e => if Region.binds .any e then s ||| 2 ^ e.on ||| acc.getD e.on 0 else s) s).testBit j = true →
      s.testBit j = true ∨ ∃ e ∈ es, Region.binds .any e = true ∧ (e.on = j ∨ (acc.getD e.on 0).testBit j = true)
  | [], s, h => .inl h
  | e :: es, s, h => by
    simp only [List.foldl_cons] at h
    rcases testBit_fold es _ h with h | ⟨e', he', hb, hh⟩
    · split at h
      · rename_i hb
        simp only [Nat.testBit_or, Bool.or_eq_true] at h
        rcases h with (h | h) | h
        · exact .inl h
        · refine .inr ⟨e, List.mem_cons_self .., hb, .inl ?_⟩
          rw [Nat.testBit_two_pow] at h
          simpa using h
        · exact .inr ⟨e, List.mem_cons_self .., hb, .inr h⟩
      · exact .inl h
    · exact .inr ⟨e', List.mem_cons_of_mem _ he', hb, hh⟩

theorem before_spec {k j : Nat} (hk : k < ops.size) (h : ((Region.before ops).getD k 0).testBit j = true) :
    ∃ e ∈ (ops[k]'hk).after, Region.binds .any e = true ∧ (e.on = j ∨ (e.on < k ∧ ((Region.before ops).getD e.on 0).testBit j = true)) := by
  have hg := before_go (fun acc o => o.after.foldl (fun s e => if Region.binds .any e then s ||| 2 ^ e.on ||| acc.getD e.on 0 else s) 0) ops.toList #[]
  have hb : Region.before ops = ops.toList.foldl (fun acc o => acc.push (o.after.foldl (fun s e => if Region.binds .any e then s ||| 2 ^ e.on ||| acc.getD e.on 0 else s) 0)) #[] := by
    unfold Region.before; rw [← Array.foldl_toList]
  rw [hb] at h ⊢
  obtain ⟨o, pre, h1, h2, h3, h4⟩ := hg.2 k (by rw [hg.1]; simpa using hk) (by simp)
  have ho : ops[k] = o := by
    have : ops[k]? = some o := by simpa using h1
    rw [Array.getElem?_eq_getElem hk] at this
    exact Option.some.inj this
  rw [ho]
  generalize (ops.toList.foldl (fun acc o => acc.push (o.after.foldl (fun s e => if Region.binds .any e then s ||| 2 ^ e.on ||| acc.getD e.on 0 else s) 0)) #[]) = F at *
  rw [Array.getD_eq_getD_getElem?, h4, Option.getD_some, ← Array.foldl_toList] at h
  rcases testBit_fold _ _ h with h | ⟨e, he, hbd, hh⟩
  · simp at h
  · refine ⟨e, by simpa using he, hbd, ?_⟩
    rcases hh with hh | hh
    · exact .inl hh
    · by_cases hlt : e.on < k
      · exact .inr ⟨hlt, by rw [Array.getD_eq_getD_getElem?, h3 _ hlt, ← Array.getD_eq_getD_getElem?]; exact hh⟩
      · rw [Array.getD_eq_getD_getElem?, Array.getElem?_eq_none (by omega)] at hh
        simp at hh

def ClosedL (ops : Array Oper) (listed : Array Bool) : Prop :=
  ∀ k (hk : k < ops.size), listed.getD k true = true → ∀ e ∈ (ops[k]'hk).after, Region.binds .any e = true → listed.getD e.on false = true

theorem closed_before {listed : Array Bool} (hsz : listed.size = ops.size) (hc : ClosedL ops listed) : ∀ (k : Nat) (hk : k < ops.size),
    (∀ e ∈ (ops[k]'hk).after, Region.binds .any e = true → listed.getD e.on false = true) → ∀ j, ((Region.before ops).getD k 0).testBit j = true → listed.getD j false = true := by
  intro k
  induction k using Nat.strongRecOn with
  | _ k ih =>
    intro hk he j hj
    obtain ⟨e, hem, hb, hh⟩ := before_spec hk hj
    rcases hh with rfl | ⟨hlt, hh⟩
    · exact he e hem hb
    · have hl := he e hem hb
      have hlk : e.on < ops.size := by omega
      refine ih e.on hlt hlk (fun e' he' hb' => hc e.on hlk ?_ e' he' hb') j hh
      simp only [Array.getD_eq_getD_getElem?] at hl ⊢
      rw [Array.getElem?_eq_getElem (by omega)] at hl ⊢
      simpa using hl

theorem getD_set {l : Array Bool} {i j : Nat} {x : Bool} (d : Bool) (hi : i < l.size) : (l.setIfInBounds i x).getD j d = if i = j then x else l.getD j d := by
  simp only [Array.getD_eq_getD_getElem?]
  by_cases h : i = j
  · subst h; simp [hi]
  · simp [h]

theorem wpAny_of_par {r : Option Nat} (hsep : sepB ops ex = true) : ∀ (fuel : Nat) (listed : Array Bool) (l : List Nat) (κ : Kap) (a : Act) (u : World),
    l.length = fuel → l.Pairwise (· < ·) → listed.size = ops.size → (∀ i, i ∈ l ↔ i < ops.size ∧ listed.getD i true = false) → ClosedL ops listed →
    ParI P St ops ex Fin l κ → St κ a u →
    wpAnyIn (FW r) 0 P .any ops (fun e a' u' => e = .normal ∧ ∃ κ', Fin κ' ∧ St κ' a' u') fuel listed a u := by
  intro fuel
  induction fuel with
  | zero =>
    intro listed l κ a u hlen _ hsz hmem _ hp hh
    obtain rfl : l = [] := List.eq_nil_of_length_eq_zero hlen
    refine ⟨?_, rfl, κ, hp, hh⟩
    unfold Region.ready
    rw [List.filter_eq_nil_iff]
    intro i hi
    have := (hmem i).2
    have hi' : i < ops.size := by simpa using hi
    cases hl : listed.getD i true
    · exact absurd (this ⟨hi', hl⟩) (by simp)
    · simp
  | succ fuel ih =>
    intro listed l κ a u hlen hsort hsz hmem hcl hp hh
    have hsep' := hsep
    simp only [sepB, List.all_eq_true, Bool.and_eq_true] at hsep'
    have hedge : ∀ i (hi : i < ops.size), ∀ e ∈ (ops[i]'hi).after, Region.binds .any e = true → e.on < i := fun i hi e he hb => by
      have h1 := (hsep' i (by simpa using hi)).1
      rw [Array.getD_eq_getD_getElem?, Array.getElem?_eq_getElem hi, Option.getD_some, Array.all_eq_true'] at h1
      have := h1 e he
      simp [hb] at this
      exact this
    constructor
    · intro hr
      exfalso
      cases l with
      | nil => simp at hlen
      | cons i l =>
        obtain ⟨hi, hli⟩ := (hmem i).1 (List.mem_cons_self ..)
        have : i ∈ Region.ready .any ops listed := by
          refine mem_ready.2 ⟨hli, ops[i], by simp [hi], fun e he hb => ?_⟩
          have hlt := hedge i hi e he hb
          cases hle : listed.getD e.on true
          · have hin := (hmem e.on).2 ⟨by omega, hle⟩
            rcases List.mem_cons.1 hin with h | h
            · omega
            · have := List.rel_of_pairwise_cons hsort h
              omega
          · rw [Array.getD_eq_getD_getElem?, Array.getElem?_eq_getElem (by omega)] at hle ⊢
            simpa using hle
        rw [hr] at this
        cases this
    · intro i hi
      obtain ⟨hli, o, ho, hall⟩ := mem_ready.1 hi
      have hisz : i < ops.size := by
        rcases Nat.lt_or_ge i ops.size with h | h
        · exact h
        · rw [Array.getElem?_eq_none h] at ho; cases ho
      have hio : ops[i] = o := by rw [Array.getElem?_eq_getElem hisz] at ho; exact Option.some.inj ho
      have hil : i ∈ l := (hmem i).2 ⟨hisz, hli⟩
      obtain ⟨l1, l2, rfl⟩ := List.append_of_mem hil
      have hap : ∀ j ∈ l1, ∀ x y, ops[j]? = some x → ops[i]? = some y → apartV ops ex x y = true := by
        intro j hj x y hx hy
        have hji : j < i := (List.pairwise_append.1 hsort).2.2 j hj i (List.mem_cons_self ..)
        obtain ⟨hjs, hjl⟩ := (hmem j).1 (List.mem_append_left _ hj)
        have h2 := (hsep' i (by simpa using hisz)).2 j (by simpa using hji)
        rw [Bool.or_eq_true] at h2
        rcases h2 with h2 | h2
        · exfalso
          have := closed_before hsz hcl i hisz (fun e he hb => by rw [hio] at he; exact hall e he hb) j h2
          rw [Array.getD_eq_getD_getElem?, Array.getElem?_eq_getElem (by omega)] at this hjl
          simp at this hjl
          rw [this] at hjl; cases hjl
        · rw [Array.getD_eq_getD_getElem?, Array.getD_eq_getD_getElem?, hx, hy] at h2
          exact h2
      obtain ⟨o', us, ho', hd, sx, rest⟩ := ParI.front l1 hap hp
      obtain rfl : o = o' := by rw [ho] at ho'; exact Option.some.inj ho'
      have hst := sx κ a u (fun _ _ => rfl) hh
      refine After.wpOpIn ho ?_
      refine After.mono (fun a' u' hh' => ?_) hst
      have hli' : i < listed.size := by omega
      refine ih (listed.setIfInBounds i true) (l1 ++ l2) _ a' u' (by simp at hlen ⊢; omega) ?_ (by simpa using hsz) ?_ ?_ rest hh'
      · rw [List.pairwise_append] at hsort ⊢
        exact ⟨hsort.1, (List.pairwise_cons.1 hsort.2.1).2, fun x hx y hy => hsort.2.2 x hx y (List.mem_cons_of_mem _ hy)⟩
      · intro j
        rw [getD_set true hli']
        have hnd : i ∉ l1 ++ l2 := by
          rw [List.pairwise_append] at hsort
          intro hm
          rcases List.mem_append.1 hm with hm | hm
          · have := hsort.2.2 i hm i (List.mem_cons_self ..); omega
          · have := (List.pairwise_cons.1 hsort.2.1).1 i hm; omega
        by_cases hij : i = j
        · subst hij; simp [hnd]
        · rw [if_neg hij, ← hmem j]
          simp only [List.mem_append, List.mem_cons]
          constructor
          · rintro (h | h); exact .inl h; exact .inr (.inr h)
          · rintro (h | h | h); exact .inl h; exact absurd h.symm hij; exact .inr h
      · intro k hk hkl e he hb
        rw [getD_set _ hli'] at hkl ⊢
        by_cases hie : i = e.on
        · rw [if_pos hie]
        · rw [if_neg hie]
          by_cases hik : i = k
          · subst hik; rw [hio] at he; exact hall e he hb
          · rw [if_neg hik] at hkl; exact hcl k hk hkl e he hb

/-- A region that draws its order. -/
theorem region_drawn {id : Nat} {Q : Exit → Act → World → Prop} {κ : Kap} {a : Act} {u : World} {r : Option Nat} (hm : P.follows .mixedOrders = true) (hs : sepB ops ex = true)
    (hdr : ∀ κ a u, St κ a u → St κ a { u with drawn := u.drawn + 1 }) (hp : ParG P St ops ex Fin ops.toList κ) (hh : St κ a u)
    (hQ : ∀ κ' a' u', Fin κ' → St κ' a' u' → Q .normal a' u') : (Code.region id ops true).wpIn (FW r) 0 P Q a u := by
  refine Go.wpIn_mono (wpIn_region_any hm (wpAny_of_par (St := St) (ex := ex) (Fin := Fin) (r := r) hs ops.size _ (List.range ops.size) κ a _ (by simp) List.pairwise_lt_range (by simp) ?_ ?_ ?_ (hdr _ _ _ hh))) fun e a' u' he => ?_
  · intro i; simp
    intro hi; simp [hi]
  · intro k hk hkl; simp [hk] at hkl
  · have := parG_parI (P := P) (St := St) (ops := ops) (ex := ex) (Fin := Fin) ops.size 0 (by simp) (κ := κ) (by simpa using hp)
    simpa [List.range_eq_range'] using this
  · obtain ⟨rfl, κ', hf, hh'⟩ := he
    exact hQ κ' a' u' hf hh'
end sound

/-! ### regions of the usual state -/
section usual
variable {P : Program} {F : Fr} {B : Heap} {n : Nat} {ops : Array Oper} {O : Boxes}
theorem HasH.drew {κ : Kap} {a : Act} {u : World} {H : Heap} {fp : Nat → Nat → Prop} (h : HasH F B O n κ a u H fp) : HasH F B O n κ a { u with drawn := u.drawn + 1 } H fp :=
  ⟨h.size, h.defers, h.nodup, h.marks, h.lent, ⟨h.keep.os, h.keep.tape, h.keep.output, h.keep.size, h.keep.block, Nat.le_succ_of_le h.keep.dr⟩, h.sub, h.base, h.fresh, h.boxes, h.apart, fun t k hk => by
    have := h.slot t k hk
    cases k with
    | is v => exact this
    | sat φ => exact this
    | own r => exact ⟨r.st this.1 (Heap.Le.refl _) h.sub ⟨rfl, rfl, rfl, Nat.le_refl _, Nat.le_succ _⟩ (fun _ _ => rfl), this.2⟩, h.owns, h.mono⟩
theorem Has.drew {κ : Kap} {a : Act} {u : World} (h : Has F B O n κ a u) : Has F B O n κ a { u with drawn := u.drawn + 1 } := by
  obtain ⟨H, fp, h⟩ := h
  exact ⟨H, fp, h.drew⟩
/-- One operation, of which one slot turns. -/
def StepOK (P : Program) (F : Fr) (B : Heap) (n : Nat) (ops : Array Oper) (O : Boxes) (κ : Kap) (o : Oper) (d : Nat) (k : Kn) : Prop :=
  ∀ κ' a u, (∀ t ∈ o.looksAt ops, κ' t = κ t) → Has F B O n κ' a u → After P ops o (fun a' u' => Has F B O n (upd κ' d k) a' u') a u
theorem StepOK.stepG {ex : Exs} {κ : Kap} {o : Oper} {d : Nat} {k : Kn} (h : StepOK P F B n ops O κ o d k) : StepG P (Has F B O n) ops ex κ o [(d, k)] :=
  fun κ' a u hl hh => h κ' a u (fun t ht => hl t (List.mem_append_left _ ht)) hh
/-- Operations one after the other. -/
def Ops (P : Program) (ops : Array Oper) (Q : Act → World → Prop) : List Oper → Act → World → Prop
  | [], a, u => Q a u
  | o :: os, a, u => After P ops o (Ops P ops Q os) a u
theorem opsIn_of_ops {r : Option Nat} {Q : Act → World → Prop} {Q' : Exit → Act → World → Prop} (hQ : ∀ a u, Q a u → Q' .normal a u) : ∀ (m i : Nat) {a : Act} {u : World}, i + m = ops.size → Ops P ops Q (ops.toList.drop i) a u →
    wpOpsIn (FW r) 0 P ops Q' (List.range' i m) a u
  | 0, i, a, u, hm, h => by
    rw [List.drop_eq_nil_of_le (by simp; omega)] at h
    exact hQ _ _ h
  | m + 1, i, a, u, hm, h => by
    have hi : i < ops.toList.length := by simp; omega
    have hi' : i < ops.size := by simpa using hi
    have ho : ops[i]? = some ops.toList[i] := by rw [Array.getElem?_eq_getElem hi']; simp
    rw [List.drop_eq_getElem_cons hi] at h
    rw [List.range'_succ, wpOpsIn_cons]
    exact After.wpOpIn ho (After.mono (fun a' u' hh' => opsIn_of_ops hQ m (i + 1) (by omega) hh') h)
theorem region_straight {id : Nat} {Q : Exit → Act → World → Prop} {a : Act} {u : World} {r : Option Nat} (h : Ops P ops (fun a u => Q .normal a u) ops.toList a u) : (Code.region id ops false).wpIn (FW r) 0 P Q a u :=
  wpIn_region (by rw [List.range_eq_range']; exact opsIn_of_ops (fun _ _ h => h) ops.size 0 (by simp) (by simpa using h))
end usual
end Go.V
