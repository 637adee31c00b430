/- Texts on the way to WiresSet, part 1: one behind another. -/
import Derived.WalkKit
import Derived.OrdersIn
import Derived.RangeFuncIn
import Derived.RangeFuncLeaves
import Derived.RangeFuncCalls
import Derived.KernelRfl
import Derived.RangeFuncRecord
import Derived.Deep.Quiet
import Derived.Laws.BytesString
import Derived.Laws.AppendOwn
import Derived.Laws.MakeOwn
set_option linter.unusedVariables false
set_option linter.unusedSimpArgs false
set_option maxRecDepth 20000
namespace Go.V
open Go.RowKit

abbrev Heap:=Nat → Option Obj
def hp (w:World):Heap:=fun k => w.heap[k]?
def Heap.Le (H H':Heap):Prop:=∀ k o, H k = some o → H' k = some o
theorem Heap.Le.refl (H:Heap):H.Le H:=fun _ _ h => h
theorem Heap.Le.trans {A B C:Heap} (h:A.Le B) (k:B.Le C):A.Le C:=fun i o e => k i o (h i o e)

structure On (u u':World):Prop where
 os:u'.os = u.os
 tape:u'.tape = u.tape
 output:u'.output = u.output
 size:u.heap.size ≤ u'.heap.size
 dr:u.drawn ≤ u'.drawn
theorem On.refl (u:World):On u u:=⟨rfl, rfl, rfl, Nat.le_refl _, Nat.le_refl _⟩
structure Res where
 P:Value → Heap → World → (Nat → Prop) → Prop
 st:∀ {v H u C H' u'}, P v H u C → H.Le H' → H'.Le (hp u') → On u u' → (∀ k, C k → u'.heap[k]? = u.heap[k]?) → P v H' u' C
inductive Kn where
 | is (v:Value)
 | sat (φ:Value → Heap → Prop)
 | own (r:Res)

abbrev Kap:=Nat → Option Kn
def upd (κ:Kap) (t:Nat) (k:Kn):Kap:=fun s => bif Nat.beq s t then some k else κ s
theorem zah (κ:Kap) (t:Nat) (k:Kn):upd κ t k t = some k:=by simp [upd, cond]
theorem zab (κ:Kap) {s t:Nat} (k:Kn) (h:s ≠ t):upd κ t k s = κ s:=by
 have:Nat.beq s t = false:=by
  cases hb:Nat.beq s t with
  | true => exact absurd (Nat.eq_of_beq_eq_true hb) h
  | false => rfl
 simp [upd, this]
def ofL:List (Nat × Kn) → Kap
 | [] => fun _ => none
 | (t, k) :: l => upd (ofL l) t k
def ziw:Nat → List Value → Kap
 | _, [] => fun _ => none
 | i, v :: vs => upd (ziw (i + 1) vs) i (.is v)

abbrev Boxes:=List (Nat × Obj)
abbrev bx (b:Nat) (cs:List Value) (ty:TypeId):Nat × Obj:=(b, .cells cs.toArray ty)

inductive DM where
 | m (D:Nat)
 | u (d:Deferred)
structure Fr where
 w0:World
 r:Option Nat
 ds:List DM
 L:Nat → Prop
abbrev noL:Nat → Prop:=fun _ => False
abbrev Fr.pure (w:World):Fr:=⟨w, none, [], noL⟩
structure Keep (C:Nat → Prop) (w u:World):Prop where
 os:u.os = w.os
 tape:u.tape = w.tape
 output:u.output = w.output
 size:w.heap.size ≤ u.heap.size
 block:∀ k, k < w.heap.size → ¬ C k → u.heap[k]? = w.heap[k]?
 dr:w.drawn ≤ u.drawn
theorem Keep.on {C:Nat → Prop} {w u:World} (h:Keep C w u):On w u:=⟨h.os, h.tape, h.output, h.size, h.dr⟩
theorem Keep.refl (C:Nat → Prop) (w:World):Keep C w w:=⟨rfl, rfl, rfl, Nat.le_refl _, fun _ _ _ => rfl, Nat.le_refl _⟩
theorem Keep.trans {C D:Nat → Prop} {a b c:World} (h:Keep C a b) (k:Keep D b c) (hD:∀ i, i < a.heap.size → D i → C i):Keep C a c :=
 ⟨k.os.trans h.os, k.tape.trans h.tape, k.output.trans h.output, Nat.le_trans h.size k.size, fun i hi hC => (k.block i (Nat.lt_of_lt_of_le hi h.size) fun hd => hC (hD i hi hd)).trans (h.block i hi hC), Nat.le_trans h.dr k.dr⟩
theorem Keep.below {w u:World} (h:Keep noL w u):Below w.heap.size w u:=⟨h.os, h.tape, h.output, h.size, fun k hk => h.block k hk (fun e => e)⟩
theorem Keep.of_below {C:Nat → Prop} {w u:World} (h:Below w.heap.size w u) (hd:w.drawn ≤ u.drawn):Keep C w u:=⟨h.os, h.tape, h.output, h.size, fun k hk _ => h.block k hk, hd⟩
theorem Keep.weak {C D:Nat → Prop} {w u:World} (h:Keep C w u) (hi:∀ k, k < w.heap.size → C k → D k):Keep D w u:=⟨h.os, h.tape, h.output, h.size, fun k hk hd => h.block k hk fun hc => hd (hi k hk hc), h.dr⟩

structure Grow (L:Nat → Prop) (u:World) (H:Heap) (u':World) (H':Heap):Prop where
 keep:Keep L u u'
 sub:H'.Le (hp u')
 le:H.Le H'
 fresh:∀ k, k < u.heap.size → ¬ L k → H' k = H k
theorem Grow.refl {u:World} {H:Heap} (h:H.Le (hp u)):Grow noL u H u H:=⟨Keep.refl _ _, h, Heap.Le.refl _, fun _ _ _ => rfl⟩
theorem Grow.below {u u':World} {H H':Heap} (h:Grow noL u H u' H'):Below u.heap.size u u':=h.keep.below

def z2g:DM → Deferred
 | .m D => { target:=.collected D, args:=#[] }
 | .u d => d
def z8p (F:Fr) (O:Boxes) (u:World) (H:Heap) (C:Nat → Prop):Prop:=∀ k, C k → k < u.heap.size ∧ H k = none ∧ (F.w0.heap.size ≤ k ∨ F.L k) ∧ ∀ y ∈ O, y.1 ≠ k
def Kn.holds (F:Fr) (O:Boxes) (u:World) (H:Heap) (C:Nat → Prop):Kn → Value → Prop
 | .is v, x => x = v
 | .sat φ, x => φ x H
 | .own r, x => r.P x H u C ∧ z8p F O u H C
def Kn.mono:Kn → Prop
 | .sat φ => ∀ v H H', φ v H → Heap.Le H H' → φ v H'
 | _ => True

structure HasH (F:Fr) (B:Heap) (O:Boxes) (n:Nat) (κ:Kap) (a:Act) (u:World) (H:Heap) (fp:Nat → Nat → Prop):Prop where
 size:a.tmps.size = n
 defers:a.defers = F.ds.map z2g
 nodup:F.ds.Nodup
 marks:∀ D, DM.m D ∈ F.ds → (D, Obj.deferred (some [])) ∈ O
 lent:∀ k, F.L k → k < F.w0.heap.size
 keep:Keep F.L F.w0 u
 sub:H.Le (hp u)
 base:B.Le H
 fresh:∀ k, k < F.w0.heap.size → ¬ F.L k → H k = B k
 boxes:∀ y ∈ O, u.heap[y.1]? = some y.2 ∧ H y.1 = none ∧ (F.w0.heap.size ≤ y.1 ∨ F.L y.1)
 apart:O.Pairwise fun x y => x.1 ≠ y.1
 slot:∀ t k, κ t = some k → k.holds F O u H (fp t) (a.eval (.tmp t))
 owns:∀ s t r r', s ≠ t → κ s = some (.own r) → κ t = some (.own r') → ∀ k, fp s k → ¬ fp t k
 mono:∀ t k, κ t = some k → k.mono
def Has (F:Fr) (B:Heap) (O:Boxes) (n:Nat) (κ:Kap) (a:Act) (u:World):Prop:=∃ H fp, HasH F B O n κ a u H fp

def vd (o:Oper):Option Nat :=
 match o.dst with
 | some d => some d
 | none => match o.op with
  | .store _ (.tmp s) _ => some s
  | _ => none

def Upon (P:Program) (o:Oper) (K:Act → World → Prop) (a:Act):Result Next → Prop
 | .ok (.value v) w' => K (a.put o.dst v) w'
 | .ok .skip w' => K (a.put o.dst undef) w'
 | .ok (.enter f args) w' => Calls P f args w' fun e w'' => ∃ v, e = .returned v ∧ K (a.put o.dst v) w''
 | .ok (.round l f tmps assign body) w' => RoundIn Fence.wide 0 P l f tmps assign body w' fun e w'' => ∃ v, e = .returned v ∧ K (a.put o.dst v) w''
 | _ => False
theorem Upon.mono {P:Program} {o:Oper} {K K':Act → World → Prop} {a:Act} (h:∀ a u, K a u → K' a u) {r:Result Next} (hh:Upon P o K a r):Upon P o K' a r:=by
 cases r with
 | ok x w' =>
  cases x with
  | value v => exact h _ _ hh
  | skip => exact h _ _ hh
  | enter f args => exact Calls.mono hh fun _ _ ⟨v, he, hk⟩ => ⟨v, he, h _ _ hk⟩
  | round l f tmps assign body => exact RoundIn.mono hh fun _ _ ⟨v, he, hk⟩ => ⟨v, he, h _ _ hk⟩
  | _ => exact hh.elim
 | halt x w' => exact hh.elim
def After (P:Program) (ops:Array Oper) (o:Oper) (K:Act → World → Prop) (a:Act) (u:World):Prop :=
 if Region.wanted o (yielded ops a.tmps) = true then Upon P o K a ((execOp a.eval o).run P u) else K (a.put o.dst undef) u
theorem After.mono {P:Program} {ops:Array Oper} {o:Oper} {K K':Act → World → Prop} {a:Act} {u:World} (h:∀ a u, K a u → K' a u) (hh:After P ops o K a u):After P ops o K' a u:=by
 unfold After at *
 split
 ·rename_i hw; rw [if_pos hw] at hh; exact Upon.mono h hh
 ·rename_i hw; rw [if_neg hw] at hh; exact h _ _ hh

def FW (r:Option Nat):Fence:={ Fence.wide with round:=r }
theorem FW.call {P:Program} {f:FuncId} {args:Array Value} {w:World} {R:Ending → World → Prop} (r:Option Nat) (m:Nat) (h:Calls P f args w R):CallsIn (FW r) m P f args w R:=(callsIn_wide (n:=m)).2 h
theorem FW.round {P:Program} {l:Nat} {f:FuncId} {tmps:Array Value} {assign body:Code} {w:World} {R:Ending → World → Prop} (r:Option Nat) (m:Nat) (h:RoundIn Fence.wide m P l f tmps assign body w R):RoundIn (FW r) m P l f tmps assign body w R:=h
theorem zx0 {P:Program} {o:Oper} {K:Act → World → Prop} {a:Act} {u:World} (h:Upon P o K a ((execOp a.eval o).run P u)):∀ c, o.op ≠ .defer c:=fun c hc => by
 obtain ⟨dst, op, ty, pos, aft, g⟩:=o
 dsimp only at hc
 subst hc
 have e:execOp a.eval ⟨dst, .defer c, ty, pos, aft, g⟩ = (do pure (.defer (← resolve a.eval c ty))):=rfl
 rw [e, Sem.run_bind] at h
 cases hr:(resolve a.eval c ty).run P u with
 | ok d w' => rw [hr] at h; exact h
 | halt x w' => rw [hr] at h; exact h
theorem Upon.wpIn {P:Program} {o:Oper} {K:Act → World → Prop} {Q:Exit → Act → World → Prop} {a:Act} {u:World} {r:Option Nat} (h:Upon P o K a ((execOp a.eval o).run P u)):o.wpIn (FW r) 0 P a u K Q:=by
 refine ⟨fun _ _ => trivial, ?_⟩
 rw [Oper.semAt_eq _ _ _ (zx0 h)]
 generalize (execOp a.eval o).run P u = res at h
 cases res with
 | ok x w' =>
  cases x with
  | value v => exact h
  | skip => exact h
  | enter f args => exact ⟨fun e => (by cases e), FW.call _ _ (Calls.mono h fun e w'' ⟨v, he, hk⟩ => by subst he; exact hk)⟩
  | round l f tmps assign body => exact ⟨fun e => (by cases e), FW.round _ _ (RoundIn.mono h fun e w'' ⟨v, he, hk⟩ => by subst he; exact hk)⟩
  | defer d => exact h.elim
  | row a b => exact h.elim
  | _ => exact h.elim
 | halt x w' => exact h.elim
theorem After.wpOpIn {P:Program} {ops:Array Oper} {i:Nat} {o:Oper} {K:Act → World → Prop} {Q:Exit → Act → World → Prop} {a:Act} {u:World} {r:Option Nat} (ho:ops[i]? = some o)
  (h:After P ops o K a u):wpOpIn (FW r) 0 P ops Q i K a u:=by
 unfold Go.wpOpIn
 unfold After at h
 simp only [ho]
 split
 ·rename_i hw; rw [if_pos hw] at h; exact Upon.wpIn h
 ·rename_i hw; rw [if_neg hw] at h; exact ⟨fun _ _ => trivial, h⟩

def zss (κ:Kap):List (Nat × Kn) → Kap
 | [] => κ
 | p :: us => zss (upd κ p.1 p.2) us
theorem zbq:∀ (us:List (Nat × Kn)) (κ:Kap) (t:Nat), (∀ p ∈ us, p.1 ≠ t) → zss κ us t = κ t
 | [], _, _, _ => rfl
 | p :: us, κ, t, h => by
  rw [zss, zbq us _ t fun q hq => h q (List.mem_cons_of_mem _ hq), zab _ _ (Ne.symm (h p (List.mem_cons_self ..)))]
theorem zrf:∀ (us:List (Nat × Kn)) (κ κ':Kap) (t:Nat), (∃ p ∈ us, p.1 = t) → zss κ us t = zss κ' us t
 | [], _, _, _, ⟨_, hp, _⟩ => by cases hp
 | p :: us, κ, κ', t, h => by
  by_cases hh:∃ q ∈ us, q.1 = t
  ·exact zrf us _ _ t hh
  ·have hn:∀ q ∈ us, q.1 ≠ t:=fun q hq e => hh ⟨q, hq, e⟩
   obtain ⟨q, hq, e⟩:=h
   rcases List.mem_cons.1 hq with rfl | hq
   ·rw [zss, zss, zbq us _ t hn, zbq us _ t hn, ← e, zah, zah]
   ·exact absurd e (hn q hq)
theorem zv5 {us vs:List (Nat × Kn)} (h:∀ p ∈ us, ∀ q ∈ vs, p.1 ≠ q.1) (κ:Kap):zss (zss κ us) vs = zss (zss κ vs) us:=by
 funext t
 by_cases h1:∃ p ∈ us, p.1 = t
 ·obtain ⟨p, hp, rfl⟩:=h1
  rw [zbq vs _ _ fun q hq => (h p hp q hq).symm]
  exact zrf us _ _ _ ⟨p, hp, rfl⟩
 ·have hn:∀ q ∈ us, q.1 ≠ t:=fun q hq e => h1 ⟨q, hq, e⟩
  rw [zbq us _ t hn]
  by_cases h2:∃ p ∈ vs, p.1 = t
  ·exact zrf vs _ _ _ h2
  ·have hm:∀ q ∈ vs, q.1 ≠ t:=fun q hq e => h2 ⟨q, hq, e⟩
   rw [zbq vs _ t hm, zbq vs _ t hm, zbq us _ t hn]

abbrev Exs:=List (Nat × List Nat)
def exL (d:Nat):Exs → List Nat
 | [] => []
 | p :: ps => bif Nat.beq p.1 d then p.2 else exL d ps
def exO (ex:Exs) (o:Oper):List Nat:=match o.dst with
 | some d => exL d ex
 | none => match o.op with
  | .store _ (.tmp s) _ => exL (s + 100000) ex
  | .mapUpdate _ (.tmp s) _ _ => exL (s + 100000) ex
  | .insert _ (.tmp s) _ _ => exL (s + 100000) ex
  | _ => []
def exR (ex:Exs) (o:Oper):List Nat:=match o.dst with | some d => exL (d + 200000) ex | none => []
def tch (ex:Exs) (o:Oper):List Nat:=(match vd o with | some d => [d] | none => []) ++ exO ex o
def lks (ops:Array Oper) (ex:Exs) (o:Oper):List Nat:=o.looksAt ops ++ (exO ex o ++ exR ex o)
section par
variable (P:Program) (St:Kap → Act → World → Prop) (ops:Array Oper) (ex:Exs) (Fin:Kap → Prop)
def StepG (κ:Kap) (o:Oper) (us:List (Nat × Kn)):Prop :=
 ∀ κ' a u, (∀ t ∈ lks ops ex o, κ' t = κ t) → St κ' a u → After P ops o (fun a' u' => St (zss κ' us) a' u') a u
def z42:List Oper → Kap → Prop
 | [], κ => Fin κ
 | o :: os, κ => ∃ us, (∀ p ∈ us, p.1 ∈ tch ex o) ∧ StepG P St ops ex κ o us ∧ z42 os (zss κ us)
def ParI:List Nat → Kap → Prop
 | [], κ => Fin κ
 | i :: is, κ => ∃ o us, ops[i]? = some o ∧ (∀ p ∈ us, p.1 ∈ tch ex o) ∧ StepG P St ops ex κ o us ∧ ParI is (zss κ us)
end par
theorem StepG.local {P:Program} {St:Kap → Act → World → Prop} {ops:Array Oper} {ex:Exs} {κ κ2:Kap} {o:Oper} {us:List (Nat × Kn)}
  (h:StepG P St ops ex κ o us) (he:∀ t ∈ lks ops ex o, κ2 t = κ t):StepG P St ops ex κ2 o us :=
 fun κ' a u hl hh => h κ' a u (fun t ht => (hl t ht).trans (he t ht)) hh

def zqf (l m:List Nat):Bool:=l.all fun x => !m.contains x
theorem zfk {l m:List Nat} (h:zqf l m = true):∀ x ∈ l, x ∉ m:=fun x hx hm => by
 have:=List.all_eq_true.1 h x hx
 simp at this
 exact this hm
def zjb (ops:Array Oper) (ex:Exs) (x y:Oper):Bool :=
 zqf (tch ex x) (lks ops ex y) && (zqf (tch ex y) (lks ops ex x) && zqf (tch ex x) (tch ex y))

def z3f (ops:Array Oper) (ex:Exs):Bool :=
 let b:=Region.before ops
 (List.range ops.size).all fun i =>
  ((ops.getD i default).after.all fun e => !Region.binds .any e || decide (e.on < i)) &&
  (List.range i).all fun j => (b.getD i 0).testBit j || zjb ops ex (ops.getD j default) (ops.getD i default)

section sound
variable {P:Program} {St:Kap → Act → World → Prop} {ops:Array Oper} {ex:Exs} {Fin:Kap → Prop}

theorem ParI.swap {i j:Nat} {l:List Nat} {κ:Kap} (hap:∀ x y, ops[j]? = some x → ops[i]? = some y → zjb ops ex x y = true)
  (h:ParI P St ops ex Fin (j :: i :: l) κ):ParI P St ops ex Fin (i :: j :: l) κ:=by
 obtain ⟨x, us, hx, hd, sx, y, vs, hy, he, sy, rest⟩:=h
 have hap:=hap x y hx hy
 simp only [zjb, Bool.and_eq_true] at hap
 have h1:=zfk hap.1
 have h2:=zfk hap.2.1
 have h3:=zfk hap.2.2
 refine ⟨y, vs, hy, he, sy.local fun t ht => (zbq us κ t fun p hp e => h1 p.1 (hd p hp) (e ▸ ht)).symm, x, us, hx, hd,
  sx.local fun t ht => zbq vs κ t fun p hp e => h2 p.1 (he p hp) (e ▸ ht), ?_⟩
 rw [zv5 (us:=vs) (vs:=us) (fun p hp q hq e => h3 q.1 (hd q hq) (e ▸ he p hp))]
 exact rest

theorem ParI.front {i:Nat}:∀ (l1:List Nat) {l2:List Nat} {κ:Kap}, (∀ j ∈ l1, ∀ x y, ops[j]? = some x → ops[i]? = some y → zjb ops ex x y = true) →
  ParI P St ops ex Fin (l1 ++ i :: l2) κ → ParI P St ops ex Fin (i :: (l1 ++ l2)) κ
 | [], _, _, _, h => h
 | j :: l1, l2, κ, hap, h => by
  have h':ParI P St ops ex Fin (j :: (l1 ++ i :: l2)) κ:=h
  obtain ⟨x, us, hx, hd, sx, rest⟩:=h'
  have r:=ParI.front l1 (fun m hm => hap m (List.mem_cons_of_mem _ hm)) rest
  exact ParI.swap (l:=l1 ++ l2) (hap j (List.mem_cons_self ..)) ⟨x, us, hx, hd, sx, r⟩

theorem zp5:∀ (m i:Nat) {κ:Kap}, i + m = ops.size → z42 P St ops ex Fin (ops.toList.drop i) κ → ParI P St ops ex Fin (List.range' i m) κ
 | 0, i, κ, hm, h => by
  rw [List.drop_eq_nil_of_le (by simp; omega)] at h
  exact h
 | m + 1, i, κ, hm, h => by
  have hi:i < ops.toList.length:=by simp; omega
  rw [List.drop_eq_getElem_cons hi] at h
  obtain ⟨us, hd, sx, rest⟩:=h
  refine ⟨ops.toList[i], us, ?_, hd, sx, zp5 m (i + 1) (by omega) rest⟩
  have hi':i < ops.size:=by simpa using hi
  rw [Array.getElem?_eq_getElem hi']
  simp

theorem zq0 (f:Array Nat → Oper → Nat):∀ (l:List Oper) (acc:Array Nat),
  (l.foldl (fun acc o => acc.push (f acc o)) acc).size = acc.size + l.length ∧
  ∀ k, k < (l.foldl (fun acc o => acc.push (f acc o)) acc).size → acc.size ≤ k →
   ∃ (o:Oper) (pre:Array Nat), l[k - acc.size]? = some o ∧ pre.size = k ∧ (∀ j, j < k → (l.foldl (fun acc o => acc.push (f acc o)) acc)[j]? = pre[j]?) ∧
    (l.foldl (fun acc o => acc.push (f acc o)) acc)[k]? = some (f pre o)
 | [], acc => ⟨by simp, fun k hk hle => by simp at hk; omega⟩
 | o :: l, acc => by
  have ih:=zq0 f l (acc.push (f acc o))
  simp only [List.foldl_cons]
  refine ⟨by rw [ih.1]; simp; omega, fun k hk hle => ?_⟩
  have stay:∀ (l:List Oper) (acc:Array Nat) (j:Nat), j < acc.size → (l.foldl (fun acc o => acc.push (f acc o)) acc)[j]? = acc[j]?:=by
   intro l
   induction l with
   | nil => intro acc j _; rfl
   | cons o l ih =>
    intro acc j hj
    simp only [List.foldl_cons]
    rw [ih _ j (by simp; omega), Array.getElem?_push_lt hj, Array.getElem?_eq_getElem hj]
  by_cases he:k = acc.size
  ·subst he
   refine ⟨o, acc, by simp, rfl, fun j hj => ?_, ?_⟩
   ·rw [stay _ _ j (by simp; omega), Array.getElem?_push_lt hj, Array.getElem?_eq_getElem hj]
   ·rw [stay _ _ _ (by simp)]; simp
  ·obtain ⟨o', pre, h1, h2, h3, h4⟩:=ih.2 k hk (by simp; omega)
   refine ⟨o', pre, ?_, h2, h3, h4⟩
   rw [← h1]
   have:k - acc.size = (k - (acc.push (f acc o)).size) + 1:=by simp; omega
   rw [this, List.getElem?_cons_succ]

theorem zi0 {acc:Array Nat} {j:Nat}:∀ (es:List Edge) (s:Nat),
  (es.foldl (fun s e => if Region.binds .any e then s ||| 2 ^ e.on ||| acc.getD e.on 0 else s) s).testBit j = true →
   s.testBit j = true ∨ ∃ e ∈ es, Region.binds .any e = true ∧ (e.on = j ∨ (acc.getD e.on 0).testBit j = true)
 | [], s, h => .inl h
 | e :: es, s, h => by
  simp only [List.foldl_cons] at h
  rcases zi0 es _ h with h | ⟨e', he', hb, hh⟩
  ·split at h
   ·rename_i hb
    simp only [Nat.testBit_or, Bool.or_eq_true] at h
    rcases h with (h | h) | h
    ·exact .inl h
    ·refine .inr ⟨e, List.mem_cons_self .., hb, .inl ?_⟩
     rw [Nat.testBit_two_pow] at h
     simpa using h
    ·exact .inr ⟨e, List.mem_cons_self .., hb, .inr h⟩
   ·exact .inl h
  ·exact .inr ⟨e', List.mem_cons_of_mem _ he', hb, hh⟩

theorem zsi {k j:Nat} (hk:k < ops.size) (h:((Region.before ops).getD k 0).testBit j = true) :
  ∃ e ∈ (ops[k]'hk).after, Region.binds .any e = true ∧ (e.on = j ∨ (e.on < k ∧ ((Region.before ops).getD e.on 0).testBit j = true)):=by
 have hg:=zq0 (fun acc o => o.after.foldl (fun s e => if Region.binds .any e then s ||| 2 ^ e.on ||| acc.getD e.on 0 else s) 0) ops.toList #[]
 have hb:Region.before ops = ops.toList.foldl (fun acc o => acc.push (o.after.foldl (fun s e => if Region.binds .any e then s ||| 2 ^ e.on ||| acc.getD e.on 0 else s) 0)) #[]:=by
  unfold Region.before; rw [← Array.foldl_toList]
 rw [hb] at h ⊢
 obtain ⟨o, pre, h1, h2, h3, h4⟩:=hg.2 k (by rw [hg.1]; simpa using hk) (by simp)
 have ho:ops[k] = o:=by
  have:ops[k]? = some o:=by simpa using h1
  rw [Array.getElem?_eq_getElem hk] at this
  exact Option.some.inj this
 rw [ho]
 generalize (ops.toList.foldl (fun acc o => acc.push (o.after.foldl (fun s e => if Region.binds .any e then s ||| 2 ^ e.on ||| acc.getD e.on 0 else s) 0)) #[]) = F at *
 rw [Array.getD_eq_getD_getElem?, h4, Option.getD_some, ← Array.foldl_toList] at h
 rcases zi0 _ _ h with h | ⟨e, he, hbd, hh⟩
 ·simp at h
 ·refine ⟨e, by simpa using he, hbd, ?_⟩
  rcases hh with hh | hh
  ·exact .inl hh
  ·by_cases hlt:e.on < k
   ·exact .inr ⟨hlt, by rw [Array.getD_eq_getD_getElem?, h3 _ hlt, ← Array.getD_eq_getD_getElem?]; exact hh⟩
   ·rw [Array.getD_eq_getD_getElem?, Array.getElem?_eq_none (by omega)] at hh
    simp at hh

def zso (ops:Array Oper) (listed:Array Bool):Prop :=
 ∀ k (hk:k < ops.size), listed.getD k true = true → ∀ e ∈ (ops[k]'hk).after, Region.binds .any e = true → listed.getD e.on false = true

theorem zh3 {listed:Array Bool} (hsz:listed.size = ops.size) (hc:zso ops listed):∀ (k:Nat) (hk:k < ops.size),
  (∀ e ∈ (ops[k]'hk).after, Region.binds .any e = true → listed.getD e.on false = true) → ∀ j, ((Region.before ops).getD k 0).testBit j = true → listed.getD j false = true:=by
 intro k
 induction k using Nat.strongRecOn with
 | _ k ih =>
  intro hk he j hj
  obtain ⟨e, hem, hb, hh⟩:=zsi hk hj
  rcases hh with rfl | ⟨hlt, hh⟩
  ·exact he e hem hb
  ·have hl:=he e hem hb
   have hlk:e.on < ops.size:=by omega
   refine ih e.on hlt hlk (fun e' he' hb' => hc e.on hlk ?_ e' he' hb') j hh
   simp only [Array.getD_eq_getD_getElem?] at hl ⊢
   rw [Array.getElem?_eq_getElem (by omega)] at hl ⊢
   simpa using hl

theorem zj2 {l:Array Bool} {i j:Nat} {x:Bool} (d:Bool) (hi:i < l.size):(l.setIfInBounds i x).getD j d = if i = j then x else l.getD j d:=by
 simp only [Array.getD_eq_getD_getElem?]
 by_cases h:i = j
 ·subst h; simp [hi]
 ·simp [h]

theorem zo2 {r:Option Nat} (hsep:z3f ops ex = true):∀ (fuel:Nat) (listed:Array Bool) (l:List Nat) (κ:Kap) (a:Act) (u:World),
  l.length = fuel → l.Pairwise (· < ·) → listed.size = ops.size → (∀ i, i ∈ l ↔ i < ops.size ∧ listed.getD i true = false) → zso ops listed →
  ParI P St ops ex Fin l κ → St κ a u →
  wpAnyIn (FW r) 0 P .any ops (fun e a' u' => e = .normal ∧ ∃ κ', Fin κ' ∧ St κ' a' u') fuel listed a u:=by
 intro fuel
 induction fuel with
 | zero =>
  intro listed l κ a u hlen _ hsz hmem _ hp hh
  obtain rfl:l = []:=List.eq_nil_of_length_eq_zero hlen
  refine ⟨?_, rfl, κ, hp, hh⟩
  unfold Region.ready
  rw [List.filter_eq_nil_iff]
  intro i hi
  have:=(hmem i).2
  have hi':i < ops.size:=by simpa using hi
  cases hl:listed.getD i true
  ·exact absurd (this ⟨hi', hl⟩) (by simp)
  ·simp
 | succ fuel ih =>
  intro listed l κ a u hlen hsort hsz hmem hcl hp hh
  have hsep':=hsep
  simp only [z3f, List.all_eq_true, Bool.and_eq_true] at hsep'
  have hedge:∀ i (hi:i < ops.size), ∀ e ∈ (ops[i]'hi).after, Region.binds .any e = true → e.on < i:=fun i hi e he hb => by
   have h1:=(hsep' i (by simpa using hi)).1
   rw [Array.getD_eq_getD_getElem?, Array.getElem?_eq_getElem hi, Option.getD_some, Array.all_eq_true'] at h1
   have:=h1 e he
   simp [hb] at this
   exact this
  constructor
  ·intro hr
   exfalso
   cases l with
   | nil => simp at hlen
   | cons i l =>
    obtain ⟨hi, hli⟩:=(hmem i).1 (List.mem_cons_self ..)
    have:i ∈ Region.ready .any ops listed:=by
     refine mem_ready.2 ⟨hli, ops[i], by simp [hi], fun e he hb => ?_⟩
     have hlt:=hedge i hi e he hb
     cases hle:listed.getD e.on true
     ·have hin:=(hmem e.on).2 ⟨by omega, hle⟩
      rcases List.mem_cons.1 hin with h | h
      ·omega
      ·have:=List.rel_of_pairwise_cons hsort h
       omega
     ·rw [Array.getD_eq_getD_getElem?, Array.getElem?_eq_getElem (by omega)] at hle ⊢
      simpa using hle
    rw [hr] at this
    cases this
  ·intro i hi
   obtain ⟨hli, o, ho, hall⟩:=mem_ready.1 hi
   have hisz:i < ops.size:=by
    rcases Nat.lt_or_ge i ops.size with h | h
    ·exact h
    ·rw [Array.getElem?_eq_none h] at ho; cases ho
   have hio:ops[i] = o:=by rw [Array.getElem?_eq_getElem hisz] at ho; exact Option.some.inj ho
   have hil:i ∈ l:=(hmem i).2 ⟨hisz, hli⟩
   obtain ⟨l1, l2, rfl⟩:=List.append_of_mem hil
   have hap:∀ j ∈ l1, ∀ x y, ops[j]? = some x → ops[i]? = some y → zjb ops ex x y = true:=by
    intro j hj x y hx hy
    have hji:j < i:=(List.pairwise_append.1 hsort).2.2 j hj i (List.mem_cons_self ..)
    obtain ⟨hjs, hjl⟩:=(hmem j).1 (List.mem_append_left _ hj)
    have h2:=(hsep' i (by simpa using hisz)).2 j (by simpa using hji)
    rw [Bool.or_eq_true] at h2
    rcases h2 with h2 | h2
    ·exfalso
     have:=zh3 hsz hcl i hisz (fun e he hb => by rw [hio] at he; exact hall e he hb) j h2
     rw [Array.getD_eq_getD_getElem?, Array.getElem?_eq_getElem (by omega)] at this hjl
     simp at this hjl
     rw [this] at hjl; cases hjl
    ·rw [Array.getD_eq_getD_getElem?, Array.getD_eq_getD_getElem?, hx, hy] at h2
     exact h2
   obtain ⟨o', us, ho', hd, sx, rest⟩:=ParI.front l1 hap hp
   obtain rfl:o = o':=by rw [ho] at ho'; exact Option.some.inj ho'
   have hst:=sx κ a u (fun _ _ => rfl) hh
   refine After.wpOpIn ho ?_
   refine After.mono (fun a' u' hh' => ?_) hst
   have hli':i < listed.size:=by omega
   refine ih (listed.setIfInBounds i true) (l1 ++ l2) _ a' u' (by simp at hlen ⊢; omega) ?_ (by simpa using hsz) ?_ ?_ rest hh'
   ·rw [List.pairwise_append] at hsort ⊢
    exact ⟨hsort.1, (List.pairwise_cons.1 hsort.2.1).2, fun x hx y hy => hsort.2.2 x hx y (List.mem_cons_of_mem _ hy)⟩
   ·intro j
    rw [zj2 true hli']
    have hnd:i ∉ l1 ++ l2:=by
     rw [List.pairwise_append] at hsort
     intro hm
     rcases List.mem_append.1 hm with hm | hm
     ·have:=hsort.2.2 i hm i (List.mem_cons_self ..); omega
     ·have:=(List.pairwise_cons.1 hsort.2.1).1 i hm; omega
    by_cases hij:i = j
    ·subst hij; simp [hnd]
    ·rw [if_neg hij, ← hmem j]
     simp only [List.mem_append, List.mem_cons]
     constructor
     ·rintro (h | h); exact .inl h; exact .inr (.inr h)
     ·rintro (h | h | h); exact .inl h; exact absurd h.symm hij; exact .inr h
   ·intro k hk hkl e he hb
    rw [zj2 _ hli'] at hkl ⊢
    by_cases hie:i = e.on
    ·rw [if_pos hie]
    ·rw [if_neg hie]
     by_cases hik:i = k
     ·subst hik; rw [hio] at he; exact hall e he hb
     ·rw [if_neg hik] at hkl; exact hcl k hk hkl e he hb

theorem zp1 {id:Nat} {Q:Exit → Act → World → Prop} {κ:Kap} {a:Act} {u:World} {r:Option Nat} (hm:P.follows .mixedOrders = true) (hs:z3f ops ex = true)
  (hdr:∀ κ a u, St κ a u → St κ a { u with drawn:=u.drawn + 1 }) (hp:z42 P St ops ex Fin ops.toList κ) (hh:St κ a u)
  (hQ:∀ κ' a' u', Fin κ' → St κ' a' u' → Q .normal a' u'):(Code.region id ops true).wpIn (FW r) 0 P Q a u:=by
 refine Go.wpIn_mono (wpIn_region_any hm (zo2 (St:=St) (ex:=ex) (Fin:=Fin) (r:=r) hs ops.size _ (List.range ops.size) κ a _ (by simp) List.pairwise_lt_range (by simp) ?_ ?_ ?_ (hdr _ _ _ hh))) fun e a' u' he => ?_
 ·intro i; simp
  intro hi; simp [hi]
 ·intro k hk hkl; simp [hk] at hkl
 ·have:=zp5 (P:=P) (St:=St) (ops:=ops) (ex:=ex) (Fin:=Fin) ops.size 0 (by simp) (κ:=κ) (by simpa using hp)
  simpa [List.range_eq_range'] using this
 ·obtain ⟨rfl, κ', hf, hh'⟩:=he
  exact hQ κ' a' u' hf hh'
end sound

section usual
variable {P:Program} {F:Fr} {B:Heap} {n:Nat} {ops:Array Oper} {O:Boxes}
theorem HasH.drew {κ:Kap} {a:Act} {u:World} {H:Heap} {fp:Nat → Nat → Prop} (h:HasH F B O n κ a u H fp):HasH F B O n κ a { u with drawn:=u.drawn + 1 } H fp :=
 ⟨h.size, h.defers, h.nodup, h.marks, h.lent, ⟨h.keep.os, h.keep.tape, h.keep.output, h.keep.size, h.keep.block, Nat.le_succ_of_le h.keep.dr⟩, h.sub, h.base, h.fresh, h.boxes, h.apart, fun t k hk => by
  have:=h.slot t k hk
  cases k with
  | is v => exact this
  | sat φ => exact this
  | own r => exact ⟨r.st this.1 (Heap.Le.refl _) h.sub ⟨rfl, rfl, rfl, Nat.le_refl _, Nat.le_succ _⟩ (fun _ _ => rfl), this.2⟩, h.owns, h.mono⟩
theorem Has.drew {κ:Kap} {a:Act} {u:World} (h:Has F B O n κ a u):Has F B O n κ a { u with drawn:=u.drawn + 1 }:=by
 obtain ⟨H, fp, h⟩:=h
 exact ⟨H, fp, h.drew⟩
def StepOK (P:Program) (F:Fr) (B:Heap) (n:Nat) (ops:Array Oper) (O:Boxes) (κ:Kap) (o:Oper) (d:Nat) (k:Kn):Prop :=
 ∀ κ' a u, (∀ t ∈ o.looksAt ops, κ' t = κ t) → Has F B O n κ' a u → After P ops o (fun a' u' => Has F B O n (upd κ' d k) a' u') a u
theorem StepOK.stepG {ex:Exs} {κ:Kap} {o:Oper} {d:Nat} {k:Kn} (h:StepOK P F B n ops O κ o d k):StepG P (Has F B O n) ops ex κ o [(d, k)] :=
 fun κ' a u hl hh => h κ' a u (fun t ht => hl t (List.mem_append_left _ ht)) hh
def Ops (P:Program) (ops:Array Oper) (Q:Act → World → Prop):List Oper → Act → World → Prop
 | [], a, u => Q a u
 | o :: os, a, u => After P ops o (Ops P ops Q os) a u
theorem zen {r:Option Nat} {Q:Act → World → Prop} {Q':Exit → Act → World → Prop} (hQ:∀ a u, Q a u → Q' .normal a u):∀ (m i:Nat) {a:Act} {u:World}, i + m = ops.size → Ops P ops Q (ops.toList.drop i) a u →
  wpOpsIn (FW r) 0 P ops Q' (List.range' i m) a u
 | 0, i, a, u, hm, h => by
  rw [List.drop_eq_nil_of_le (by simp; omega)] at h
  exact hQ _ _ h
 | m + 1, i, a, u, hm, h => by
  have hi:i < ops.toList.length:=by simp; omega
  have hi':i < ops.size:=by simpa using hi
  have ho:ops[i]? = some ops.toList[i]:=by rw [Array.getElem?_eq_getElem hi']; simp
  rw [List.drop_eq_getElem_cons hi] at h
  rw [List.range'_succ, wpOpsIn_cons]
  exact After.wpOpIn ho (After.mono (fun a' u' hh' => zen hQ m (i + 1) (by omega) hh') h)
theorem zkw {id:Nat} {Q:Exit → Act → World → Prop} {a:Act} {u:World} {r:Option Nat} (h:Ops P ops (fun a u => Q .normal a u) ops.toList a u):(Code.region id ops false).wpIn (FW r) 0 P Q a u :=
 wpIn_region (by rw [List.range_eq_range']; exact zen (fun _ _ h => h) ops.size 0 (by simp) (by simpa using h))
end usual
end Go.V
set_option maxRecDepth 20000
namespace Go.V
open Go.RowKit

def ldI (P:Program) (t:TypeId):Option (Bool × Nat) :=
 match P.underlying t, P.info? t with
 | some d, some i => some (match d with | .struct _ | .array _ _ => true | _ => false, i.size)
 | _, _ => none
def slI (P:Program) (t:TypeId):Option Nat:=match P.underlying t with | some (.slice e) => some e | _ => none
def stI (P:Program) (t:TypeId):Option Unit:=match P.underlying t with | some .string => some () | _ => none
def foI (P:Program) (p:Nat × Nat):Option Nat :=
 match P.underlying p.1 with
 | some (.struct fs) => match fs[p.2]? with
  | some f => match P.info? f.type with
   | some i => if i.size = 0 then none else some f.offset
   | none => none
  | none => none
 | _ => none
def zrI (P:Program) (t:TypeId):Option Value:=match P.info? t with | some i => i.zero | none => none
def zqi {β:Type} (t:Nat):List (Nat × β) → Option β
 | [] => none
 | (s, r) :: l => bif Nat.beq t s then some r else zqi t l
def zts {β:Type} (t i:Nat):List ((Nat × Nat) × β) → Option β
 | [] => none
 | ((s, j), r) :: l => bif Nat.beq t s && Nat.beq i j then some r else zts t i l
structure Tabs (P:Program) where
 ldT:List (Nat × (Bool × Nat))
 slT:List (Nat × Nat)
 stT:List (Nat × Unit)
 foT:List ((Nat × Nat) × Nat)
 zrT:List (Nat × Value)
 fnT:List (Nat × Unit)
 ld_ok:ldT.all (fun p => ldI P p.1 == some p.2) = true
 sl_ok:slT.all (fun p => slI P p.1 == some p.2) = true
 st_ok:stT.all (fun p => stI P p.1 == some p.2) = true
 fo_ok:foT.all (fun p => foI P p.1 == some p.2) = true
 zr_ok:zrT.map (fun p => zrI P p.1) = zrT.map (fun p => some p.2)
 fn_ok : fnT.all (fun p => match P.funcs[p.1]? with | some fn => fn.body.isSome && fn.name != "runtime.NumGoroutine" | none => false) = true
theorem ze7 {β:Type} {t:Nat} {r:β}:∀ {l:List (Nat × β)}, zqi t l = some r → (t, r) ∈ l
 | [], h => by cases h
 | (s, r') :: l, h => by
  unfold zqi at h
  cases hb:Nat.beq t s with
  | true => rw [hb] at h; obtain rfl:=Nat.eq_of_beq_eq_true hb; simp at h; subst h; exact List.mem_cons_self ..
  | false => rw [hb] at h; exact List.mem_cons_of_mem _ (ze7 h)
theorem zmt {β:Type} {t i:Nat} {r:β}:∀ {l:List ((Nat × Nat) × β)}, zts t i l = some r → ((t, i), r) ∈ l
 | [], h => by cases h
 | ((s, j), r') :: l, h => by
  unfold zts at h
  cases hb:Nat.beq t s && Nat.beq i j with
  | true =>
   rw [hb] at h
   rw [Bool.and_eq_true] at hb
   obtain rfl:=Nat.eq_of_beq_eq_true hb.1
   obtain rfl:=Nat.eq_of_beq_eq_true hb.2
   simp at h; subst h; exact List.mem_cons_self ..
  | false => rw [hb] at h; exact List.mem_cons_of_mem _ (zmt h)
section tabs
variable {P:Program} (L:Tabs P)
def Tabs.ld (t:Nat):Option (Bool × Nat):=zqi t L.ldT
def Tabs.sl (t:Nat):Option Nat:=zqi t L.slT
def Tabs.st (t:Nat):Option Unit:=zqi t L.stT
def Tabs.fo (t i:Nat):Option Nat:=zts t i L.foT
def Tabs.zr (t:Nat):Option Value:=zqi t L.zrT
def Tabs.fn (t:Nat):Option Unit:=zqi t L.fnT
variable {L}
theorem Tabs.ld_spec {t:Nat} {r:Bool × Nat} (h:L.ld t = some r):ldI P t = some r:=by
 simpa using List.all_eq_true.1 L.ld_ok _ (ze7 h)
theorem Tabs.sl_spec {t e:Nat} (h:L.sl t = some e):P.underlying t = some (.slice e):=by
 have:=List.all_eq_true.1 L.sl_ok _ (ze7 h)
 simp only [beq_iff_eq, slI] at this
 split at this
 ·rename_i e' he; rw [he]; cases this; rfl
 ·cases this
theorem Tabs.st_spec {t:Nat} {x:Unit} (h:L.st t = some x):P.underlying t = some .string:=by
 have:=List.all_eq_true.1 L.st_ok _ (ze7 h)
 simp only [beq_iff_eq, stI] at this
 split at this
 ·assumption
 ·cases this
theorem Tabs.fo_spec {t i off:Nat} (h:L.fo t i = some off):∃ fs f j, P.underlying t = some (.struct fs) ∧ fs[i]? = some f ∧ P.info? f.type = some j ∧ j.size ≠ 0 ∧ f.offset = off:=by
 have:=List.all_eq_true.1 L.fo_ok _ (zmt h)
 simp only [beq_iff_eq, foI] at this
 split at this
 ·rename_i fs hfs
  split at this
  ·rename_i f hf
   split at this
   ·rename_i j hj
    split at this
    ·cases this
    ·rename_i hz; exact ⟨fs, f, j, hfs, hf, hj, hz, by simpa using this⟩
   ·cases this
  ·cases this
 ·cases this
theorem Tabs.zr_spec {t:Nat} {z:Value} (h:L.zr t = some z):zrI P t = some z:=List.map_inj_left.1 L.zr_ok _ (ze7 h)
theorem Tabs.fn_spec {t : Nat} {x : Unit} (h : L.fn t = some x) : ∃ fn, P.funcs[t]? = some fn ∧ fn.body.isSome = true ∧ (fn.name == "runtime.NumGoroutine") = false := by
 have:=List.all_eq_true.1 L.fn_ok _ (ze7 h)
 simp only at this
 split at this
 ·rename_i fn hf; simp only [Bool.and_eq_true] at this; exact ⟨fn, hf, this.1, by simpa using this.2⟩
 ·cases this
end tabs

def evK (κ:Kap):Operand → Option Value
 | .const v => some v
 | .func f => some (.func (.func f) #[] #[])
 | .global g => some (.pointer (some ⟨g, 0, none⟩))
 | .tmp t => match κ t with
  | some (.is v) => some v
  | _ => none
def zzk (κ:Kap):List Operand → Option (List Value)
 | [] => some []
 | x :: xs => match evK κ x, zzk κ xs with
  | some v, some vs => some (v :: vs)
  | _, _ => none
def gK (ops:Array Oper) (κ:Kap) (o:Oper):Option Bool :=
 match o.guard with
 | none => some true
 | some (j, want) => match (ops[j]?).bind (·.dst) with
  | none => none
  | some t => match κ t with
   | some (.is (.bool b)) => some (b == want)
   | some (.is (.tuple _)) => some false
   | _ => none


section
variable {P:Program} {F:Fr} {B:Heap} {O:Boxes} {n:Nat} {ops:Array Oper} {κ κ':Kap} {o:Oper} {a:Act} {u:World} {H:Heap} {fp:Nat → Nat → Prop}

structure Env (F:Fr) (B:Heap) (O:Boxes) (κ:Kap) (o:Oper) (a:Act) (u:World) (H:Heap) (fp:Nat → Nat → Prop):Prop where
 is_:∀ x v, x ∈ o.op.operands → evK κ x = some v → a.eval x = v
 sat_:∀ t φ, .tmp t ∈ o.op.operands → κ t = some (.sat φ) → φ (a.eval (.tmp t)) H
 own_:∀ t r, .tmp t ∈ o.op.operands → κ t = some (.own r) → r.P (a.eval (.tmp t)) H u (fp t) ∧ z8p F O u H (fp t)
 sub:H.Le (hp u)
 base:B.Le H
 boxes:∀ y ∈ O, u.heap[y.1]? = some y.2 ∧ H y.1 = none ∧ (F.w0.heap.size ≤ y.1 ∨ F.L y.1)
 keep:Keep F.L F.w0 u

theorem zd5 {t:Nat} (h:Operand.tmp t ∈ o.op.operands):t ∈ o.looksAt ops :=
 List.mem_append_left _ (List.mem_filterMap.2 ⟨.tmp t, by simpa using h, rfl⟩)

theorem HasH.env (h:HasH F B O n κ' a u H fp) (hl:∀ t ∈ o.looksAt ops, κ' t = κ t):Env F B O κ o a u H fp:={
 is_:=fun x v hx hv => by
  cases x with
  | tmp t =>
   simp only [evK] at hv
   split at hv
   ·rename_i v' hk
    cases hv
    exact h.slot t _ ((hl t (zd5 hx)).trans hk)
   ·cases hv
  | const c => simp only [evK] at hv; cases hv; rfl
  | global g => simp only [evK] at hv; cases hv; rfl
  | func f => simp only [evK] at hv; cases hv; rfl
 sat_:=fun t φ hx hk => h.slot t _ ((hl t (zd5 hx)).trans hk)
 own_:=fun t r hx hk => h.slot t _ ((hl t (zd5 hx)).trans hk)
 sub:=h.sub
 base:=h.base
 boxes:=h.boxes
 keep:=h.keep }

theorem zpd {t:Nat} {v:Value} (h:a.eval (.tmp t) = v) (hv:v ≠ undef):a.tmps[t]? = some v:=by
 simp only [Act.eval, Array.getD_eq_getD_getElem?] at h
 cases hx:a.tmps[t]? with
 | none => rw [hx] at h; exact absurd h.symm hv
 | some y => rw [hx] at h; exact congrArg some h

theorem zae {b:Bool} (h:HasH F B O n κ' a u H fp) (hl:∀ t ∈ o.looksAt ops, κ' t = κ t) (hg:gK ops κ o = some b) :
  Region.wanted o (yielded ops a.tmps) = b:=by
 unfold gK at hg
 unfold Region.wanted
 cases hgd:o.guard with
 | none => rw [hgd] at hg; simpa using hg
 | some gw =>
  obtain ⟨j, want⟩:=gw
  rw [hgd] at hg
  simp only at hg ⊢
  cases ht:(ops[j]?).bind (·.dst) with
  | none => rw [ht] at hg; cases hg
  | some t =>
   rw [ht] at hg
   simp only at hg
   have hlt:t ∈ o.looksAt ops:=List.mem_append_right _ (by rw [hgd]; simp [ht])
   split at hg
   ·rename_i b' hk
    have hy:=zpd (h.slot t _ ((hl t hlt).trans hk)) (by simp [undef])
    have:yielded ops a.tmps j = some b':=by simp [yielded, ht, hy]
    rw [this]
    cases hg
    cases b' <;> cases want <;> rfl
   ·rename_i vs hk
    have hy:a.eval (.tmp t) = .tuple vs:=h.slot t _ ((hl t hlt).trans hk)
    have:yielded ops a.tmps j = none:=by
     simp only [yielded, ht, Option.bind_some]
     simp only [Act.eval, Array.getD_eq_getD_getElem?] at hy
     cases hx:a.tmps[t]? with
     | none => simp
     | some y => rw [hx] at hy; simp at hy; subst hy; simp
    rw [this]
    cases hg
    rfl
   ·cases hg

def Kn.plain:Kn → Value → Heap → Prop
 | .is v, x, _ => x = v
 | .sat φ, x, H => φ x H
 | .own _, _, _ => False

theorem Heap.Le.size {H:Heap} {u:World} {b:Nat} {x:Obj} (h:H.Le (hp u)) (hb:H b = some x):b < u.heap.size:=by
 have:=h b x hb
 unfold hp at this
 rcases Nat.lt_or_ge b u.heap.size with h | h
 ·exact h
 ·rw [Array.getElem?_eq_none h] at this; cases this
theorem zaa {u:World} {b:Nat} {x:Obj} (h:u.heap[b]? = some x):b < u.heap.size:=by
 rcases Nat.lt_or_ge b u.heap.size with h' | h'
 ·exact h'
 ·rw [Array.getElem?_eq_none h'] at h; cases h
theorem za8 (h:H.Le (hp u)) {k:Nat} (hk:u.heap.size ≤ k):H k = none:=by
 cases hx:H k with
 | none => rfl
 | some x => have:=h.size hx; omega

theorem HasH.growL {L:Nat → Prop} {u':World} {H':Heap} (h:HasH F B O n κ a u H fp) (g:Grow L u H u' H') (hL:∀ k, L k → k < u.heap.size → (F.w0.heap.size ≤ k ∨ F.L k) ∧ ∀ y ∈ O, y.1 ≠ k)
  (hS:∀ t r, κ t = some (.own r) → ∀ k, fp t k → ¬ L k):HasH F B O n κ a u' H' fp:={
 size:=h.size
 defers:=h.defers
 nodup:=h.nodup
 marks:=h.marks
 lent:=h.lent
 keep:=h.keep.trans g.keep fun k hk hl => by
  have hks:=Nat.lt_of_lt_of_le hk h.keep.size
  rcases (hL k hl hks).1 with h | h
  ·omega
  ·exact h
 sub:=g.sub
 base:=h.base.trans g.le
 fresh:=fun k hk hl => by
  have hks:=Nat.lt_of_lt_of_le hk h.keep.size
  refine (g.fresh k hks fun hl' => ?_).trans (h.fresh k hk hl)
  rcases (hL k hl' hks).1 with h | h
  ·omega
  ·exact hl h
 boxes:=fun y hy => by
  obtain ⟨h1, h2, h3⟩:=h.boxes y hy
  have hs:=zaa h1
  have hn:¬ L y.1:=fun hl => (hL y.1 hl hs).2 y hy rfl
  exact ⟨(g.keep.block _ hs hn).trans h1, (g.fresh _ hs hn).trans h2, h3⟩
 apart:=h.apart
 slot:=fun t k hk => by
  have hh:=h.slot t k hk
  cases k with
  | is x => exact hh
  | sat φ => exact h.mono t _ hk _ H H' hh g.le
  | own r =>
   obtain ⟨h1, h2⟩:=hh
   have hn:=hS t r hk
   refine ⟨r.st h1 g.le g.sub g.keep.on fun k hk => g.keep.block _ (h2 k hk).1 (hn k hk), fun k hk => ?_⟩
   obtain ⟨g1, g2, g3, g4⟩:=h2 k hk
   exact ⟨Nat.lt_of_lt_of_le g1 g.keep.size, (g.fresh _ g1 (hn k hk)).trans g2, g3, g4⟩
 owns:=h.owns
 mono:=h.mono }
theorem HasH.grow {u':World} {H':Heap} (h:HasH F B O n κ a u H fp) (g:Grow noL u H u' H'):HasH F B O n κ a u' H' fp :=
 h.growL g (fun _ hl => hl.elim) (fun _ _ _ _ _ hl => hl)

theorem HasH.sub_kap {κ2:Kap} (h:HasH F B O n κ a u H fp) (hs:∀ t k, κ2 t = some k → κ t = some k):HasH F B O n κ2 a u H fp :=
 ⟨h.size, h.defers, h.nodup, h.marks, h.lent, h.keep, h.sub, h.base, h.fresh, h.boxes, h.apart, fun t k hk => h.slot t k (hs t k hk), fun s t r r' hst h1 h2 => h.owns s t r r' hst (hs _ _ h1) (hs _ _ h2), fun t k hk => h.mono t k (hs t k hk)⟩

theorem zat {d:Nat} {v:Value} (hd:d < a.tmps.size):(a.put (some d) v).eval (.tmp d) = v:=by
 simp [Act.eval, Act.put, hd]
theorem zap {d t:Nat} {v:Value} (h:t ≠ d):(a.put (some d) v).eval (.tmp t) = a.eval (.tmp t):=by
 simp only [Act.eval, Act.put, Array.getD_eq_getD_getElem?]
 rw [Array.getElem?_setIfInBounds_ne (Ne.symm h)]

theorem HasH.put {d:Nat} {k:Kn} {v:Value} (h:HasH F B O n κ a u H fp) (hd:d < n) (hm:k.mono) (hk:k.plain v H) :
  HasH F B O n (upd κ d k) (a.put (some d) v) u H fp:={
 size:=by simp [Act.put, h.size]
 defers:=h.defers
 nodup:=h.nodup
 marks:=h.marks
 lent:=h.lent
 keep:=h.keep
 sub:=h.sub
 base:=h.base
 fresh:=h.fresh
 boxes:=h.boxes
 apart:=h.apart
 slot:=fun t k' hk' => by
  by_cases ht:t = d
  ·subst ht
   rw [zah] at hk'
   cases hk'
   rw [zat (by rw [h.size]; exact hd)]
   cases k with
   | is x => exact hk
   | sat φ => exact hk
   | own r => exact hk.elim
  ·rw [zab _ _ ht] at hk'
   rw [zap ht]
   exact h.slot t k' hk'
 owns:=fun s t r r' hst hs ht => by
  have key:∀ x r, upd κ d k x = some (.own r) → κ x = some (.own r):=fun x r hx => by
   by_cases hxd:x = d
   ·subst hxd; rw [zah] at hx; cases hx; exact hk.elim
   ·rw [zab _ _ hxd] at hx; exact hx
  exact h.owns s t r r' hst (key _ _ hs) (key _ _ ht)
 mono:=fun t φ hk' => by
  by_cases ht:t = d
  ·subst ht; rw [zah] at hk'; cases hk'; exact hm
  ·rw [zab _ _ ht] at hk'; exact h.mono t φ hk' }

def fpu (fp:Nat → Nat → Prop) (d:Nat) (C:Nat → Prop):Nat → Nat → Prop:=fun s => if s = d then C else fp s
theorem zhu (fp:Nat → Nat → Prop) (d:Nat) (C:Nat → Prop):fpu fp d C d = C:=if_pos rfl
theorem zfa (fp:Nat → Nat → Prop) {s d:Nat} (C:Nat → Prop) (h:s ≠ d):fpu fp d C s = fp s:=if_neg h
theorem HasH.putR {d:Nat} {r:Res} {C:Nat → Prop} {a':Act} (h:HasH F B O n κ a u H fp) (hsz:a'.tmps.size = a.tmps.size) (hdf:a'.defers = a.defers) (hev:∀ t, t ≠ d → a'.eval (.tmp t) = a.eval (.tmp t))
  (hr:r.P (a'.eval (.tmp d)) H u C) (hM:z8p F O u H C) (hap:∀ t r', t ≠ d → κ t = some (.own r') → ∀ k, fp t k → ¬ C k):HasH F B O n (upd κ d (.own r)) a' u H (fpu fp d C):={
 size:=hsz.trans h.size
 defers:=hdf.trans h.defers
 nodup:=h.nodup
 marks:=h.marks
 lent:=h.lent
 keep:=h.keep
 sub:=h.sub
 base:=h.base
 fresh:=h.fresh
 boxes:=h.boxes
 apart:=h.apart
 slot:=fun t k' hk' => by
  by_cases ht:t = d
  ·subst ht
   rw [zah] at hk'
   cases hk'
   rw [zhu]
   exact ⟨hr, hM⟩
  ·rw [zab _ _ ht] at hk'
   rw [hev t ht, zfa _ _ ht]
   exact h.slot t k' hk'
 owns:=fun s t r1 r2 hst hs ht => by
  by_cases hsd:s = d
  ·subst hsd
   rw [zhu, zfa _ _ (Ne.symm hst)]
   rw [zab _ _ (Ne.symm hst)] at ht
   exact fun k hc hf => hap t r2 (Ne.symm hst) ht k hf hc
  ·rw [zab _ _ hsd] at hs
   rw [zfa _ _ hsd]
   by_cases htd:t = d
   ·subst htd; rw [zhu]; exact hap s r1 hsd hs
   ·rw [zab _ _ htd] at ht
    rw [zfa _ _ htd]
    exact h.owns s t r1 r2 hst hs ht
 mono:=fun t φ hk' => by
  by_cases ht:t = d
  ·subst ht; rw [zah] at hk'; cases hk'; trivial
  ·rw [zab _ _ ht] at hk'; exact h.mono t φ hk' }

theorem zxl {d:Nat} {k:Kn} (hd:o.dst = some d) (hn:d < n) (hg:gK ops κ o = some true) (hm:k.mono)
  (h:∀ a u H fp, Env F B O κ o a u H fp → ∃ v u' H', (execOp a.eval o).run P u = .ok (.value v) u' ∧ Grow noL u H u' H' ∧ k.plain v H') :
  StepOK P F B n ops O κ o d k:=by
 rintro κ' a u hl ⟨H, fp, hh⟩
 unfold After
 rw [if_pos (zae hh hl hg)]
 obtain ⟨v, u', H', hr, g, hk⟩:=h a u H fp (hh.env hl)
 rw [hr]
 simp only [Upon]
 rw [hd]
 exact ⟨H', fp, (hh.grow g).put hn hm hk⟩

theorem zan {d:Nat} {k:Kn} (hd:o.dst = some d) (hn:d < n) (hg:gK ops κ o = some true) (hm:k.mono)
  (h:∀ a u H fp, Env F B O κ o a u H fp → ∃ v, (execOp a.eval o).run P u = .ok (.value v) u ∧ k.plain v H) :
  StepOK P F B n ops O κ o d k :=
 zxl hd hn hg hm fun a u H fp e => let ⟨v, hr, hk⟩:=h a u H fp e; ⟨v, u, H, hr, Grow.refl e.sub, hk⟩

theorem zw {d:Nat} (hd:o.dst = some d) (hn:d < n) (hg:gK ops κ o = some false):StepOK P F B n ops O κ o d (.is undef):=by
 rintro κ' a u hl ⟨H, fp, hh⟩
 unfold After
 have:=zae hh hl hg
 rw [if_neg (by rw [this]; decide), hd]
 exact ⟨H, fp, hh.put hn trivial rfl⟩

def zff (w:World) (B:Heap) (L:Nat → Prop) (φ:Value → Heap → World → Prop) (e:Ending) (u:World):Prop :=
 ∃ v, e = .returned v ∧ ∃ H, Grow L w B u H ∧ φ v H u
def RetL (P:Program) (f:FuncId) (args:List Value) (w:World) (B:Heap) (L:Nat → Prop) (φ:Value → Heap → World → Prop):Prop :=
 Calls P f args.toArray w (zff w B L φ)
abbrev z87 (w:World) (B:Heap) (φ:Value → Heap → Prop):Ending → World → Prop:=zff w B noL fun v H _ => φ v H
def Ret (P:Program) (f:FuncId) (args:List Value) (w:World) (B:Heap) (φ:Value → Heap → Prop):Prop :=
 Calls P f args.toArray w (z87 w B φ)
theorem RetL.mono {f:FuncId} {args:List Value} {w:World} {L:Nat → Prop} {φ ψ:Value → Heap → World → Prop} (h:RetL P f args w B L φ) (hi:∀ v H u, Grow L w B u H → φ v H u → ψ v H u):RetL P f args w B L ψ :=
 Calls.mono h fun _ _ ⟨v, he, H, g, hp⟩ => ⟨v, he, H, g, hi v H _ g hp⟩
theorem Ret.mono {f:FuncId} {args:List Value} {w:World} {φ ψ:Value → Heap → Prop} (h:Ret P f args w B φ) (hi:∀ v H, B.Le H → φ v H → ψ v H):Ret P f args w B ψ :=
 Calls.mono h fun _ _ ⟨v, he, H, g, hp⟩ => ⟨v, he, H, g, hi v H g.le hp⟩

def Args (κ:Kap) (H:Heap):List Operand → List Value → (List Value → Prop) → Prop
 | [], acc, K => K acc.reverse
 | x :: xs, acc, K => match x with
  | .tmp t => match κ t with
   | some (.is v) => Args κ H xs (v :: acc) K
   | some (.sat φ) => ∀ v, φ v H → Args κ H xs (v :: acc) K
   | _ => False
  | .const v => Args κ H xs (v :: acc) K
  | .global g => Args κ H xs (.pointer (some ⟨g, 0, none⟩) :: acc) K
  | .func f => Args κ H xs (.func (.func f) #[] #[] :: acc) K

theorem Args.use (e:Env F B O κ o a u H fp) {K:List Value → Prop}:∀ (xs:List Operand) (acc:List Value), (∀ x ∈ xs, x ∈ o.op.operands) → Args κ H xs acc K → K (acc.reverse ++ xs.map a.eval)
 | [], acc, _, h => by simpa [Args] using h
 | x :: xs, acc, hx, h => by
  have step:∀ v, a.eval x = v → Args κ H xs (v :: acc) K → K (acc.reverse ++ (x :: xs).map a.eval):=fun v hv hr => by
   have:=Args.use e xs (v :: acc) (fun y hy => hx y (List.mem_cons_of_mem _ hy)) hr
   simpa [hv] using this
  have hxo:=hx x (List.mem_cons_self ..)
  cases x with
  | tmp t =>
   simp only [Args] at h
   split at h
   ·rename_i v hk; exact step v (e.is_ (.tmp t) v hxo (by simp [evK, hk])) h
   ·rename_i φ hk; exact step _ rfl (h _ (e.sat_ t φ hxo hk))
   ·exact h.elim
  | const v => exact step v rfl h
  | global g => exact step _ rfl h
  | func f => exact step _ rfl h

theorem zdu (L:Tabs P) {f:Nat} {xs:Array Value} {w:World} (h:L.fn f = some ()):(callFunc f xs).run P w = .ok (.enter f xs) w:=by
 obtain ⟨fn, hf, hb, hn⟩:=Tabs.fn_spec h
 have hb':fn.body ≠ none:=by intro hx; simp [hx] at hb
 have hn' : fn.name ≠ "runtime.NumGoroutine" := by simpa using hn
 simp [callFunc, hf, hn', hb']


theorem zdp {f:Nat} (L:Tabs P) {args:Array Operand} {at_:Array TypeId} {cap:List Value} {fo:Operand} (hop:o.op = .call { callee:=.value fo, args:=args, argTypes:=at_ }) (hfe:a.eval fo = .func (.func f) #[] cap.toArray) (hfn:L.fn f = some ()) :
  (execOp a.eval o).run P u = .ok (.enter f ((args.toList.map a.eval ++ cap).toArray)) u:=by
 simp only [execOp, hop, resolve, hfe, Deferred.ofValue, Sem.run_bind, Sem.run_pure, Result.andThen_ok, invoke]
 rw [zdu L hfn]
 simp
theorem yk (L:Tabs P) {d f:Nat} {args:Array Operand} {at_:Array TypeId} {cap:List Value} {φ:Value → Heap → Prop} {fo:Operand}
  (hop:o.op = .call { callee:=.value fo, args:=args, argTypes:=at_ }) (hd:o.dst = some d) (hn:d < n) (hg:gK ops κ o = some true)
  (hf:evK κ fo = some (.func (.func f) #[] cap.toArray)) (hfn:L.fn f = some ()) (hm:Kn.mono (.sat φ))
  (h:∀ u H, H.Le (hp u) → B.Le H → Below F.w0.heap.size F.w0 F.w0 → Args κ H args.toList [] (fun vs => Ret P f (vs ++ cap) u H φ)) :
  StepOK P F B n ops O κ o d (.sat φ):=by
 rintro κ' a u hl ⟨H, fp, hh⟩
 unfold After
 rw [if_pos (zae hh hl hg)]
 have e:=hh.env hl
 have hfe:a.eval fo = .func (.func f) #[] cap.toArray:=e.is_ fo _ (by simp [hop, Op.operands, Call.operands]) hf
 have hc:=Args.use e args.toList [] (fun x hx => by simp [hop, Op.operands, Call.operands] at hx ⊢; exact .inr hx) (h u H e.sub e.base (Below.refl _ _))
 simp only [List.reverse_nil, List.nil_append] at hc
 rw [zdp L hop hfe hfn]
 simp only [Upon]
 refine Calls.mono hc fun e' u' hp => ?_
 obtain ⟨v, rfl, H', g, hv⟩:=hp
 refine ⟨v, rfl, ?_⟩
 simp only [hd]
 exact ⟨H', fp, (hh.grow g).put hn hm hv⟩

theorem q0 (L:Tabs P) {d f:Nat} {args:Array Operand} {at_:Array TypeId} {cap:List Value} {r:Value} {fo:Operand}
  (hop:o.op = .call { callee:=.value fo, args:=args, argTypes:=at_ }) (hd:o.dst = some d) (hn:d < n) (hg:gK ops κ o = some true)
  (hf:evK κ fo = some (.func (.func f) #[] cap.toArray)) (hfn:L.fn f = some ())
  (h:∀ u H, H.Le (hp u) → B.Le H → Below F.w0.heap.size F.w0 F.w0 → Args κ H args.toList [] (fun vs => Ret P f (vs ++ cap) u H (fun v _ => v = r))) :
  StepOK P F B n ops O κ o d (.is r):=by
 rintro κ' a u hl ⟨H, fp, hh⟩
 unfold After
 rw [if_pos (zae hh hl hg)]
 have e:=hh.env hl
 have hfe:a.eval fo = .func (.func f) #[] cap.toArray:=e.is_ fo _ (by simp [hop, Op.operands, Call.operands]) hf
 have hc:=Args.use e args.toList [] (fun x hx => by simp [hop, Op.operands, Call.operands] at hx ⊢; exact .inr hx) (h u H e.sub e.base (Below.refl _ _))
 simp only [List.reverse_nil, List.nil_append] at hc
 rw [zdp L hop hfe hfn]
 simp only [Upon]
 refine Calls.mono hc fun e' u' hp => ?_
 obtain ⟨v, rfl, H', g, hv⟩:=hp
 refine ⟨v, rfl, ?_⟩
 simp only [hd]
 exact ⟨H', fp, (hh.grow g).put (k:=.is r) hn trivial hv⟩
end
end Go.V
set_option maxRecDepth 20000
namespace Go.V
open Go.RowKit

theorem zn {a b:Nat} (h:Nat.blt a b = true):a < b:=by simpa using h
section ops
variable {P:Program} {F:Fr} {B:Heap} {O:Boxes} {n:Nat} {ops:Array Oper} {κ:Kap} {d:Nat} {ty:TypeId} {pos:String} {aft:Array Edge} {g:Option (Nat × Bool)}

theorem zh {x:Operand} {v:Value} (hn:Nat.blt d n = true) (hg:gK ops κ ⟨some d, .move x, ty, pos, aft, g⟩ = some true) (hx:evK κ x = some v) :
  StepOK P F B n ops O κ ⟨some d, .move x, ty, pos, aft, g⟩ d (.is v) :=
 zan rfl (zn hn) hg trivial fun a u H fp e => ⟨v, by simp [execOp, e.is_ x v (by simp [Op.operands]) hx], rfl⟩
theorem zi {x:Operand} {v:Value} (hn:Nat.blt d n = true) (hg:gK ops κ ⟨some d, .assign x, ty, pos, aft, g⟩ = some true) (hx:evK κ x = some v) :
  StepOK P F B n ops O κ ⟨some d, .assign x, ty, pos, aft, g⟩ d (.is v) :=
 zan rfl (zn hn) hg trivial fun a u H fp e => ⟨v, by simp [execOp, e.is_ x v (by simp [Op.operands]) hx], rfl⟩
theorem qb {c x y:Operand} {b:Bool} {v:Value} (hn:Nat.blt d n = true) (hg:gK ops κ ⟨some d, .pick c x y, ty, pos, aft, g⟩ = some true) (hc:evK κ c = some (.bool b))
  (hx:evK κ (bif b then x else y) = some v):StepOK P F B n ops O κ ⟨some d, .pick c x y, ty, pos, aft, g⟩ d (.is v) :=
 zan rfl (zn hn) hg trivial fun a u H fp e => ⟨v, by
  have h1:=e.is_ c _ (by simp [Op.operands]) hc
  cases b with
  | true => have h2:=e.is_ x v (by simp [Op.operands]) hx; simp [execOp, h1, h2, asBool]
  | false => have h2:=e.is_ y v (by simp [Op.operands]) hx; simp [execOp, h1, h2, asBool], rfl⟩

theorem zb4 {op:BinOp} {t t':TypeId} {x y:Operand} {p q v:Value} (hn:Nat.blt d n = true) (hg:gK ops κ ⟨some d, .binOp op t x y t', ty, pos, aft, g⟩ = some true)
  (hx:evK κ x = some p) (hy:evK κ y = some q) (hr:∀ u, (do eqGuard op t x y p q; binOp op t p q:Sem Value).run P u = .ok v u) :
  StepOK P F B n ops O κ ⟨some d, .binOp op t x y t', ty, pos, aft, g⟩ d (.is v) :=
 zan rfl (zn hn) hg trivial fun a u H fp e => ⟨v, by
  have h1:=e.is_ x p (by simp [Op.operands]) hx
  have h2:=e.is_ y q (by simp [Op.operands]) hy
  have h3:=hr u
  simp only [execOp, h1, h2, Sem.run_bind] at h3 ⊢
  rw [h3]; rfl, rfl⟩
section bins
variable {t t':TypeId} {x y:Operand} {k:IntKind} {p q:Int}
theorem qo {b:Bool} (hn:Nat.blt d n = true) (hg:gK ops κ ⟨some d, .binOp .lss t x y t', ty, pos, aft, g⟩ = some true) (hx:evK κ x = some (.int k p)) (hy:evK κ y = some (.int k q)) (hb:decide (p < q) = b) :
  StepOK P F B n ops O κ ⟨some d, .binOp .lss t x y t', ty, pos, aft, g⟩ d (.is (.bool b)):=zb4 hn hg hx hy fun u => by subst hb; simp [eqGuard_lss, binOp_lss]
theorem zqc {b:Bool} (hn:Nat.blt d n = true) (hg:gK ops κ ⟨some d, .binOp .leq t x y t', ty, pos, aft, g⟩ = some true) (hx:evK κ x = some (.int k p)) (hy:evK κ y = some (.int k q)) (hb:decide (p ≤ q) = b) :
  StepOK P F B n ops O κ ⟨some d, .binOp .leq t x y t', ty, pos, aft, g⟩ d (.is (.bool b)):=zb4 hn hg hx hy fun u => by subst hb; simp [eqGuard_leq, binOp_leq]
theorem yi {b:Bool} (hn:Nat.blt d n = true) (hg:gK ops κ ⟨some d, .binOp .gtr t x y t', ty, pos, aft, g⟩ = some true) (hx:evK κ x = some (.int k p)) (hy:evK κ y = some (.int k q)) (hb:decide (p > q) = b) :
  StepOK P F B n ops O κ ⟨some d, .binOp .gtr t x y t', ty, pos, aft, g⟩ d (.is (.bool b)):=zb4 hn hg hx hy fun u => by subst hb; simp [eqGuard_gtr, binOp_gtr]
theorem zth {b:Bool} (hn:Nat.blt d n = true) (hg:gK ops κ ⟨some d, .binOp .geq t x y t', ty, pos, aft, g⟩ = some true) (hx:evK κ x = some (.int k p)) (hy:evK κ y = some (.int k q)) (hb:decide (p ≥ q) = b) :
  StepOK P F B n ops O κ ⟨some d, .binOp .geq t x y t', ty, pos, aft, g⟩ d (.is (.bool b)):=zb4 hn hg hx hy fun u => by subst hb; simp [eqGuard_geq, binOp_geq]
theorem ye {b:Bool} (hn:Nat.blt d n = true) (hg:gK ops κ ⟨some d, .binOp .eql t x y t', ty, pos, aft, g⟩ = some true) (hx:evK κ x = some (.int k p)) (hy:evK κ y = some (.int k q)) (hb:decide (p = q) = b) :
  StepOK P F B n ops O κ ⟨some d, .binOp .eql t x y t', ty, pos, aft, g⟩ d (.is (.bool b)):=zb4 hn hg hx hy fun u => by subst hb; simp [eqGuard_at_int, binOp_eql]; rfl
theorem qz {b:Bool} (hn:Nat.blt d n = true) (hg:gK ops κ ⟨some d, .binOp .neq t x y t', ty, pos, aft, g⟩ = some true) (hx:evK κ x = some (.int k p)) (hy:evK κ y = some (.int k q)) (hb:decide (p ≠ q) = b) :
  StepOK P F B n ops O κ ⟨some d, .binOp .neq t x y t', ty, pos, aft, g⟩ d (.is (.bool b)):=zb4 hn hg hx hy fun u => by subst hb; simp [eqGuard_at_int, binOp_neq, bne]; rfl
theorem yg {r:Int} (hn:Nat.blt d n = true) (hg:gK ops κ ⟨some d, .binOp .add t x y t', ty, pos, aft, g⟩ = some true) (hx:evK κ x = some (.int k p)) (hy:evK κ y = some (.int k q)) (hb:k.wrap (p + q) = r) :
  StepOK P F B n ops O κ ⟨some d, .binOp .add t x y t', ty, pos, aft, g⟩ d (.is (.int k r)):=zb4 hn hg hx hy fun u => by subst hb; simp [eqGuard_add, binOp_add, Op.intArith]
theorem zp7 {r:Int} (hn:Nat.blt d n = true) (hg:gK ops κ ⟨some d, .binOp .sub t x y t', ty, pos, aft, g⟩ = some true) (hx:evK κ x = some (.int k p)) (hy:evK κ y = some (.int k q)) (hb:k.wrap (p - q) = r) :
  StepOK P F B n ops O κ ⟨some d, .binOp .sub t x y t', ty, pos, aft, g⟩ d (.is (.int k r)):=zb4 hn hg hx hy fun u => by subst hb; simp [eqGuard_sub, binOp_sub, Op.intArith]
theorem ztf {r:Int} (hn:Nat.blt d n = true) (hg:gK ops κ ⟨some d, .binOp .mul t x y t', ty, pos, aft, g⟩ = some true) (hx:evK κ x = some (.int k p)) (hy:evK κ y = some (.int k q)) (hb:k.wrap (p * q) = r) :
  StepOK P F B n ops O κ ⟨some d, .binOp .mul t x y t', ty, pos, aft, g⟩ d (.is (.int k r)):=zb4 hn hg hx hy fun u => by subst hb; simp [eqGuard_mul, binOp_mul, Op.intArith]
theorem zig (a c:ByteArray):(a.toList == c.toList) = decide (a = c):=by
 rw [← beq_toListBytes]
 obtain ⟨⟨x⟩⟩:=a
 obtain ⟨⟨y⟩⟩:=c
 show ((⟨x⟩:Array UInt8) == ⟨y⟩) = _
 simp
 rw [Bool.eq_iff_iff]
 simp
theorem zk4 {b:Bool} {s r:ByteArray} (hn:Nat.blt d n = true) (hg:gK ops κ ⟨some d, .binOp .eql t x y t', ty, pos, aft, g⟩ = some true) (hx:evK κ x = some (.string s)) (hy:evK κ y = some (.string r)) (hb:decide (s = r) = b) :
  StepOK P F B n ops O κ ⟨some d, .binOp .eql t x y t', ty, pos, aft, g⟩ d (.is (.bool b)):=zb4 hn hg hx hy fun u => by subst hb; simp only [eqGuard_at_string, binOp, Op.stringOp, Sem.run_bind, Sem.run_pure, Result.andThen_ok, zig]
theorem zg0 {b:Bool} {s r:ByteArray} (hn:Nat.blt d n = true) (hg:gK ops κ ⟨some d, .binOp .neq t x y t', ty, pos, aft, g⟩ = some true) (hx:evK κ x = some (.string s)) (hy:evK κ y = some (.string r)) (hb:decide (s ≠ r) = b) :
  StepOK P F B n ops O κ ⟨some d, .binOp .neq t x y t', ty, pos, aft, g⟩ d (.is (.bool b)):=zb4 hn hg hx hy fun u => by subst hb; simp only [eqGuard_at_string, binOp, Op.stringOp, Sem.run_bind, Sem.run_pure, Result.andThen_ok, zig]; simp
theorem zrz {s r z:ByteArray} (hn:Nat.blt d n = true) (hg:gK ops κ ⟨some d, .binOp .add t x y t', ty, pos, aft, g⟩ = some true) (hx:evK κ x = some (.string s)) (hy:evK κ y = some (.string r)) (hl:s.size + r.size ≤ 9223372036854775807) (hz:s ++ r = z) :
  StepOK P F B n ops O κ ⟨some d, .binOp .add t x y t', ty, pos, aft, g⟩ d (.is (.string z)):=zb4 hn hg hx hy fun u => by
 subst hz
 simp only [eqGuard_at_string, binOp, Op.stringOp, Sem.run_bind, Sem.run_pure, Result.andThen_ok]
 rw [if_neg (by rw [IntKind.max_i64]; omega)]; rfl
end bins
theorem z2d {t:TypeId} {x:Operand} {b c:Bool} (hn:Nat.blt d n = true) (hg:gK ops κ ⟨some d, .unOp .not t x, ty, pos, aft, g⟩ = some true) (hx:evK κ x = some (.bool b)) (hc:(!b) = c) :
  StepOK P F B n ops O κ ⟨some d, .unOp .not t x, ty, pos, aft, g⟩ d (.is (.bool c)) :=
 zan rfl (zn hn) hg trivial fun a u H fp e => ⟨.bool c, by subst hc; simp [execOp, e.is_ x _ (by simp [Op.operands]) hx, Op.unary], rfl⟩
theorem z3r (L:Tabs P) {x:Operand} {tt:TypeId} {s:ByteArray} (hn:Nat.blt d n = true) (hg:gK ops κ ⟨some d, .call ⟨.builtin .len, #[x], #[tt]⟩, ty, pos, aft, g⟩ = some true) (hx:evK κ x = some (.string s)) (ht:L.st tt = some ()) :
  StepOK P F B n ops O κ ⟨some d, .call ⟨.builtin .len, #[x], #[tt]⟩, ty, pos, aft, g⟩ d (.is (.int .i64 s.size)) :=
 zan rfl (zn hn) hg trivial fun a u H fp e => ⟨_, by
  have h1:=e.is_ x _ (by simp [Op.operands, Call.operands]) hx
  simp [execOp, resolve, h1, invoke, builtin, Builtin.len_, run_underlying (Tabs.st_spec ht), goInt], rfl⟩
theorem zn0 (L:Tabs P) {x:Operand} {tt e':TypeId} {b:Option Addr} {l c:Nat} (hn:Nat.blt d n = true) (hg:gK ops κ ⟨some d, .call ⟨.builtin .len, #[x], #[tt]⟩, ty, pos, aft, g⟩ = some true) (hx:evK κ x = some (.slice b l c)) (ht:L.sl tt = some e') :
  StepOK P F B n ops O κ ⟨some d, .call ⟨.builtin .len, #[x], #[tt]⟩, ty, pos, aft, g⟩ d (.is (.int .i64 l)) :=
 zan rfl (zn hn) hg trivial fun a u H fp e => ⟨_, by
  have h1:=e.is_ x _ (by simp [Op.operands, Call.operands]) hx
  simp [execOp, resolve, h1, invoke, builtin, Builtin.len_, run_underlying (Tabs.sl_spec ht), goInt], rfl⟩
theorem zf4 {x y:Operand} {tts:Array TypeId} {k:IntKind} {p q r:Int} (hn:Nat.blt d n = true) (hg:gK ops κ ⟨some d, .call ⟨.builtin .max, #[x, y], tts⟩, ty, pos, aft, g⟩ = some true)
  (hx:evK κ x = some (.int k p)) (hy:evK κ y = some (.int k q)) (hr:(if q > p then q else p) = r) :
  StepOK P F B n ops O κ ⟨some d, .call ⟨.builtin .max, #[x, y], tts⟩, ty, pos, aft, g⟩ d (.is (.int k r)) :=
 zan rfl (zn hn) hg trivial fun a u H fp e => ⟨_, by
  have h1:=e.is_ x _ (by simp [Op.operands, Call.operands]) hx
  have h2:=e.is_ y _ (by simp [Op.operands, Call.operands]) hy
  subst hr
  simp [execOp, resolve, h1, h2, invoke, builtin, Builtin.max_, Builtin.max2], rfl⟩
theorem yp (L:Tabs P) {x y:Operand} {tt:TypeId} {s:ByteArray} {k:IntKind} {i:Nat} {c:UInt8} (hn:Nat.blt d n = true) (hg:gK ops κ ⟨some d, .index tt x y, ty, pos, aft, g⟩ = some true)
  (hx:evK κ x = some (.string s)) (hy:evK κ y = some (.int k i)) (ht:L.st tt = some ()) (hi:s[i]? = some c) :
  StepOK P F B n ops O κ ⟨some d, .index tt x y, ty, pos, aft, g⟩ d (.is (.int .u8 c.toNat)) :=
 zan rfl (zn hn) hg trivial fun a u H fp e => ⟨_, by
  have h1:=e.is_ x _ (by simp [Op.operands]) hx
  have h2:=e.is_ y _ (by simp [Op.operands]) hy
  simp [execOp, h1, h2, Instr.index, asIntOf, run_underlying (Tabs.st_spec ht), hi], rfl⟩
theorem zz {x:Operand} {vs:Array Value} {i:Nat} {v:Value} (hn:Nat.blt d n = true) (hg:gK ops κ ⟨some d, .extract x i, ty, pos, aft, g⟩ = some true) (hx:evK κ x = some (.tuple vs)) (hi:vs.toList[i]? = some v) :
  StepOK P F B n ops O κ ⟨some d, .extract x i, ty, pos, aft, g⟩ d (.is v) :=
 zan rfl (zn hn) hg trivial fun a u H fp e => ⟨v, by
  have h1:=e.is_ x _ (by simp [Op.operands]) hx
  have hi':vs[i]? = some v:=by simpa using hi
  simp [execOp, h1, Instr.extract, hi'], rfl⟩

theorem zad {z:Int} (h1:-9223372036854775808 ≤ z) (h2:z ≤ 9223372036854775807):IntKind.i64.wrap z = z:=by
 have:=IntWalk.i64_in z (by omega)
 exact this

def At (cs:List Value) (t:TypeId) (off:Nat):Value → Heap → Prop:=fun v H => ∃ b, v = .pointer (some ⟨b, off, none⟩) ∧ H b = some (.cells cs.toArray t)
theorem At.mono {cs:List Value} {t:TypeId} {off:Nat}:Kn.mono (.sat (At cs t off)):=fun _ _ _ ⟨b, hv, hb⟩ hl => ⟨b, hv, hl _ _ hb⟩

theorem zak (u:World) (x:Obj):(u.alloc x).heap[u.heap.size]? = some x:=by
 show (u.heap.push x)[u.heap.size]? = _
 simp
theorem zc5 (u:World) (x:Obj) {k:Nat} (h:k < u.heap.size):(u.alloc x).heap[k]? = u.heap[k]?:=by
 show (u.heap.push x)[k]? = _
 rw [Array.getElem?_push, if_neg (by omega)]

theorem Grow.new {u:World} {H:Heap} (h:H.Le (hp u)) (x:Obj):Grow noL u H (u.alloc x) (fun k => if k = u.heap.size then some x else H k):={
 keep:=Keep.of_below ((Below.refl _ _).alloc (Nat.le_refl _) _) (Nat.le_refl _)
 sub:=fun k o ho => by
  simp only [hp]
  dsimp only at ho
  split at ho
  ·rename_i hk; subst hk; cases ho; exact zak u x
  ·rw [zc5 u x (h.size ho)]; exact h k o ho
 le:=fun k o ho => by dsimp only; rw [if_neg (by have:=h.size ho; omega)]; exact ho
 fresh:=fun k hk _ => if_neg (by omega) }
theorem Grow.hid {u:World} {H:Heap} (h:H.Le (hp u)) (x:Obj):Grow noL u H (u.alloc x) H:={
 keep:=Keep.of_below ((Below.refl _ _).alloc (Nat.le_refl _) _) (Nat.le_refl _)
 sub:=fun k o ho => by simp only [hp]; rw [zc5 u x (h.size ho)]; exact h k o ho
 le:=Heap.Le.refl _
 fresh:=fun _ _ _ => rfl }

theorem y9 {x:Operand} {t:TypeId} {v:Value} {cs:List Value} (hn:Nat.blt d n = true) (hg:gK ops κ ⟨some d, .box t x, ty, pos, aft, g⟩ = some true) (hx:evK κ x = some v) (hc:v.cells = cs.toArray) :
  StepOK P F B n ops O κ ⟨some d, .box t x, ty, pos, aft, g⟩ d (.sat (At cs t 0)) :=
 zxl rfl (zn hn) hg At.mono fun a u H fp e => ⟨.pointer (some ⟨u.heap.size, 0, none⟩), u.alloc (.cells cs.toArray t), _, by
  have h1:=e.is_ x _ (by simp [Op.operands]) hx
  simp [execOp, h1, Instr.box, newVar, newRow, hc], Grow.new e.sub _, ⟨_, rfl, by simp⟩⟩

theorem zod {t:TypeId} {ag:Bool} {s:Nat} (h:ldI P t = some (ag, s)):∃ dsc i, P.underlying t = some dsc ∧ P.info? t = some i ∧ i.size = s ∧ (match dsc with | .struct _ | .array _ _ => true | _ => false) = ag:=by
 unfold ldI at h
 split at h
 ·rename_i dsc i h1 h2
  cases h
  exact ⟨dsc, i, h1, h2, rfl, rfl⟩
 ·cases h

theorem zhg {t:TypeId} {ag:Bool} {s:Nat} (h:ldI P t = some (ag, s)) (u:World):(isAgg t).run P u = .ok ag u:=by
 obtain ⟨dsc, i, h1, _, _, h4⟩:=zod h
 simp only [isAgg, Sem.run_bind, run_underlying h1, Result.andThen_ok]
 cases dsc <;> simp at h4 ⊢ <;> exact h4
theorem zbe {t:TypeId} {ag:Bool} {s:Nat} (h:ldI P t = some (ag, s)) (u:World):(sizeOf t).run P u = .ok s u:=by
 obtain ⟨dsc, i, _, h2, h3, _⟩:=zod h
 simp [sizeOf, typeInfo, h2, h3]

theorem zcg {t:TypeId} {s:Nat} (h:ldI P t = some (true, s)) (u:World) (a:Addr) (cs:List Value) (hs:cs.length = s) (hc:∀ j v, cs[j]? = some v → u.cell? (a.add j) = some v) :
  (loadVar t a).run P u = .ok (.agg cs.toArray) u:=by
 subst hs
 simp only [loadVar, Sem.run_bind, zhg h, Result.andThen_ok, if_true, zbe h]
 rw [run_loadCells_list (P:=P) (w:=u) a cs hc]
 rfl
theorem zde {t:TypeId} {s:Nat} (h:ldI P t = some (false, s)) (u:World) (a:Addr) (v:Value) (hc:u.cell? a = some v) :
  (loadVar t a).run P u = .ok v u:=by
 simp [loadVar, zhg h, hc]

theorem zas {u:World} {b:Nat} {cs:Array Value} {t:TypeId} {fr:Nat × Nat} (h:u.heap[b]? = some (.cells cs t fr)) (off:Nat):u.cell? ⟨b, off, none⟩ = cs[off]?:=by
 simp [World.cell?, h]

def Cell (cs:List Value) (ty:TypeId):Res where
 P x _ u C:=∃ b, x = .pointer (some ⟨b, 0, none⟩) ∧ u.heap[b]? = some (.cells cs.toArray ty) ∧ ∀ k, C k ↔ k = b
 st:=fun ⟨b, hx, hb, hC⟩ _ _ _ hk => ⟨b, hx, (hk b ((hC b).2 rfl)).trans hb, hC⟩
def Src (F:Fr) (B:Heap) (O:Boxes) (κ:Kap) (x:Operand) (cs:List Value) (off:Nat):Prop :=
 ∀ (o:Oper) (a:Act) (u:World) (H:Heap) (fp:Nat → Nat → Prop), x ∈ o.op.operands → Env F B O κ o a u H fp → ∃ b t fr, a.eval x = .pointer (some ⟨b, off, none⟩) ∧ u.heap[b]? = some (.cells cs.toArray t fr)
theorem qk {t':TypeId} {t off:Nat} {cs:List Value} (h:κ t = some (.sat (At cs t' off))):Src F B O κ (.tmp t) cs off:=fun _ _ _ _ _ hx e =>
 let ⟨b, hv, hb⟩:=e.sat_ t _ hx h; ⟨b, t', (0, 0), hv, e.sub _ _ hb⟩
theorem qg {t':TypeId} {t:Nat} {cs:List Value} (h:κ t = some (.own (Cell cs t'))):Src F B O κ (.tmp t) cs 0:=fun _ _ _ _ _ hx e =>
 let ⟨⟨b, hv, hb, _⟩, _⟩:=e.own_ t _ hx h; ⟨b, t', (0, 0), hv, hb⟩
theorem qn {x:Operand} {b off:Nat} {cs:List Value} {t':TypeId} {fr:Nat × Nat} (hx:evK κ x = some (.pointer (some ⟨b, off, none⟩))) (hb:B b = some (.cells cs.toArray t' fr)):Src F B O κ x cs off:=fun _ _ _ _ _ ho e =>
 ⟨b, t', fr, e.is_ x _ ho hx, e.sub _ _ (e.base _ _ hb)⟩
theorem qw {x:Operand} {b off:Nat} {cs:List Value} {t':TypeId} (hx:evK κ x = some (.pointer (some ⟨b, off, none⟩))) (hb:bx b cs t' ∈ O):Src F B O κ x cs off:=fun _ _ _ _ _ ho e =>
 ⟨b, t', (0, 0), e.is_ x _ ho hx, (e.boxes _ hb).1⟩

theorem q6 (L:Tabs P) {x:Operand} {t:TypeId} {s off:Nat} {cs r:List Value} {v:Value} (hs:Src F B O κ x cs off) (hn:Nat.blt d n = true) (hg:gK ops κ ⟨some d, .load t x, ty, pos, aft, g⟩ = some true)
  (hl:L.ld t = some (false, s)) (hc:cs.drop off = v :: r):StepOK P F B n ops O κ ⟨some d, .load t x, ty, pos, aft, g⟩ d (.is v) :=
 zan rfl (zn hn) hg trivial fun a u H fp e => ⟨v, by
  obtain ⟨b, t', fr, h1, h2⟩:=hs _ a u H fp (by simp [Op.operands]) e
  have h3:cs[off]? = some v:=by
   have:=congrArg (·[0]?) hc
   simpa using this
  simp only [execOp, h1, Instr.loadAt, Instr.sureAddr, Sem.run_bind, Sem.run_pure, Result.andThen_ok]
  rw [zde (Tabs.ld_spec hl) u _ v (by rw [zas h2]; simpa using h3)]
  rfl, rfl⟩
theorem q8 (L:Tabs P) {x:Operand} {t:TypeId} {s off:Nat} {cs vs:List Value} (hs:Src F B O κ x cs off) (hn:Nat.blt d n = true) (hg:gK ops κ ⟨some d, .load t x, ty, pos, aft, g⟩ = some true)
  (hl:L.ld t = some (true, s)) (hlen:vs.length = s) (hc:∃ r, cs.drop off = vs ++ r):StepOK P F B n ops O κ ⟨some d, .load t x, ty, pos, aft, g⟩ d (.is (.agg vs.toArray)) :=
 zan rfl (zn hn) hg trivial fun a u H fp e => ⟨_, by
  obtain ⟨b, t', fr, h1, h2⟩:=hs _ a u H fp (by simp [Op.operands]) e
  obtain ⟨r, hc⟩:=hc
  simp only [execOp, h1, Instr.loadAt, Instr.sureAddr, Sem.run_bind, Sem.run_pure, Result.andThen_ok]
  rw [zcg (Tabs.ld_spec hl) u _ vs hlen (fun j v hj => by
   have h3:cs[off + j]? = some v:=by
    have:=congrArg (·[j]?) hc
    simp only [List.getElem?_drop] at this
    rw [this, List.getElem?_append_left (by
     rcases Nat.lt_or_ge j vs.length with h | h
     ·exact h
     ·rw [List.getElem?_eq_none h] at hj; cases hj)]
    exact hj
   show u.cell? (Addr.add ⟨b, off, none⟩ j) = some v
   have:Addr.add ⟨b, off, none⟩ j = ⟨b, off + j, none⟩:=by simp [Addr.add]
   rw [this, zas h2]; simpa using h3)]
  rfl, rfl⟩
theorem zev {f:Field} {j:TypeInfo} (hj:P.info? f.type = some j) (hz:j.size ≠ 0) (a:Addr) (u:World):(fieldPlace a f).run P u = .ok (a.add f.offset) u:=by
 simp [fieldPlace, sizeOf, typeInfo, hj, hz]
theorem qa (L:Tabs P) {t:Nat} {t' st:TypeId} {i off fo:Nat} {cs:List Value} (hx:κ t = some (.sat (At cs t' off))) (hn:Nat.blt d n = true) (hg:gK ops κ ⟨some d, .fieldAddr st (.tmp t) i, ty, pos, aft, g⟩ = some true)
  (hf:L.fo st i = some fo):StepOK P F B n ops O κ ⟨some d, .fieldAddr st (.tmp t) i, ty, pos, aft, g⟩ d (.sat (At cs t' (off + fo))) :=
 zan rfl (zn hn) hg At.mono fun a u H fp e => by
  obtain ⟨fs, f, j, h1, h2, h3, h4, h5⟩:=Tabs.fo_spec hf
  obtain ⟨b, hv, hb⟩:=e.sat_ t _ (by simp [Op.operands]) hx
  refine ⟨.pointer (some ⟨b, off + fo, none⟩), ?_, ⟨b, rfl, hb⟩⟩
  simp only [execOp, hv, Instr.fieldAt, Sem.run_bind, run_underlying h1, Result.andThen_ok, h2, Instr.sureAddr, Sem.run_pure, zev h3 h4]
  simp [Addr.add, h5]
theorem zo (L:Tabs P) {x:Operand} {st:TypeId} {i b off fo:Nat} (hx:evK κ x = some (.pointer (some ⟨b, off, none⟩))) (hn:Nat.blt d n = true) (hg:gK ops κ ⟨some d, .fieldAddr st x i, ty, pos, aft, g⟩ = some true)
  (hf:L.fo st i = some fo):StepOK P F B n ops O κ ⟨some d, .fieldAddr st x i, ty, pos, aft, g⟩ d (.is (.pointer (some ⟨b, off + fo, none⟩))) :=
 zan rfl (zn hn) hg trivial fun a u H fp e => by
  obtain ⟨fs, f, j, h1, h2, h3, h4, h5⟩:=Tabs.fo_spec hf
  have hv:=e.is_ x _ (by simp [Op.operands]) hx
  refine ⟨_, ?_, rfl⟩
  simp only [execOp, hv, Instr.fieldAt, Sem.run_bind, run_underlying h1, Result.andThen_ok, h2, Instr.sureAddr, Sem.run_pure, zev h3 h4]
  simp [Addr.add, h5]

end ops
end Go.V
set_option maxRecDepth 20000
namespace Go.V
open Go.RowKit

section code
variable {P:Program} {F:Fr} {B:Heap} {n:Nat} {O:Boxes} {κ:Kap} {Q:Exit → Act → World → Prop}

def V (P:Program) (F:Fr) (B:Heap) (n:Nat) (O:Boxes) (κ:Kap) (c:Code) (Q:Exit → Act → World → Prop):Prop :=
 ∀ a u, Has F B O n κ a u → c.wpIn (FW F.r) 0 P Q a u
def N (F:Fr) (B:Heap) (n:Nat) (O:Boxes) (κ:Kap) (Q:Exit → Act → World → Prop):Prop:=∀ a u, Has F B O n κ a u → Q .normal a u
def X (F:Fr) (B:Heap) (n:Nat) (O:Boxes) (κ:Kap) (id:Nat) (Q:Exit → Act → World → Prop):Prop:=∀ a u, Has F B O n κ a u → Q (.exit id) a u
def VO (P:Program) (F:Fr) (B:Heap) (n:Nat) (O:Boxes) (ops:Array Oper) (κ:Kap) (os:List Oper) (Q:Exit → Act → World → Prop):Prop :=
 ∀ a u, Has F B O n κ a u → Ops P ops (fun a u => Q .normal a u) os a u
def Par (P:Program) (F:Fr) (B:Heap) (n:Nat) (O:Boxes) (ops:Array Oper) (ex:Exs) (κ:Kap) (os:List Oper) (Q:Exit → Act → World → Prop):Prop :=
 z42 P (Has F B O n) ops ex (fun κ => N F B n O κ Q) os κ

theorem zj {x y:Code} (h:V P F B n O κ x (Exit.then (fun a u => y.wpIn (FW F.r) 0 P Q a u) Q)):V P F B n O κ (.seq x y) Q:=fun a u hh => wpIn_seq (h a u hh)
theorem q9 (h:N F B n O κ Q):V P F B n O κ .skip Q:=fun a u hh => wpIn_skip (h a u hh)
theorem z8n {l:Nat} (h:N F B n O κ Q):V P F B n O κ (.label l) Q:=fun a u hh => wpIn_label (h a u hh)
theorem qm {id:Nat} {c:Code} (h:V P F B n O κ c (Exit.inBlock id Q)):V P F B n O κ (.block id c) Q:=fun a u hh => wpIn_block (h a u hh)
theorem yo {id:Nat} (h:X F B n O κ id Q):V P F B n O κ (.exit id) Q:=fun a u hh => wpIn_exit (h a u hh)
theorem zm {y:Code} (h:V P F B n O κ y Q):N F B n O κ (Exit.then (fun a u => y.wpIn (FW F.r) 0 P Q a u) Q):=h
theorem yd {id:Nat} (h:N F B n O κ Q):N F B n O κ (Exit.inBlock id Q):=h
theorem qv {id:Nat} {K:Act → World → Prop} (h:X F B n O κ id Q):X F B n O κ id (Exit.then K Q):=h
theorem yn {id:Nat} (h:N F B n O κ Q):X F B n O κ id (Exit.inBlock id Q):=fun a u hh => by
 show (if id = id then Q .normal a u else Q (.exit id) a u)
 rw [if_pos rfl]; exact h a u hh
theorem zlu {id id':Nat} (hne:Nat.beq id id' = false) (h:X F B n O κ id Q):X F B n O κ id (Exit.inBlock id' Q):=fun a u hh => by
 show (if id = id' then Q .normal a u else Q (.exit id) a u)
 rw [if_neg (fun e => by subst e; simp at hne)]; exact h a u hh

theorem z2r {c:Operand} {x y:Code} {b:Bool} (hc:evK κ c = some (.bool b)) (h:V P F B n O κ (bif b then x else y) Q):V P F B n O κ (.cond c x y) Q:=fun a u hh => by
 obtain ⟨H, fp, hH⟩:=hh
 have e := hH.env (ops := #[]) (o := ⟨none, .move c, 0, "", #[], none⟩) (κ := κ) (fun _ _ => rfl)
 refine wpIn_cond (t:=b) (e.is_ c _ (by simp [Op.operands]) hc) ?_
 have:=h a u ⟨H, fp, hH⟩
 cases b <;> exact this
theorem qf {c:Operand} {x y:Code} (hc:evK κ c = some (.bool true)) (h:V P F B n O κ x Q):V P F B n O κ (.cond c x y) Q:=z2r hc h
theorem q7 {c:Operand} {x y:Code} (hc:evK κ c = some (.bool false)) (h:V P F B n O κ y Q):V P F B n O κ (.cond c x y) Q:=z2r hc h

theorem z8 {id:Nat} {l:List Oper} (h:VO P F B n O l.toArray κ l Q):V P F B n O κ (.region id l.toArray false) Q:=fun a u hh => zkw (by simpa using h a u hh)
theorem qh {id:Nat} {l:List Oper} (ex:Exs) (hm:P.follows .mixedOrders = true) (hs:z3f l.toArray ex = true) (h:Par P F B n O l.toArray ex κ l Q):V P F B n O κ (.region id l.toArray true) Q:=fun a u hh =>
 zp1 (St:=Has F B O n) (ex:=ex) (Fin:=fun κ => N F B n O κ Q) hm hs (fun _ _ _ h => h.drew) (by simpa [Par] using h) hh fun κ' a' u' hf hh' => hf a' u' hh'
theorem zk {ops:Array Oper} (h:N F B n O κ Q):VO P F B n O ops κ [] Q:=h
theorem qp {ops:Array Oper} {ex:Exs} (h:N F B n O κ Q):Par P F B n O ops ex κ [] Q:=h
theorem z7 {ops:Array Oper} {o:Oper} {os:List Oper} {d:Nat} {k:Kn} (hs:StepOK P F B n ops O κ o d k) (_:vd o = some d) (h:VO P F B n O ops (upd κ d k) os Q):VO P F B n O ops κ (o :: os) Q :=
 fun a u hh => After.mono (fun a' u' hh' => h a' u' hh') (hs κ a u (fun _ _ => rfl) hh)
theorem zd {ops:Array Oper} {ex:Exs} {o:Oper} {os:List Oper} {d:Nat} {k:Kn} (hs:StepOK P F B n ops O κ o d k) (hd:vd o = some d) (h:Par P F B n O ops ex (upd κ d k) os Q):Par P F B n O ops ex κ (o :: os) Q :=
 ⟨[(d, k)], fun p hp => by simp at hp; subst hp; simp [tch, hd], hs.stepG, h⟩

def LiveOK:List (Nat × Kn) → Kap → Prop
 | [], _ => True
 | (t, k) :: l, κ => κ t = some k ∧ LiveOK l κ
theorem LiveOK.get {κ:Kap} {t:Nat} {k:Kn}:∀ {l:List (Nat × Kn)}, LiveOK l κ → ofL l t = some k → κ t = some k
 | [], _, h => by cases h
 | (s, k') :: l, hl, h => by
  unfold ofL at h
  by_cases hst:t = s
  ·subst hst; rw [zah] at h; cases h; exact hl.1
  ·rw [zab _ _ hst] at h; exact LiveOK.get hl.2 h
theorem Has.sub_kap {κ2:Kap} {a:Act} {u:World} (hs:∀ t k, κ2 t = some k → κ t = some k) (h:Has F B O n κ a u):Has F B O n κ2 a u:=let ⟨H, fp, h⟩:=h; ⟨H, fp, h.sub_kap hs⟩
theorem Has.live {l:List (Nat × Kn)} {a:Act} {u:World} (hl:LiveOK l κ) (h:Has F B O n κ a u):Has F B O n (ofL l) a u:=h.sub_kap fun _ _ hk => hl.get hk
structure SinceW (N:Nat) (L:Nat → Prop) (B H:Heap):Prop where
 le:B.Le H
 fresh:∀ k, k < N → ¬ L k → H k = B k
abbrev Since (F:Fr) (B H:Heap):Prop:=SinceW F.w0.heap.size F.L B H
theorem SinceW.refl {N:Nat} {L:Nat → Prop}:SinceW N L B B:=⟨Heap.Le.refl _, fun _ _ _ => rfl⟩
theorem SinceW.trans {N:Nat} {L:Nat → Prop} {C D:Heap} (h:SinceW N L B C) (k:SinceW N L C D):SinceW N L B D:=⟨h.le.trans k.le, fun i hi hl => (k.fresh i hi hl).trans (h.fresh i hi hl)⟩
theorem Since.refl:Since F B B:=SinceW.refl
theorem HasH.since {B0:Heap} {a:Act} {u:World} {H:Heap} {fp:Nat → Nat → Prop} (hs:Since F B0 B) (h:HasH F B O n κ a u H fp):HasH F B0 O n κ a u H fp :=
 ⟨h.size, h.defers, h.nodup, h.marks, h.lent, h.keep, h.sub, hs.le.trans h.base, fun k hk hl => (h.fresh k hk hl).trans (hs.fresh k hk hl), h.boxes, h.apart, h.slot, h.owns, h.mono⟩
theorem Has.since {B0:Heap} {a:Act} {u:World} (hs:Since F B0 B) (h:Has F B O n κ a u):Has F B0 O n κ a u:=let ⟨H, fp, h⟩:=h; ⟨H, fp, h.since hs⟩
theorem HasH.rebase {a:Act} {u:World} {H:Heap} {fp:Nat → Nat → Prop} (h:HasH F B O n κ a u H fp):HasH F H O n κ a u H fp :=
 ⟨h.size, h.defers, h.nodup, h.marks, h.lent, h.keep, h.sub, Heap.Le.refl _, fun _ _ _ => rfl, h.boxes, h.apart, h.slot, h.owns, h.mono⟩
theorem HasH.isSince {a:Act} {u:World} {H:Heap} {fp:Nat → Nat → Prop} (h:HasH F B O n κ a u H fp):Since F B H:=⟨h.base, h.fresh⟩
theorem HasH.name {a:Act} {u:World} {H:Heap} {fp:Nat → Nat → Prop} (t:Nat) (h:HasH F B O n κ a u H fp):HasH F B O n (upd κ t (.is (a.eval (.tmp t)))) a u H fp :=
 ⟨h.size, h.defers, h.nodup, h.marks, h.lent, h.keep, h.sub, h.base, h.fresh, h.boxes, h.apart, fun s k hs => by
  by_cases hst:s = t
  ·subst hst; rw [zah] at hs; cases hs; exact rfl
  ·rw [zab _ _ hst] at hs; exact h.slot s k hs, fun s r r1 r2 hsr h1 h2 => by
  have key:∀ x r, upd κ t (.is (a.eval (.tmp t))) x = some (.own r) → κ x = some (.own r):=fun x r hx => by
   by_cases hxd:x = t
   ·subst hxd; rw [zah] at hx; cases hx
   ·rw [zab _ _ hxd] at hx; exact hx
  exact h.owns s r r1 r2 hsr (key _ _ h1) (key _ _ h2), fun s k hs => by
  by_cases hst:s = t
  ·subst hst; rw [zah] at hs; cases hs; trivial
  ·rw [zab _ _ hst] at hs; exact h.mono s k hs⟩
theorem Has.opn {t:Nat} {φ:Value → Heap → Prop} {a:Act} {u:World} (hk:κ t = some (.sat φ)) (h:Has F B O n κ a u) :
  ∃ v H, Since F B H ∧ φ v H ∧ Has F H O n (upd κ t (.is v)) a u:=by
 obtain ⟨H, fp, h⟩:=h
 exact ⟨_, H, h.isSince, h.slot t _ hk, H, fp, (h.name t).rebase⟩
theorem zjk (t:Nat) {φ:Value → Heap → Prop} {c:Code} (hk:κ t = some (.sat φ)) (h:∀ v H, Since F B H → φ v H → V P F H n O (upd κ t (.is v)) c Q):V P F B n O κ c Q:=fun a u hh => by
 obtain ⟨v, H, hs, hp, hh'⟩:=hh.opn hk
 exact h v H hs hp a u hh'
theorem zco (t:Nat) {φ:Value → Heap → Prop} {ops:Array Oper} {os:List Oper} (hk:κ t = some (.sat φ)) (h:∀ v H, Since F B H → φ v H → VO P F H n O ops (upd κ t (.is v)) os Q):VO P F B n O ops κ os Q:=fun a u hh => by
 obtain ⟨v, H, hs, hp, hh'⟩:=hh.opn hk
 exact h v H hs hp a u hh'

theorem z4o {T:Type} (Ob:T → Boxes) (Fk:T → List (Nat × Kn)) (I:T → Prop) (μ:T → Nat) (x0:T) {c:Code} (hI:I x0) (hO:O = Ob x0) (h0:LiveOK (Fk x0) κ)
  (round:∀ x, I x → V P F B n (Ob x) (ofL (Fk x)) c (Exit.then (fun a u => ∃ x', (I x' ∧ μ x' < μ x) ∧ Has F B (Ob x') n (ofL (Fk x')) a u) Q)) :
  V P F B n O κ (.loop c) Q:=fun a u hh => by
 intro b k cs hro hb hr
 have key:∀ m x a u, μ x = m → I x → Has F B (Ob x) n (ofL (Fk x)) a u →
   ∃ e a' w', Q e a' w' ∧ ArrivesIn (Machine.fenced P (FW F.r)) P (lone (b.atR a (.code c :: .inLoop c :: k)) cs u) b k cs e a' w':=by
  intro m
  induction m using Nat.strongRecOn with
  | _ m ih =>
   intro x a u hm hI hh
   obtain ⟨e, a₁, w₁, hq, harr⟩:=round x hI a u hh b (.inLoop c :: k) cs hro hb hr
   cases e with
   | normal =>
    obtain ⟨x', ⟨hI', hlt⟩, hh'⟩:=hq
    obtain ⟨e₂, a₂, w₂, hq₂, harr₂⟩:=ih (μ x') (hm ▸ hlt) x' a₁ w₁ rfl hI' hh'
    exact ⟨e₂, a₂, w₂, hq₂, .of_steps (StepsIn.trans harr (.one (fenced_calm hb hr rfl) stepR_inLoop)) harr₂⟩
   | exit id => exact ⟨_, a₁, w₁, hq, .pass (x:=.inLoop c) rfl (fun _ _ => .inl (by simp)) harr⟩
   | goto l => exact ⟨_, a₁, w₁, hq, .pass (x:=.inLoop c) rfl (fun _ _ => .inl (by simp)) harr⟩
   | ret => exact ⟨_, a₁, w₁, hq, .pass (x:=.inLoop c) rfl (fun _ _ => .inl (by simp)) harr⟩
   | panic ch => exact ⟨_, a₁, w₁, hq, .pass (x:=.inLoop c) rfl (fun _ _ => .inl (by simp)) harr⟩
   | outgrown => exact ⟨_, a₁, w₁, hq, .pass (x:=.inLoop c) rfl (fun _ _ => .inl (by simp)) harr⟩
 subst hO
 obtain ⟨e, a', w', hq, harr⟩:=key _ x0 a u rfl hI (hh.live h0)
 exact ⟨e, a', w', hq, .of_steps (.one (fenced_calm hb hr rfl) stepR_loop) harr⟩
theorem zao {T:Type} (Fk:T → List (Nat × Kn)) (I:T → Prop) (μ:T → Nat) (x0:T) {c:Code} (hI:I x0) (h0:LiveOK (Fk x0) κ)
  (round:∀ x, I x → V P F B n O (ofL (Fk x)) c (Exit.then (fun a u => ∃ x', (I x' ∧ μ x' < μ x) ∧ Has F B O n (ofL (Fk x')) a u) Q)) :
  V P F B n O κ (.loop c) Q:=z4o (fun _ => O) Fk I μ x0 hI rfl h0 round
theorem yl {T:Type} {Fk:T → List (Nat × Kn)} {I:T → Prop} {μ:T → Nat} {x:T} (x':T) (hI:I x') (hμ:μ x' < μ x) (hl:LiveOK (Fk x') κ) :
  N F B n O κ (Exit.then (fun a u => ∃ x', (I x' ∧ μ x' < μ x) ∧ Has F B O n (ofL (Fk x')) a u) Q):=fun _ _ hh => ⟨x', ⟨hI, hμ⟩, hh.live hl⟩
theorem zgq {T:Type} {B0:Heap} {Fk:T → List (Nat × Kn)} {I:T → Prop} {μ:T → Nat} {x:T} (x':T) (hs:Since F B0 B) (hI:I x') (hμ:μ x' < μ x) (hl:LiveOK (Fk x') κ) :
  N F B n O κ (Exit.then (fun a u => ∃ x', (I x' ∧ μ x' < μ x) ∧ Has F B0 O n (ofL (Fk x')) a u) Q):=fun _ _ hh => ⟨x', ⟨hI, hμ⟩, (hh.live hl).since hs⟩
theorem zzg {T:Type} (Fk:T → List (Nat × Kn)) (I:T → Prop) {x y:Code} (h:V P F B n O κ x (Exit.then (fun a u => ∃ t, I t ∧ Has F B O n (ofL (Fk t)) a u) Q))
  (hy:∀ t, I t → V P F B n O (ofL (Fk t)) y Q):V P F B n O κ (.seq x y) Q:=fun a u hh => by
 refine wpIn_seq (Go.wpIn_mono (h a u hh) fun e a u he => ?_)
 cases e with
 | normal => obtain ⟨t, hI, hh'⟩:=he; exact hy t hI a u hh'
 | _ => exact he
theorem z4t {T:Type} {B0:Heap} {Fk:T → List (Nat × Kn)} {I:T → Prop} (t:T) (hs:Since F B0 B) (hI:I t) (hl:LiveOK (Fk t) κ) :
  N F B n O κ (Exit.then (fun a u => ∃ t, I t ∧ Has F B0 O n (ofL (Fk t)) a u) Q):=fun _ _ hh => ⟨t, hI, (hh.live hl).since hs⟩

theorem zc6:∀ (vs:List Value) (i t:Nat) (k:Kn), ziw i vs t = some k → ∃ v, k = .is v ∧ i ≤ t ∧ vs[t - i]? = some v
 | [], _, _, _, h => by cases h
 | v :: vs, i, t, k, h => by
  unfold ziw at h
  by_cases hti:t = i
  ·subst hti; rw [zah] at h; cases h; exact ⟨v, rfl, Nat.le_refl _, by simp⟩
  ·rw [zab _ _ hti] at h
   obtain ⟨x, hx, hle, hg⟩:=zc6 vs (i + 1) t k h
   exact ⟨x, hx, by omega, by rw [show t - i = (t - (i + 1)) + 1 by omega, List.getElem?_cons_succ]; exact hg⟩
theorem ze9 {w:World} {args:List Value} {nt:Nat} (L:Nat → Prop) (hL:∀ k, L k → k < w.heap.size) (hs:args.length ≤ nt) (hB:B.Le (hp w)) (fp:Nat → Nat → Prop) :
  HasH ⟨w, none, [], L⟩ B [] nt (ziw 0 args) { tmps:=args.toArray ++ Array.replicate (nt - args.toArray.size) undef, defers:=[] } w B fp:=by
 refine ⟨by simp; omega, rfl, List.nodup_nil, (fun _ h => by cases h), hL, Keep.refl _ _, hB, Heap.Le.refl _, fun _ _ _ => rfl, (fun y hy => by cases hy), List.Pairwise.nil, fun t k hk => ?_, fun s t r r' _ hs' _ => ?_, fun t k hk => ?_⟩
 ·obtain ⟨v, rfl, _, hv⟩:=zc6 _ _ _ _ hk
  rw [Nat.sub_zero] at hv
  have hlt:t < args.length:=by
   rcases Nat.lt_or_ge t args.length with h | h
   ·exact h
   ·rw [List.getElem?_eq_none h] at hv; cases hv
  show Act.eval _ (.tmp t) = v
  simp only [Act.eval, Array.getD_eq_getD_getElem?]
  rw [Array.getElem?_append_left (by simpa using hlt)]
  simp [hv]
 ·obtain ⟨v, hv, _⟩:=zc6 _ _ _ _ hs'; cases hv
 ·obtain ⟨v, rfl, _⟩:=zc6 _ _ _ _ hk; trivial
theorem zfb {f:FuncId} {fn:Func} {c:Code} {args:List Value} {w:World} {R:Ending → World → Prop} (hf:P.funcs[f]? = some fn) (hb:fn.body = some c)
  (h:c.wpIn (FW none) 0 P (bodyPostM Fence.wide 0 P fn R) { tmps:=args.toArray ++ Array.replicate (fn.ntmps - args.toArray.size) undef, defers:=[] } w):Calls P f args.toArray w R :=
 callsIn_wide.1 (callsIn_of_wp_marks hf hb trivial h)
theorem qu {f:FuncId} {fn:Func} {c:Code} {args:List Value} {w:World} {B:Heap} {φ:Value → Heap → Prop} (hf:P.funcs[f]? = some fn) (hb:fn.body = some c) (hn:fn.ntmps = n)
  (hs:args.length ≤ n) (hB:B.Le (hp w)) (h:V P (Fr.pure w) B n [] (ziw 0 args) c (bodyPostM Fence.wide 0 P fn (z87 w B φ))):Ret P f args w B φ :=
 zfb hf hb (h _ w ⟨B, fun _ => noL, by subst hn; exact ze9 noL (fun _ h => h.elim) hs hB _⟩)

def tup:List Value → Value
 | [v] => v
 | vs => .tuple vs.toArray
def zov (L:Tabs P) (F:Fr) (B:Heap) (O:Boxes) (κ:Kap) (H:Heap):List ResultVar → List Value → (List Value → Prop) → Prop
 | [], acc, K => K acc.reverse
 | .tmp t :: rs, acc, K => match κ t with
  | some (.is v) => zov L F B O κ H rs (v :: acc) K
  | some (.sat φ) => ∀ v, φ v H → zov L F B O κ H rs (v :: acc) K
  | _ => False
 | .cell t ty :: rs, acc, K => ∃ cs, Src F B O κ (.tmp t) cs 0 ∧ (match L.ld ty with
  | some (true, s) => cs.length = s ∧ zov L F B O κ H rs (.agg cs.toArray :: acc) K
  | some (false, _) => ∃ v r, cs = v :: r ∧ zov L F B O κ H rs (v :: acc) K
  | none => False)

theorem zdj {L:Tabs P} {H:Heap} {t:Nat} {ty s:Nat} {rs:List ResultVar} {acc cs:List Value} {K:List Value → Prop} (hs:Src F B O κ (.tmp t) cs 0) (hl:L.ld ty = some (true, s)) (hc:cs.length = s) (h:zov L F B O κ H rs (.agg cs.toArray :: acc) K):zov L F B O κ H (.cell t ty :: rs) acc K :=
 ⟨cs, hs, by rw [hl]; exact ⟨hc, h⟩⟩
theorem za1 {L:Tabs P} {H:Heap} {t:Nat} {ty s:Nat} {rs:List ResultVar} {acc r:List Value} {v:Value} {K:List Value → Prop} (hs:Src F B O κ (.tmp t) (v :: r) 0) (hl:L.ld ty = some (false, s)) (h:zov L F B O κ H rs (v :: acc) K):zov L F B O κ H (.cell t ty :: rs) acc K :=
 ⟨v :: r, hs, by rw [hl]; exact ⟨v, r, rfl, h⟩⟩
def rdR (tmps:Array Value):ResultVar → Sem Value
 | .tmp t => pure (tmps.getD t undef)
 | .cell b t => do loadVar t (← asAddr (tmps.getD b undef))
theorem zrq (fn:Func) (tmps:Array Value):results fn tmps = (do
  let vs ← fn.results.mapM (rdR tmps)
  pure (if h:vs.size = 1 then vs[0] else .tuple vs)):=by
 unfold results
 congr 1

theorem z0g (L:Tabs P) {a:Act} {u:World} {H:Heap} {fp:Nat → Nat → Prop} (hH:HasH F B O n κ a u H fp):∀ (rs:List ResultVar) (acc:List Value) (K:List Value → Prop), zov L F B O κ H rs acc K →
  ∃ vs, (rs.mapM (rdR a.tmps)).run P u = .ok vs u ∧ K (acc.reverse ++ vs):=by
 intro rs
 induction rs with
 | nil => intro acc K hk; exact ⟨[], rfl, by simpa [zov] using hk⟩
 | cons r rs ih =>
  intro acc K hk
  have fin:∀ v, (rdR a.tmps r).run P u = .ok v u → zov L F B O κ H rs (v :: acc) K →
    ∃ vs, ((r :: rs).mapM (rdR a.tmps)).run P u = .ok vs u ∧ K (acc.reverse ++ vs):=fun v hv hk => by
   obtain ⟨vs, h1, h2⟩:=ih (v :: acc) K hk
   refine ⟨v :: vs, ?_, by simpa using h2⟩
   simp only [List.mapM_cons, Sem.run_bind]
   rw [hv]
   simp only [Result.andThen_ok]
   rw [h1]
   rfl
  cases r with
  | tmp t =>
   simp only [zov] at hk
   split at hk
   ·rename_i v hkt
    obtain rfl:a.eval (.tmp t) = v:=hH.slot t _ hkt
    exact fin _ (by simp [rdR, Act.eval]) hk
   ·rename_i φ' hkt
    exact fin (a.eval (.tmp t)) (by simp [rdR, Act.eval]) (hk _ (hH.slot t _ hkt))
   ·exact hk.elim
  | cell b t =>
   obtain ⟨cs, hsrc, hk⟩:=hk
   have e := hH.env (ops := #[]) (o := ⟨none, .move (.tmp b), 0, "", #[], none⟩) (κ := κ) (fun _ _ => rfl)
   obtain ⟨b', t', fr, h1, h2⟩:=hsrc _ a u H fp (by simp [Op.operands]) e
   have h1':a.tmps.getD b undef = .pointer (some ⟨b', 0, none⟩):=h1
   split at hk
   ·rename_i s hld
    obtain ⟨hl, hk⟩:=hk
    refine fin (.agg cs.toArray) ?_ hk
    simp only [rdR, Sem.run_bind, h1', asAddr, Sem.run_pure, Result.andThen_ok]
    refine zcg (Tabs.ld_spec hld) u _ cs hl fun j v hj => ?_
    have:Addr.add ⟨b', 0, none⟩ j = ⟨b', j, none⟩:=by simp [Addr.add]; intro h; exact h.symm
    rw [this, zas h2]; simpa using hj
   ·rename_i s hld
    obtain ⟨v, r, rfl, hk⟩:=hk
    refine fin v ?_ hk
    simp only [rdR, Sem.run_bind, h1', asAddr, Sem.run_pure, Result.andThen_ok]
    exact zde (Tabs.ld_spec hld) u _ v (by rw [zas h2]; simp)
   ·exact hk.elim
theorem zbn (L:Tabs P) {fn:Func} {a:Act} {u:World} {H:Heap} {fp:Nat → Nat → Prop} (hH:HasH F B O n κ a u H fp) {rs:List ResultVar} (hrs:fn.results = rs.toArray) {K:List Value → Prop} (h:zov L F B O κ H rs [] K) :
  ∃ vs, (results fn a.tmps).run P u = .ok (tup vs) u ∧ K vs:=by
 obtain ⟨vs, h1, h2⟩:=z0g L hH rs [] _ h
 refine ⟨vs, ?_, by simpa using h2⟩
 rw [zrq, hrs]
 simp only [Sem.run_bind]
 have:(rs.toArray.mapM (rdR a.tmps)).run P u = .ok vs.toArray u:=by
  rw [List.mapM_toArray, Sem.run_map, h1]
  rfl
 rw [this]
 simp only [Result.andThen_ok, Sem.run_pure]
 congr 1
 match vs with
 | [] => rfl
 | [v] => rfl
 | _ :: _ :: _ => rfl

structure Chg (b:Nat) (o:Obj) (u u':World):Prop where
 os:u'.os = u.os
 tape:u'.tape = u.tape
 output:u'.output = u.output
 size:u'.heap.size = u.heap.size
 dr:u.drawn ≤ u'.drawn
 here:u'.heap[b]? = some o
 other:∀ k, k ≠ b → u'.heap[k]? = u.heap[k]?
theorem Chg.putObj {b:Nat} {u:World} {o:Obj} (h:b < u.heap.size):Chg b o u (u.putObj b o):=⟨rfl, rfl, rfl, World.putObj_size, Nat.le_refl _, World.putObj_heap_same h, fun _ hk => World.putObj_heap_other hk⟩
theorem HasH.boxSet {ds:List DM} {O1 O2:Boxes} {b:Nat} {o o':Obj} {a a':Act} {u u':World} {H:Heap} {fp:Nat → Nat → Prop} (h:HasH F B (O1 ++ (b, o) :: O2) n κ a u H fp) (c:Chg b o' u u')
  (hds:ds.Sublist F.ds) (hb:DM.m b ∉ ds) (hat:a'.tmps = a.tmps) (had:a'.defers = ds.map z2g):HasH { F with ds:=ds } B (O1 ++ (b, o') :: O2) n κ a' u' H fp:=by
 have hmem:(b, o) ∈ O1 ++ (b, o) :: O2:=by simp
 obtain ⟨hb1, hb2, hb3⟩:=h.boxes _ hmem
 have hap:=List.pairwise_append.1 h.apart
 have hne:∀ y, (y ∈ O1 ∨ y ∈ O2) → y.1 ≠ b:=fun y hy => by
  rcases hy with hy | hy
  ·exact hap.2.2 y hy _ (List.mem_cons_self ..)
  ·exact Ne.symm ((List.pairwise_cons.1 hap.2.1).1 y hy)
 have hsub:H.Le (hp u'):=fun k x hx => by
  have:k ≠ b:=fun e => by subst e; rw [hb2] at hx; cases hx
  exact (c.other k this).trans (h.sub k x hx)
 have split:∀ y, y ∈ O1 ++ (b, o') :: O2 → y = (b, o') ∨ ((y ∈ O1 ∨ y ∈ O2) ∧ y ∈ O1 ++ (b, o) :: O2):=fun y hy => by
  rcases List.mem_append.1 hy with hy | hy
  ·exact .inr ⟨.inl hy, List.mem_append_left _ hy⟩
  ·rcases List.mem_cons.1 hy with rfl | hy
   ·exact .inl rfl
   ·exact .inr ⟨.inr hy, List.mem_append_right _ (List.mem_cons_of_mem _ hy)⟩
 refine ⟨by rw [hat]; exact h.size, had, h.nodup.sublist hds, fun D hD => ?_, h.lent, ?_, hsub, h.base, h.fresh, fun y hy => ?_, ?_, fun t k hk => ?_, h.owns, h.mono⟩
 ·have hm:=h.marks D (hds.subset hD)
  rcases List.mem_append.1 hm with hm | hm
  ·exact List.mem_append_left _ hm
  ·rcases List.mem_cons.1 hm with e | hm
   ·cases e; exact absurd hD hb
   ·exact List.mem_append_right _ (List.mem_cons_of_mem _ hm)
 ·refine ⟨c.os.trans h.keep.os, c.tape.trans h.keep.tape, c.output.trans h.keep.output, c.size ▸ h.keep.size, fun k hk hl => ?_, Nat.le_trans h.keep.dr c.dr⟩
  have:k ≠ b:=fun e => by
   subst e
   rcases hb3 with g | g
   ·exact absurd hk (by simp at g ⊢; omega)
   ·exact hl g
  exact (c.other k this).trans (h.keep.block k hk hl)
 ·rcases split y hy with rfl | ⟨h1, h2⟩
  ·exact ⟨c.here, hb2, hb3⟩
  ·obtain ⟨g1, g2, g3⟩:=h.boxes y h2
   exact ⟨(c.other _ (hne y h1)).trans g1, g2, g3⟩
 ·refine List.pairwise_append.2 ⟨hap.1, List.pairwise_cons.2 ⟨fun y hy => (List.pairwise_cons.1 hap.2.1).1 y hy, (List.pairwise_cons.1 hap.2.1).2⟩, fun y hy z hz => ?_⟩
  rcases List.mem_cons.1 hz with rfl | hz
  ·exact hne y (.inl hy)
  ·exact hap.2.2 y hy z (List.mem_cons_of_mem _ hz)
 ·have hev:a'.eval (.tmp t) = a.eval (.tmp t):=by simp [Act.eval, hat]
  rw [hev]
  have hh:=h.slot t k hk
  cases k with
  | is _ => exact hh
  | sat _ => exact hh
  | own r =>
   obtain ⟨h1, h2⟩:=hh
   refine ⟨r.st h1 (Heap.Le.refl _) hsub ⟨c.os, c.tape, c.output, Nat.le_of_eq c.size.symm, c.dr⟩ fun k hk => c.other k fun e => by subst e; exact (h2 k hk).2.2.2 _ hmem rfl, fun k hk => ?_⟩
   obtain ⟨g1, g2, g3, g4⟩:=h2 k hk
   refine ⟨c.size ▸ g1, g2, g3, fun y hy => ?_⟩
   rcases split y hy with rfl | ⟨_, g5⟩
   ·exact g4 (b, o) hmem
   ·exact g4 y g5

def zzl:List DM → Bool
 | [] => true
 | .m _ :: l => zzl l
 | .u _ :: _ => false
theorem zlf {fn:Func} {R:Ending → World → Prop}:∀ (ds:List DM) {F:Fr} {O:Boxes} {a:Act} {u:World} {H:Heap} {fp:Nat → Nat → Prop}, F.ds = ds → zzl ds = true → HasH F B O n κ a u H fp →
  (∀ (O':Boxes) (u':World), (∀ y ∈ O, DM.m y.1 ∉ F.ds → y ∈ O') → HasH { F with ds:=[] } B O' n κ { a with defers:=[] } u' H fp → LeavesInM Fence.wide 0 P fn a.tmps R [] .returning u') →
  LeavesInM Fence.wide 0 P fn a.tmps R a.defers .returning u
 | [], F, O, a, u, H, fp, hd, _, h, hk => by
  have h0:=h.defers
  rw [hd] at h0
  rw [h0]
  refine hk O u (fun y hy _ => hy) ?_
  obtain ⟨w0, r, ds, L⟩:=F
  obtain ⟨tm, df⟩:=a
  dsimp only at hd h0 ⊢
  subst hd
  have h0':df = []:=h0
  subst h0'
  exact h
 | .u _ :: ds, F, O, a, u, H, fp, hd, hm, h, hk => by cases hm
 | .m D :: ds, F, O, a, u, H, fp, hd, hm, h, hk => by
  have h0:=h.defers
  rw [hd] at h0
  have hDm:(D, Obj.deferred (some [])) ∈ O:=h.marks D (by rw [hd]; exact List.mem_cons_self ..)
  obtain ⟨O1, O2, rfl⟩:=List.append_of_mem hDm
  have hb:=(h.boxes _ hDm).1
  have hnd:=h.nodup
  rw [hd] at hnd
  have h2:=h.boxSet (ds:=ds) (a':={ a with defers:=ds.map z2g }) (Chg.putObj (o:=.deferred none) (zaa hb)) (by rw [hd]; exact List.sublist_cons_self ..) (List.nodup_cons.1 hnd).1 rfl rfl
  have ih:=zlf (fn:=fn) (R:=R) ds (F:={ F with ds:=ds }) (a:={ a with defers:=ds.map z2g }) rfl hm h2 fun O' u' hO hh => hk O' u' (fun y hy hyd => by
   rw [hd] at hyd
   refine hO y ?_ fun hm => hyd (List.mem_cons_of_mem _ hm)
   rcases List.mem_append.1 hy with hy | hy
   ·exact List.mem_append_left _ hy
   ·rcases List.mem_cons.1 hy with rfl | hy
    ·exact absurd (List.mem_cons_self ..) hyd
    ·exact List.mem_append_right _ (List.mem_cons_of_mem _ hy)) hh
  rw [h0, List.map_cons]
  exact ⟨by simp, .inl ⟨D, _, rfl, run_takeDeferred hb, ih⟩⟩

theorem zua {fn:Func} {B0:Heap} {φ:Value → Heap → World → Prop} (hQ:∀ a u, bodyPostM Fence.wide 0 P fn (zff F.w0 B0 F.L φ) .ret a u → Q .ret a u) (hs:Since F B0 B)
  (h:∀ (O':Boxes) (a:Act) (u:World) (H:Heap) (fp:Nat → Nat → Prop), (∀ y ∈ O, DM.m y.1 ∉ F.ds → y ∈ O') → HasH { F with ds:=[] } B O' n κ a u H fp → ∃ v, (results fn a.tmps).run P u = .ok v u ∧ φ v H u) (hm:zzl F.ds = true:=by rfl):V P F B n O κ .ret Q:=fun a u hh => by
 obtain ⟨H, fp, hH⟩:=hh
 refine wpIn_ret (hQ a u ?_)
 refine zlf F.ds rfl hm hH fun O' u' hO hh => ?_
 obtain ⟨v, hr, hv⟩:=h O' _ u' H fp hO hh
 exact ⟨v, hr, v, rfl, H, ⟨hh.keep, hh.sub, hs.le.trans hh.base, fun k hk hl => (hh.fresh k hk hl).trans (hs.fresh k hk hl)⟩, hv⟩
theorem z2t {fn:Func} {B0:Heap} {φ:Value → Heap → World → Prop} (hQ:∀ a u, bodyPostM Fence.wide 0 P fn (zff F.w0 B0 F.L φ) .normal a u → Q .normal a u) (hs:Since F B0 B)
  (h:∀ (O':Boxes) (a:Act) (u:World) (H:Heap) (fp:Nat → Nat → Prop), (∀ y ∈ O, DM.m y.1 ∉ F.ds → y ∈ O') → HasH { F with ds:=[] } B O' n κ a u H fp → ∃ v, (results fn a.tmps).run P u = .ok v u ∧ φ v H u) (hm:zzl F.ds = true:=by rfl):N F B n O κ Q:=fun a u hh => by
 obtain ⟨H, fp, hH⟩:=hh
 refine hQ a u ?_
 refine zlf F.ds rfl hm hH fun O' u' hO hh => ?_
 obtain ⟨v, hr, hv⟩:=h O' _ u' H fp hO hh
 exact ⟨v, hr, v, rfl, H, ⟨hh.keep, hh.sub, hs.le.trans hh.base, fun k hk hl => (hh.fresh k hk hl).trans (hs.fresh k hk hl)⟩, hv⟩
theorem qt (L:Tabs P) {fn:Func} {B0:Heap} {φ:Value → Heap → Prop} {rs:List ResultVar} (hrs:fn.results = rs.toArray) (hQ:∀ a u, bodyPostM Fence.wide 0 P fn (zff F.w0 B0 F.L fun v H _ => φ v H) .ret a u → Q .ret a u) (hs:Since F B0 B)
  (h:∀ u H, H.Le (hp u) → B.Le H → zov L F B O κ H rs [] (fun vs => φ (tup vs) H)) (hd:F.ds = []:=by rfl):V P F B n O κ .ret Q:=fun a u hh => by
 obtain ⟨H, fp, hH⟩:=hh
 refine wpIn_ret (hQ a u ?_)
 have h0:=hH.defers
 rw [hd] at h0
 show LeavesInM _ _ _ _ _ _ a.defers _ _
 rw [h0]
 obtain ⟨vs, h1, h2⟩:=zbn L hH hrs (h u H hH.sub hH.base)
 exact ⟨_, h1, _, rfl, H, ⟨hH.keep, hH.sub, hs.le.trans hH.base, fun k hk hl => (hH.fresh k hk hl).trans (hs.fresh k hk hl)⟩, h2⟩
end code
end Go.V
set_option maxRecDepth 20000
namespace Go.V
open Go.RowKit

section mem
variable {P:Program} {F:Fr} {B:Heap} {O:Boxes} {n:Nat} {ops:Array Oper} {κ:Kap} {d:Nat} {ty:TypeId} {pos:String} {aft:Array Edge} {g:Option (Nat × Bool)} {a:Act} {u:World} {H:Heap} {fp:Nat → Nat → Prop}

theorem ze4 (b:Nat) (t:TypeId) (off:Nat):∀ (vs:List Value) (i:Nat) (cur:Array Value) (w:World), w.heap[b]? = some (.cells cur t (0, 0)) → off + i + vs.length ≤ cur.size → (∀ v ∈ vs, v.oneCell' = true) →
  (storeCells ⟨b, off, none⟩ vs i).run P w = .ok () (w.setRow b (cur.toList.take (off + i) ++ vs ++ cur.toList.drop (off + i + vs.length)).toArray)
 | [], i, cur, w, hg, hl, _ => by
  have hlt:=zaa hg
  have hv:w.heap[b] = .cells cur t (0, 0):=(Array.getElem?_eq_some_iff.1 hg).2
  simp only [storeCells, List.length_nil, Nat.add_zero, List.append_nil, List.take_append_drop, Array.toArray_toList]
  show Result.ok () w = _
  congr 1
  unfold World.setRow
  cases w with
  | mk heap tape drawn os output =>
   congr 1
   apply Array.ext
   ·simp
   ·intro k h1 h2
    simp only [Array.getElem_modify]
    split
    ·rename_i hk; subst hk; simp at hv; simp [hv]
    ·rfl
 | v :: rest, i, cur, w, hg, hl, h1 => by
  have hi:off + i < cur.size:=by simp at hl; omega
  have hadd:Addr.add ⟨b, off, none⟩ i = ⟨b, off + i, none⟩:=by simp [Addr.add]
  have hc:w.cell? ⟨b, off + i, none⟩ = some cur[off + i]:=by rw [zas hg]; simp [hi]
  have hf:w.frozen? ⟨b, off + i, none⟩ = false:=by simp [World.frozen?, hg]
  have hst:(store (Addr.add ⟨b, off, none⟩ i) v).run P w = .ok () (w.setCell ⟨b, off + i, none⟩ v):=by
   rw [hadd, run_store P w _ v _ (h1 v (List.mem_cons_self ..))]
   simp [hc, hf]
  simp only [storeCells, Sem.run_bind, hst, Result.andThen_ok]
  rw [setCell_eq_setRow w b (off + i) cur t (0, 0) v hg]
  have hg':=setRow_heap w b cur (cur.setIfInBounds (off + i) v) t (0, 0) hg
  have ih:=ze4 b t off rest (i + 1) (cur.setIfInBounds (off + i) v) _ hg' (by simp at hl ⊢; omega) (fun x hx => h1 x (List.mem_cons_of_mem _ hx))
  rw [ih, setRow_setRow]
  congr 2
  apply congrArg List.toArray
  simp only [Array.toList_setIfInBounds, List.length_cons]
  have e1:(cur.toList.set (off + i) v).take (off + (i + 1)) = cur.toList.take (off + i) ++ [v]:=by
   rw [show off + (i + 1) = (off + i) + 1 by omega, List.take_add_one, List.take_set_of_le (Nat.le_refl _), List.getElem?_set_self (by simpa using hi)]
   rfl
  have e2:(cur.toList.set (off + i) v).drop (off + (i + 1) + rest.length) = cur.toList.drop (off + i + (rest.length + 1)):=by
   rw [List.drop_set_of_lt (by omega)]
   congr 1
   omega
  rw [e1, e2]
  simp

def za5:Value → List Value
 | .agg cs => cs.toList
 | v => [v]
theorem zb6 (v:Value):v.cells = (za5 v).toArray:=by cases v <;> simp [Value.cells, za5]
def zdv:Value → Bool
 | .agg _ | .tuple _ => false
 | _ => true
theorem zdd {t t':TypeId} {ag:Bool} {s b off:Nat} {cur:List Value} {v:Value} {w:World} (hl:ldI P t = some (ag, s)) (hg:w.heap[b]? = some (.cells cur.toArray t' (0, 0))) (hs:(za5 v).length = s)
  (ho:off + s ≤ cur.length) (h1:(za5 v).all zdv = true):(storeVar t ⟨b, off, none⟩ v).run P w = .ok () (w.setRow b (cur.take off ++ za5 v ++ cur.drop (off + s)).toArray):=by
 have hsz:v.cells.size = s:=by rw [zb6]; simpa using hs
 simp only [storeVar, Sem.run_bind, zbe hl, Result.andThen_ok, hsz, ne_eq, not_true_eq_false, if_false]
 have:=ze4 (P:=P) b t' off (za5 v) 0 cur.toArray w hg (by simp; omega) (fun x hx => by
  have:=List.all_eq_true.1 h1 x hx
  cases x <;> first | rfl | cases this)
 rw [zb6]
 simpa [hs] using this


abbrev zed:Kn:=.sat fun _ _ => True
theorem HasH.drop1 (s:Nat) (h:HasH F B O n κ a u H fp):HasH F B O n (upd κ s zed) a u H fp :=
 ⟨h.size, h.defers, h.nodup, h.marks, h.lent, h.keep, h.sub, h.base, h.fresh, h.boxes, h.apart, fun t k hk => by
  by_cases hts:t = s
  ·subst hts; rw [zah] at hk; cases hk; exact trivial
  ·rw [zab _ _ hts] at hk; exact h.slot t k hk, fun t q r1 r2 htq h1 h2 => by
  have key:∀ x r, upd κ s zed x = some (.own r) → κ x = some (.own r):=fun x r hx => by
   by_cases hxd:x = s
   ·subst hxd; rw [zah] at hx; cases hx
   ·rw [zab _ _ hxd] at hx; exact hx
  exact h.owns t q r1 r2 htq (key _ _ h1) (key _ _ h2), fun t k hk => by
  by_cases hts:t = s
  ·subst hts; rw [zah] at hk; cases hk; exact fun _ _ _ h _ => h
  ·rw [zab _ _ hts] at hk; exact h.mono t k hk⟩
theorem HasH.use {s:Nat} {r:Res} {u':World} {H':Heap} (h:HasH F B O n κ a u H fp) (hk:κ s = some (.own r)) (g:Grow (fp s) u H u' H'):HasH F B O n (upd κ s zed) a u' H' fp:=by
 have hm:=(h.slot s _ hk).2
 refine (h.drop1 s).growL g (fun k hl hs => ⟨(hm k hl).2.2.1, (hm k hl).2.2.2⟩) fun t r' ht k hf hl => ?_
 by_cases hts:t = s
 ·subst hts; rw [zah] at ht; cases ht
 ·rw [zab _ _ hts] at ht
  exact h.owns t s r' r hts ht hk k hf hl
theorem HasH.usePut {s d:Nat} {r r':Res} {u':World} {H':Heap} {C:Nat → Prop} {a':Act} (h:HasH F B O n κ a u H fp) (hk:κ s = some (.own r)) (g:Grow (fp s) u H u' H')
  (hsz:a'.tmps.size = a.tmps.size) (hdf:a'.defers = a.defers) (hev:∀ t, t ≠ d → a'.eval (.tmp t) = a.eval (.tmp t))
  (hr:r'.P (a'.eval (.tmp d)) H' u' C) (hC:∀ k, C k → (fp s k ∨ u.heap.size ≤ k) ∧ k < u'.heap.size ∧ H' k = none):HasH F B O n (upd (upd κ s zed) d (.own r')) a' u' H' (fpu fp d C):=by
 have hm:=(h.slot s _ hk).2
 refine (h.use hk g).putR hsz hdf hev hr (fun k hc => ?_) fun t r1 htd ht k hf hc => ?_
 ·obtain ⟨h1, h2, h3⟩:=hC k hc
  refine ⟨h2, h3, ?_, fun y hy e => ?_⟩
  ·rcases h1 with h1 | h1
   ·exact (hm k h1).2.2.1
   ·exact .inl (Nat.le_trans h.keep.size h1)
  ·rcases h1 with h1 | h1
   ·exact (hm k h1).2.2.2 y hy e
   ·have:=zaa (h.boxes y hy).1
    omega
 ·by_cases hts:t = s
  ·subst hts; rw [zah] at ht; cases ht
  ·rw [zab _ _ hts] at ht
   rcases (hC k hc).1 with h1 | h1
   ·exact h.owns t s r1 r hts ht hk k hf h1
   ·have:=((h.slot t _ ht).2 k hf).1
    omega
theorem zbr (κ:Kap) (s:Nat) (k k':Kn):upd (upd κ s k) s k' = upd κ s k':=by
 funext t
 by_cases h:t = s
 ·subst h; rw [zah, zah]
 ·rw [zab _ _ h, zab _ _ h, zab _ _ h]

theorem qd (L:Tabs P) {t:TypeId} {z:Value} {cs:List Value} (hn:Nat.blt d n = true) (hg:gK ops κ ⟨some d, .alloc t, ty, pos, aft, g⟩ = some true) (hz:L.zr t = some z) (hc:za5 z = cs) :
  StepOK P F B n ops O κ ⟨some d, .alloc t, ty, pos, aft, g⟩ d (.own (Cell cs t)):=by
 rintro κ' a u hl ⟨H, fp, hh⟩
 have hn:d < n:=by simpa using hn
 unfold After
 rw [if_pos (zae hh hl hg)]
 have hrun:(execOp a.eval ⟨some d, .alloc t, ty, pos, aft, g⟩).run P u = .ok (.value (.pointer (some ⟨u.heap.size, 0, none⟩))) (u.alloc (.cells cs.toArray t)):=by
  have hzz:=Tabs.zr_spec hz
  unfold zrI at hzz
  split at hzz
  ·rename_i i hi
   subst hc
   simp [execOp, Instr.alloc, zeroValue, typeInfo, hi, hzz, newVar, newRow, zb6]
  ·cases hzz
 rw [hrun]
 simp only [Upon]
 have hg2:=hh.grow (Grow.hid hh.sub (.cells cs.toArray t))
 refine ⟨H, _, hg2.putR (C:=fun k => k = u.heap.size) (by simp [Act.put]) rfl (fun t ht => zap ht) ⟨u.heap.size, zat (by rw [hh.size]; exact hn), zak _ _, fun _ => Iff.rfl⟩ (fun k hk => ?_) fun t r' _ ht k hf hk => ?_⟩
 ·subst hk
  exact ⟨zaa (zak u _), za8 hh.sub (Nat.le_refl _), .inl hh.keep.size, fun y hy e => by have:=zaa (hh.boxes y hy).1; omega⟩
 ·have:=((hh.slot t _ ht).2 k hf).1
  omega
theorem z3v {x:Operand} {t:TypeId} {v:Value} {cs:List Value} (hn:Nat.blt d n = true) (hg:gK ops κ ⟨some d, .box t x, ty, pos, aft, g⟩ = some true) (hx:evK κ x = some v) (hc:za5 v = cs) :
  StepOK P F B n ops O κ ⟨some d, .box t x, ty, pos, aft, g⟩ d (.own (Cell cs t)):=by
 rintro κ' a u hl ⟨H, fp, hh⟩
 have hn:d < n:=by simpa using hn
 unfold After
 rw [if_pos (zae hh hl hg)]
 have e:=hh.env hl
 have hrun:(execOp a.eval ⟨some d, .box t x, ty, pos, aft, g⟩).run P u = .ok (.value (.pointer (some ⟨u.heap.size, 0, none⟩))) (u.alloc (.cells cs.toArray t)):=by
  have h1:=e.is_ x _ (by simp [Op.operands]) hx
  subst hc
  simp [execOp, h1, Instr.box, newVar, newRow, zb6]
 rw [hrun]
 simp only [Upon]
 have hg2:=hh.grow (Grow.hid hh.sub (.cells cs.toArray t))
 refine ⟨H, _, hg2.putR (C:=fun k => k = u.heap.size) (by simp [Act.put]) rfl (fun t ht => zap ht) ⟨u.heap.size, zat (by rw [hh.size]; exact hn), zak _ _, fun _ => Iff.rfl⟩ (fun k hk => ?_) fun t r' _ ht k hf hk => ?_⟩
 ·subst hk
  exact ⟨zaa (zak u _), za8 hh.sub (Nat.le_refl _), .inl hh.keep.size, fun y hy e => by have:=zaa (hh.boxes y hy).1; omega⟩
 ·have:=((hh.slot t _ ht).2 k hf).1
  omega

theorem zdl {b:Nat} {cur:Array Value} {t:TypeId} {fr:Nat × Nat} {L:Nat → Prop} (hs:H.Le (hp u)) (hb:u.heap[b]? = some (.cells cur t fr)) (hL:L b) (hH:H b = none) (cs:Array Value):Grow L u H (u.setRow b cs) H :=
 ⟨⟨rfl, rfl, rfl, Nat.le_of_eq (setRow_size ..).symm, fun k _ hk => setRow_other _ _ _ _ (fun e => hk (e ▸ hL)), Nat.le_refl _⟩, fun k x hx => by
  have:k ≠ b:=fun e => by subst e; rw [hH] at hx; cases hx
  show (u.setRow b cs).heap[k]? = some x
  rw [setRow_other _ _ _ _ this]; exact hs k x hx, Heap.Le.refl _, fun _ _ _ => rfl⟩
theorem qc (L:Tabs P) {t t':TypeId} {s:Nat} {ag:Bool} {z:Nat} {x:Operand} {v:Value} {cs cs':List Value} (hg:gK ops κ ⟨none, .store t (.tmp s) x, ty, pos, aft, g⟩ = some true) (hk:κ s = some (.own (Cell cs t'))) (hx:evK κ x = some v)
  (hl:L.ld t = some (ag, z)) (hlen:(za5 v).length = z) (hcs:Nat.ble z cs.length = true) (hp:(za5 v).all zdv = true) (hr:za5 v ++ cs.drop z = cs') :
  StepOK P F B n ops O κ ⟨none, .store t (.tmp s) x, ty, pos, aft, g⟩ s (.own (Cell cs' t')):=by
 rintro κ' a u hlk ⟨H, fp, hh⟩
 subst hr
 unfold After
 rw [if_pos (zae hh hlk hg)]
 have e:=hh.env hlk
 have hev:=e.is_ x v (by simp [Op.operands]) hx
 have hks:κ' s = some (.own (Cell cs t')):=(hlk s (zd5 (by simp [Op.operands]))).trans hk
 obtain ⟨⟨b, hes, hb, hC⟩, hM⟩:=hh.slot s _ hks
 have hrun:(execOp a.eval ⟨none, .store t (.tmp s) x, ty, pos, aft, g⟩).run P u = .ok .skip (u.setRow b (za5 v ++ cs.drop z).toArray):=by
  simp only [execOp, hes, hev, Instr.storeAt, Instr.sureAddr, Sem.run_bind, Sem.run_pure, Result.andThen_ok]
  have:=zdd (P:=P) (off:=0) (Tabs.ld_spec hl) hb hlen (by have:=Nat.le_of_ble_eq_true hcs; omega) hp
  rw [this]
  simp
 rw [hrun]
 simp only [Upon, Act.put]
 have hset:=setRow_heap u b cs.toArray (za5 v ++ cs.drop z).toArray t' (0, 0) hb
 have hbm:=hM b ((hC b).2 rfl)
 have:=hh.usePut (d:=s) (a':=a) (r':=Cell (za5 v ++ cs.drop z) t') (C:=fun k => k = b) hks (zdl hh.sub hb ((hC b).2 rfl) hbm.2.1 _) rfl rfl (fun _ _ => rfl) ⟨b, hes, hset, fun _ => Iff.rfl⟩ (fun k hk => by
  subst hk; exact ⟨.inl ((hC k).2 rfl), by rw [setRow_size]; exact hbm.1, hbm.2.1⟩)
 rw [zbr] at this
 exact ⟨H, _, this⟩

theorem HasH.toBox {t b:Nat} {r:Res} {o:Obj} (h:HasH F B O n κ a u H fp) (hk:κ t = some (.own r)) (hb:u.heap[b]? = some o) (hC:fp t b):HasH F B ((b, o) :: O) n (upd κ t (.is (a.eval (.tmp t)))) a u H fp:=by
 have hm:=(h.slot t _ hk).2 b hC
 have h':=h.name t
 refine ⟨h'.size, h'.defers, h'.nodup, fun D hD => List.mem_cons_of_mem _ (h'.marks D hD), h'.lent, h'.keep, h'.sub, h'.base, h'.fresh, fun y hy => ?_, List.pairwise_cons.2 ⟨fun y hy => Ne.symm (hm.2.2.2 y hy), h'.apart⟩, fun s k hs => ?_, h'.owns, h'.mono⟩
 ·rcases List.mem_cons.1 hy with rfl | hy
  ·exact ⟨hb, hm.2.1, hm.2.2.1⟩
  ·exact h'.boxes y hy
 ·have hh:=h'.slot s k hs
  cases k with
  | is _ => exact hh
  | sat _ => exact hh
  | own r' =>
   refine ⟨hh.1, fun k hk' => ?_⟩
   obtain ⟨g1, g2, g3, g4⟩:=hh.2 k hk'
   refine ⟨g1, g2, g3, fun y hy => ?_⟩
   rcases List.mem_cons.1 hy with rfl | hy
   ·intro e
    have hst:s ≠ t:=fun e => by subst e; rw [zah] at hs; cases hs
    rw [zab _ _ hst] at hs
    exact h.owns s t r' r hst hs hk k hk' (e ▸ hC)
   ·exact g4 y hy
theorem Has.box {t:Nat} {cs:List Value} {ty:TypeId} (hk:κ t = some (.own (Cell cs ty))) (h:Has F B O n κ a u) :
  ∃ b, (∀ y ∈ O, y.1 ≠ b) ∧ Has F B (bx b cs ty :: O) n (upd κ t (.is (.pointer (some ⟨b, 0, none⟩)))) a u:=by
 obtain ⟨H, fp, h⟩:=h
 obtain ⟨⟨b, hv, hb, hC⟩, hM⟩:=h.slot t _ hk
 have:=h.toBox hk hb ((hC b).2 rfl)
 rw [hv] at this
 exact ⟨b, (hM b ((hC b).2 rfl)).2.2.2, H, fp, this⟩
section
variable {Q:Exit → Act → World → Prop}
theorem zey (t:Nat) {cs:List Value} {ty:TypeId} {c:Code} (hk:κ t = some (.own (Cell cs ty))) (h:∀ b, (∀ y ∈ O, y.1 ≠ b) → V P F B n (bx b cs ty :: O) (upd κ t (.is (.pointer (some ⟨b, 0, none⟩)))) c Q):V P F B n O κ c Q:=fun a u hh => by
 obtain ⟨b, hb, hh'⟩:=hh.box hk
 exact h b hb a u hh'
theorem zsq (t:Nat) {cs:List Value} {ty:TypeId} {os:List Oper} (hk:κ t = some (.own (Cell cs ty))) (h:∀ b, (∀ y ∈ O, y.1 ≠ b) → VO P F B n (bx b cs ty :: O) ops (upd κ t (.is (.pointer (some ⟨b, 0, none⟩)))) os Q):VO P F B n O ops κ os Q:=fun a u hh => by
 obtain ⟨b, hb, hh'⟩:=hh.box hk
 exact h b hb a u hh'
theorem HasH.ofBox {t b:Nat} {r:Res} {o:Obj} {O1 O2:Boxes} (h:HasH F B (O1 ++ (b, o) :: O2) n κ a u H fp) (hd:DM.m b ∉ F.ds) (hr:r.P (a.eval (.tmp t)) H u (fun k => k = b)):HasH F B (O1 ++ O2) n (upd κ t (.own r)) a u H (fpu fp t fun k => k = b):=by
 have hsl:(O1 ++ O2).Sublist (O1 ++ (b, o) :: O2):=List.Sublist.append (List.Sublist.refl _) (List.sublist_cons_self ..)
 have hmem:(b, o) ∈ O1 ++ (b, o) :: O2:=by simp
 obtain ⟨hb1, hb2, hb3⟩:=h.boxes _ hmem
 have hap:=List.pairwise_append.1 h.apart
 have hne:∀ y, y ∈ O1 ++ O2 → y.1 ≠ b:=fun y hy => by
  rcases List.mem_append.1 hy with hy | hy
  ·exact hap.2.2 y hy _ (List.mem_cons_self ..)
  ·exact Ne.symm ((List.pairwise_cons.1 hap.2.1).1 y hy)
 have h1:HasH F B (O1 ++ O2) n κ a u H fp:=⟨h.size, h.defers, h.nodup, fun D hD => by
  have hm:=h.marks D hD
  rcases List.mem_append.1 hm with hm | hm
  ·exact List.mem_append_left _ hm
  ·rcases List.mem_cons.1 hm with e | hm
   ·cases e; exact absurd hD hd
   ·exact List.mem_append_right _ hm, h.lent, h.keep, h.sub, h.base, h.fresh, fun y hy => h.boxes y (hsl.subset hy), h.apart.sublist hsl, fun s k hs => by
  have hh:=h.slot s k hs
  cases k with
  | is _ => exact hh
  | sat _ => exact hh
  | own r' => exact ⟨hh.1, fun k hk' => by obtain ⟨g1, g2, g3, g4⟩:=hh.2 k hk'; exact ⟨g1, g2, g3, fun y hy => g4 y (hsl.subset hy)⟩⟩, h.owns, h.mono⟩
 refine h1.putR rfl rfl (fun _ _ => rfl) hr (fun k hk => ?_) fun s r' hst hs k hf hk => ?_
 ·subst hk
  exact ⟨zaa hb1, hb2, hb3, fun y hy => hne y hy⟩
 ·subst hk
  exact ((h.slot s _ hs).2 k hf).2.2.2 _ hmem rfl
theorem zh5 (L:Tabs P) {os:List Oper} {t t':TypeId} {ag:Bool} {z b off:Nat} {p x:Operand} {v:Value} {O1 O2:Boxes} {cs cs':List Value}
  (hO:O = O1 ++ bx b cs t' :: O2) (hg:gK ops κ ⟨none, .store t p x, ty, pos, aft, g⟩ = some true) (hp:evK κ p = some (.pointer (some ⟨b, off, none⟩))) (hx:evK κ x = some v)
  (hl:L.ld t = some (ag, z)) (hlen:(za5 v).length = z) (hcs:Nat.ble (off + z) cs.length = true) (hpl:(za5 v).all zdv = true) (hr:cs.take off ++ (za5 v ++ cs.drop (off + z)) = cs')
  (h:VO P F B n (O1 ++ bx b cs' t' :: O2) ops κ os Q):VO P F B n O ops κ (⟨none, .store t p x, ty, pos, aft, g⟩ :: os) Q:=by
 rintro a u ⟨H, fp, hh⟩
 subst hO
 subst hr
 show After _ _ _ _ _ _
 unfold After
 rw [if_pos (zae hh (fun _ _ => rfl) hg)]
 have e:=hh.env (ops:=ops) (o:=⟨none, .store t p x, ty, pos, aft, g⟩) (fun _ _ => rfl)
 have hev:=e.is_ x v (by simp [Op.operands]) hx
 have hes:=e.is_ p _ (by simp [Op.operands]) hp
 have hmem:bx b cs t' ∈ O1 ++ bx b cs t' :: O2:=by simp
 obtain ⟨hb, hH, hw⟩:=hh.boxes _ hmem
 have hrun:(execOp a.eval ⟨none, .store t p x, ty, pos, aft, g⟩).run P u = .ok .skip (u.setRow b (cs.take off ++ (za5 v ++ cs.drop (off + z))).toArray):=by
  simp only [execOp, hes, hev, Instr.storeAt, Instr.sureAddr, Sem.run_bind, Sem.run_pure, Result.andThen_ok]
  have:=zdd (P:=P) (off:=off) (Tabs.ld_spec hl) hb hlen (Nat.le_of_ble_eq_true hcs) hpl
  rw [this]
  simp
 rw [hrun]
 simp only [Upon, Act.put]
 have hset:=setRow_heap u b cs.toArray (cs.take off ++ (za5 v ++ cs.drop (off + z))).toArray t' (0, 0) hb
 have hbd:DM.m b ∉ F.ds:=fun hd => by
  have hm:=hh.marks b hd
  have:=(hh.boxes _ hm).1
  rw [hb] at this
  cases this
 have h2:=hh.boxSet (u':=u.setRow b (cs.take off ++ (za5 v ++ cs.drop (off + z))).toArray) (ds:=F.ds) (a':=a) (o':=.cells (cs.take off ++ (za5 v ++ cs.drop (off + z))).toArray t') ⟨rfl, rfl, rfl, setRow_size .., Nat.le_refl _, hset, fun k hk => setRow_other _ _ _ _ hk⟩ (List.Sublist.refl _) hbd rfl hh.defers
 exact h a _ ⟨H, fp, h2⟩

theorem HasH.pub {t b:Nat} {r:Res} {o:Obj} {φ:Value → Heap → Prop} (h:HasH F B O n κ a u H fp) (hk:κ t = some (.own r)) (hb:u.heap[b]? = some o) (hC:fp t b) (hm:Kn.mono (.sat φ)) (hp:∀ H', H.Le H' → H' b = some o → φ (a.eval (.tmp t)) H') :
  ∃ H', HasH F B O n (upd κ t (.sat φ)) a u H' fp:=by
 have hM:=(h.slot t _ hk).2 b hC
 have hle:H.Le (fun k => if k = b then some o else H k):=fun k x hx => by
  show (if k = b then some o else H k) = some x
  rw [if_neg fun e => by subst e; rw [hM.2.1] at hx; cases hx]; exact hx
 have hne:∀ k, k ≠ b → (fun k => if k = b then some o else H k) k = H k:=fun k hk => if_neg hk
 refine ⟨fun k => if k = b then some o else H k, h.size, h.defers, h.nodup, h.marks, h.lent, h.keep, fun k x hx => ?_, h.base.trans hle, fun k hk hl => ?_, fun y hy => ?_, h.apart, fun s k hs => ?_, fun s r1 r2 r3 hsr h1 h2 => ?_, fun s k hs => ?_⟩
 ·split at hx
  ·rename_i e; subst e; cases hx; exact hb
  ·exact h.sub k x hx
 ·refine (hne k fun e => ?_).trans (h.fresh k hk hl)
  subst e
  rcases hM.2.2.1 with h1 | h1
  ·omega
  ·exact hl h1
 ·obtain ⟨g1, g2, g3⟩:=h.boxes y hy
  exact ⟨g1, (hne _ (hM.2.2.2 y hy)).trans g2, g3⟩
 ·by_cases hst:s = t
  ·subst hst; rw [zah] at hs; cases hs
   exact hp _ hle (if_pos rfl)
  ·rw [zab _ _ hst] at hs
   have hh:=h.slot s k hs
   cases k with
   | is _ => exact hh
   | sat ψ => exact h.mono s _ hs _ H _ hh hle
   | own r' =>
    refine ⟨r'.st hh.1 hle (fun k x hx => ?_) (On.refl _) (fun _ _ => rfl), fun k hk' => ?_⟩
    ·split at hx
     ·rename_i e; subst e; cases hx; exact hb
     ·exact h.sub k x hx
    ·obtain ⟨g1, g2, g3, g4⟩:=hh.2 k hk'
     exact ⟨g1, (hne _ fun e => by subst e; exact h.owns s t r' r hst hs hk k hk' hC).trans g2, g3, g4⟩
 ·have key:∀ x r, upd κ t (.sat φ) x = some (.own r) → κ x = some (.own r):=fun x r hx => by
   by_cases hxd:x = t
   ·subst hxd; rw [zah] at hx; cases hx
   ·rw [zab _ _ hxd] at hx; exact hx
  exact h.owns s r1 r2 r3 hsr (key _ _ h1) (key _ _ h2)
 ·by_cases hst:s = t
  ·subst hst; rw [zah] at hs; cases hs; exact hm
  ·rw [zab _ _ hst] at hs; exact h.mono s k hs
theorem Has.drop {O':Boxes} (hO:O'.Sublist O) (hd:F.ds = []) (h:Has F B O n κ a u):Has F B O' n κ a u:=by
 obtain ⟨H, fp, h⟩:=h
 refine ⟨H, fp, h.size, h.defers, h.nodup, (fun D hD => by rw [hd] at hD; cases hD), h.lent, h.keep, h.sub, h.base, h.fresh, fun y hy => h.boxes y (hO.subset hy), h.apart.sublist hO, fun s k hs => ?_, h.owns, h.mono⟩
 have hh:=h.slot s k hs
 cases k with
 | is _ => exact hh
 | sat φ => exact hh
 | own r => exact ⟨hh.1, fun k hk => by obtain ⟨g1, g2, g3, g4⟩:=hh.2 k hk; exact ⟨g1, g2, g3, fun y hy => g4 y (hO.subset hy)⟩⟩
theorem zuc {O':Boxes} {c:Code} (hO:O'.Sublist O) (h:V P F B n O' κ c Q) (hd:F.ds = []:=by rfl):V P F B n O κ c Q:=fun a u hh => h a u (hh.drop hO hd)
end
end mem
end Go.V
set_option maxRecDepth 20000
namespace Go.V
open Go.RowKit

def zls (places:List (Nat × Nat)):List Value → List (Nat × Value) → Option (List Value)
 | cells, [] => some cells
 | cells, (i, v) :: rest => match places[i]? with
  | none => none
  | some (off, size) => bif Nat.beq (za5 v).length size && Nat.ble (off + size) cells.length then zls places (cells.take off ++ (za5 v ++ cells.drop (off + size))) rest else none
def plI (P:Program) (t:TypeId):Option (List (Nat × Nat)) :=
 match P.underlying t with
 | some (.struct fs) => fs.toList.mapM fun f => (P.info? f.type).map fun i => (f.offset, i.size)
 | some (.array n e) => match P.info? e with
  | some ie => some ((List.range n).map fun i => (i * ie.size, ie.size))
  | none => none
 | _ => none
theorem zlj:∀ (vs:List Value) (k off:Nat) (cells:Array Value), off + k + vs.length ≤ cells.size →
  ((vs.zipIdx k).foldl (fun cs (p:Value × Nat) => cs.setIfInBounds (off + p.2) p.1) cells) = (cells.toList.take (off + k) ++ vs ++ cells.toList.drop (off + k + vs.length)).toArray
 | [], k, off, cells, _ => by simp
 | v :: vs, k, off, cells, h => by
  simp only [List.zipIdx_cons, List.foldl_cons]
  rw [zlj vs (k + 1) off _ (by simp at h ⊢; omega)]
  apply congrArg List.toArray
  simp only [Array.toList_setIfInBounds, List.length_cons]
  simp only [List.length_cons] at h
  have e1:(cells.toList.set (off + k) v).take (off + (k + 1)) = cells.toList.take (off + k) ++ [v]:=by
   rw [show off + (k + 1) = (off + k) + 1 by omega, List.take_add_one, List.take_set_of_le (Nat.le_refl _), List.getElem?_set_self (by simp; omega)]
   rfl
  have e2:(cells.toList.set (off + k) v).drop (off + (k + 1) + vs.length) = cells.toList.drop (off + k + (vs.length + 1)):=by
   rw [List.drop_set_of_lt (by omega)]
   congr 1
   omega
  rw [e1, e2]
  simp
theorem zeg {place:Nat → Option (Nat × Nat)} {places:List (Nat × Nat)} (hp:∀ i p, places[i]? = some p → place i = some p):∀ (parts:List (Nat × Value)) (cells r:List Value), zls places cells parts = some r →
  Instr.fill place cells.toArray parts = some r.toArray
 | [], cells, r, h => by simp only [zls] at h; cases h; rfl
 | (i, v) :: rest, cells, r, h => by
  simp only [zls] at h
  split at h
  ·cases h
  ·rename_i off size hpl
   cases hb:Nat.beq (za5 v).length size && Nat.ble (off + size) cells.length with
   | false => rw [hb] at h; cases h
   | true =>
    rw [hb] at h
    simp only [Bool.and_eq_true] at hb
    have h1:=Nat.eq_of_beq_eq_true hb.1
    have h2:=Nat.le_of_ble_eq_true hb.2
    have hsz:v.cells.size = size:=by rw [zb6]; simpa using h1
    simp only [Instr.fill, hp i _ hpl, hsz]
    rw [if_neg (by simp; omega)]
    rw [zb6, ← Array.foldl_toList]
    simp only [Array.toList_zipIdx]
    rw [zlj (za5 v) 0 off cells.toArray (by simp; omega)]
    have:=zeg hp rest _ r h
    simpa [h1] using this
def evP (κ:Kap):List (Nat × Operand) → Option (List (Nat × Value))
 | [] => some []
 | (i, x) :: xs => match evK κ x, evP κ xs with
  | some v, some vs => some ((i, v) :: vs)
  | _, _ => none
section
variable {P:Program} {F:Fr} {B:Heap} {O:Boxes} {n:Nat} {ops:Array Oper} {κ:Kap} {d:Nat} {ty:TypeId} {pos:String} {aft:Array Edge} {g:Option (Nat × Bool)}
theorem zol {o:Oper} {a:Act} {u:World} {H:Heap} {fp:Nat → Nat → Prop} (e:Env F B O κ o a u H fp):∀ (xs:List (Nat × Operand)) (vs:List (Nat × Value)), (∀ p ∈ xs, p.2 ∈ o.op.operands) → evP κ xs = some vs → xs.map (fun p => (p.1, a.eval p.2)) = vs
 | [], vs, _, h => by simp only [evP] at h; cases h; rfl
 | (i, x) :: xs, vs, hx, h => by
  simp only [evP] at h
  split at h
  ·rename_i v vs' h1 h2
   cases h
   rw [List.map_cons, zol e xs vs' (fun p hp => hx p (List.mem_cons_of_mem _ hp)) h2, e.is_ x v (hx (i, x) (List.mem_cons_self ..)) h1]
  ·cases h
structure PL (P:Program) (t:TypeId) (places:List (Nat × Nat)) (z:List Value):Prop where
 pl:plI P t = some places
 zr:∃ zv, zrI P t = some zv ∧ za5 zv = z
theorem y8 {t:TypeId} {parts:Array (Nat × Operand)} {places:List (Nat × Nat)} {z cs:List Value} {vs:List (Nat × Value)} (hn:Nat.blt d n = true) (hg:gK ops κ ⟨some d, .build t parts, ty, pos, aft, g⟩ = some true)
  (hp:PL P t places z) (hv:evP κ parts.toList = some vs) (hc:zls places z vs = some cs):StepOK P F B n ops O κ ⟨some d, .build t parts, ty, pos, aft, g⟩ d (.is (.agg cs.toArray)) :=
 zan rfl (by simpa using hn) hg trivial fun a u H fp e => ⟨_, by
  have hm:=zol e parts.toList vs (fun p hp' => by simp [Op.operands]; exact ⟨p.1, by simpa using hp'⟩) hv
  obtain ⟨zv, hz1, hz2⟩:=hp.zr
  have hbt:P.built t vs = some cs.toArray:=by
   have hpl:=hp.pl
   unfold plI at hpl
   unfold zrI at hz1
   split at hz1
   ·rename_i it hit
    unfold Program.built
    split at hpl
    ·rename_i fs hu
     simp only [hit, hu, hz1, hpl]
     rw [zb6, hz2]
     exact zeg (fun i p h => by simpa using h) vs z cs hc
    ·rename_i m el hu
     split at hpl
     ·rename_i ie hie
      simp only [hit, hu, hz1, hie]
      cases hpl
      rw [zb6, hz2]
      exact zeg (fun i p h => by
       rw [List.getElem?_map] at h
       cases hr:(List.range m)[i]? with
       | none => rw [hr] at h; cases h
       | some j =>
        rw [hr] at h
        have:j = i:=by
         have:=List.getElem?_eq_some_iff.1 hr
         obtain ⟨h1, h2⟩:=this
         simpa using h2.symm
        subst this
        simpa using h) vs z cs hc
     ·cases hpl
    ·cases hpl
   ·cases hz1
  have hr:=run_build (P:=P) u t vs.toArray cs.toArray (by simpa using hbt)
  have harr:(parts.map fun (p:Nat × Operand) => (p.1, a.eval p.2)) = vs.toArray:=by
   rw [← hm, ← List.map_toArray, Array.toArray_toList]
  simp only [execOp, Sem.run_bind]
  show Result.andThen ((Instr.build t (parts.map fun (p:Nat × Operand) => (p.1, a.eval p.2))).run P u) _ = _
  rw [harr, hr]
  rfl, rfl⟩

def SlB (cs:List Value) (e:TypeId) (len:Nat):Value → Heap → Prop:=fun v H => ∃ b, v = .slice (some ⟨b, 0, none⟩) len len ∧ H b = some (.cells cs.toArray e)
theorem SlB.mono {cs:List Value} {e:TypeId} {len:Nat}:Kn.mono (.sat (SlB cs e len)):=fun _ _ _ ⟨b, hv, hb⟩ hl => ⟨b, hv, hl _ _ hb⟩
def zhv:List (Nat × Value) → List Value
 | [] => []
 | p :: ps => za5 p.2 ++ zhv ps
def zy0 (s:Nat):Nat → List (Nat × Value) → Bool
 | _, [] => true
 | i, p :: ps => Nat.beq p.1 i && (Nat.beq (za5 p.2).length s && zy0 s (i + 1) ps)
theorem zln {s:Nat}:∀ (ps:List (Nat × Value)) (i:Nat) (cells:Array Value), zy0 s i ps = true → cells.size = (i + ps.length) * s →
  Instr.fill (fun i => some (i * s, s)) cells ps = some (cells.toList.take (i * s) ++ zhv ps).toArray
 | [], i, cells, _, hs => by
  simp only [Instr.fill, zhv, List.append_nil]
  rw [List.take_of_length_le (by simp at hs ⊢; omega)]
 | (j, v) :: ps, i, cells, h, hs => by
  simp only [zy0, Bool.and_eq_true] at h
  obtain rfl:=Nat.eq_of_beq_eq_true h.1
  have h1:=Nat.eq_of_beq_eq_true h.2.1
  have hsz:v.cells.size = s:=by rw [zb6]; simpa using h1
  have hle:j * s + s ≤ cells.size:=by
   rw [hs]
   have:(j + (ps.length + 1)) * s = j * s + s + ps.length * s:=by rw [Nat.add_mul, Nat.succ_mul]; omega
   simp only [List.length_cons]; omega
  simp only [Instr.fill, hsz]
  rw [if_neg (by simp; omega)]
  rw [zb6, ← Array.foldl_toList]
  simp only [Array.toList_zipIdx]
  rw [zlj (za5 v) 0 (j * s) cells (by rw [h1]; omega)]
  have hs2:cells.size = (j + 1 + ps.length) * s:=by rw [hs]; congr 1; simp only [List.length_cons]; omega
  rw [zln ps (j + 1) _ h.2.2 (by
   simp only [List.size_toArray, List.length_append, List.length_take, List.length_drop, Array.length_toList, h1]
   rw [← hs2]
   omega)]
  congr 2
  have h2:(j + 1) * s = j * s + s:=Nat.succ_mul j s
  have h3:(cells.toList.take (j * s + 0) ++ za5 v).length = (j + 1) * s:=by
   simp only [List.length_append, List.length_take, Array.length_toList, h1]; omega
  rw [List.take_append_of_le_length (by simp only [h3]; omega), List.take_of_length_le (by simp only [h3]; omega)]
  simp [zhv]
theorem ya (L:Tabs P) {t e:TypeId} {ag:Bool} {s len:Nat} {parts:Array (Nat × Operand)} {z:Value} {vs:List (Nat × Value)} (hn:Nat.blt d n = true) (hg:gK ops κ ⟨some d, .buildSlice t len parts, ty, pos, aft, g⟩ = some true)
  (ht:L.sl t = some e) (hl:L.ld e = some (ag, s)) (hz:L.zr e = some z) (hv:evP κ parts.toList = some vs) (hlen:vs.length = len) (hen:zy0 s 0 vs = true) (hb:Nat.ble (len * s) 16777216 = true) :
  StepOK P F B n ops O κ ⟨some d, .buildSlice t len parts, ty, pos, aft, g⟩ d (.sat (SlB (zhv vs) e len)) :=
 zxl rfl (by simpa using hn) hg SlB.mono fun a u H fp en => by
  refine ⟨.slice (some ⟨u.heap.size, 0, none⟩) len len, u.alloc (.cells (zhv vs).toArray e), _, ?_, Grow.new en.sub _, ⟨_, rfl, by simp⟩⟩
  have hm:=zol en parts.toList vs (fun p hp' => by simp [Op.operands]; exact ⟨p.1, by simpa using hp'⟩) hv
  have harr:(parts.map fun (p:Nat × Operand) => (p.1, a.eval p.2)) = vs.toArray:=by
   rw [← hm, ← List.map_toArray, Array.toArray_toList]
  have hb':=Nat.le_of_ble_eq_true hb
  have hzz:=Tabs.zr_spec hz
  unfold zrI at hzz
  split at hzz
  ·rename_i it hit
   have hzr:(zeroValue e).run P u = .ok z u:=by simp [zeroValue, typeInfo, hit, hzz]
   simp only [execOp, Sem.run_bind]
   show Result.andThen ((Instr.buildSlice t len (parts.map fun (p:Nat × Operand) => (p.1, a.eval p.2))).run P u) _ = _
   rw [harr]
   simp only [Instr.buildSlice, Sem.run_bind, run_underlying (Tabs.sl_spec ht), Result.andThen_ok, zbe (Tabs.ld_spec hl)]
   rw [if_neg (by omega)]
   have hfill:∀ cells:Array Value, cells.size = len * s → Instr.fill (fun i => some (i * s, s)) cells vs = some (zhv vs).toArray:=fun cells hc => by
    have:=zln vs 0 cells hen (by rw [hc, hlen]; simp)
    simpa using this
   by_cases h0:len * s = 0
   ·simp only [h0, if_true, Sem.run_bind, Sem.run_pure, Result.andThen_ok]
    rw [hfill _ (by simp [h0])]
    simp [newRow]
   ·simp only [h0, if_false, Sem.run_bind, Sem.run_pure, Result.andThen_ok, hzr]
    rw [hfill _ (by simp)]
    simp [newRow]
  ·cases hzz
end
end Go.V
set_option maxRecDepth 20000
namespace Go.V
open Go.RowKit

def lvF (P:Program) (rec:TypeId → Option (List Nat)):List Field → Nat → Option (List Nat)
 | [], _ => some []
 | f :: fs, off => match rec f.type, ldI P f.type with
  | some ls, some (ag, s) => if f.name ≠ "_" ∧ f.offset = off ∧ s = ls.length ∧ (ag = true ∨ s = 1) then
    match lvF P rec fs (off + s) with
    | some r => some (ls ++ r)
    | none => none
   else none
  | _, _ => none
def lvI (P:Program):Nat → TypeId → Option (List Nat)
 | 0, _ => none
 | d + 1, t => match P.underlying t with
  | some .string => some [0]
  | some (.int _) => some [1]
  | some .bool => some [2]
  | some (.struct fs) => if P.stoodInHeld t then none else lvF P (lvI P d) fs.toList 0
  | _ => none
def eqC:Nat → Value → Value → Option Bool
 | 0, .string a, .string b => some (decide (a = b))
 | 1, .int k a, .int k' b => if k = k' then some (decide (a = b)) else none
 | 2, .bool a, .bool b => some (a == b)
 | _, _, _ => none
def zgt:List Nat → List Value → List Value → Option Bool
 | [], [], [] => some true
 | l :: ls, x :: xs, y :: ys => match eqC l x y, zgt ls xs ys with
  | some a, some b => some (a && b)
  | _, _ => none
 | _, _, _ => none
theorem zlo:∀ (ls ms:List Nat) (xs ys:List Value) (b:Bool), zgt (ls ++ ms) xs ys = some b →
  ∃ b1 b2, zgt ls (xs.take ls.length) (ys.take ls.length) = some b1 ∧ zgt ms (xs.drop ls.length) (ys.drop ls.length) = some b2 ∧ b = (b1 && b2)
 | [], ms, xs, ys, b, h => ⟨true, b, by simp [zgt], by simpa using h, by simp⟩
 | l :: ls, ms, xs, ys, b, h => by
  cases xs with
  | nil => cases ys <;> simp [zgt] at h
  | cons x xs =>
   cases ys with
   | nil => simp [zgt] at h
   | cons y ys =>
    simp only [List.cons_append, zgt] at h
    split at h
    ·rename_i a c h1 h2
     cases h
     obtain ⟨b1, b2, g1, g2, g3⟩:=zlo ls ms xs ys c h2
     exact ⟨a && b1, b2, by simp [zgt, h1, g1], by simpa using g2, by rw [g3, Bool.and_assoc]⟩
    ·cases h
section
variable {P:Program}
theorem zpr {t:TypeId} {s:Nat} (h:ldI P t = some (true, s)) (cs:List Value) (off:Nat) (w:World):(part t cs.toArray off).run P w = .ok (.agg ((cs.drop off).take s).toArray) w:=by
 simp only [part, Sem.run_bind, zhg h, Result.andThen_ok, if_true, zbe h, Sem.run_pure]
 congr 3
 simp
theorem zpq {t:TypeId} {s:Nat} (h:ldI P t = some (false, s)) (cs:List Value) (off:Nat) (v:Value) (hv:cs[off]? = some v) (w:World):(part t cs.toArray off).run P w = .ok v w:=by
 simp [part, zhg h, hv]
theorem ztz:∀ (ls:List Nat) (xs ys:List Value) (b:Bool), zgt ls xs ys = some b → xs.length = ls.length ∧ ys.length = ls.length
 | [], xs, ys, b, h => by cases xs <;> cases ys <;> simp [zgt] at h ⊢
 | l :: ls, xs, ys, b, h => by
  cases xs with
  | nil => cases ys <;> simp [zgt] at h
  | cons x xs =>
   cases ys with
   | nil => simp [zgt] at h
   | cons y ys =>
    simp only [zgt] at h
    split at h
    ·rename_i a c h1 h2
     have:=ztz ls xs ys c h2
     simp [this.1, this.2]
    ·cases h
def asV (ag:Bool) (xs:List Value):Value:=match ag, xs with
 | false, [v] => v
 | _, xs => .agg xs.toArray
theorem znr:∀ (d:Nat) (t:TypeId) (ls:List Nat) (ag:Bool) (s:Nat), lvI P d t = some ls → ldI P t = some (ag, s) → ∀ (xs ys:List Value) (b:Bool) (w:World), zgt ls xs ys = some b →
  (Op.equalIn d t (asV ag xs) (asV ag ys)).run P w = .ok b w:=by
 intro d
 induction d with
 | zero => intro t ls ag s h; cases h
 | succ d ih =>
  intro t ls ag s h hld xs ys b w he
  obtain ⟨dsc, i, hu, hi, hsz, hag⟩:=zod hld
  simp only [lvI, hu] at h
  have one:∀ l, zgt [l] xs ys = some b → ∃ x y, xs = [x] ∧ ys = [y] ∧ eqC l x y = some b:=fun l he => by
   cases xs with
   | nil => cases ys <;> simp [zgt] at he
   | cons x xs =>
    cases ys with
    | nil => simp [zgt] at he
    | cons y ys =>
     simp only [zgt] at he
     split at he
     ·rename_i a c h1 h2
      cases he
      cases xs <;> cases ys <;> simp [zgt] at h2
      subst h2
      exact ⟨x, y, rfl, rfl, by simpa using h1⟩
     ·cases he
  cases dsc with
  | string =>
   cases h
   simp at hag; subst hag
   obtain ⟨x, y, rfl, rfl, hc⟩:=one 0 he
   cases x <;> cases y <;> simp [eqC] at hc
   subst hc
   simp only [asV, Op.equalIn, Sem.run_bind, run_underlying hu, Result.andThen_ok, Sem.run_pure]
   rw [beq_toListBytes, zig]
  | int k =>
   cases h
   simp at hag; subst hag
   obtain ⟨x, y, rfl, rfl, hc⟩:=one 1 he
   cases x <;> cases y <;> simp [eqC] at hc
   obtain ⟨rfl, rfl⟩:=hc
   simp [asV, Op.equalIn, run_underlying hu]
   rfl
  | bool =>
   cases h
   simp at hag; subst hag
   obtain ⟨x, y, rfl, rfl, hc⟩:=one 2 he
   cases x <;> cases y <;> simp [eqC] at hc
   subst hc
   simp [asV, Op.equalIn, run_underlying hu]
  | struct fs =>
   simp at hag; subst hag
   have h:(if P.stoodInHeld t = true then none else lvF P (lvI P d) fs.toList 0) = some ls:=h
   split at h
   ·cases h
   ·rename_i hst
    have hst':P.stoodInHeld t = false:=by simpa using hst
    have hf:P.fieldsOf t = fs:=by simp [Program.fieldsOf, hu]
    have asT:∀ zs:List Value, asV true zs = .agg zs.toArray:=fun zs => by cases zs <;> rfl
    rw [asT, asT, run_equalIn_struct w d t _ _ (by rw [hf]; exact hu) hst', hf]
    have gen:∀ (fl:List Field) (off:Nat) (ls:List Nat) (b:Bool), lvF P (lvI P d) fl off = some ls → zgt ls (xs.drop off) (ys.drop off) = some b →
      (Op.eqFields d xs.toArray ys.toArray fl).run P w = .ok b w:=by
     intro fl
     induction fl with
     | nil =>
      intro off ls b h he
      simp only [lvF] at h; cases h
      cases hx:xs.drop off <;> cases hy:ys.drop off <;> rw [hx, hy] at he <;> simp [zgt] at he
      subst he
      simp [Op.eqFields]
     | cons f fl ihf =>
      intro off ls b h he
      simp only [lvF] at h
      split at h
      ·rename_i l1 ag1 s1 hl1 hld1
       split at h
       ·rename_i hc
        obtain ⟨hnm', rfl, rfl, hag1⟩:=hc
        split at h
        ·rename_i r hr
         cases h
         obtain ⟨b1, b2, g1, g2, rfl⟩:=zlo l1 r _ _ b he
         have hlen:=ztz l1 _ _ _ g1
         have hp:∀ zs:List Value, ((zs.drop f.offset).take l1.length).length = l1.length → (part f.type zs.toArray f.offset).run P w = .ok (asV ag1 ((zs.drop f.offset).take l1.length)) w:=fun zs hz => by
          cases ag1 with
          | true => rw [zpr hld1, asT]
          | false =>
           have h1:l1.length = 1:=by simpa using hag1
           rw [h1] at hz ⊢
           match hm:(zs.drop f.offset).take 1, hz with
           | [v], _ =>
            refine zpq hld1 zs f.offset v ?_ w
            have:=congrArg (·[0]?) hm
            simpa [List.getElem?_take] using this
         simp only [Op.eqFields, ne_eq, hnm', not_false_eq_true, if_true, Sem.run_bind]
         rw [hp xs hlen.1]
         simp only [Result.andThen_ok]
         rw [hp ys hlen.2]
         simp only [Result.andThen_ok]
         rw [ih f.type l1 ag1 l1.length hl1 hld1 _ _ b1 w g1]
         simp only [Result.andThen_ok, Sem.run_ite]
         cases b1 with
         | false => simp
         | true =>
          simp only [Bool.not_true, Bool.false_eq_true, if_false, Bool.true_and]
          refine ihf (f.offset + l1.length) r b2 hr ?_
          rw [List.drop_drop, List.drop_drop] at g2
          exact g2
        ·cases h
       ·cases h
      ·cases h
    exact gen fs.toList 0 ls b h (by simpa using he)
  | _ => cases h

structure EqT (P:Program) (t:TypeId) (ls:List Nat):Prop where
 lv:lvI P 20 t = some ls
 ag:(ldI P t).map (·.1) = some true
 gd:P.eqGuardType P.depth t = false
theorem z6c:∀ (d:Nat) (t:TypeId) (ls:List Nat), lvI P d t = some ls → lvI P (d + 1) t = some ls:=by
 intro d
 induction d with
 | zero => intro t ls h; cases h
 | succ d ih =>
  intro t ls h
  have gen:∀ (fl:List Field) (off:Nat) (ls:List Nat), lvF P (lvI P d) fl off = some ls → lvF P (lvI P (d + 1)) fl off = some ls:=by
   intro fl
   induction fl with
   | nil => intro off ls h; exact h
   | cons f fl ihf =>
    intro off ls h
    simp only [lvF] at h ⊢
    split at h
    ·rename_i l1 ag1 s1 h1 h2
     rw [ih _ _ h1, h2]
     simp only
     split at h
     ·rename_i hc
      rw [if_pos hc]
      split at h
      ·rename_i r hr; rw [ihf _ _ hr]; exact h
      ·cases h
     ·cases h
    ·cases h
  rw [lvI] at h ⊢
  cases hu:P.underlying t with
  | none => rw [hu] at h; cases h
  | some dsc =>
   rw [hu] at h
   cases dsc <;> first | exact h | skip
   simp only at h ⊢
   split at h
   ·cases h
   ·rename_i hs
    rw [if_neg hs]
    exact gen _ _ _ h
theorem ztr {d:Nat} {t:TypeId} {ls:List Nat} (h:lvI P d t = some ls):∀ k, lvI P (d + k) t = some ls
 | 0 => h
 | k + 1 => z6c _ _ _ (ztr h k)
theorem zi2 {t:TypeId} {ls:List Nat} (h:EqT P t ls) {xs ys:List Value} {b:Bool} (he:zgt ls xs ys = some b) (op:BinOp) (x y:Operand) (w:World) :
  (do eqGuard op t x y (.agg xs.toArray) (.agg ys.toArray); binOp .eql t (.agg xs.toArray) (.agg ys.toArray):Sem Value).run P w = .ok (.bool b) w ∧
  (do eqGuard op t x y (.agg xs.toArray) (.agg ys.toArray); binOp .neq t (.agg xs.toArray) (.agg ys.toArray):Sem Value).run P w = .ok (.bool (!b)) w:=by
 have h2:=h.ag
 cases hl:ldI P t with
 | none => rw [hl] at h2; cases h2
 | some p =>
  obtain ⟨ag, s⟩:=p
  rw [hl] at h2
  simp at h2; subst h2
  have asT:∀ zs:List Value, asV true zs = .agg zs.toArray:=fun zs => by cases zs <;> rfl
  have hr:=znr 10000 t ls true s (ztr h.lv 9980) hl xs ys b w he
  rw [asT, asT] at hr
  constructor
  ·rw [Sem.run_bind, run_eqGuard_agg w op t x y _ _ h.gd]
   simp only [Result.andThen_ok]
   rw [run_eql_struct, hr]; rfl
  ·rw [Sem.run_bind, run_eqGuard_agg w op t x y _ _ h.gd]
   simp only [Result.andThen_ok]
   rw [run_neq_struct, hr]; rfl
end
section
variable {P:Program} {F:Fr} {B:Heap} {O:Boxes} {n:Nat} {ops:Array Oper} {κ:Kap} {d:Nat} {ty:TypeId} {pos:String} {aft:Array Edge} {g:Option (Nat × Bool)}
theorem zxt {t t':TypeId} {x y:Operand} {xs ys:Array Value} {ls:List Nat} {b c:Bool} (hn:Nat.blt d n = true) (hg:gK ops κ ⟨some d, .binOp .eql t x y t', ty, pos, aft, g⟩ = some true) (hx:evK κ x = some (.agg xs)) (hy:evK κ y = some (.agg ys))
  (ht:EqT P t ls) (he:zgt ls xs.toList ys.toList = some b) (hb:b = c):StepOK P F B n ops O κ ⟨some d, .binOp .eql t x y t', ty, pos, aft, g⟩ d (.is (.bool c)) :=
 zb4 hn hg hx hy fun u => by subst hb; simpa using (zi2 ht he .eql x y u).1
theorem zn2 {t t':TypeId} {x y:Operand} {xs ys:Array Value} {ls:List Nat} {b c:Bool} (hn:Nat.blt d n = true) (hg:gK ops κ ⟨some d, .binOp .neq t x y t', ty, pos, aft, g⟩ = some true) (hx:evK κ x = some (.agg xs)) (hy:evK κ y = some (.agg ys))
  (ht:EqT P t ls) (he:zgt ls xs.toList ys.toList = some b) (hb:(!b) = c):StepOK P F B n ops O κ ⟨some d, .binOp .neq t x y t', ty, pos, aft, g⟩ d (.is (.bool c)) :=
 zb4 hn hg hx hy fun u => by subst hb; simpa using (zi2 ht he .neq x y u).2

theorem zb1 (b off k:Nat):Addr.add ⟨b, off, none⟩ k = ⟨b, off + k, none⟩:=by simp [Addr.add]
theorem zgj (L:Tabs P) {x y:Operand} {t e:TypeId} {ag:Bool} {s b off len cap:Nat} {k:IntKind} {p:Int} (j:Nat) (hn:Nat.blt d n = true) (hg:gK ops κ ⟨some d, .indexAddr t x y, ty, pos, aft, g⟩ = some true)
  (hx:evK κ x = some (.slice (some ⟨b, off, none⟩) len cap)) (hy:evK κ y = some (.int k p)) (ht:L.sl t = some e) (hl:L.ld e = some (ag, s)) (hj:p = j) (hi:j < len) :
  StepOK P F B n ops O κ ⟨some d, .indexAddr t x y, ty, pos, aft, g⟩ d (.is (.pointer (some ⟨b, off + j * s, none⟩))) :=
 zan rfl (by simpa using hn) hg trivial fun a u H fp en => ⟨_, by
  have h1:=en.is_ x _ (by simp [Op.operands]) hx
  have h2:=en.is_ y _ (by simp [Op.operands]) hy
  subst hj
  have hu:=Tabs.sl_spec ht
  simp only [execOp, h1, h2, Instr.indexAt, Sem.run_bind, asIntOf, Sem.run_pure, Result.andThen_ok, run_underlying hu]
  rw [if_pos (by omega)]
  simp [zbe (Tabs.ld_spec hl), zb1], rfl⟩
theorem zdk (L:Tabs P) {q:Nat} {y:Operand} {t e e':TypeId} {ag:Bool} {s len:Nat} {k:IntKind} {p:Int} {cs:List Value} (j:Nat) (hn:Nat.blt d n = true) (hg:gK ops κ ⟨some d, .indexAddr t (.tmp q) y, ty, pos, aft, g⟩ = some true)
  (hx:κ q = some (.sat (SlB cs e' len))) (hy:evK κ y = some (.int k p)) (ht:L.sl t = some e) (hl:L.ld e = some (ag, s)) (hj:p = j) (hi:j < len) :
  StepOK P F B n ops O κ ⟨some d, .indexAddr t (.tmp q) y, ty, pos, aft, g⟩ d (.sat (At cs e' (j * s))) :=
 zan rfl (by simpa using hn) hg At.mono fun a u H fp en => by
  obtain ⟨b, h1, hb⟩:=en.sat_ q _ (by simp [Op.operands]) hx
  have h2:=en.is_ y _ (by simp [Op.operands]) hy
  subst hj
  have hu:=Tabs.sl_spec ht
  refine ⟨.pointer (some ⟨b, j * s, none⟩), ?_, b, rfl, hb⟩
  simp only [execOp, h1, h2, Instr.indexAt, Sem.run_bind, asIntOf, Sem.run_pure, Result.andThen_ok, run_underlying hu]
  rw [if_pos (by omega)]
  simp [zbe (Tabs.ld_spec hl), zb1]
theorem z7h (L:Tabs P) {q:Nat} {tt e e':TypeId} {len:Nat} {cs:List Value} (hn:Nat.blt d n = true) (hg:gK ops κ ⟨some d, .call ⟨.builtin .len, #[.tmp q], #[tt]⟩, ty, pos, aft, g⟩ = some true) (hx:κ q = some (.sat (SlB cs e' len))) (ht:L.sl tt = some e) :
  StepOK P F B n ops O κ ⟨some d, .call ⟨.builtin .len, #[.tmp q], #[tt]⟩, ty, pos, aft, g⟩ d (.is (.int .i64 len)) :=
 zan rfl (by simpa using hn) hg trivial fun a u H fp en => ⟨_, by
  obtain ⟨b, h1, hb⟩:=en.sat_ q _ (by simp [Op.operands, Call.operands]) hx
  simp [execOp, resolve, h1, invoke, builtin, Builtin.len_, run_underlying (Tabs.sl_spec ht), goInt], rfl⟩
theorem qq {x:Operand} {ad:Addr} (hn:Nat.blt d n = true) (hg:gK ops κ ⟨some d, .nilCheck x, ty, pos, aft, g⟩ = some true) (hx:evK κ x = some (.pointer (some ad))) :
  StepOK P F B n ops O κ ⟨some d, .nilCheck x, ty, pos, aft, g⟩ d (.is (.pointer (some ad))) :=
 zan rfl (by simpa using hn) hg trivial fun a u H fp en => ⟨_, by simp [execOp, en.is_ x _ (by simp [Op.operands]) hx], rfl⟩
theorem zbu (x:Nat) (k:IntKind) (y:Nat) (c:BoundsCode) (h:x ≤ y) (w:World):(Instr.sliceBound (.int k x) y c).run P w = .ok x w:=by
 simp only [Instr.sliceBound, Sem.run_bind, asIntOf, Sem.run_pure, Result.andThen_ok]
 rw [if_pos (by omega)]
 simp
theorem za2 (L:Tabs P) {x:Operand} {tt:TypeId} {s r:ByteArray} {lo hi:Option Operand} {kl kh:IntKind} (i j:Nat) {pl ph:Int} (hn:Nat.blt d n = true) (hg:gK ops κ ⟨some d, .slice tt x lo hi none, ty, pos, aft, g⟩ = some true) (hx:evK κ x = some (.string s)) (ht:L.st tt = some ())
  (hlo:match lo with | some y => evK κ y = some (.int kl pl) ∧ pl = i | none => i = 0) (hhi:match hi with | some y => evK κ y = some (.int kh ph) ∧ ph = j | none => j = s.size) (hij:i ≤ j) (hjs:j ≤ s.size) (hr:s.extract i j = r) :
  StepOK P F B n ops O κ ⟨some d, .slice tt x lo hi none, ty, pos, aft, g⟩ d (.is (.string r)) :=
 zan rfl (by simpa using hn) hg trivial fun a u H fp en => ⟨_, by
  have h1:=en.is_ x _ (by simp [Op.operands]) hx
  subst hr
  have hu:=Tabs.st_spec ht
  cases lo with
  | none =>
   simp only at hlo; subst hlo
   cases hi with
   | none =>
    simp only at hhi; subst hhi
    simp [execOp, h1, Instr.sliceAt, run_underlying hu, Instr.slice, Instr.sliceBounds]
   | some y =>
    obtain ⟨hy, rfl⟩:=hhi
    have h2:=en.is_ y _ (by simp [Op.operands]) hy
    simp [execOp, h1, h2, Instr.sliceAt, run_underlying hu, Instr.slice, Instr.sliceBounds, zbu j kh s.size _ hjs]
  | some z =>
   obtain ⟨hz, rfl⟩:=hlo
   have h3:=en.is_ z _ (by simp [Op.operands]) hz
   cases hi with
   | none =>
    simp only at hhi; subst hhi
    simp [execOp, h1, h3, Instr.sliceAt, run_underlying hu, Instr.slice, Instr.sliceBounds, zbu i kl _ _ hij]
   | some y =>
    obtain ⟨hy, rfl⟩:=hhi
    have h2:=en.is_ y _ (by simp [Op.operands]) hy
    simp [execOp, h1, h2, h3, Instr.sliceAt, run_underlying hu, Instr.slice, Instr.sliceBounds, zbu j kh s.size _ hjs, zbu i kl j _ hij], rfl⟩

theorem z5x {t t':TypeId} {x y:Operand} {k:IntKind} {p q r:Int} (hn:Nat.blt d n = true) (hg:gK ops κ ⟨some d, .binOp .quo t x y t', ty, pos, aft, g⟩ = some true) (hx:evK κ x = some (.int k p)) (hy:evK κ y = some (.int k q)) (h0:q ≠ 0) (hb:k.wrap (p.tdiv q) = r) :
  StepOK P F B n ops O κ ⟨some d, .binOp .quo t x y t', ty, pos, aft, g⟩ d (.is (.int k r)):=zb4 hn hg hx hy fun u => by subst hb; simp [eqGuard_quo, binOp_quo, Op.intDiv, h0]
theorem z2c {t t':TypeId} {x y:Operand} {k:IntKind} {p q r:Int} (hn:Nat.blt d n = true) (hg:gK ops κ ⟨some d, .binOp .rem t x y t', ty, pos, aft, g⟩ = some true) (hx:evK κ x = some (.int k p)) (hy:evK κ y = some (.int k q)) (h0:q ≠ 0) (hb:p.tmod q = r) :
  StepOK P F B n ops O κ ⟨some d, .binOp .rem t x y t', ty, pos, aft, g⟩ d (.is (.int k r)):=zb4 hn hg hx hy fun u => by subst hb; simp [eqGuard_rem, binOp_rem, Op.intDiv, h0]
theorem zxo {x y:Operand} {tts:Array TypeId} {k:IntKind} {p q r:Int} (hn:Nat.blt d n = true) (hg:gK ops κ ⟨some d, .call ⟨.builtin .min, #[x, y], tts⟩, ty, pos, aft, g⟩ = some true)
  (hx:evK κ x = some (.int k p)) (hy:evK κ y = some (.int k q)) (hr:(if q < p then q else p) = r) :
  StepOK P F B n ops O κ ⟨some d, .call ⟨.builtin .min, #[x, y], tts⟩, ty, pos, aft, g⟩ d (.is (.int k r)) :=
 zan rfl (by simpa using hn) hg trivial fun a u H fp e => ⟨_, by
  have h1:=e.is_ x _ (by simp [Op.operands, Call.operands]) hx
  have h2:=e.is_ y _ (by simp [Op.operands, Call.operands]) hy
  subst hr
  simp [execOp, resolve, h1, h2, invoke, builtin, Builtin.min_, Builtin.min2], rfl⟩
def ikI (P:Program) (t:TypeId):Option IntKind:=match P.underlying t with | some (.int k) => some k | _ => none
theorem za0 {t t':TypeId} {x:Operand} {k k':IntKind} {p r:Int} (hn:Nat.blt d n = true) (hg:gK ops κ ⟨some d, .convert t t' x, ty, pos, aft, g⟩ = some true) (hx:evK κ x = some (.int k p)) (h1:(P.underlying t).isSome = true) (h2:ikI P t' = some k') (hb:k'.wrap p = r) :
  StepOK P F B n ops O κ ⟨some d, .convert t t' x, ty, pos, aft, g⟩ d (.is (.int k' r)) :=
 zan rfl (by simpa using hn) hg trivial fun a u H fp e => ⟨_, by
  subst hb
  have hv:=e.is_ x _ (by simp [Op.operands]) hx
  obtain ⟨ds, hds⟩:=Option.isSome_iff_exists.1 h1
  have h3:P.underlying t' = some (.int k'):=by
   unfold ikI at h2
   split at h2
   ·rename_i kk hk; cases h2; exact hk
   ·cases h2
  simp only [execOp, hv, convert, Sem.run_bind, run_underlying hds, run_underlying h3, Result.andThen_ok, Conv.intToInt, Sem.run_pure], rfl⟩

theorem zr1 {f:Nat} {first cap:Array Operand} {fs cs:List Value} (hn:Nat.blt d n = true) (hg:gK ops κ ⟨some d, .makeFunc (.func f) first cap, ty, pos, aft, g⟩ = some true) (h1:zzk κ first.toList = some fs) (h2:zzk κ cap.toList = some cs) :
  StepOK P F B n ops O κ ⟨some d, .makeFunc (.func f) first cap, ty, pos, aft, g⟩ d (.is (.func (.func f) fs.toArray cs.toArray)) :=
 zan rfl (by simpa using hn) hg trivial fun a u H fp e => ⟨_, by
  have key:∀ (xs:List Operand) (vs:List Value), (∀ x ∈ xs, x ∈ (Op.makeFunc (.func f) first cap).operands) → zzk κ xs = some vs → xs.map a.eval = vs:=by
   intro xs
   induction xs with
   | nil => intro vs _ h; simp only [zzk] at h; cases h; rfl
   | cons x xs ih =>
    intro vs hx h
    simp only [zzk] at h
    split at h
    ·rename_i v vs' g1 g2
     cases h
     rw [List.map_cons, e.is_ x v (hx x (List.mem_cons_self ..)) g1, ih vs' (fun y hy => hx y (List.mem_cons_of_mem _ hy)) g2]
    ·cases h
  have k1:=key first.toList fs (fun x hx => by simp [Op.operands]; exact .inl (by simpa using hx)) h1
  have k2:=key cap.toList cs (fun x hx => by simp [Op.operands]; exact .inr (by simpa using hx)) h2
  have r1:first.map a.eval = fs.toArray:=by rw [← k1, ← List.map_toArray, Array.toArray_toList]
  have r2:cap.map a.eval = cs.toArray:=by rw [← k2, ← List.map_toArray, Array.toArray_toList]
  simp only [execOp, Instr.makeFunc, Sem.run_bind, Sem.run_pure, Result.andThen_ok]
  rw [r1, r2], rfl⟩
end
end Go.V
set_option maxRecDepth 20000
namespace Go.V
open Go.RowKit
section
variable {P:Program} {F:Fr} {B:Heap} {O:Boxes} {n:Nat} {ops:Array Oper} {κ:Kap} {d:Nat} {ty:TypeId} {pos:String} {aft:Array Edge} {g:Option (Nat × Bool)} {os:List Oper} {Q:Exit → Act → World → Prop} {ex:Exs}

theorem zxk {o:Oper} {t:Nat} {φ ψ:Value → Heap → Prop} (hd:o.dst = some d) (hn:Nat.blt d n = true) (hg:gK ops κ o = some true) (ht:Operand.tmp t ∈ o.op.operands) (hx:κ t = some (.sat φ))
  (hm:(∀ v H H', φ v H → Heap.Le H H' → φ v H') → Kn.mono (.sat ψ))
  (h:∀ a u H fp, Env F B O κ o a u H fp → φ (a.eval (.tmp t)) H → ∃ v, (execOp a.eval o).run P u = .ok (.value v) u ∧ ψ v H):StepOK P F B n ops O κ o d (.sat ψ):=by
 rintro κ' a u hl ⟨H, fp, hh⟩
 unfold After
 rw [if_pos (zae hh hl hg)]
 have hk':κ' t = some (.sat φ):=(hl t (zd5 ht)).trans hx
 have e:=hh.env hl
 obtain ⟨v, hr, hv⟩:=h a u H fp e (e.sat_ t φ ht hx)
 rw [hr]
 simp only [Upon]
 rw [hd]
 exact ⟨H, fp, hh.put (zn hn) (hm (hh.mono t _ hk')) hv⟩
theorem zq {t:Nat} {φ:Value → Heap → Prop} (hn:Nat.blt d n = true) (hg:gK ops κ ⟨some d, .move (.tmp t), ty, pos, aft, g⟩ = some true) (hx:κ t = some (.sat φ)) :
  StepOK P F B n ops O κ ⟨some d, .move (.tmp t), ty, pos, aft, g⟩ d (.sat φ) :=
 zxk rfl hn hg (by simp [Op.operands]) hx (fun h => h) fun a u H fp e hp => ⟨_, by simp [execOp], hp⟩
theorem qx {t:Nat} {φ:Value → Heap → Prop} (hn:Nat.blt d n = true) (hg:gK ops κ ⟨some d, .assign (.tmp t), ty, pos, aft, g⟩ = some true) (hx:κ t = some (.sat φ)) :
  StepOK P F B n ops O κ ⟨some d, .assign (.tmp t), ty, pos, aft, g⟩ d (.sat φ) :=
 zxk rfl hn hg (by simp [Op.operands]) hx (fun h => h) fun a u H fp e hp => ⟨_, by simp [execOp], hp⟩
def TupS (φs:List (Value → Heap → Prop)):Value → Heap → Prop:=fun v H => ∃ vs:List Value, v = .tuple vs.toArray ∧ vs.length = φs.length ∧ ∀ (i:Nat) (φ:Value → Heap → Prop) (x:Value), φs[i]? = some φ → vs[i]? = some x → φ x H
theorem TupS.mono {φs:List (Value → Heap → Prop)} (h:∀ φ ∈ φs, Kn.mono (.sat φ)):Kn.mono (.sat (TupS φs)):=fun _ _ _ ⟨vs, hv, hl, hp⟩ hle =>
 ⟨vs, hv, hl, fun i φ x hi hx => h φ (List.mem_of_getElem? hi) x _ _ (hp i φ x hi hx) hle⟩
theorem zfj {t i:Nat} {φs:List (Value → Heap → Prop)} {φ:Value → Heap → Prop} (hn:Nat.blt d n = true) (hg:gK ops κ ⟨some d, .extract (.tmp t) i, ty, pos, aft, g⟩ = some true) (hx:κ t = some (.sat (TupS φs))) (hi:φs[i]? = some φ) (hm:Kn.mono (.sat φ)) :
  StepOK P F B n ops O κ ⟨some d, .extract (.tmp t) i, ty, pos, aft, g⟩ d (.sat φ) :=
 zxk rfl hn hg (by simp [Op.operands]) hx (fun _ => hm) fun a u H fp e ⟨vs, hv, hl, hp⟩ => by
  have hlt:i < vs.length:=by
   rw [hl]
   rcases Nat.lt_or_ge i φs.length with h | h
   ·exact h
   ·rw [List.getElem?_eq_none h] at hi; cases hi
  refine ⟨vs[i], ?_, hp i φ _ hi (List.getElem?_eq_getElem hlt)⟩
  simp [execOp, hv, Instr.extract, hlt]
theorem zg2 {t i:Nat} {φs:List (Value → Heap → Prop)} {c:Value} (hn:Nat.blt d n = true) (hg:gK ops κ ⟨some d, .extract (.tmp t) i, ty, pos, aft, g⟩ = some true) (hx:κ t = some (.sat (TupS φs))) (hi:φs[i]? = some (fun v _ => v = c)) :
  StepOK P F B n ops O κ ⟨some d, .extract (.tmp t) i, ty, pos, aft, g⟩ d (.is c) :=
 zan rfl (zn hn) hg trivial fun a u H fp e => by
  obtain ⟨vs, hv, hl, hp⟩:=e.sat_ t _ (by simp [Op.operands]) hx
  have hlt:i < vs.length:=by
   rw [hl]
   rcases Nat.lt_or_ge i φs.length with h | h
   ·exact h
   ·rw [List.getElem?_eq_none h] at hi; cases hi
  refine ⟨vs[i], ?_, hp i _ _ hi (List.getElem?_eq_getElem hlt)⟩
  simp [execOp, hv, Instr.extract, hlt]
theorem z76 (L:Tabs P) {x:Operand} {tt e':TypeId} {b:Option Addr} {l c:Nat} (hn:Nat.blt d n = true) (hg:gK ops κ ⟨some d, .call ⟨.builtin .cap, #[x], #[tt]⟩, ty, pos, aft, g⟩ = some true) (hx:evK κ x = some (.slice b l c)) (ht:L.sl tt = some e') :
  StepOK P F B n ops O κ ⟨some d, .call ⟨.builtin .cap, #[x], #[tt]⟩, ty, pos, aft, g⟩ d (.is (.int .i64 c)) :=
 zan rfl (zn hn) hg trivial fun a u H fp e => ⟨_, by
  have h1:=e.is_ x _ (by simp [Op.operands, Call.operands]) hx
  simp [execOp, resolve, h1, invoke, builtin, Builtin.cap_, run_underlying (Tabs.sl_spec ht), goInt], rfl⟩
theorem zkt {t:TypeId} {p q:Bool} {x y:Operand} (op:BinOp) (hu:P.underlying t = some .bool) (u:World) :
  (do eqGuard op t x y (.bool p) (.bool q); binOp .eql t (.bool p) (.bool q):Sem Value).run P u = .ok (.bool (p == q)) u ∧
  (do eqGuard op t x y (.bool p) (.bool q); binOp .neq t (.bool p) (.bool q):Sem Value).run P u = .ok (.bool (!(p == q))) u:=by
 have h:(Op.equal t (.bool p) (.bool q)).run P u = .ok (p == q) u:=run_equalIn_bool' u 9999 t p q hu
 constructor
 ·rw [Sem.run_bind, eqGuard_at_bool]
  show Sem.run P (do pure (Value.bool (← Op.equal t (.bool p) (.bool q))):Sem Value) u = _
  rw [Sem.run_bind, h]; rfl
 ·rw [Sem.run_bind, eqGuard_at_bool]
  show Sem.run P (do pure (Value.bool (!(← Op.equal t (.bool p) (.bool q)))):Sem Value) u = _
  rw [Sem.run_bind, h]; rfl
theorem z3w {t t':TypeId} {x y:Operand} {p q b:Bool} (hn:Nat.blt d n = true) (hg:gK ops κ ⟨some d, .binOp .eql t x y t', ty, pos, aft, g⟩ = some true) (hx:evK κ x = some (.bool p)) (hy:evK κ y = some (.bool q)) (hu:P.underlying t = some .bool) (hb:(p == q) = b) :
  StepOK P F B n ops O κ ⟨some d, .binOp .eql t x y t', ty, pos, aft, g⟩ d (.is (.bool b)):=zb4 hn hg hx hy fun u => by subst hb; exact (zkt .eql hu u).1
theorem zxs {t t':TypeId} {x y:Operand} {p q b:Bool} (hn:Nat.blt d n = true) (hg:gK ops κ ⟨some d, .binOp .neq t x y t', ty, pos, aft, g⟩ = some true) (hx:evK κ x = some (.bool p)) (hy:evK κ y = some (.bool q)) (hu:P.underlying t = some .bool) (hb:(!(p == q)) = b) :
  StepOK P F B n ops O κ ⟨some d, .binOp .neq t x y t', ty, pos, aft, g⟩ d (.is (.bool b)):=zb4 hn hg hx hy fun u => by subst hb; exact (zkt .neq hu u).2
theorem Ret.of_same {f:FuncId} {args:List Value} {w:World} {v:Value} (hB:B.Le (hp w)) (h:Calls P f args.toArray w fun e w' => e = .returned v ∧ w' = w):Ret P f args w B (fun x _ => x = v) :=
 Calls.mono h fun _ _ ⟨he, hw⟩ => ⟨v, he, B, by subst hw; exact Grow.refl hB, rfl⟩
theorem Ret.of_drawn {f:FuncId} {args:List Value} {w:World} {v:Value} (hB:B.Le (hp w)) (h:Calls P f args.toArray w fun e w' => e = .returned v ∧ ∃ k, w' = w.drewN k):Ret P f args w B (fun x _ => x = v) :=
 Calls.mono h fun _ _ ⟨he, k, hw⟩ => ⟨v, he, B, by
  subst hw
  have hd:∀ (k:Nat) (w:World), Below w.heap.size w (w.drewN k) ∧ (w.drewN k).heap = w.heap:=fun k w => ⟨⟨rfl, rfl, rfl, Nat.le_refl _, fun _ _ => rfl⟩, rfl⟩
  exact ⟨Keep.of_below (hd k w).1 (Nat.le_add_right _ _), fun i o ho => by show (w.drewN k).heap[i]? = some o; rw [(hd k w).2]; exact hB i o ho, Heap.Le.refl _, fun _ _ _ => rfl⟩, rfl⟩
end
end Go.V
set_option maxRecDepth 20000
namespace Go.V
open Go.RowKit
def arI (P:Program) (t:TypeId):Option (Nat × Nat):=match P.underlying t with | some (.array n e) => some (n, e) | _ => none
def bsI (P:Program) (t t':TypeId):Bool:=match P.underlying t, P.underlying t' with | some (.slice e), some .string => (match P.underlying e with | some (.int .u8) => true | _ => false) | _, _ => false
section
variable {P:Program} {F:Fr} {B:Heap} {O:Boxes} {n:Nat} {ops:Array Oper} {κ:Kap} {d:Nat} {ty:TypeId} {pos:String} {aft:Array Edge} {g:Option (Nat × Bool)}
theorem zt6 {t:TypeId} {m e:Nat} (h:arI P t = some (m, e)):P.underlying t = some (.array m e):=by
 unfold arI at h
 split at h
 ·rename_i m' e' hu; cases h; exact hu
 ·cases h
theorem z4z (L:Tabs P) {x y:Operand} {t e:TypeId} {ag:Bool} {s b off len:Nat} {k:IntKind} {p:Int} (j:Nat) (hn:Nat.blt d n = true) (hg:gK ops κ ⟨some d, .indexAddr t x y, ty, pos, aft, g⟩ = some true)
  (hx:evK κ x = some (.pointer (some ⟨b, off, none⟩))) (hy:evK κ y = some (.int k p)) (ht:arI P t = some (len, e)) (hl:L.ld e = some (ag, s)) (hj:p = j) (hi:j < len) :
  StepOK P F B n ops O κ ⟨some d, .indexAddr t x y, ty, pos, aft, g⟩ d (.is (.pointer (some ⟨b, off + j * s, none⟩))) :=
 zan rfl (zn hn) hg trivial fun a u H fp en => ⟨_, by
  have h1:=en.is_ x _ (by simp [Op.operands]) hx
  have h2:=en.is_ y _ (by simp [Op.operands]) hy
  subst hj
  have hu:=zt6 ht
  simp only [execOp, h1, h2, Instr.indexAt, Instr.sureAddr, Sem.run_bind, asIntOf, Sem.run_pure, Result.andThen_ok, run_underlying hu]
  rw [if_pos (by omega)]
  simp [zbe (Tabs.ld_spec hl), zb1], rfl⟩
theorem zg1 (L:Tabs P) {q:Nat} {y:Operand} {t e t':TypeId} {ag:Bool} {s off len:Nat} {k:IntKind} {p:Int} {cs:List Value} (j:Nat) (hn:Nat.blt d n = true) (hg:gK ops κ ⟨some d, .indexAddr t (.tmp q) y, ty, pos, aft, g⟩ = some true)
  (hx:κ q = some (.sat (At cs t' off))) (hy:evK κ y = some (.int k p)) (ht:arI P t = some (len, e)) (hl:L.ld e = some (ag, s)) (hj:p = j) (hi:j < len) :
  StepOK P F B n ops O κ ⟨some d, .indexAddr t (.tmp q) y, ty, pos, aft, g⟩ d (.sat (At cs t' (off + j * s))) :=
 zan rfl (zn hn) hg At.mono fun a u H fp en => by
  obtain ⟨b, h1, hb⟩:=en.sat_ q _ (by simp [Op.operands]) hx
  have h2:=en.is_ y _ (by simp [Op.operands]) hy
  subst hj
  have hu:=zt6 ht
  refine ⟨.pointer (some ⟨b, off + j * s, none⟩), ?_, b, rfl, hb⟩
  simp only [execOp, h1, h2, Instr.indexAt, Instr.sureAddr, Sem.run_bind, asIntOf, Sem.run_pure, Result.andThen_ok, run_underlying hu]
  rw [if_pos (by omega)]
  simp [zbe (Tabs.ld_spec hl), zb1]
theorem z40 {q:Nat} {t t' e':TypeId} {p:Int} {r:ByteArray} (hn:Nat.blt d n = true) (hg:gK ops κ ⟨some d, .convert t t' (.tmp q), ty, pos, aft, g⟩ = some true)
  (hx:κ q = some (.sat (SlB [.int .u8 p] e' 1))) (ht:bsI P t t' = true) (hr:(⟨#[UInt8.ofNat p.toNat]⟩:ByteArray) = r) :
  StepOK P F B n ops O κ ⟨some d, .convert t t' (.tmp q), ty, pos, aft, g⟩ d (.is (.string r)) :=
 zan rfl (zn hn) hg trivial fun a u H fp en => ⟨.string r, (by
  subst hr
  obtain ⟨b, h1, hb⟩:=en.sat_ q _ (by simp [Op.operands]) hx
  unfold bsI at ht
  split at ht
  ·rename_i e hs hd
   split at ht
   ·rename_i he
    have hcell:∀ (j:Nat) v, [Value.int .u8 p][j]? = some v → u.cell? (Addr.add ⟨b, 0, none⟩ j) = some v:=fun j v hv => by
     rw [zb1, Nat.zero_add, zas (en.sub _ _ hb)]
     simpa using hv
    have hl:=run_loadCells_list (P:=P) (w:=u) ⟨b, 0, none⟩ [.int .u8 p] hcell
    have:=run_bytesToString (P:=P) u ⟨b, 0, none⟩ 1 1 [p] hl
    simp only [execOp, h1, Sem.run_bind, run_convert_bytes_string u t t' e _ _ _ hs he hd, this, Result.andThen_ok]
    rfl
   ·cases ht
  ·cases ht), rfl⟩
end
theorem z05 {a b a' b':ByteArray} {v:Bool} (h:decide (a = a' ∧ b = b') = v):zgt [0, 0] [.string a, .string b] [.string a', .string b'] = some v:=by
 subst h; simp [zgt, eqC]
theorem z8b {a b c a' b' c':ByteArray} {v:Bool} (h:decide (a = a' ∧ b = b' ∧ c = c') = v):zgt [0, 0, 0] [.string a, .string b, .string c] [.string a', .string b', .string c'] = some v:=by
 subst h; simp [zgt, eqC]
end Go.V
set_option maxRecDepth 20000
namespace Go.V
open Go.RowKit
theorem zfh {z:Int} (h1:0 ≤ z) (h2:z ≤ 255):IntKind.u8.wrap z = z:=IntWalk.u8_in z ⟨h1, h2⟩
theorem zal {z:Int} (h1:0 ≤ z) (h2:z ≤ 18446744073709551615):IntKind.u64.wrap z = z:=IntWalk.u64_in z ⟨h1, h2⟩
def elI (P:Program) (e:TypeId):Option (Nat × Nat):=match P.info? e with
 | some i => match i.zero with
  | some z => if z.cells.size = i.size ∧ 0 < i.size then some (i.size, i.bytes) else none
  | none => none
 | none => none
theorem zer {P:Program} {e:TypeId} {s by_:Nat} (h:elI P e = some (s, by_)):∃ i z, P.info? e = some i ∧ i.zero = some z ∧ i.size = s ∧ i.bytes = by_ ∧ z.cells.size = s ∧ 0 < s:=by
 unfold elI at h
 split at h
 ·rename_i i hi
  split at h
  ·rename_i z hz
   split at h
   ·rename_i hc; cases h; exact ⟨i, z, hi, hz, rfl, rfl, hc.1, hc.2⟩
   ·cases h
  ·cases h
 ·cases h
theorem zky {v:Value} (h:zdv v = true):v.oneCell' = true:=by cases v <;> first | rfl | cases h

def SlV (_:TypeId) (s:Nat) (xs:List Value) (n:Nat) (fu:Bool):Value → Heap → Prop:=fun v H => xs.length = n * s ∧
 ((n = 0 ∧ ∃ p, v = .slice p 0 0) ∨ ∃ b off cap cs ty0 fr, v = .slice (some ⟨b, off, none⟩) n cap ∧ H b = some (.cells cs ty0 fr) ∧ (cs.toList.drop off).take xs.length = xs ∧ n ≤ cap ∧ (fu = true → cap = n))
theorem SlV.mono {e:TypeId} {s n:Nat} {xs:List Value} {fu:Bool}:Kn.mono (.sat (SlV e s xs n fu)):=fun _ _ _ ⟨hl, h⟩ hle => ⟨hl, by
 rcases h with h | ⟨b, off, cap, cs, ty0, fr, h1, h2, h3⟩
 ·exact .inl h
 ·exact .inr ⟨b, off, cap, cs, ty0, fr, h1, hle _ _ h2, h3⟩⟩
theorem SlV.le {e:TypeId} {s n:Nat} {xs:List Value} {fu:Bool} {v:Value} {H H':Heap} (h:SlV e s xs n fu v H) (hle:H.Le H'):SlV e s xs n fu v H':=SlV.mono _ _ _ h hle
theorem SlV.nofu {e:TypeId} {s n:Nat} {xs:List Value} {fu:Bool} {v:Value} {H:Heap} (h:SlV e s xs n fu v H):SlV e s xs n false v H:=⟨h.1, by
 rcases h.2 with h | ⟨b, off, cap, cs, ty0, fr, h1, h2, h3, h4, _⟩
 ·exact .inl h
 ·exact .inr ⟨b, off, cap, cs, ty0, fr, h1, h2, h3, h4, fun h => by cases h⟩⟩
theorem SlB.toV {e:TypeId} {s n:Nat} {xs:List Value} {v:Value} {H:Heap} (h:SlB xs e n v H) (hl:xs.length = n * s):SlV e s xs n true v H :=
 let ⟨b, h1, h2⟩:=h; ⟨hl, .inr ⟨b, 0, n, _, _, (0, 0), h1, h2, by simp, Nat.le_refl _, fun _ => rfl⟩⟩
theorem SlV.nil {e:TypeId} {s:Nat} {fu:Bool} {H:Heap}:SlV e s [] 0 fu (.slice none 0 0) H:=⟨by simp, .inl ⟨rfl, _, rfl⟩⟩
def AtP (ys:List Value):Value → Heap → Prop:=fun v H => ∃ b off cs t fr, v = .pointer (some ⟨b, off, none⟩) ∧ H b = some (.cells cs t fr) ∧ (cs.toList.drop off).take ys.length = ys
theorem AtP.mono {ys:List Value}:Kn.mono (.sat (AtP ys)):=fun _ _ _ ⟨b, off, cs, t, fr, h1, h2, h3⟩ hle => ⟨b, off, cs, t, fr, h1, hle _ _ h2, h3⟩
theorem AtP.drop {ys:List Value} {off:Nat} {cs:Array Value} (k:Nat) (h:(cs.toList.drop off).take ys.length = ys):(cs.toList.drop (off + k)).take (ys.drop k).length = ys.drop k:=by
 have:=congrArg (List.drop k) h
 rw [List.drop_take, List.drop_drop] at this
 rw [List.length_drop]
 exact this
theorem AtP.get {ys:List Value} {off j:Nat} {cs:List Value} {v:Value} (h:(cs.drop off).take ys.length = ys) (hj:ys[j]? = some v):cs[off + j]? = some v:=by
 have hlt:j < ys.length:=by
  rcases Nat.lt_or_ge j ys.length with h | h
  ·exact h
  ·rw [List.getElem?_eq_none h] at hj; cases hj
 have:=congrArg (·[j]?) h
 simp only [List.getElem?_take_of_lt hlt, List.getElem?_drop] at this
 rw [this]; exact hj
section
variable {P:Program} {F:Fr} {B:Heap} {O:Boxes} {n:Nat} {ops:Array Oper} {κ:Kap} {d:Nat} {ty:TypeId} {pos:String} {aft:Array Edge} {g:Option (Nat × Bool)} {a:Act} {u:World} {H:Heap} {fp:Nat → Nat → Prop} {os:List Oper} {Q:Exit → Act → World → Prop} {ex:Exs}
theorem y0 (L:Tabs P) {q:Nat} {tt e e':TypeId} {s m:Nat} {xs:List Value} {fu:Bool} (hn:Nat.blt d n = true) (hg:gK ops κ ⟨some d, .call ⟨.builtin .len, #[.tmp q], #[tt]⟩, ty, pos, aft, g⟩ = some true) (hx:κ q = some (.sat (SlV e' s xs m fu))) (ht:L.sl tt = some e) :
  StepOK P F B n ops O κ ⟨some d, .call ⟨.builtin .len, #[.tmp q], #[tt]⟩, ty, pos, aft, g⟩ d (.is (.int .i64 m)) :=
 zan rfl (zn hn) hg trivial fun a u H fp en => ⟨_, by
  obtain ⟨_, ⟨rfl, p0, h1⟩ | ⟨b, off, cap, cs, ty0, fr, h1, _⟩⟩:=en.sat_ q _ (by simp [Op.operands, Call.operands]) hx
  ·simp [execOp, resolve, h1, invoke, builtin, Builtin.len_, run_underlying (Tabs.sl_spec ht), goInt]
  ·simp [execOp, resolve, h1, invoke, builtin, Builtin.len_, run_underlying (Tabs.sl_spec ht), goInt], rfl⟩
theorem z3u (L:Tabs P) {q:Nat} {tt e e':TypeId} {s m:Nat} {xs:List Value} (hn:Nat.blt d n = true) (hg:gK ops κ ⟨some d, .call ⟨.builtin .cap, #[.tmp q], #[tt]⟩, ty, pos, aft, g⟩ = some true) (hx:κ q = some (.sat (SlV e' s xs m true))) (ht:L.sl tt = some e) :
  StepOK P F B n ops O κ ⟨some d, .call ⟨.builtin .cap, #[.tmp q], #[tt]⟩, ty, pos, aft, g⟩ d (.is (.int .i64 m)) :=
 zan rfl (zn hn) hg trivial fun a u H fp en => ⟨_, by
  obtain ⟨_, ⟨rfl, p0, h1⟩ | ⟨b, off, cap, cs, ty0, fr, h1, _, _, _, hc⟩⟩:=en.sat_ q _ (by simp [Op.operands, Call.operands]) hx
  ·simp [execOp, resolve, h1, invoke, builtin, Builtin.cap_, run_underlying (Tabs.sl_spec ht), goInt]
  ·obtain rfl:=hc rfl
   simp [execOp, resolve, h1, invoke, builtin, Builtin.cap_, run_underlying (Tabs.sl_spec ht), goInt], rfl⟩
theorem qr (L:Tabs P) {q:Nat} {y:Operand} {t e e':TypeId} {ag:Bool} {s m:Nat} {k:IntKind} {p:Int} {xs ys:List Value} {fu:Bool} (j:Nat) (hn:Nat.blt d n = true) (hg:gK ops κ ⟨some d, .indexAddr t (.tmp q) y, ty, pos, aft, g⟩ = some true)
  (hx:κ q = some (.sat (SlV e' s xs m fu))) (hy:evK κ y = some (.int k p)) (ht:L.sl t = some e) (hl:L.ld e = some (ag, s)) (hj:p = j) (hi:j < m) (hys:(xs.drop (j * s)).take s = ys) :
  StepOK P F B n ops O κ ⟨some d, .indexAddr t (.tmp q) y, ty, pos, aft, g⟩ d (.sat (AtP ys)) :=
 zan rfl (zn hn) hg AtP.mono fun a u H fp en => by
  have h2:=en.is_ y _ (by simp [Op.operands]) hy
  subst hj
  have hu:=Tabs.sl_spec ht
  obtain ⟨hlen, ⟨rfl, p0, h1⟩ | ⟨b, off, cap, cs, ty0, fr, h1, hb, hr, _, _⟩⟩:=en.sat_ q _ (by simp [Op.operands]) hx
  ·omega
  ·refine ⟨.pointer (some ⟨b, off + j * s, none⟩), ?_, b, off + j * s, cs, _, fr, rfl, hb, ?_⟩
   ·simp only [execOp, h1, h2, Instr.indexAt, Sem.run_bind, asIntOf, Sem.run_pure, Result.andThen_ok, run_underlying hu]
    rw [if_pos (by omega)]
    simp [zbe (Tabs.ld_spec hl), zb1]
   ·have h3:=AtP.drop (j * s) hr
    have hsz:(xs.drop (j * s)).length ≥ s:=by
     rw [List.length_drop, hlen, ← Nat.sub_mul]
     exact Nat.le_mul_of_pos_left _ (by omega)
    have h4:=congrArg (List.take s) h3
    rw [List.take_take, Nat.min_eq_left hsz, hys] at h4
    have hyl:ys.length = s:=by rw [← hys, List.length_take]; omega
    rw [hyl]; exact h4
theorem zgk (L:Tabs P) {t:Nat} {st:TypeId} {i fo:Nat} {ys:List Value} (hx:κ t = some (.sat (AtP ys))) (hn:Nat.blt d n = true) (hg:gK ops κ ⟨some d, .fieldAddr st (.tmp t) i, ty, pos, aft, g⟩ = some true)
  (hf:L.fo st i = some fo):StepOK P F B n ops O κ ⟨some d, .fieldAddr st (.tmp t) i, ty, pos, aft, g⟩ d (.sat (AtP (ys.drop fo))) :=
 zan rfl (zn hn) hg AtP.mono fun a u H fp e => by
  obtain ⟨fs, f, j, h1, h2, h3, h4, h5⟩:=Tabs.fo_spec hf
  obtain ⟨b, off, cs, t', fr, hv, hb, hr⟩:=e.sat_ t _ (by simp [Op.operands]) hx
  refine ⟨.pointer (some ⟨b, off + fo, none⟩), ?_, b, off + fo, cs, t', fr, rfl, hb, AtP.drop fo hr⟩
  simp only [execOp, hv, Instr.fieldAt, Sem.run_bind, run_underlying h1, Result.andThen_ok, h2, Instr.sureAddr, Sem.run_pure, zev h3 h4]
  simp [Addr.add, h5]
theorem zqb (L:Tabs P) {q:Nat} {t:TypeId} {s:Nat} {ys r:List Value} {v:Value} (hx:κ q = some (.sat (AtP ys))) (hn:Nat.blt d n = true) (hg:gK ops κ ⟨some d, .load t (.tmp q), ty, pos, aft, g⟩ = some true)
  (hl:L.ld t = some (false, s)) (hc:ys = v :: r):StepOK P F B n ops O κ ⟨some d, .load t (.tmp q), ty, pos, aft, g⟩ d (.is v) :=
 zan rfl (zn hn) hg trivial fun a u H fp e => ⟨v, by
  obtain ⟨b, off, cs, t', fr, hv, hb, hr⟩:=e.sat_ q _ (by simp [Op.operands]) hx
  have h2:=e.sub _ _ hb
  have h3:=AtP.get (j:=0) hr (by rw [hc]; rfl)
  simp only [execOp, hv, Instr.loadAt, Instr.sureAddr, Sem.run_bind, Sem.run_pure, Result.andThen_ok]
  rw [zde (Tabs.ld_spec hl) u _ v (by rw [zas h2]; simpa using h3)]
  rfl, rfl⟩
theorem y7 (L:Tabs P) {q:Nat} {t:TypeId} {s:Nat} {ys vs:List Value} (hx:κ q = some (.sat (AtP ys))) (hn:Nat.blt d n = true) (hg:gK ops κ ⟨some d, .load t (.tmp q), ty, pos, aft, g⟩ = some true)
  (hl:L.ld t = some (true, s)) (hlen:vs.length = s) (hc:∃ r, ys = vs ++ r):StepOK P F B n ops O κ ⟨some d, .load t (.tmp q), ty, pos, aft, g⟩ d (.is (.agg vs.toArray)) :=
 zan rfl (zn hn) hg trivial fun a u H fp e => ⟨_, by
  obtain ⟨b, off, cs, t', fr, hv, hb, hr⟩:=e.sat_ q _ (by simp [Op.operands]) hx
  obtain ⟨r, hc⟩:=hc
  have h2:=e.sub _ _ hb
  simp only [execOp, hv, Instr.loadAt, Instr.sureAddr, Sem.run_bind, Sem.run_pure, Result.andThen_ok]
  rw [zcg (Tabs.ld_spec hl) u _ vs hlen (fun j v hj => by
   have h3:=AtP.get (j:=j) hr (by
    rw [hc, List.getElem?_append_left (by
     rcases Nat.lt_or_ge j vs.length with h | h
     ·exact h
     ·rw [List.getElem?_eq_none h] at hj; cases hj)]
    exact hj)
   rw [zb1, zas h2]; simpa using h3)]
  rfl, rfl⟩
theorem zbf (L:Tabs P) {q:Nat} {tt e:TypeId} {s m:Nat} {xs ys:List Value} {fu:Bool} {lo hi mx:Option Operand} {kl kh km:IntKind} {ag:Bool} (i j:Nat) {pl ph pm:Int} (fu':Bool) (hn:Nat.blt d n = true) (hg:gK ops κ ⟨some d, .slice tt (.tmp q) lo hi mx, ty, pos, aft, g⟩ = some true)
  (hx:κ q = some (.sat (SlV e s xs m fu))) (ht:L.sl tt = some e) (hl:L.ld e = some (ag, s))
  (hlo:match lo with | some y => evK κ y = some (.int kl pl) ∧ pl = i | none => i = 0) (hhi:match hi with | some y => evK κ y = some (.int kh ph) ∧ ph = j | none => j = m ∧ mx = none) (hmx:match mx with | some y => evK κ y = some (.int km pm) ∧ pm = j | none => fu' = true → fu = true ∧ j = m)
  (hij:i ≤ j) (hjs:j ≤ m) (hys:(xs.drop (i * s)).take ((j - i) * s) = ys) :
  StepOK P F B n ops O κ ⟨some d, .slice tt (.tmp q) lo hi mx, ty, pos, aft, g⟩ d (.sat (SlV e s ys (j - i) fu')) :=
 zan rfl (zn hn) hg SlV.mono fun a u H fp en => by
  have hu:=Tabs.sl_spec ht
  obtain ⟨hlen, hv⟩:=en.sat_ q _ (by simp [Op.operands]) hx
  have hyl:ys.length = (j - i) * s:=by
   rw [← hys, List.length_take, List.length_drop, hlen, ← Nat.sub_mul]
   exact Nat.min_eq_left (Nat.mul_le_mul_right _ (by omega))
  have hb:∀ cap:Nat, m ≤ cap → ∃ cap', j ≤ cap' ∧ cap' ≤ cap ∧ (mx = none → cap' = cap) ∧ (mx ≠ none → cap' = j) ∧
    (Instr.sliceBounds true m cap (lo.map a.eval) (hi.map a.eval) (mx.map a.eval)).run P u = .ok (i, j, cap') u:=fun cap hcap => by
   cases mx with
   | none =>
    refine ⟨cap, by omega, Nat.le_refl _, fun _ => rfl, fun h => absurd rfl h, ?_⟩
    cases hi with
    | none =>
     obtain ⟨rfl, _⟩:=hhi
     cases lo with
     | none => simp only at hlo; subst hlo; simp [Instr.sliceBounds]
     | some z =>
      obtain ⟨hz, rfl⟩:=hlo
      have h3:=en.is_ z _ (by simp [Op.operands]) hz
      simp [h3, Instr.sliceBounds, zbu i kl _ _ hij]
    | some y =>
     obtain ⟨hy, rfl⟩:=hhi
     have h2:=en.is_ y _ (by simp [Op.operands]) hy
     cases lo with
     | none => simp only at hlo; subst hlo; simp [h2, Instr.sliceBounds, zbu j kh cap _ (by omega)]
     | some z =>
      obtain ⟨hz, rfl⟩:=hlo
      have h3:=en.is_ z _ (by simp [Op.operands]) hz
      simp [h2, h3, Instr.sliceBounds, zbu j kh cap _ (by omega), zbu i kl _ _ hij]
   | some x =>
    refine ⟨j, Nat.le_refl _, by omega, fun h => (by cases h), fun _ => rfl, ?_⟩
    obtain ⟨hx', rfl⟩:=hmx
    have h1:=en.is_ x _ (by simp [Op.operands]) hx'
    cases hi with
    | none => cases hhi.2
    | some y =>
     obtain ⟨hy, rfl⟩:=hhi
     have h2:=en.is_ y _ (by simp [Op.operands]) hy
     cases lo with
     | none => simp only at hlo; subst hlo; simp [h1, h2, Instr.sliceBounds, zbu j km cap _ (by omega), zbu j kh j _ (Nat.le_refl _)]
     | some z =>
      obtain ⟨hz, rfl⟩:=hlo
      have h3:=en.is_ z _ (by simp [Op.operands]) hz
      simp [h1, h2, h3, Instr.sliceBounds, zbu j km cap _ (by omega), zbu j kh j _ (Nat.le_refl _), zbu i kl _ _ hij]
  rcases hv with ⟨rfl, p0, h1⟩ | ⟨b, off, cap, cs, ty0, fr, h1, hbk, hr, hc, hfu⟩
  ·obtain rfl:j = 0:=by omega
   obtain rfl:i = 0:=by omega
   obtain ⟨cap', _, h3, _, _, hrun⟩:=hb 0 (Nat.le_refl _)
   obtain rfl:cap' = 0:=by omega
   refine ⟨.slice p0 0 0, ?_, hyl, .inl ⟨rfl, _, rfl⟩⟩
   cases p0 with
   | none =>
    simp only [execOp, h1, Instr.sliceAt, Instr.slice, Sem.run_bind, run_underlying hu, Result.andThen_ok, hrun, zbe (Tabs.ld_spec hl)]
    rfl
   | some p0 =>
    simp only [execOp, h1, Instr.sliceAt, Instr.slice, Sem.run_bind, run_underlying hu, Result.andThen_ok, hrun, zbe (Tabs.ld_spec hl), Sem.run_pure]
    rfl
  ·obtain ⟨cap', h2, h3, h4, h5, hrun⟩:=hb cap hc
   have hfull:fu' = true → cap' - i = j - i:=fun hf => by
    cases mx with
    | none =>
     obtain ⟨g1, g2⟩:=hmx hf
     rw [h4 rfl, hfu g1, g2]
    | some x => rw [h5 (by simp)]
   have hrd:∀ o2, (o2 = off + i * s ∨ j - i = 0) → (cs.toList.drop o2).take ys.length = ys:=fun o2 ho => by
    rcases ho with rfl | h0
    ·have h6:=AtP.drop (i * s) hr
     have h7:=congrArg (List.take ys.length) h6
     rw [List.take_take, Nat.min_eq_left (by rw [hyl, List.length_drop, hlen, ← Nat.sub_mul]; exact Nat.mul_le_mul_right _ (by omega))] at h7
     rw [h7, hyl, hys]
    ·have:ys = []:=List.eq_nil_of_length_eq_zero (by rw [hyl, h0]; simp)
     subst this; simp
   refine ⟨.slice (some (if cap' = i then ⟨b, off, none⟩ else ⟨b, off + i * s, none⟩)) (j - i) (cap' - i), ?_, hyl, .inr ?_⟩
   ·simp only [execOp, h1, Instr.sliceAt, Instr.slice, Sem.run_bind, run_underlying hu, Result.andThen_ok, hrun, zbe (Tabs.ld_spec hl), Sem.run_pure]
    congr 3
    split <;> simp [Addr.add]
   ·split
    ·exact ⟨b, off, cap' - i, cs, _, fr, rfl, hbk, hrd _ (.inr (by omega)), by omega, fun hf => hfull hf⟩
    ·exact ⟨b, off + i * s, cap' - i, cs, _, fr, rfl, hbk, hrd _ (.inl rfl), by omega, fun hf => hfull hf⟩
theorem z0n (L:Tabs P) {q:Nat} {tt e:TypeId} {s m:Nat} {xs:List Value} {fu:Bool} {y z:Operand} {kh km:IntKind} {ag:Bool} (hn:Nat.blt d n = true) (hg:gK ops κ ⟨some d, .slice tt (.tmp q) none (some y) (some z), ty, pos, aft, g⟩ = some true)
  (hx:κ q = some (.sat (SlV e s xs m fu))) (ht:L.sl tt = some e) (hl:L.ld e = some (ag, s)) (hy:evK κ y = some (.int kh m)) (hz:evK κ z = some (.int km m)) :
  StepOK P F B n ops O κ ⟨some d, .slice tt (.tmp q) none (some y) (some z), ty, pos, aft, g⟩ d (.sat (SlV e s xs m true)):=by
 intro κ' a u hlk hh
 have hlen:xs.length = m * s:=by
  obtain ⟨H, fp, h⟩:=hh
  exact (h.slot q _ ((hlk q (zd5 (by simp [Op.operands]))).trans hx)).1
 exact zbf L (kl:=.i64) (pl:=0) 0 m true hn hg hx ht hl rfl ⟨hy, rfl⟩ ⟨hz, rfl⟩ (Nat.zero_le _) (Nat.le_refl _) (by rw [Nat.zero_mul, List.drop_zero, Nat.sub_zero, List.take_of_length_le (by omega)]) κ' a u hlk hh
theorem Has.imp {t:Nat} {φ ψ:Value → Heap → Prop} (hk:κ t = some (.sat φ)) (hm:Kn.mono (.sat ψ)) (hi:∀ v H, φ v H → ψ v H) (h:Has F B O n κ a u):Has F B O n (upd κ t (.sat ψ)) a u:=by
 obtain ⟨H, fp, h⟩:=h
 refine ⟨H, fp, h.size, h.defers, h.nodup, h.marks, h.lent, h.keep, h.sub, h.base, h.fresh, h.boxes, h.apart, fun s k hs => ?_, fun s q r1 r2 hsq h1 h2 => ?_, fun s k hs => ?_⟩
 ·by_cases hst:s = t
  ·subst hst; rw [zah] at hs; cases hs; exact hi _ _ (h.slot s _ hk)
  ·rw [zab _ _ hst] at hs; exact h.slot s k hs
 ·have key:∀ x r, upd κ t (.sat ψ) x = some (.own r) → κ x = some (.own r):=fun x r hx => by
   by_cases hxd:x = t
   ·subst hxd; rw [zah] at hx; cases hx
   ·rw [zab _ _ hxd] at hx; exact hx
  exact h.owns s q r1 r2 hsq (key _ _ h1) (key _ _ h2)
 ·by_cases hst:s = t
  ·subst hst; rw [zah] at hs; cases hs; exact hm
  ·rw [zab _ _ hst] at hs; exact h.mono s k hs
theorem z1p (t:Nat) {φ:Value → Heap → Prop} (ψ:Value → Heap → Prop) {c:Code} (hk:κ t = some (.sat φ)) (hm:Kn.mono (.sat ψ)) (hi:∀ v H, φ v H → ψ v H) (h:V P F B n O (upd κ t (.sat ψ)) c Q):V P F B n O κ c Q:=fun a u hh => h a u (hh.imp hk hm hi)
end
end Go.V
set_option maxRecDepth 20000
namespace Go.V
open Go.RowKit
def SlR (e:TypeId) (s n:Nat) (xs:List Value):Res where
 P x _ u C:=xs.length = n * s ∧ ((n = 0 ∧ x = .slice none 0 0 ∧ ∀ k, ¬ C k) ∨
  ∃ b cap rest, x = .slice (some ⟨b, 0, none⟩) n cap ∧ u.heap[b]? = some (.cells (xs ++ rest).toArray e) ∧ n ≤ cap ∧ cap ≤ maxLen ∧ (xs ++ rest).length = cap * s ∧ ∀ k, C k ↔ k = b)
 st:=fun ⟨hl, h⟩ _ _ _ hk => ⟨hl, by
  rcases h with h | ⟨b, cap, rest, h1, h2, h3, h4, h5, h6⟩
  ·exact .inl h
  ·exact .inr ⟨b, cap, rest, h1, (hk b ((h6 b).2 rfl)).trans h2, h3, h4, h5, h6⟩⟩
section
variable {P:Program} {F:Fr} {B:Heap} {O:Boxes} {n:Nat} {ops:Array Oper} {κ:Kap} {d:Nat} {ty:TypeId} {pos:String} {aft:Array Edge} {g:Option (Nat × Bool)} {a:Act} {u:World} {H:Heap} {fp:Nat → Nat → Prop} {os:List Oper} {Q:Exit → Act → World → Prop} {ex:Exs}

def zdg (P:Program) (F:Fr) (B:Heap) (n:Nat) (ops:Array Oper) (O:Boxes) (κ:Kap) (o:Oper) (s:Nat) (k1:Kn) (d:Nat) (k2:Kn):Prop :=
 ∀ κ' a u, (∀ t ∈ o.looksAt ops, κ' t = κ t) → κ' s = κ s → Has F B O n κ' a u → After P ops o (fun a' u' => Has F B O n (upd (upd κ' s k1) d k2) a' u') a u
theorem qe {o:Oper} {s d:Nat} {k1 k2:Kn} (hs:zdg P F B n ops O κ o s k1 d k2) (h:VO P F B n O ops (upd (upd κ s k1) d k2) os Q):VO P F B n O ops κ (o :: os) Q :=
 fun a u hh => After.mono (fun a' u' hh' => h a' u' hh') (hs κ a u (fun _ _ => rfl) rfl hh)
theorem zav {o:Oper} {s d:Nat} {k1 k2:Kn} (hs:zdg P F B n ops O κ o s k1 d k2) (hd:vd o = some d) (he:(exO ex o).contains s = true) (h:Par P F B n O ops ex (upd (upd κ s k1) d k2) os Q):Par P F B n O ops ex κ (o :: os) Q:=by
 have hm:s ∈ exO ex o:=by simpa using he
 refine ⟨[(s, k1), (d, k2)], fun p hp => ?_, fun κ' a u hl hh => hs κ' a u (fun t ht => hl t (List.mem_append_left _ ht)) (hl s (List.mem_append_right _ (List.mem_append_left _ hm))) hh, h⟩
 simp only [List.mem_cons, List.mem_nil_iff, or_false] at hp
 rcases hp with rfl | rfl
 ·exact List.mem_append_right _ hm
 ·exact List.mem_append_left _ (by simp [hd])

theorem z3s (L:Tabs P) {q:Nat} {tt e e':TypeId} {s m:Nat} {xs:List Value} (hn:Nat.blt d n = true) (hg:gK ops κ ⟨some d, .call ⟨.builtin .len, #[.tmp q], #[tt]⟩, ty, pos, aft, g⟩ = some true) (hx:κ q = some (.own (SlR e' s m xs))) (ht:L.sl tt = some e) :
  StepOK P F B n ops O κ ⟨some d, .call ⟨.builtin .len, #[.tmp q], #[tt]⟩, ty, pos, aft, g⟩ d (.is (.int .i64 m)) :=
 zan rfl (zn hn) hg trivial fun a u H fp en => ⟨_, by
  obtain ⟨⟨_, ⟨rfl, h1, _⟩ | ⟨b, cap, rest, h1, _⟩⟩, _⟩:=en.own_ q _ (by simp [Op.operands, Call.operands]) hx
  ·simp [execOp, resolve, h1, invoke, builtin, Builtin.len_, run_underlying (Tabs.sl_spec ht), goInt]
  ·simp [execOp, resolve, h1, invoke, builtin, Builtin.len_, run_underlying (Tabs.sl_spec ht), goInt], rfl⟩
theorem Has.nilR {t:Nat} (e:TypeId) (s:Nat) (hk:κ t = some (.is (.slice none 0 0))) (h:Has F B O n κ a u):Has F B O n (upd κ t (.own (SlR e s 0 []))) a u:=by
 obtain ⟨H, fp, h⟩:=h
 exact ⟨H, _, h.putR (C:=noL) rfl rfl (fun _ _ => rfl) ⟨by simp, .inl ⟨rfl, h.slot t _ hk, fun _ h => h⟩⟩ (fun _ h => h.elim) fun _ _ _ _ _ _ h => h⟩
theorem zet (t:Nat) (e:TypeId) (s:Nat) {c:Code} (hk:κ t = some (.is (.slice none 0 0))) (h:V P F B n O (upd κ t (.own (SlR e s 0 []))) c Q):V P F B n O κ c Q:=fun a u hh => h a u (hh.nilR e s hk)
theorem z0m (L:Tabs P) {t e:TypeId} {x y:Operand} {kl kc:IntKind} {s by_:Nat} (c:Nat) {p:Int} (hn:Nat.blt d n = true) (hg:gK ops κ ⟨some d, .makeSlice t x y, ty, pos, aft, g⟩ = some true) (ht:L.sl t = some e) (he:elI P e = some (s, by_))
  (hx:evK κ x = some (.int kl 0)) (hy:evK κ y = some (.int kc p)) (hp:p = c) (hb:by_ * c ≤ 281474976710656) (hc:c ≤ maxLen):StepOK P F B n ops O κ ⟨some d, .makeSlice t x y, ty, pos, aft, g⟩ d (.own (SlR e s 0 [])):=by
 rintro κ' a u hl ⟨H, fp, hh⟩
 unfold After
 rw [if_pos (zae hh hl hg)]
 have en:=hh.env hl
 obtain ⟨i, z, hi, hz, hs1, hs2, hs3, hs4⟩:=zer he
 have h1:=en.is_ x _ (by simp [Op.operands]) hx
 have h2:=en.is_ y _ (by simp [Op.operands]) hy
 subst hp
 have hb':(i.bytes:Int) * (c:Int) ≤ 281474976710656:=by
  have h:((by_ * c:Nat):Int) ≤ 281474976710656:=by omega
  rw [hs2]; rwa [Int.natCast_mul] at h
 have h63:(c:Int) ≤ 9223372036854775807:=by simp [maxLen] at hc; omega
 have hr:=run_make (P:=P) u t e i z (Tabs.sl_spec ht) hi hz kl kc 0 c (Int.le_refl _) (by omega) hb' h63
 simp only [Int.toNat_zero, Int.toNat_natCast] at hr
 have hrun:(execOp a.eval ⟨some d, .makeSlice t x y, ty, pos, aft, g⟩).run P u = .ok (.value (.slice (some ⟨u.heap.size, 0, none⟩) 0 c)) (u.alloc (.cells (madeCells z.cells (c * i.size)) e)):=by
  simp only [execOp, h1, h2, Sem.run_bind, hr, Result.andThen_ok]; rfl
 rw [hrun]
 simp only [Upon]
 have hg2:=hh.grow (Grow.hid hh.sub (.cells (madeCells z.cells (c * i.size)) e))
 refine ⟨H, _, hg2.putR (C:=fun k => k = u.heap.size) (by simp [Act.put]) rfl (fun t ht => zap ht) ⟨by simp, .inr ⟨u.heap.size, c, (madeCells z.cells (c * i.size)).toList, zat (by rw [hh.size]; exact zn hn), by rw [zak]; simp, Nat.zero_le _, hc, by simp [size_madeCells, hs1], fun _ => Iff.rfl⟩⟩ (fun k hk => ?_) fun t r' _ ht k hf hk => ?_⟩
 ·subst hk
  exact ⟨zaa (zak u _), za8 hh.sub (Nat.le_refl _), .inl hh.keep.size, fun y hy e => by have:=zaa (hh.boxes y hy).1; omega⟩
 ·have:=((hh.slot t _ ht).2 k hf).1
  omega

def Apd (F:Fr) (B:Heap) (O:Boxes) (κ:Kap) (y:Operand) (m:Nat) (news:List Value):Prop :=
 ∀ (o:Oper) (a:Act) (u:World) (H:Heap) (fp:Nat → Nat → Prop), y ∈ o.op.operands → Env F B O κ o a u H fp →
  (m = 0 ∧ news = [] ∧ ∃ l c, a.eval y = .slice none l c ∧ l = 0) ∨ ∃ ad c, a.eval y = .slice (some ad) m c ∧ ∀ j v, news[j]? = some v → u.cell? (ad.add j) = some v
theorem zq1 {q:Nat} {xs:List Value} {e:TypeId} {m:Nat} (h:κ q = some (.sat (SlB xs e m))):Apd F B O κ (.tmp q) m xs:=fun _ _ u _ _ hy en => by
 obtain ⟨b, h1, h2⟩:=en.sat_ q _ hy h
 exact .inr ⟨_, _, h1, fun j v hj => by rw [zb1, zas (en.sub _ _ h2)]; simpa using hj⟩
theorem zsk {q:Nat} {xs:List Value} {e:TypeId} {s m:Nat} {fu:Bool} (h:κ q = some (.sat (SlV e s xs m fu))):Apd F B O κ (.tmp q) m xs:=fun _ _ u _ _ hy en => by
 obtain ⟨hl, ⟨rfl, p0, h1⟩ | ⟨b, off, cap, cs, ty0, fr, h1, h2, h3, _⟩⟩:=en.sat_ q _ hy h
 ·have hx:xs = []:=List.eq_nil_of_length_eq_zero (by simpa using hl)
  cases p0 with
  | none => exact .inl ⟨rfl, hx, 0, 0, h1, rfl⟩
  | some ad => exact .inr ⟨ad, 0, h1, fun j v hj => by subst hx; cases hj⟩
 ·exact .inr ⟨_, _, h1, fun j v hj => by rw [zb1, zas (en.sub _ _ h2)]; simpa using AtP.get h3 hj⟩
theorem zze (u:World) {t e:TypeId} {aty:TypeId} {i:TypeInfo} {z:Value} {s by_:Nat} (ht:P.underlying t = some (.slice e)) (hi:P.info? e = some i) (hz:i.zero = some z) (hs1:i.size = s) (hs2:i.bytes = by_) (hs3:z.cells.size = s) (hs4:0 < s)
  {x y:Value} {C:Nat → Prop} {H:Heap} {nn m:Nat} {xs news:List Value} (hsub:H.Le (hp u)) (hown:(SlR e s nn xs).P x H u C) (hlt:∀ k, C k → k < u.heap.size ∧ H k = none) (hy:(m = 0 ∧ news = [] ∧ ∃ l c, y = .slice none l c ∧ l = 0) ∨ ∃ ad c, y = .slice (some ad) m c ∧ ∀ j v, news[j]? = some v → u.cell? (ad.add j) = some v)
  (hl:news.length = m * s) (h1:∀ v ∈ news, v.oneCell' = true) (h63:nn + m ≤ 9223372036854775807) (hb:(nn + m) * by_ ≤ 140737488355328) :
  ∃ x' u' C', (Builtin.append_ #[t, t] aty #[x, y]).run P u = .ok x' u' ∧ (SlR e s (nn + m) (xs ++ news)).P x' H u' C' ∧ Grow C u H u' H ∧ ∀ k, C' k → (C k ∨ u.heap.size ≤ k) ∧ k < u'.heap.size ∧ H k = none:=by
 have hmx:nn + m ≤ maxLen:=by simp only [maxLen]; omega
 obtain ⟨hxl, hown⟩:=hown
 have hlen:(xs ++ news).length = (nn + m) * s:=by rw [List.length_append, hxl, hl, Nat.add_mul]
 have hdrew:∀ o:Obj, Grow C u H (u.drew.alloc o) H:=fun o => ⟨⟨rfl, rfl, rfl, by simp, fun k hk _ => zc5 u.drew _ hk, Nat.le_succ _⟩, fun k v hv => by
  have:=hsub.size hv
  show (u.drew.alloc o).heap[k]? = some v
  rw [zc5 u.drew _ this]; exact hsub k v hv, Heap.Le.refl _, fun _ _ _ => rfl⟩
 have hnew:∀ (o:Obj) (k:Nat), k = u.heap.size → (C k ∨ u.heap.size ≤ k) ∧ k < (u.drew.alloc o).heap.size ∧ H k = none:=fun o k hk => by
  subst hk
  exact ⟨.inr (Nat.le_refl _), by simp, za8 hsub (Nat.le_refl _)⟩
 have grown:∀ (old:Nat), old < nn + m → ∀ vs:List Value, vs.length = nn * s → vs = xs →
   (SlR e s (nn + m) (xs ++ news)).P (.slice (some ⟨u.heap.size, 0, none⟩) (nn + m) (grownCap u (nn + m) old e)) H (u.drew.alloc (.cells (vs.toArray ++ news.toArray ++ Builtin.zeroCells z.cells (grownCap u (nn + m) old e - (nn + m))) e)) (fun k => k = u.heap.size):=by
  rintro old ho vs hvs rfl
  have hge:=grownCap_ge u (nn + m) old e
  refine ⟨hlen, .inr ⟨u.heap.size, _, (Builtin.zeroCells z.cells (grownCap u (nn + m) old e - (nn + m))).toList, rfl, ?_, hge, grownCap_le_maxLen u (nn + m) old e hmx, ?_, fun _ => Iff.rfl⟩⟩
  ·have:=heap_alloc_new u.drew (.cells (vs.toArray ++ news.toArray ++ Builtin.zeroCells z.cells (grownCap u (nn + m) old e - (nn + m))) e)
   have h2:(u.drew.alloc (.cells (vs.toArray ++ news.toArray ++ Builtin.zeroCells z.cells (grownCap u (nn + m) old e - (nn + m))) e)).heap[u.heap.size]? = some (.cells (vs.toArray ++ news.toArray ++ Builtin.zeroCells z.cells (grownCap u (nn + m) old e - (nn + m))) e):=this
   rw [h2]
   congr 2
   apply Array.ext'
   simp
  ·rw [List.length_append, hlen, Array.length_toList, size_zeroCells, hs3, ← Nat.add_mul]
   congr 1
   omega
 subst hs1
 subst hs2
 rcases hown with ⟨rfl, rfl, hC⟩ | ⟨b, cap, rest, rfl, hbk, hnc, hcm, hcl, hC⟩
 ·have hx:xs = []:=List.eq_nil_of_length_eq_zero (by simpa using hxl)
  subst hx
  rcases hy with ⟨rfl, rfl, l, c, rfl, rfl⟩ | ⟨ad, c, rfl, hnews⟩
  ·refine ⟨.slice none 0 0, u, noL, ?_, ⟨by simp, .inl ⟨rfl, rfl, fun _ h => h⟩⟩, ⟨Keep.refl _ _, hsub, Heap.Le.refl _, fun _ _ _ => rfl⟩, fun _ h => h.elim⟩
   simp [Builtin.append_, run_underlying ht, sizeOf, typeInfo, hi, Builtin.lenOf, Builtin.firstCells]
  ·by_cases hm:m = 0
   ·subst hm
    have hn:news = []:=List.eq_nil_of_length_eq_zero (by simpa using hl)
    subst hn
    refine ⟨.slice none 0 0, u, noL, ?_, ⟨by simp, .inl ⟨rfl, rfl, fun _ h => h⟩⟩, ⟨Keep.refl _ _, hsub, Heap.Le.refl _, fun _ _ _ => rfl⟩, fun _ h => h.elim⟩
    simp [Builtin.append_, run_underlying ht, sizeOf, typeInfo, hi, Builtin.lenOf, Builtin.firstCells, loadCells, loadCellsFrom]
   ·have hr:=run_append_nil (P:=P) u t aty e i z ht hi hz ad m c news hl hnews (by omega) (by omega) (by simp only [Nat.zero_add] at hb; omega)
    have hgr:=grown 0 (by omega) [] (by simp) rfl
    simp only [Nat.zero_add, List.nil_append, Array.empty_append] at hgr ⊢
    exact ⟨_, _, _, hr, hgr, hdrew _, fun k hk => hnew _ k hk⟩
 ·have hbl:=hlt b ((hC b).2 rfl)
  have holds:∀ j v, xs[j]? = some v → u.cell? ((⟨b, 0, none⟩:Addr).add j) = some v:=fun j v hj => by
   rw [zb1, Nat.zero_add, zas hbk]
   have hlt:j < xs.length:=by
    rcases Nat.lt_or_ge j xs.length with h | h
    ·exact h
    ·rw [List.getElem?_eq_none h] at hj; cases hj
   simp only [List.getElem?_toArray]
   rw [List.getElem?_append_left hlt]; exact hj
  rcases hy with ⟨rfl, rfl, l, c, rfl, rfl⟩ | ⟨ad, c, rfl, hnews⟩
  ·refine ⟨.slice (some ⟨b, 0, none⟩) nn cap, u, C, ?_, ⟨by simpa using hxl, .inr ⟨b, cap, rest, rfl, by simpa using hbk, hnc, hcm, by simpa using hcl, hC⟩⟩, ⟨Keep.refl _ _, hsub, Heap.Le.refl _, fun _ _ _ => rfl⟩, fun k hk => ⟨.inl hk, hlt k hk⟩⟩
   simp [Builtin.append_, run_underlying ht, sizeOf, typeInfo, hi, Builtin.lenOf, Builtin.firstCells, hnc, storeCells]
  ·by_cases hroom:nn + m ≤ cap
   ·have hfit:nn * i.size + news.length ≤ (xs ++ rest).toArray.size:=by rw [hl, ← Nat.add_mul]; simp only [List.size_toArray, hcl]; exact Nat.mul_le_mul_right _ hroom
    have hr:=run_append_room (P:=P) u t aty e i ht hi b nn cap _ hbk ad m c news hl hnews h1 hroom hfit
    refine ⟨_, _, C, hr, ⟨hlen, .inr ⟨b, cap, rest.drop news.length, rfl, ?_, hroom, hcm, ?_, hC⟩⟩, zdl hsub hbk ((hC b).2 rfl) hbl.2 _, fun k hk => ⟨.inl hk, by rw [setRow_size]; exact (hlt k hk).1, (hlt k hk).2⟩⟩
    ·rw [setRow_heap u b _ _ e (0, 0) hbk]
     congr 3
     rw [← hxl]
     simp [List.drop_append, List.drop_eq_nil_of_le]
    ·have h5:rest.length = cap * i.size - nn * i.size:=by rw [← hcl, List.length_append, hxl]; omega
     rw [List.length_append, hlen, List.length_drop, h5, hl, Nat.add_mul]
     have:nn * i.size + m * i.size ≤ cap * i.size:=by rw [← Nat.add_mul]; exact Nat.mul_le_mul_right _ hroom
     omega
   ·have hr:=run_append_grow (P:=P) u t aty e i z ht hi hz ⟨b, 0, none⟩ nn cap xs hxl holds ad m c news hl hnews (by omega) (by omega) (growslice_fits (by omega) hb)
    exact ⟨_, _, _, hr, grown cap (by omega) xs hxl rfl, hdrew _, fun k hk => hnew _ k hk⟩

theorem zb5 (L:Tabs P) {q:Nat} {t e:TypeId} {y:Operand} {s by_ nn m:Nat} {xs news:List Value} (hn:Nat.blt d n = true) (hg:gK ops κ ⟨some d, .call ⟨.builtin .append, #[.tmp q, y], #[t, t]⟩, ty, pos, aft, g⟩ = some true)
  (hq:κ q = some (.own (SlR e s nn xs))) (hy:Apd F B O κ y m news) (ht:L.sl t = some e) (he:elI P e = some (s, by_)) (hl:news.length = m * s) (h1:news.all zdv = true) (hb:(nn + m) * by_ ≤ 140737488355328) (h63:nn + m ≤ 9223372036854775807) :
  zdg P F B n ops O κ ⟨some d, .call ⟨.builtin .append, #[.tmp q, y], #[t, t]⟩, ty, pos, aft, g⟩ q zed d (.own (SlR e s (nn + m) (xs ++ news))):=by
 rintro κ' a u hlk hks ⟨H, fp, hh⟩
 unfold After
 rw [if_pos (zae hh hlk hg)]
 have en:=hh.env hlk
 obtain ⟨i, z, hi, hz, hs1, hs2, hs3, hs4⟩:=zer he
 have hk':κ' q = some (.own (SlR e s nn xs)):=hks.trans hq
 obtain ⟨hown, hM⟩:=hh.slot q _ hk'
 obtain ⟨x', u', C', hr, hown', hgr, hC'⟩:=zze u (aty:=ty) (Tabs.sl_spec ht) hi hz hs1 hs2 hs3 hs4 hh.sub hown (fun k hk => ⟨(hM k hk).1, (hM k hk).2.1⟩) (hy _ a u H fp (by simp [Op.operands, Call.operands]) en) hl (fun v hv => zky (List.all_eq_true.1 h1 v hv)) h63 hb
 have hrun:(execOp a.eval ⟨some d, .call ⟨.builtin .append, #[.tmp q, y], #[t, t]⟩, ty, pos, aft, g⟩).run P u = .ok (.value x') u':=by
  simp only [execOp, resolve, invoke, builtin, Sem.run_bind, Sem.run_pure, Result.andThen_ok, List.map_toArray, List.map_cons, List.map_nil, hr]
 rw [hrun]
 simp only [Upon]
 exact ⟨H, _, hh.usePut hk' hgr (by simp [Act.put]) rfl (fun t ht => zap ht) (by rw [zat (by rw [hh.size]; exact zn hn)]; exact hown') hC'⟩
theorem yh {q:Nat} {r:Res} {op:Op} (hop:op = .move (.tmp q) ∨ op = .assign (.tmp q)) (hn:Nat.blt d n = true) (hg:gK ops κ ⟨some d, op, ty, pos, aft, g⟩ = some true) (hq:κ q = some (.own r)) (hne:Nat.beq q d = false) :
  zdg P F B n ops O κ ⟨some d, op, ty, pos, aft, g⟩ q zed d (.own r):=by
 rintro κ' a u hlk hks ⟨H, fp, hh⟩
 unfold After
 rw [if_pos (zae hh hlk hg)]
 have hk':κ' q = some (.own r):=hks.trans hq
 obtain ⟨hown, hM⟩:=hh.slot q _ hk'
 have hrun:(execOp a.eval ⟨some d, op, ty, pos, aft, g⟩).run P u = .ok (.value (a.eval (.tmp q))) u:=by
  rcases hop with rfl | rfl <;> simp [execOp]
 rw [hrun]
 simp only [Upon]
 exact ⟨H, _, hh.usePut (C:=fp q) hk' ⟨Keep.refl _ _, hh.sub, Heap.Le.refl _, fun _ _ _ => rfl⟩ (by simp [Act.put]) rfl (fun t ht => zap ht) (by rw [zat (by rw [hh.size]; exact zn hn)]; exact hown) fun k hk => ⟨.inl hk, (hM k hk).1, (hM k hk).2.1⟩⟩
theorem Has.pubR {t:Nat} {e:TypeId} {s m:Nat} {xs:List Value} (hk:κ t = some (.own (SlR e s m xs))) (h:Has F B O n κ a u):Has F B O n (upd κ t (.sat (SlV e s xs m false))) a u:=by
 obtain ⟨H, fp, h⟩:=h
 obtain ⟨⟨hl, hv⟩, hM⟩:=h.slot t _ hk
 rcases hv with ⟨rfl, hv, hC⟩ | ⟨b, cap, rest, hv, hb, h3, h4, h5, hC⟩
 ·have hx:xs = []:=List.eq_nil_of_length_eq_zero (by simpa using hl)
  subst hx
  suffices h3:Has F B O n (upd κ t (.sat fun v _ => v = .slice none 0 0)) a u by
   have:=h3.imp (t:=t) (ψ:=SlV e s [] 0 false) (zah _ _ _) SlV.mono fun v H hv => ⟨by simp, .inl ⟨rfl, _, hv⟩⟩
   rw [zbr] at this
   exact this
  have h2:=h.drop1 t
  refine ⟨H, fp, h2.size, h2.defers, h2.nodup, h2.marks, h2.lent, h2.keep, h2.sub, h2.base, h2.fresh, h2.boxes, h2.apart, fun s k hs => ?_, fun s q r1 r2 hsq h1 h2' => ?_, fun s k hs => ?_⟩
  ·by_cases hst:s = t
   ·subst hst; rw [zah] at hs; cases hs; exact hv
   ·rw [zab _ _ hst] at hs; exact h.slot s k hs
  ·have key:∀ x r, upd κ t (.sat fun v _ => v = .slice none 0 0) x = some (.own r) → κ x = some (.own r):=fun x r hx => by
    by_cases hxd:x = t
    ·subst hxd; rw [zah] at hx; cases hx
    ·rw [zab _ _ hxd] at hx; exact hx
   exact h.owns s q r1 r2 hsq (key _ _ h1) (key _ _ h2')
  ·by_cases hst:s = t
   ·subst hst; rw [zah] at hs; cases hs; exact fun _ _ _ h _ => h
   ·rw [zab _ _ hst] at hs; exact h.mono s k hs
 ·obtain ⟨H', h'⟩:=h.pub (φ:=SlV e s xs m false) hk hb ((hC b).2 rfl) SlV.mono fun H' _ hb' => ⟨hl, .inr ⟨b, 0, cap, _, _, (0, 0), hv, hb', by simp, h3, fun h => by cases h⟩⟩
  exact ⟨H', fp, h'⟩
theorem zes (t:Nat) {e:TypeId} {s m:Nat} {xs:List Value} {c:Code} (hk:κ t = some (.own (SlR e s m xs))) (h:V P F B n O (upd κ t (.sat (SlV e s xs m false))) c Q):V P F B n O κ c Q:=fun a u hh => h a u (hh.pubR hk)
theorem zfw (t:Nat) {e:TypeId} {s m:Nat} {xs:List Value} (hk:κ t = some (.own (SlR e s m xs))) (h:VO P F B n O ops (upd κ t (.sat (SlV e s xs m false))) os Q):VO P F B n O ops κ os Q:=fun a u hh => h a u (hh.pubR hk)

theorem z0o (L:Tabs P) {q f:Nat} {args:Array Operand} {at_:Array TypeId} {cap:List Value} {r:Res} {φ:Value → Heap → Prop} {fo:Operand}
  (hn:Nat.blt d n = true) (hg:gK ops κ ⟨some d, .call { callee:=.value fo, args:=args, argTypes:=at_ }, ty, pos, aft, g⟩ = some true)
  (hf:evK (upd κ q (.is undef)) fo = some (.func (.func f) #[] cap.toArray)) (hfn:L.fn f = some ()) (hq:κ q = some (.own r)) (hm:Kn.mono (.sat φ))
  (h:∀ u H C x, H.Le (hp u) → B.Le H → r.P x H u C → (∀ k, C k → k < u.heap.size ∧ H k = none) → Args (upd κ q (.is x)) H args.toList [] (fun vs => RetL P f (vs ++ cap) u H C (fun v H' _ => φ v H'))) :
  zdg P F B n ops O κ ⟨some d, .call { callee:=.value fo, args:=args, argTypes:=at_ }, ty, pos, aft, g⟩ q zed d (.sat φ):=by
 rintro κ' a u hlk hks ⟨H, fp, hh⟩
 unfold After
 rw [if_pos (zae hh hlk hg)]
 have hk':κ' q = some (.own r):=hks.trans hq
 obtain ⟨hown, hM⟩:=hh.slot q _ hk'
 have hh2:=hh.name q
 have e2:Env F B O (upd κ q (.is (a.eval (.tmp q)))) ⟨some d, .call { callee:=.value fo, args:=args, argTypes:=at_ }, ty, pos, aft, g⟩ a u H fp:=hh2.env (ops:=ops) fun t ht => by
  by_cases htq:t = q
  ·subst htq; rw [zah, zah]
  ·rw [zab _ _ htq, zab _ _ htq]; exact hlk t ht
 have hfe:a.eval fo = .func (.func f) #[] cap.toArray:=by
  refine e2.is_ fo _ (by simp [Op.operands, Call.operands]) ?_
  cases fo with
  | tmp t =>
   simp only [evK] at hf ⊢
   by_cases htq:t = q
   ·subst htq; rw [zah] at hf; cases hf
   ·rw [zab _ _ htq] at hf ⊢; exact hf
  | _ => exact hf
 have hc:=Args.use e2 args.toList [] (fun x hx => by simp [Op.operands, Call.operands] at hx ⊢; exact .inr hx) (h u H (fp q) _ hh.sub hh.base hown fun k hk => ⟨(hM k hk).1, (hM k hk).2.1⟩)
 simp only [List.reverse_nil, List.nil_append] at hc
 rw [zdp L rfl hfe hfn]
 simp only [Upon]
 refine Calls.mono hc fun e' u' hp => ?_
 obtain ⟨v, rfl, H', g', hv⟩:=hp
 exact ⟨v, rfl, H', fp, (hh.use hk' g').put (zn hn) hm hv⟩
end
end Go.V
set_option maxRecDepth 20000
namespace Go.V
open Go.RowKit

structure GR where
 P:Heap → World → (Nat → Prop) → Prop
 st:∀ {H u C H' u'}, P H u C → H.Le H' → H'.Le (hp u') → On u u' → (∀ k, C k → u'.heap[k]? = u.heap[k]?) → P H' u' C
def GR.res (r:GR):Res:=⟨fun _ H u C => r.P H u C, r.st⟩
abbrev zbi:=List (List Value)
def zlt (P:Program) (l:Nat) (J:zbi → GR) (stop:zbi → Bool) (xs:zbi):Prop :=
 ∀ (pre:zbi) (x:List Value), pre ++ [x] <+: xs → stop pre = false → ∀ (u:World) (H:Heap) (C:Nat → Prop), H.Le (hp u) → (J pre).P H u C → (∀ k, C k → k < u.heap.size ∧ H k = none) →
  ∃ fn tmps assign body, (Instr.yield l x.toArray).run P u = .ok (.round l fn tmps assign body) u ∧
   RoundIn Fence.wide 0 P l fn tmps assign body u fun e u' => e = .returned (.bool (!stop (pre ++ [x]))) ∧ ∃ C', (J (pre ++ [x])).P H u' C' ∧ Keep C u u' ∧ ∀ k, C' k → (C k ∨ u.heap.size ≤ k) ∧ k < u'.heap.size
def za7 (stop:zbi → Bool):zbi → zbi → zbi
 | pre, [] => pre
 | pre, x :: xs => if stop (pre ++ [x]) = true then pre ++ [x] else za7 stop (pre ++ [x]) xs
def z7l (P:Program) (f:FuncId) (caps:List Value) (w:World) (B:Heap) (xs:zbi):Prop :=
 ∀ (l:Nat) (J:zbi → GR) (stop:zbi → Bool) (C:Nat → Prop), stop [] = false → zlt P l J stop xs → (J []).P B w C → (∀ k, C k → k < w.heap.size ∧ B k = none) →
  RetL P f (.func (.yield l) #[] #[] :: caps) w B C fun _ H u => ∃ C', (J (za7 stop [] xs)).P H u C' ∧ ∀ k, C' k → (C k ∨ w.heap.size ≤ k) ∧ k < u.heap.size ∧ H k = none

section
variable {P:Program} {F:Fr} {B:Heap} {O:Boxes} {n:Nat} {ops:Array Oper} {κ:Kap} {d:Nat} {ty:TypeId} {pos:String} {aft:Array Edge} {g:Option (Nat × Bool)} {a:Act} {u:World} {H:Heap} {fp:Nat → Nat → Prop} {os:List Oper} {Q:Exit → Act → World → Prop} {ex:Exs}
theorem zty {o:Oper} (e:Env F B O κ o a u H fp):∀ (xs:List Operand) (vs:List Value), (∀ x ∈ xs, x ∈ o.op.operands) → zzk κ xs = some vs → xs.map a.eval = vs
 | [], vs, _, h => by simp only [zzk] at h; cases h; rfl
 | x :: xs, vs, hx, h => by
  simp only [zzk] at h
  split at h
  ·rename_i v vs' h1 h2
   cases h
   rw [List.map_cons, zty e xs vs' (fun p hp => hx p (List.mem_cons_of_mem _ hp)) h2, e.is_ x v (hx x (List.mem_cons_self ..)) h1]
  ·cases h
theorem zcz {l gs:Nat} {J:zbi → GR} {stop:zbi → Bool} {xs pre:zbi} {x:List Value} {b:Bool} {fo:Operand} {args:Array Operand} {at_:Array TypeId} (hY:zlt P l J stop xs) (hpre:pre ++ [x] <+: xs) (hst:stop pre = false) (hb:(!stop (pre ++ [x])) = b)
  (hn:Nat.blt d n = true) (hg:gK ops κ ⟨some d, .call { callee:=.value fo, args:=args, argTypes:=at_ }, ty, pos, aft, g⟩ = some true) (hf:evK κ fo = some (.func (.yield l) #[] #[])) (ha:zzk κ args.toList = some x) (hk:κ gs = some (.own (J pre).res)) :
  zdg P F B n ops O κ ⟨some d, .call { callee:=.value fo, args:=args, argTypes:=at_ }, ty, pos, aft, g⟩ gs (.own (J (pre ++ [x])).res) d (.is (.bool b)):=by
 rintro κ' a u hl hks ⟨H, fp, hh⟩
 unfold After
 rw [if_pos (zae hh hl hg)]
 have e:=hh.env hl
 have hfe:a.eval fo = .func (.yield l) #[] #[]:=e.is_ fo _ (by simp [Op.operands, Call.operands]) hf
 have hae:=zty e args.toList x (fun y hy => by simp [Op.operands, Call.operands] at hy ⊢; exact .inr hy) ha
 have hk':κ' gs = some (.own (J pre).res):=hks.trans hk
 obtain ⟨hown, hM⟩:=hh.slot gs _ hk'
 obtain ⟨fn, tmps, assign, body, hrun, hround⟩:=hY pre x hpre hst u H (fp gs) hh.sub hown fun k hk => ⟨(hM k hk).1, (hM k hk).2.1⟩
 have hae':args.map a.eval = x.toArray:=by rw [← hae, ← List.map_toArray, Array.toArray_toList]
 have hrun':(execOp a.eval ⟨some d, .call { callee:=.value fo, args:=args, argTypes:=at_ }, ty, pos, aft, g⟩).run P u = .ok (.round l fn tmps assign body) u:=by
  simp only [execOp, resolve, hfe, Deferred.ofValue, Sem.run_bind, Sem.run_pure, Result.andThen_ok, invoke, hae']
  simpa using hrun
 rw [hrun']
 simp only [Upon]
 refine RoundIn.mono hround fun e' u' hp => ?_
 obtain ⟨rfl, C', hJ, hkeep, hC'⟩:=hp
 refine ⟨_, rfl, ?_⟩
 rw [hb]
 have hsub':H.Le (hp u'):=fun k o ho => by
  have hlt:=hh.sub.size ho
  refine (hkeep.block k hlt fun hc => ?_).trans (hh.sub k o ho)
  rw [(hM k hc).2.1] at ho; cases ho
 have hg':Grow (fp gs) u H u' H:=⟨hkeep, hsub', Heap.Le.refl _, fun _ _ _ => rfl⟩
 have h2:=hh.usePut (d:=gs) (a':=a) (r':=(J (pre ++ [x])).res) (C:=C') hk' hg' rfl rfl (fun _ _ => rfl) hJ fun k hk => ⟨(hC' k hk).1, (hC' k hk).2, by
  rcases (hC' k hk).1 with h | h
  ·exact (hM k h).2.1
  ·exact za8 hh.sub h⟩
 rw [zbr] at h2
 exact ⟨H, _, h2.put (k:=.is (.bool b)) (zn hn) trivial rfl⟩
theorem zaf {f:FuncId} {fn:Func} {c:Code} {args:List Value} {w:World} {B:Heap} {φ:Value → Heap → World → Prop} {C:Nat → Prop} (gs:Nat) (r:GR) (hf:P.funcs[f]? = some fn) (hb:fn.body = some c) (hn:fn.ntmps = n)
  (hs:args.length ≤ n) (hB:B.Le (hp w)) (hr:r.P B w C) (hC:∀ k, C k → k < w.heap.size ∧ B k = none) (h:V P ⟨w, none, [], C⟩ B n [] (upd (ziw 0 args) gs (.own r.res)) c (bodyPostM Fence.wide 0 P fn (zff w B C φ))):RetL P f args w B C φ:=by
 refine zfb hf hb (h _ w ?_)
 subst hn
 have h0:=ze9 (B:=B) C (fun k hk => (hC k hk).1) hs hB (fun _ => noL)
 exact ⟨B, _, h0.putR (d:=gs) (r:=r.res) rfl rfl (fun _ _ => rfl) hr (fun k hk => ⟨(hC k hk).1, (hC k hk).2, .inr hk, fun y hy => by cases hy⟩) fun t r' _ ht => by
  obtain ⟨v, hv, _⟩:=zc6 _ _ _ _ ht
  cases hv⟩

theorem zin:∀ (l1 l2:List (Nat × Kn)) (t:Nat), ofL (l1 ++ l2) t = match ofL l1 t with | some k => some k | none => ofL l2 t
 | [], l2, t => rfl
 | (s, k) :: l1, l2, t => by
  show upd (ofL (l1 ++ l2)) s k t = _
  by_cases h:t = s
  ·subst h; rw [zah]; show _ = match upd (ofL l1) t k t with | some k => some k | none => _; rw [zah]
  ·rw [zab _ _ h, zin l1 l2 t]; show _ = match upd (ofL l1) s k t with | some k => some k | none => _; rw [zab _ _ h]
def z2i (fx:List (Nat × Value)):List (Nat × Kn):=fx.map fun p => (p.1, .is p.2)
def gK' (G:List (Nat × Res)):List (Nat × Kn):=G.map fun p => (p.1, .own p.2)
theorem zll:∀ (fx:List (Nat × Value)) {t:Nat} {k:Kn}, ofL (z2i fx) t = some k → ∃ v, k = .is v
 | [], _, _, h => by cases h
 | (s, v) :: fx, t, k, h => by
  replace h:upd (ofL (z2i fx)) s (.is v) t = some k:=h
  by_cases hts:t = s
  ·subst hts; rw [zah] at h; cases h; exact ⟨v, rfl⟩
  ·rw [zab _ _ hts] at h; exact zll fx h
theorem ztv {n:Nat}:∀ (G:List (Nat × Res)) {t:Nat} {k:Kn}, (∀ p ∈ G, n ≤ p.1) → ofL (gK' G) t = some k → n ≤ t ∧ ∃ r, k = .own r
 | [], _, _, _, h => by cases h
 | (s, r) :: G, t, k, hn, h => by
  replace h:upd (ofL (gK' G)) s (.own r) t = some k:=h
  by_cases hts:t = s
  ·subst hts; rw [zah] at h; cases h; exact ⟨hn _ (List.mem_cons_self ..), r, rfl⟩
  ·rw [zab _ _ hts] at h; exact ztv G (fun p hp => hn p (List.mem_cons_of_mem _ hp)) h
abbrev KK (fx:List (Nat × Value)) (G:List (Nat × Res)):Kap:=ofL (gK' G ++ z2i fx)
theorem zjd {n:Nat} {fx:List (Nat × Value)} {G:List (Nat × Res)} (hG:∀ p ∈ G, n ≤ p.1) {t:Nat} {r:Res} (h:KK fx G t = some (.own r)):ofL (gK' G) t = some (.own r):=by
 rw [KK, zin] at h
 cases hg:ofL (gK' G) t with
 | some k => rw [hg] at h; exact h
 | none => rw [hg] at h; obtain ⟨v, hv⟩:=zll fx h; cases hv
theorem zj8 {n:Nat} {fx:List (Nat × Value)} {G:List (Nat × Res)} (hG:∀ p ∈ G, n ≤ p.1) {t:Nat} {k:Kn} (h:KK fx G t = some k):(n ≤ t ∧ ofL (gK' G) t = some k ∧ ∃ r, k = .own r) ∨ (ofL (z2i fx) t = some k ∧ ofL (gK' G) t = none ∧ ∃ v, k = .is v):=by
 rw [KK, zin] at h
 cases hg:ofL (gK' G) t with
 | some k' => rw [hg] at h; cases h; obtain ⟨h1, h2⟩:=ztv G hG hg; exact .inl ⟨h1, rfl, h2⟩
 | none => rw [hg] at h; exact .inr ⟨h, rfl, zll fx h⟩
theorem zok (hs:a.tmps.size = n) {t:Nat} (ht:n ≤ t):a.eval (.tmp t) = undef:=by
 simp only [Act.eval, Array.getD_eq_getD_getElem?]
 rw [Array.getElem?_eq_none (by omega)]; rfl
theorem HasH.newBox (o:Obj) (h:HasH F B O n κ a u H fp):HasH F B ((u.heap.size, o) :: O) n κ a (u.alloc o) H fp:=by
 have h2:=h.grow (Grow.hid h.sub o)
 refine ⟨h2.size, h2.defers, h2.nodup, fun D hD => List.mem_cons_of_mem _ (h2.marks D hD), h2.lent, h2.keep, h2.sub, h2.base, h2.fresh, fun y hy => ?_, List.pairwise_cons.2 ⟨fun y hy => ?_, h2.apart⟩, fun t k hk => ?_, h2.owns, h2.mono⟩
 ·rcases List.mem_cons.1 hy with rfl | hy
  ·exact ⟨zak _ _, za8 h.sub (Nat.le_refl _), .inl h.keep.size⟩
  ·exact h2.boxes y hy
 ·have:=zaa (h.boxes y hy).1
  dsimp only; omega
 ·have hh:=h2.slot t k hk
  cases k with
  | is _ => exact hh
  | sat _ => exact hh
  | own r =>
   refine ⟨hh.1, fun k hk' => ?_⟩
   obtain ⟨g1, g2, g3, g4⟩:=hh.2 k hk'
   refine ⟨g1, g2, g3, fun y hy => ?_⟩
   rcases List.mem_cons.1 hy with rfl | hy
   ·have:=((h.slot t _ hk).2 k hk').1
    dsimp only; omega
   ·exact g4 y hy
def Jc (F:Fr) (B:Heap) (n:Nat) (a0:Act) (H0:Heap) (N1:Nat) (O':zbi → Boxes) (K:zbi → Kap) (pre:zbi):GR where
 P Hit u C:=∃ Hc fp, HasH F B (O' pre) n (K pre) a0 u Hc fp ∧ H0.Le Hc ∧ H0.Le Hit ∧ (∀ y ∈ O' pre, y.1 < N1) ∧ N1 ≤ u.heap.size ∧ F.w0.heap.size ≤ N1 ∧
  (∀ k, C k ↔ (k < N1 ∧ H0 k = none) ∨ (N1 ≤ k ∧ ((Hc k).isSome = true ∨ ∃ t r, K pre t = some (.own r) ∧ fp t k)))
 st:=by
  rintro Hit u C Hit' u' ⟨Hc, fp, hh, h1, h2, h3, h4, h5, hC⟩ hle hsub hon hk
  have hCt:∀ t r k, K pre t = some (.own r) → fp t k → C k:=fun t r k ht hf => by
   rw [hC]
   rcases Nat.lt_or_ge k N1 with hlt | hge
   ·refine .inl ⟨hlt, ?_⟩
    have:=((hh.slot t _ ht).2 k hf).2.1
    cases hx:H0 k with
    | none => rfl
    | some o => rw [h1 k o hx] at this; cases this
   ·exact .inr ⟨hge, .inr ⟨t, r, ht, hf⟩⟩
  have hCb:∀ y ∈ O' pre, C y.1:=fun y hy => by
   rw [hC]
   refine .inl ⟨h3 y hy, ?_⟩
   have:=(hh.boxes y hy).2.1
   cases hx:H0 y.1 with
   | none => rfl
   | some o => rw [h1 _ o hx] at this; cases this
  have hold:∀ k o, H0 k = some o → u'.heap[k]? = u.heap[k]?:=fun k o ho =>
   ((hsub k o (hle k o (h2 k o ho))):u'.heap[k]? = some o).trans ((hh.sub k o (h1 k o ho)):u.heap[k]? = some o).symm
  have hsub':Hc.Le (hp u'):=fun k o ho => by
   show u'.heap[k]? = some o
   cases hx:H0 k with
   | some o' => rw [hold k o' hx]; exact hh.sub k o ho
   | none =>
    rw [hk k ((hC k).2 ?_)]
    ·exact hh.sub k o ho
    ·rcases Nat.lt_or_ge k N1 with hlt | hge
     ·exact .inl ⟨hlt, hx⟩
     ·exact .inr ⟨hge, .inl (by rw [ho]; rfl)⟩
  refine ⟨Hc, fp, ⟨hh.size, hh.defers, hh.nodup, hh.marks, hh.lent, ?_, hsub', hh.base, hh.fresh, fun y hy => ?_, hh.apart, fun t k ht => ?_, hh.owns, hh.mono⟩, h1, h2.trans hle, h3, Nat.le_trans h4 hon.size, h5, hC⟩
  ·refine ⟨hon.os.trans hh.keep.os, hon.tape.trans hh.keep.tape, hon.output.trans hh.keep.output, Nat.le_trans hh.keep.size hon.size, fun k hk' hl => ?_, Nat.le_trans hh.keep.dr hon.dr⟩
   refine Eq.trans ?_ (hh.keep.block k hk' hl)
   cases hx:H0 k with
   | some o => exact hold k o hx
   | none => exact hk k ((hC k).2 (.inl ⟨by omega, hx⟩))
  ·obtain ⟨g1, g2, g3⟩:=hh.boxes y hy
   exact ⟨(hk _ (hCb y hy)).trans g1, g2, g3⟩
  ·have hs:=hh.slot t k ht
   cases k with
   | is _ => exact hs
   | sat _ => exact hs
   | own r => exact ⟨r.st hs.1 (Heap.Le.refl _) hsub' hon fun k hf => hk k (hCt t r k ht hf), fun k hf => by
     obtain ⟨g1, g2, g3, g4⟩:=hs.2 k hf
     exact ⟨Nat.lt_of_lt_of_le g1 hon.size, g2, g3, g4⟩⟩
def z7e (κ:Kap):List (Nat × Value) → Kap
 | [] => κ
 | p :: ps => z7e (upd κ p.1 (.is p.2)) ps
theorem HasH.putP:∀ (ps:List (Nat × Value)) {κ:Kap} {tm:Array Value}, (∀ p ∈ ps, p.1 < n) → HasH F B O n κ { tmps:=tm, defers:=[] } u H fp →
  HasH F B O n (z7e κ ps) { tmps:=ps.foldl (fun t p => t.setIfInBounds p.1 p.2) tm, defers:=[] } u H fp
 | [], _, _, _, h => h
 | p :: ps, κ, tm, hn, h => HasH.putP ps (fun q hq => hn q (List.mem_cons_of_mem _ hq)) (h.put (k:=.is p.2) (hn p (List.mem_cons_self ..)) trivial rfl)
def z1v (F:Fr) (B:Heap) (n:Nat) (O:Boxes) (G:zbi → List (Nat × Res)) (stop:zbi → Bool) (jc:zbi → Code) (pre:zbi):Exit → Act → World → Prop
 | .normal, a, u => stop pre = false ∧ Has F B O n (ofL (gK' (G pre))) a u
 | .ret, a, u => stop pre = true ∧ jc pre = .ret ∧ Has F B O n (ofL (gK' (G pre))) a u
 | .exit id, a, u => stop pre = true ∧ jc pre = .exit id ∧ Has F B O n (ofL (gK' (G pre))) a u
 | _, _, _ => False
theorem zvs {B0:Heap} {G:zbi → List (Nat × Res)} {stop:zbi → Bool} {jc:zbi → Code} {pre:zbi} (hs:Since F B0 B) (h1:stop pre = false) (h2:LiveOK (gK' (G pre)) κ):N F B n O κ (z1v F B0 n O G stop jc pre):=fun _ _ hh => ⟨h1, (hh.live h2).since hs⟩
def RR (F:Fr) (B:Heap) (n:Nat) (O:Boxes) (κ:Kap) (Q:Exit → Act → World → Prop):Prop:=∀ a u, Has F B O n κ a u → Q .ret a u
theorem zh6 (h:RR F B n O κ Q):V P F B n O κ .ret Q:=fun a u hh => wpIn_ret (h a u hh)
theorem zfo {id:Nat} (h:RR F B n O κ Q):RR F B n O κ (Exit.inBlock id Q):=h
theorem zlv {K:Act → World → Prop} (h:RR F B n O κ Q):RR F B n O κ (Exit.then K Q):=h
theorem zow {B0:Heap} {G:zbi → List (Nat × Res)} {stop:zbi → Bool} {jc:zbi → Code} {pre:zbi} (hs:Since F B0 B) (h1:stop pre = true) (h3:jc pre = .ret) (h2:LiveOK (gK' (G pre)) κ):RR F B n O κ (z1v F B0 n O G stop jc pre) :=
 fun _ _ hh => ⟨h1, h3, (hh.live h2).since hs⟩
theorem zvr {B0:Heap} {l:List (Nat × Kn)} (hs:Since F B0 B) (hl:LiveOK l κ):N F B n O κ (Exit.then (fun a u => Has F B0 O n (ofL l) a u) Q):=fun _ _ hh => (hh.live hl).since hs
theorem HasH.ghost {gs:Nat} {r:GR} (hk:κ gs = some (.own r.res)) (h:HasH F B O n κ a u H fp):∃ C', r.P H u C' ∧ ∀ k, C' k → (F.L k ∨ F.w0.heap.size ≤ k) ∧ k < u.heap.size ∧ H k = none :=
 ⟨fp gs, (h.slot gs _ hk).1, fun k hk' => by obtain ⟨g1, g2, g3, _⟩:=(h.slot gs _ hk).2 k hk'; exact ⟨g3.symm, g1, g2⟩⟩
theorem zcn (L:Tabs P) {fn:Func} {B0:Heap} (gs:Nat) {r r':GR} (hrs:fn.results = #[]) (hQ:∀ a u, bodyPostM Fence.wide 0 P fn (zff F.w0 B0 F.L fun _ H u => ∃ C', r'.P H u C' ∧ ∀ k, C' k → (F.L k ∨ F.w0.heap.size ≤ k) ∧ k < u.heap.size ∧ H k = none) .ret a u → Q .ret a u) (hs:Since F B0 B) (hk:κ gs = some (.own r.res)) (e:r = r') (hm:zzl F.ds = true:=by rfl):V P F B n O κ .ret Q :=
 zua hQ hs (hm:=hm) fun O' a u H fp _ hh => by
  subst e
  obtain ⟨vs, h1, _⟩:=zbn L hh (rs:=[]) hrs (K:=fun _ => True) trivial
  obtain ⟨C', h2, h3⟩:=HasH.ghost hk hh
  exact ⟨_, h1, C', h2, h3⟩
theorem za9 (L:Tabs P) {fn:Func} {B0:Heap} (gs:Nat) {r r':GR} (hrs:fn.results = #[]) (hQ:∀ a u, bodyPostM Fence.wide 0 P fn (zff F.w0 B0 F.L fun _ H u => ∃ C', r'.P H u C' ∧ ∀ k, C' k → (F.L k ∨ F.w0.heap.size ≤ k) ∧ k < u.heap.size ∧ H k = none) .normal a u → Q .normal a u) (hs:Since F B0 B) (hk:κ gs = some (.own r.res)) (e:r = r') (hm:zzl F.ds = true:=by rfl):N F B n O κ Q :=
 z2t hQ hs (hm:=hm) fun O' a u H fp _ hh => by
  subst e
  obtain ⟨vs, h1, _⟩:=zbn L hh (rs:=[]) hrs (K:=fun _ => True) trivial
  obtain ⟨C', h2, h3⟩:=HasH.ghost hk hh
  exact ⟨_, h1, C', h2, h3⟩
theorem zpf (stop:zbi → Bool):∀ (xs pre:zbi), za7 stop pre xs <+: pre ++ xs
 | [], pre => by simp [za7]
 | x :: xs, pre => by
  simp only [za7]
  split
  ·exact ⟨xs, by simp⟩
  ·have:=zpf stop xs (pre ++ [x])
   simpa using this
theorem LiveOK.right:∀ {l1 l2:List (Nat × Kn)}, LiveOK (l1 ++ l2) κ → LiveOK l2 κ
 | [], _, h => h
 | _ :: l1, _, h => LiveOK.right (l1:=l1) h.2
theorem zeh (L:Tabs P) {f:Operand} {params:Array Tmp} {assign body:Code} {gf:Nat} {caps:List Value}
  (fx:List (Nat × Value)) (G:zbi → List (Nat × Res)) (K1:zbi → List Value → List (Nat × Kn)) (xs:zbi) (stop:zbi → Bool) (jc:zbi → Code)
  (hr:F.r = none) (hf:evK κ f = some (.func (.func gf) #[] caps.toArray)) (hfn:L.fn gf = some ())
  (h0:LiveOK (gK' (G []) ++ z2i fx) κ) (hG:∀ pre, ∀ p ∈ G pre, n ≤ p.1) (hst0:stop [] = false)
  (hps:∀ x ∈ xs, x.length = params.size) (hpn:∀ t ∈ params.toList, t < n)
  (hit:∀ u H, H.Le (hp u) → B.Le H → z7l P gf caps u H xs)
  (hassign:∀ (w1:World) (Ln:Nat → Prop) (B':Heap) (l D:Nat) (o:Obj) (pre:zbi) (x:List Value), pre ++ [x] <+: xs → stop pre = false → B.Le B' →
   V P ⟨w1, some l, [], Ln⟩ B' n ((l, o) :: (D, .deferred (some [])) :: O) (z7e (KK fx (G pre)) (params.toList.zip x)) assign (Exit.then (fun a u => Has ⟨w1, some l, [], Ln⟩ B' ((l, o) :: (D, .deferred (some [])) :: O) n (ofL (K1 pre x)) a u) (fun _ _ _ => False)))
  (hbody:∀ (w1:World) (Ln:Nat → Prop) (B':Heap) (l D:Nat) (o:Obj) (pre:zbi) (x:List Value), pre ++ [x] <+: xs → stop pre = false → B.Le B' →
   V P ⟨w1, some l, [], Ln⟩ B' n ((l, o) :: (D, .deferred (some [])) :: O) (ofL (K1 pre x)) body (z1v ⟨w1, some l, [], Ln⟩ B' n ((l, o) :: (D, .deferred (some [])) :: O) G stop jc (pre ++ [x])))
  (hdone:∀ (l D:Nat) (o:Obj), stop (za7 stop [] xs) = false → N ⟨F.w0, F.r, .m D :: F.ds, F.L⟩ B n ((l, o) :: (D, .deferred (some [])) :: O) (KK fx (G (za7 stop [] xs))) Q)
  (hstop:∀ (l D:Nat) (o:Obj), stop (za7 stop [] xs) = true → V P ⟨F.w0, F.r, .m D :: F.ds, F.L⟩ B n ((l, o) :: (D, .deferred (some [])) :: O) (KK fx (G (za7 stop [] xs))) (jc (za7 stop [] xs)) Q) :
  V P F B n O κ (.rangeFunc f params assign body) Q:=by
 obtain ⟨w0, r, ds, Lf⟩:=F
 dsimp only at hr
 subst hr
 rintro a u ⟨H, fp, hh⟩
 have e := hh.env (ops := #[]) (o := ⟨none, .move f, 0, "", #[], none⟩) (κ := κ) (fun _ _ => rfl)
 have hfe:a.eval f = .func (.func gf) #[] caps.toArray:=e.is_ f _ (by simp [Op.operands]) hf
 refine wpIn_rangeFunc fun fn _ => ?_
 -- the record
 have hD0:(.loop { state:=.ready, pending:=none, fn, tmps:=a.tmps, params, assign, body, defers:=u.heap.size }:Obj) = .loop { state:=.ready, pending:=none, fn, tmps:=a.tmps, params, assign, body, defers:=u.heap.size }:=rfl
 generalize hrec:({ state:=.ready, pending:=none, fn, tmps:=a.tmps, params, assign, body, defers:=u.heap.size }:Loop) = rec0 at hD0
 have hh1:=(hh.newBox (.deferred (some []))).newBox (.loop rec0)
 rw [World.size_alloc] at hh1
 generalize hw1:(u.alloc (.deferred (some []))).alloc (.loop rec0) = w1 at hh1
 have hN1:w1.heap.size = u.heap.size + 2:=by subst hw1; simp
 let recS:zbi → Loop:=fun pre => if stop pre = true then { rec0 with state:=.done, pending:=some (jc pre) } else rec0
 let O':zbi → Boxes:=fun pre => (u.heap.size + 1, .loop (recS pre)) :: (u.heap.size, .deferred (some [])) :: O
 let F1:Fr:=⟨w0, none, [], Lf⟩
 let a0:Act:={ tmps:=a.tmps, defers:=[] }
 let J:zbi → GR:=Jc F1 B n a0 H w1.heap.size O' fun pre => KK fx (G pre)
 have hrec0:rec0.state = .ready ∧ rec0.pending = none ∧ rec0.fn = fn ∧ rec0.tmps = a.tmps ∧ rec0.params = params ∧ rec0.assign = assign ∧ rec0.body = body:=by subst hrec; exact ⟨rfl, rfl, rfl, rfl, rfl, rfl, rfl⟩
 have hO'mem:∀ pre pre' y, y ∈ O' pre' → ∃ y' ∈ O' pre, y'.1 = y.1:=fun pre pre' y hy => by
  rcases List.mem_cons.1 hy with rfl | hy
  ·exact ⟨_, List.mem_cons_self .., rfl⟩
  ·exact ⟨y, List.mem_cons_of_mem _ hy, rfl⟩
 have hfix:∀ t k, ofL (z2i fx) t = some k → ∀ v, k = .is v → a0.eval (.tmp t) = v:=fun t k ht v hv => by
  subst hv
  exact hh.slot t _ ((LiveOK.right h0).get ht)
 have hrecS0:recS [] = rec0:=if_neg (by rw [hst0]; simp)
 -- at the start
 have hstart:HasH F1 B (O' []) n (KK fx (G [])) a0 w1 H fp:=by
  have h2:=hh1.sub_kap (κ2:=KK fx (G [])) fun t k hk => h0.get hk
  have:O' [] = (u.heap.size + 1, .loop rec0) :: (u.heap.size, .deferred (some [])) :: O:=by show (_, Obj.loop (recS [])) :: _ = _; rw [hrecS0]
  rw [this]
  exact ⟨h2.size, rfl, List.nodup_nil, (fun _ h => by cases h), h2.lent, h2.keep, h2.sub, h2.base, h2.fresh, h2.boxes, h2.apart, h2.slot, h2.owns, h2.mono⟩
 let C0:Nat → Prop:=fun k => (k < w1.heap.size ∧ H k = none) ∨ (w1.heap.size ≤ k ∧ ((H k).isSome = true ∨ ∃ t r, KK fx (G []) t = some (.own r) ∧ fp t k))
 have hJ0:(J []).P H w1 C0:=⟨H, fp, hstart, Heap.Le.refl _, Heap.Le.refl _, fun y hy => zaa (hstart.boxes y hy).1, Nat.le_refl _, hstart.keep.size, fun _ => Iff.rfl⟩
 have hC0:∀ k, C0 k → k < w1.heap.size ∧ H k = none:=fun k hk => by
  rcases hk with h | ⟨h1, h | ⟨t, r, ht, hf⟩⟩
  ·exact h
  ·rw [za8 hstart.sub h1] at h; cases h
  ·have:=((hstart.slot t _ ht).2 k hf).1
   omega
 -- the rounds
 have hY:zlt P (u.heap.size + 1) J stop xs:=by
  rintro pre x hpre hstp v Hit C hsubv ⟨Hc, fpc, hc, c1, c2, c3, c4, c5, c6⟩ hCv
  have hrp:recS pre = rec0:=if_neg (by rw [hstp]; simp)
  have hOp:O' pre = (u.heap.size + 1, .loop rec0) :: (u.heap.size, .deferred (some [])) :: O:=by show (_, Obj.loop (recS pre)) :: _ = _; rw [hrp]
  rw [hOp] at hc
  have hl:v.heap[u.heap.size + 1]? = some (.loop rec0):=(hc.boxes _ (List.mem_cons_self ..)).1
  have hxl:x.length = params.size:=hps x (hpre.subset (by simp))
  have hyr:=run_yield (P:=P) (args:=x.toArray) hl (by rw [hrec0.2.2.2.2.1]; simpa using hxl)
  rw [hrec0.2.2.1, hrec0.2.2.2.1, hrec0.2.2.2.2.1, hrec0.2.2.2.2.2.1, hrec0.2.2.2.2.2.2] at hyr
  refine ⟨fn, _, assign, body, hyr, roundIn_of_wpIn trivial ?_⟩
  -- the round's frame
  let Cr:Nat → Prop:=fun k => (∃ y ∈ O' pre, y.1 = k) ∨ ∃ t r, KK fx (G pre) t = some (.own r) ∧ fpc t k
  have hCrC:∀ k, Cr k → C k ∧ k < v.heap.size ∧ (w0.heap.size ≤ k ∨ Lf k):=fun k hk => by
   rcases hk with ⟨y, hy, rfl⟩ | ⟨t, r, ht, hf⟩
   ·rw [hOp] at hy
    obtain ⟨g1, g2, g3⟩:=hc.boxes y hy
    refine ⟨(c6 _).2 (.inl ⟨c3 y (by rw [hOp]; exact hy), ?_⟩), zaa g1, g3⟩
    cases hx:H y.1 with
    | none => rfl
    | some o => rw [c1 _ o hx] at g2; cases g2
   ·obtain ⟨g1, g2, g3, g4⟩:=(hc.slot t _ ht).2 k hf
    refine ⟨(c6 k).2 ?_, g1, g3⟩
    rcases Nat.lt_or_ge k w1.heap.size with hlt | hge
    ·refine .inl ⟨hlt, ?_⟩
     cases hx:H k with
     | none => rfl
     | some o => rw [c1 _ o hx] at g2; cases g2
    ·exact .inr ⟨hge, .inr ⟨t, r, ht, hf⟩⟩
  let Fr':Fr:=⟨v, some (u.heap.size + 1), [], Cr⟩
  have hr0:HasH Fr' Hc ((u.heap.size + 1, .loop rec0) :: (u.heap.size, .deferred (some [])) :: O) n (KK fx (G pre)) a0 v Hc fpc :=
   ⟨hc.size, rfl, List.nodup_nil, (fun _ h => by cases h), fun k hk => (hCrC k hk).2.1, Keep.refl _ _, hc.sub, Heap.Le.refl _, fun _ _ _ => rfl, fun y hy => ⟨(hc.boxes y hy).1, (hc.boxes y hy).2.1, .inr (.inl ⟨y, by rw [hOp]; exact hy, rfl⟩)⟩, hc.apart, fun t k hk => by
    have hs:=hc.slot t k hk
    cases k with
    | is _ => exact hs
    | sat _ => exact hs
    | own r => exact ⟨hs.1, fun k hf => by
      obtain ⟨g1, g2, g3, g4⟩:=hs.2 k hf
      exact ⟨g1, g2, .inr (.inr ⟨t, r, hk, hf⟩), g4⟩⟩, hc.owns, hc.mono⟩
  have hBc:B.Le Hc:=hc.base
  have hr1:=hr0.putP (params.toList.zip x) (fun p hp => hpn p.1 (List.of_mem_zip hp).1)
  have hfold:(params.zip x.toArray).foldl (fun tmps (t, a) => tmps.setIfInBounds t a) a.tmps = (params.toList.zip x).foldl (fun t p => t.setIfInBounds p.1 p.2) a.tmps:=by
   rw [← Array.foldl_toList, Array.toList_zip]
  rw [hfold]
  -- how a round ends
  have fin:∀ (e:Option Code) (a1:Act) (u1:World), (match e with | none => stop (pre ++ [x]) = false | some c => stop (pre ++ [x]) = true ∧ jc (pre ++ [x]) = c) →
    Has Fr' Hc ((u.heap.size + 1, .loop { rec0 with state:=.busy }) :: (u.heap.size, .deferred (some [])) :: O) n (ofL (gK' (G (pre ++ [x])))) a1 u1 →
    ∃ z w', (Instr.endRound (u.heap.size + 1) e).run P u1 = .ok z w' ∧ Ending.returned z = .returned (.bool (!stop (pre ++ [x]))) ∧ ∃ C', (J (pre ++ [x])).P Hit w' C' ∧ Keep C v w' ∧ ∀ k, C' k → (C k ∨ v.heap.size ≤ k) ∧ k < w'.heap.size:=by
   rintro e a1 u1 he ⟨Hd, fpd, hd⟩
   have hl1:=(hd.boxes _ (List.mem_cons_self ..)).1
   have hrun:=run_endRound (P:=P) e hl1
   have hrecE:({ ({ rec0 with state:=.busy }:Loop) with state:=if e.isNone then .ready else .done, pending:=e }:Loop) = recS (pre ++ [x]):=by
    cases e with
    | none =>
     have:recS (pre ++ [x]) = rec0:=if_neg (by rw [he]; simp)
     rw [this]
     obtain ⟨g1, g2, _⟩:=hrec0
     cases hq:rec0
     rw [hq] at g1 g2
     dsimp only at g1 g2 ⊢
     rw [g1, g2]; rfl
    | some c =>
     have:recS (pre ++ [x]) = { rec0 with state:=.done, pending:=some (jc (pre ++ [x])) }:=if_pos he.1
     rw [this, he.2]; rfl
   rw [hrecE] at hrun
   have hv:(e.isNone) = !stop (pre ++ [x]):=by
    cases e with
    | none => rw [he]; rfl
    | some c => rw [he.1]; rfl
   refine ⟨_, _, hrun, by rw [hv], ?_⟩
   have hd2:=hd.boxSet (O1:=[]) (ds:=[]) (a':=a1) (Chg.putObj (o:=.loop (recS (pre ++ [x]))) (zaa hl1)) (List.Sublist.refl _) (by simp) rfl hd.defers
   generalize u1.putObj (u.heap.size + 1) (.loop (recS (pre ++ [x]))) = u2 at hd2 ⊢
   have hd2':HasH Fr' Hc (O' (pre ++ [x])) n (ofL (gK' (G (pre ++ [x])))) a1 u2 Hd fpd:=hd2
   have hOg:∀ y ∈ O' (pre ++ [x]), (w0.heap.size ≤ y.1 ∨ Lf y.1) ∧ y.1 < w1.heap.size:=fun y hy => by
    obtain ⟨y', hy', hyy⟩:=hO'mem pre _ y hy
    rw [← hyy]
    exact ⟨(hc.boxes y' (by rw [← hOp]; exact hy')).2.2, c3 y' hy'⟩
   have hfull:HasH F1 B (O' (pre ++ [x])) n (KK fx (G (pre ++ [x]))) a0 u2 Hd fpd:=by
    refine ⟨hh.size, rfl, List.nodup_nil, (fun _ h => by cases h), hc.lent, hc.keep.trans hd2'.keep fun i hi hci => ?_, hd2'.sub, hBc.trans hd2'.base, fun k hk hlk => ?_, fun y hy => ⟨(hd2'.boxes y hy).1, (hd2'.boxes y hy).2.1, (hOg y hy).1⟩, hd2'.apart, fun t k hk => ?_, fun s t r r' hst h1 h2 => ?_, fun t k hk => ?_⟩
    ·rcases (hCrC i hci).2.2 with h | h
     ·exact absurd hi (by show ¬ (i < w0.heap.size); omega)
     ·exact h
    ·refine (hd2'.fresh k (Nat.lt_of_lt_of_le hk hc.keep.size) fun hcr => ?_).trans (hc.fresh k hk hlk)
     rcases (hCrC k hcr).2.2 with h | h
     ·exact absurd hk (by show ¬ (k < w0.heap.size); omega)
     ·exact hlk h
    ·rcases zj8 (hG _) hk with ⟨hnt, hgk, r, rfl⟩ | ⟨hfk, _, z, rfl⟩
     ·have hs:=hd2'.slot t _ hgk
      have e1:a0.eval (.tmp t) = a1.eval (.tmp t):=(zok (a:=a0) (n:=n) hh.size hnt).trans (zok hd2'.size hnt).symm
      rw [e1]
      refine ⟨hs.1, fun k hf => ?_⟩
      obtain ⟨g1, g2, g3, g4⟩:=hs.2 k hf
      refine ⟨g1, g2, ?_, g4⟩
      rcases g3 with g3 | g3
      ·exact .inl (Nat.le_trans hc.keep.size g3)
      ·exact (hCrC k g3).2.2
     ·exact hfix t _ hfk z rfl
    ·exact hd2'.owns s t r r' hst (zjd (hG _) h1) (zjd (hG _) h2)
    ·rcases zj8 (hG _) hk with ⟨_, _, r, rfl⟩ | ⟨_, _, z, rfl⟩ <;> trivial
   have hHd:Hc.Le Hd:=hd2'.base
   refine ⟨fun k => (k < w1.heap.size ∧ H k = none) ∨ (w1.heap.size ≤ k ∧ ((Hd k).isSome = true ∨ ∃ t r, KK fx (G (pre ++ [x])) t = some (.own r) ∧ fpd t k)),
    ⟨Hd, fpd, hfull, c1.trans hHd, c2, fun y hy => (hOg y hy).2, Nat.le_trans c4 hd2'.keep.size, c5, fun _ => Iff.rfl⟩, hd2'.keep.weak fun k _ hk => (hCrC k hk).1, fun k hk => ?_⟩
   rcases hk with ⟨h1, h2⟩ | ⟨h1, h2 | ⟨t, r, ht, hf⟩⟩
   ·exact ⟨.inl ((c6 k).2 (.inl ⟨h1, h2⟩)), Nat.lt_of_lt_of_le h1 (Nat.le_trans c4 hd2'.keep.size)⟩
   ·obtain ⟨o, ho⟩:=Option.isSome_iff_exists.1 h2
    refine ⟨?_, hd2'.sub.size ho⟩
    rcases Nat.lt_or_ge k v.heap.size with hlt | hge
    ·by_cases hcr:Cr k
     ·exact .inl (hCrC k hcr).1
     ·refine .inl ((c6 k).2 (.inr ⟨h1, .inl ?_⟩))
      rw [← hd2'.fresh k hlt hcr, ho]; rfl
    ·exact .inr hge
   ·have hs:=(hd2'.slot t _ (zjd (hG _) ht)).2 k hf
    refine ⟨?_, hs.1⟩
    rcases hs.2.2.1 with g | g
    ·exact .inr g
    ·exact .inl (hCrC k g).1
  refine Go.wpIn_mono (hassign v Cr Hc (u.heap.size + 1) u.heap.size (.loop rec0) pre x hpre hstp hBc _ v ⟨Hc, fpc, hr1⟩) fun e1 a1 u1 he1 => ?_
  cases e1 with
  | normal =>
   obtain ⟨Ha, fpa, ha⟩:=he1
   have hl1:=(ha.boxes _ (List.mem_cons_self ..)).1
   refine ⟨_, run_beginRound (P:=P) hl1 hrec0.1, ?_⟩
   have ha2:=ha.boxSet (O1:=[]) (ds:=[]) (a':=a1) (Chg.putObj (o:=.loop { rec0 with state:=.busy }) (zaa hl1)) (List.Sublist.refl _) (by simp) rfl ha.defers
   refine Go.wpIn_mono (hbody v Cr Hc (u.heap.size + 1) u.heap.size (.loop { rec0 with state:=.busy }) pre x hpre hstp hBc a1 _ ⟨Ha, fpa, ha2⟩) fun e2 a2 u2 he2 => ?_
   cases e2 with
   | normal => exact fin none a2 u2 he2.1 he2.2
   | ret => exact fin (some .ret) a2 u2 ⟨he2.1, he2.2.1⟩ he2.2.2
   | exit id => exact fin (some (.exit id)) a2 u2 ⟨he2.1, he2.2.1⟩ he2.2.2
   | goto l => exact he2.elim
   | panic c => exact he2.elim
   | outgrown => exact he2.elim
  | exit id => exact he1.elim
  | goto l => exact he1.elim
  | ret => exact he1.elim
  | panic c => exact he1.elim
  | outgrown => exact he1.elim
 -- the call
 have hB1:B.Le H:=hh.base
 have hcall:=hit w1 H hstart.sub hB1 (u.heap.size + 1) J stop C0 hst0 hY hJ0 hC0
 have hel:=run_enterLoop_outer (P:=P) (w:=u) fn a.tmps params assign body
 rw [hrec, hw1] at hel
 refine ⟨u.heap.size + 1, [z2g (.m u.heap.size)], w1, ⟨.fn (.func gf) caps.toArray, #[] ++ #[.func (.yield (u.heap.size + 1)) #[] #[]]⟩, w1, gf, (.func (.yield (u.heap.size + 1)) #[] #[] :: caps).toArray, w1, hel, ?_, fun _ _ => trivial, ?_, fun h => (by cases h), ?_⟩
 ·have hcv:a.eval (.const (.func (.yield (u.heap.size + 1)) #[] #[])) = .func (.yield (u.heap.size + 1)) #[] #[]:=rfl
  simp [resolve, rangeCall, hfe, Deferred.ofValue, hcv]
 ·simp only [invoke]
  rw [zdu L hfn]
  simp
 ·refine FW.call none _ (Calls.mono hcall fun e3 u3 hp => ?_)
  obtain ⟨z, rfl, H3, g3, C3, ⟨Hc, fpc, hc, c1, c2, c3, c4, c5, c6⟩, _⟩:=hp
  generalize htk:za7 stop [] xs = tk at hc c3 hdone hstop c6
  have hl3:u3.heap[u.heap.size + 1]? = some (.loop (recS tk)):=(hc.boxes _ (List.mem_cons_self ..)).1
  have hnb:(recS tk).state ≠ .busy:=by
   show (if stop tk = true then ({ rec0 with state:=.done, pending:=some (jc tk) }:Loop) else rec0).state ≠ .busy
   split
   ·simp
   ·rw [hrec0.1]; simp
  have hpend:(recS tk).pending = if stop tk = true then some (jc tk) else none:=by
   show (if stop tk = true then ({ rec0 with state:=.done, pending:=some (jc tk) }:Loop) else rec0).pending = _
   split
   ·rfl
   ·exact hrec0.2.1
  refine ⟨_, _, run_endLoop hl3 hnb, ?_⟩
  have hc2:=hc.boxSet (O1:=[]) (ds:=[]) (a':=a0) (Chg.putObj (o:=.loop { recS tk with state:=.exhausted }) (zaa hl3)) (List.Sublist.refl _) (by simp) rfl rfl
  have hDn:DM.m u.heap.size ∉ ds:=fun hm => by
   have:=zaa (hh.boxes _ (hh.marks _ hm)).1
   exact absurd this (Nat.lt_irrefl _)
  have hfin:HasH ⟨w0, none, .m u.heap.size :: ds, Lf⟩ B ((u.heap.size + 1, .loop { recS tk with state:=.exhausted }) :: (u.heap.size, .deferred (some [])) :: O) n (KK fx (G tk)) { a with defers:=[z2g (.m u.heap.size)] ++ a.defers } (u3.putObj (u.heap.size + 1) (.loop { recS tk with state:=.exhausted })) Hc fpc :=
   ⟨hc2.size, by have:=hh.defers; dsimp only at this ⊢; rw [this]; rfl, List.nodup_cons.2 ⟨hDn, hh.nodup⟩, fun D hD => by
    rcases List.mem_cons.1 hD with e | hD
    ·cases e; exact List.mem_cons_of_mem _ (List.mem_cons_self ..)
    ·exact List.mem_cons_of_mem _ (List.mem_cons_of_mem _ (hh.marks D hD)), hc2.lent, hc2.keep, hc2.sub, hc2.base, hc2.fresh, hc2.boxes, hc2.apart, hc2.slot, hc2.owns, hc2.mono⟩
  generalize (Obj.loop { recS tk with state:=.exhausted }) = rx at hfin ⊢
  rw [hpend]
  cases hs:stop tk with
  | false =>
   simp only [Bool.false_eq_true, if_false]
   exact hdone _ _ _ hs _ _ ⟨Hc, fpc, hfin⟩
  | true =>
   simp only [if_true]
   exact hstop _ _ _ hs _ _ ⟨Hc, fpc, hfin⟩
end
theorem zng {stop:zbi → Bool}:∀ (xs pre:zbi), stop (za7 stop pre xs) = false → za7 stop pre xs = pre ++ xs
 | [], pre, _ => by simp [za7]
 | x :: xs, pre, h => by
  simp only [za7] at h ⊢
  split
  ·rename_i hs; rw [if_pos hs, hs] at h; cases h
  ·rename_i hs; rw [if_neg hs] at h; rw [zng xs _ h]; simp
theorem zl6 {stop:zbi → Bool}:∀ (xs ys pre:zbi), stop (za7 stop pre xs) = true → stop pre = false → za7 stop pre (xs ++ ys) = za7 stop pre xs
 | [], ys, pre, h, h0 => by simp only [za7] at h; rw [h0] at h; cases h
 | x :: xs, ys, pre, h, h0 => by
  simp only [List.cons_append, za7] at h ⊢
  split
  ·rfl
  ·rename_i hs; rw [if_neg hs] at h; exact zl6 xs ys _ h (by simpa using hs)
theorem zgd {stop:zbi → Bool}:∀ (xs ys pre:zbi), stop (za7 stop pre xs) = false → za7 stop pre (xs ++ ys) = za7 stop (pre ++ xs) ys
 | [], ys, pre, _ => by simp
 | x :: xs, ys, pre, h => by
  simp only [List.cons_append, za7] at h ⊢
  split
  ·rename_i hs; rw [if_pos hs, hs] at h; cases h
  ·rename_i hs; rw [if_neg hs] at h; rw [zgd xs ys _ h]; simp
theorem zkk (stop:zbi → Bool) (M:zbi):∀ (xs pre:zbi), M ++ za7 (fun p => stop (M ++ p)) pre xs = za7 stop (M ++ pre) xs
 | [], pre => rfl
 | x :: xs, pre => by
  simp only [za7]
  rw [List.append_assoc]
  split
  ·rfl
  ·rw [zkk stop M xs (pre ++ [x])]
end Go.V
set_option maxRecDepth 20000
namespace Go.V
open Go.RowKit
def nkI (P:Program) (t:TypeId):Option Nat:=match P.underlying t with
 | some (.pointer _) => some 0
 | some (.slice _) => some 1
 | some (.map _ _) => some 2
 | some (.func _ _ _) => some 3
 | _ => none
def zjg:Nat → Value → Value → Option Bool
 | 0, .pointer a, .pointer none => some a.isNone
 | 1, .slice a _ _, .slice none _ _ => some a.isNone
 | 2, .map a, .map none => some a.isNone
 | 3, .nilFunc, .nilFunc => some true
 | 3, .func _ _ _, .nilFunc => some false
 | _, _, _ => none
section
variable {P:Program} {F:Fr} {B:Heap} {O:Boxes} {n:Nat} {ops:Array Oper} {κ:Kap} {d:Nat} {ty:TypeId} {pos:String} {aft:Array Edge} {g:Option (Nat × Bool)}
theorem znq {t:TypeId} {k:Nat} {p q:Value} {b:Bool} (hk:nkI P t = some k) (h:zjg k p q = some b) (u:World) (dd:Nat):(Op.equalIn (dd + 1) t p q).run P u = .ok b u:=by
 unfold nkI at hk
 split at hk <;> cases hk <;> rename_i hu
 ·cases p <;> cases q <;> simp only [zjg] at h <;> try cases h
  rename_i a c
  cases c <;> simp only [zjg] at h <;> cases h
  cases a <;> (unfold Op.equalIn; rw [Sem.run_bind, run_underlying hu]; rfl)
 ·cases p <;> cases q <;> simp only [zjg] at h <;> try cases h
  rename_i a _ _ c _ _
  cases c <;> simp only [zjg] at h <;> cases h
  cases a <;> (unfold Op.equalIn; rw [Sem.run_bind, run_underlying hu]; rfl)
 ·cases p <;> cases q <;> simp only [zjg] at h <;> try cases h
  rename_i a c
  cases c <;> simp only [zjg] at h <;> cases h
  cases a <;> (unfold Op.equalIn; rw [Sem.run_bind, run_underlying hu]; rfl)
 ·cases p <;> cases q <;> simp only [zjg] at h <;> try cases h
  ·unfold Op.equalIn; rw [Sem.run_bind, run_underlying hu]; rfl
  ·unfold Op.equalIn; rw [Sem.run_bind, run_underlying hu]; rfl
theorem zpt {t:TypeId} {k:Nat} {p q:Value} {b:Bool} (hk:nkI P t = some k) (h:zjg k p q = some b) (op:BinOp) (x y:Operand) (u:World) :
  (do eqGuard op t x y p q; binOp .eql t p q:Sem Value).run P u = .ok (.bool b) u ∧ (do eqGuard op t x y p q; binOp .neq t p q:Sem Value).run P u = .ok (.bool (!b)) u:=by
 have hr:(Op.equal t p q).run P u = .ok b u:=znq hk h u 9999
 have hg:eqGuard op t x y p q = pure () ∧ binOp .eql t p q = (do pure (Value.bool (← Op.equal t p q))) ∧ binOp .neq t p q = (do pure (Value.bool (!(← Op.equal t p q)))):=by
  unfold zjg at h
  split at h <;> first | cases h; done | skip
  ·exact ⟨eqGuard_at_pointer .., rfl, rfl⟩
  ·exact ⟨eqGuard_at_slice .., rfl, rfl⟩
  ·exact ⟨eqGuard_at_map .., rfl, rfl⟩
  ·exact ⟨eqGuard_at_nilFunc .., rfl, rfl⟩
  ·exact ⟨eqGuard_at_func .., rfl, rfl⟩
 constructor
 ·rw [hg.1, hg.2.1, Sem.run_bind, Sem.run_pure, Result.andThen_ok, Sem.run_bind, hr]; rfl
 ·rw [hg.1, hg.2.2, Sem.run_bind, Sem.run_pure, Result.andThen_ok, Sem.run_bind, hr]; rfl
theorem zc2 {t t':TypeId} {x y:Operand} {p q:Value} {k:Nat} {b:Bool} (hn:Nat.blt d n = true) (hg:gK ops κ ⟨some d, .binOp .eql t x y t', ty, pos, aft, g⟩ = some true) (hx:evK κ x = some p) (hy:evK κ y = some q) (hk:nkI P t = some k) (hb:zjg k p q = some b) :
  StepOK P F B n ops O κ ⟨some d, .binOp .eql t x y t', ty, pos, aft, g⟩ d (.is (.bool b)):=zb4 hn hg hx hy fun u => (zpt hk hb .eql x y u).1
theorem zny {t t':TypeId} {x y:Operand} {p q:Value} {k:Nat} {b c:Bool} (hn:Nat.blt d n = true) (hg:gK ops κ ⟨some d, .binOp .neq t x y t', ty, pos, aft, g⟩ = some true) (hx:evK κ x = some p) (hy:evK κ y = some q) (hk:nkI P t = some k) (hb:zjg k p q = some b) (hc:(!b) = c) :
  StepOK P F B n ops O κ ⟨some d, .binOp .neq t x y t', ty, pos, aft, g⟩ d (.is (.bool c)):=zb4 hn hg hx hy fun u => by subst hc; exact (zpt hk hb .neq x y u).2
end
end Go.V
set_option maxRecDepth 20000
namespace Go.V
open Go.RowKit
def AtV (x:Value) (r:Res):Res:=⟨fun _ H u C => r.P x H u C, r.st⟩
def zvw (b:Nat) (ty:TypeId) (r:Res):Res where
 P _ H u C:=∃ x C', u.heap[b]? = some (.cells #[x] ty) ∧ r.P x H u C' ∧ ¬ C' b ∧ ∀ k, C k ↔ k = b ∨ C' k
 st:=fun ⟨x, C', h1, h2, h3, h4⟩ hle hs hon hk => ⟨x, C', (hk b ((h4 b).2 (.inl rfl))).trans h1, r.st h2 hle hs hon fun k hc => hk k ((h4 k).2 (.inr hc)), h3, h4⟩
section
variable {P:Program} {F:Fr} {B:Heap} {O:Boxes} {n:Nat} {ops:Array Oper} {κ:Kap} {a:Act} {u:World} {H:Heap} {fp:Nat → Nat → Prop} {os:List Oper} {Q:Exit → Act → World → Prop}
theorem Has.detach {t g:Nat} {r:Res} {S:Value → Prop} (hk:κ t = some (.own r)) (hS:∀ v H u C, r.P v H u C → S v) (h:Has F B O n κ a u):∃ x, S x ∧ Has F B O n (upd (upd (upd κ t zed) g (.own (AtV x r))) t (.is x)) a u:=by
 obtain ⟨H, fp, h⟩:=h
 obtain ⟨h1, hM⟩:=h.slot t _ hk
 have h2:=h.usePut (d:=g) (a':=a) (r':=AtV (a.eval (.tmp t)) r) (C:=fp t) hk ⟨Keep.refl _ _, h.sub, Heap.Le.refl _, fun _ _ _ => rfl⟩ rfl rfl (fun _ _ => rfl) h1 fun k hk => ⟨.inl hk, (hM k hk).1, (hM k hk).2.1⟩
 exact ⟨_, hS _ _ _ _ h1, H, _, h2.name t⟩
theorem Has.attach {t g:Nat} {x:Value} {r:Res} (hk:κ g = some (.own (AtV x r))) (ht:κ t = some (.is x)) (h:Has F B O n κ a u):Has F B O n (upd (upd κ g zed) t (.own r)) a u:=by
 obtain ⟨H, fp, h⟩:=h
 obtain ⟨h1, hM⟩:=h.slot g _ hk
 have h1':r.P x H u (fp g):=h1
 have hx:a.eval (.tmp t) = x:=h.slot t _ ht
 exact ⟨H, _, h.usePut (d:=t) (a':=a) (r':=r) (C:=fp g) hk ⟨Keep.refl _ _, h.sub, Heap.Le.refl _, fun _ _ _ => rfl⟩ rfl rfl (fun _ _ => rfl) (by rw [hx]; exact h1') fun k hk => ⟨.inl hk, (hM k hk).1, (hM k hk).2.1⟩⟩
theorem HasH.lessBox {b:Nat} {o:Obj} {O1 O2:Boxes} (h:HasH F B (O1 ++ (b, o) :: O2) n κ a u H fp) (hd:DM.m b ∉ F.ds):HasH F B (O1 ++ O2) n κ a u H fp ∧ u.heap[b]? = some o ∧ H b = none ∧ (F.w0.heap.size ≤ b ∨ F.L b) ∧ (∀ y ∈ O1 ++ O2, y.1 ≠ b) ∧ ∀ t r, κ t = some (.own r) → ¬ fp t b:=by
 have hsl:(O1 ++ O2).Sublist (O1 ++ (b, o) :: O2):=List.Sublist.append (List.Sublist.refl _) (List.sublist_cons_self ..)
 have hmem:(b, o) ∈ O1 ++ (b, o) :: O2:=by simp
 obtain ⟨hb1, hb2, hb3⟩:=h.boxes _ hmem
 have hap:=List.pairwise_append.1 h.apart
 have hne:∀ y, y ∈ O1 ++ O2 → y.1 ≠ b:=fun y hy => by
  rcases List.mem_append.1 hy with hy | hy
  ·exact hap.2.2 y hy _ (List.mem_cons_self ..)
  ·exact Ne.symm ((List.pairwise_cons.1 hap.2.1).1 y hy)
 refine ⟨⟨h.size, h.defers, h.nodup, fun D hD => ?_, h.lent, h.keep, h.sub, h.base, h.fresh, fun y hy => h.boxes y (hsl.subset hy), h.apart.sublist hsl, fun s k hs => ?_, h.owns, h.mono⟩, hb1, hb2, hb3, hne, fun t r ht hf => ((h.slot t _ ht).2 b hf).2.2.2 _ hmem rfl⟩
 ·have hm:=h.marks D hD
  rcases List.mem_append.1 hm with hm | hm
  ·exact List.mem_append_left _ hm
  ·rcases List.mem_cons.1 hm with e | hm
   ·cases e; exact absurd hD hd
   ·exact List.mem_append_right _ hm
 ·have hh:=h.slot s k hs
  cases k with
  | is _ => exact hh
  | sat _ => exact hh
  | own r' => exact ⟨hh.1, fun k hk' => by obtain ⟨g1, g2, g3, g4⟩:=hh.2 k hk'; exact ⟨g1, g2, g3, fun y hy => g4 y (hsl.subset hy)⟩⟩
theorem z56 {b:Nat} {cs:Array Value} {ty:TypeId} {fr:Nat × Nat} (h:HasH F B O n κ a u H fp) (hb:u.heap[b]? = some (.cells cs ty fr)):DM.m b ∉ F.ds:=fun hd => by
 have:=(h.boxes _ (h.marks b hd)).1
 rw [hb] at this
 cases this
theorem Has.closeBox {g b:Nat} {x:Value} {ty:TypeId} {r:Res} (O1 O2:Boxes) (hO:O = O1 ++ bx b [x] ty :: O2) (hk:κ g = some (.own (AtV x r))) (h:Has F B O n κ a u):Has F B (O1 ++ O2) n (upd κ g (.own (zvw b ty r))) a u:=by
 subst hO
 obtain ⟨H, fp, h⟩:=h
 obtain ⟨h0, hb1, hb2, hb3, hne, hfp⟩:=h.lessBox (z56 h (h.boxes (bx b [x] ty) (by simp)).1)
 obtain ⟨h1, hM⟩:=h0.slot g _ hk
 refine ⟨H, _, h0.putR (d:=g) (r:=zvw b ty r) (C:=fun k => k = b ∨ fp g k) rfl rfl (fun _ _ => rfl) ⟨x, fp g, hb1, h1, hfp g _ hk, fun _ => Iff.rfl⟩ (fun k hk' => ?_) fun t r' htg ht k hf hc => ?_⟩
 ·rcases hk' with rfl | hk'
  ·exact ⟨zaa hb1, hb2, hb3, fun y hy => hne y hy⟩
  ·exact hM k hk'
 ·rcases hc with rfl | hc
  ·exact hfp t _ ht hf
  ·exact h0.owns t g _ _ htg ht hk k hf hc
theorem Has.openBox {g b:Nat} {ty:TypeId} {r:Res} {S:Value → Prop} (hk:κ g = some (.own (zvw b ty r))) (hS:∀ v H u C, r.P v H u C → S v) (h:Has F B O n κ a u):∃ x, S x ∧ Has F B (bx b [x] ty :: O) n (upd κ g (.own (AtV x r))) a u:=by
 obtain ⟨H, fp, h⟩:=h
 obtain ⟨⟨x, C', h1, h2, h3, h4⟩, hM⟩:=h.slot g _ hk
 have hMb:=hM b ((h4 b).2 (.inl rfl))
 have h5:=h.putR (d:=g) (a':=a) (r:=AtV x r) (C:=C') rfl rfl (fun _ _ => rfl) h2 (fun k hk' => hM k ((h4 k).2 (.inr hk'))) fun t r' htg ht k hf hc => h.owns t g _ _ htg ht hk k hf ((h4 k).2 (.inr hc))
 refine ⟨x, hS _ _ _ _ h2, H, _, h5.size, h5.defers, h5.nodup, fun D hD => List.mem_cons_of_mem _ (h5.marks D hD), h5.lent, h5.keep, h5.sub, h5.base, h5.fresh, fun y hy => ?_, List.pairwise_cons.2 ⟨fun y hy => Ne.symm (hMb.2.2.2 y hy), h5.apart⟩, fun s k hs => ?_, h5.owns, h5.mono⟩
 ·rcases List.mem_cons.1 hy with rfl | hy
  ·exact ⟨h1, hMb.2.1, hMb.2.2.1⟩
  ·exact h5.boxes y hy
 ·have hh:=h5.slot s k hs
  cases k with
  | is _ => exact hh
  | sat _ => exact hh
  | own r' =>
   refine ⟨hh.1, fun k hk' => ?_⟩
   obtain ⟨g1, g2, g3, g4⟩:=hh.2 k hk'
   refine ⟨g1, g2, g3, fun y hy => ?_⟩
   rcases List.mem_cons.1 hy with rfl | hy
   ·rintro rfl
    by_cases hsg:s = g
    ·subst hsg; rw [zhu] at hk'; exact h3 hk'
    ·rw [zfa _ _ hsg] at hk'
     rw [zab _ _ hsg] at hs
     exact h.owns s g _ _ hsg hs hk _ hk' ((h4 _).2 (.inl rfl))
   ·exact g4 y hy
theorem zos (t g:Nat) {r:Res} {c:Code} (S:Value → Prop) (hk:κ t = some (.own r)) (hS:∀ v H u C, r.P v H u C → S v) (h:∀ x, S x → V P F B n O (upd (upd (upd κ t zed) g (.own (AtV x r))) t (.is x)) c Q):V P F B n O κ c Q:=fun a u hh => let ⟨x, hx, h'⟩:=hh.detach (g:=g) hk hS; h x hx a u h'
theorem zd9 (t g:Nat) {r:Res} (S:Value → Prop) (hk:κ t = some (.own r)) (hS:∀ v H u C, r.P v H u C → S v) (h:∀ x, S x → VO P F B n O ops (upd (upd (upd κ t zed) g (.own (AtV x r))) t (.is x)) os Q):VO P F B n O ops κ os Q:=fun a u hh => let ⟨x, hx, h'⟩:=hh.detach (g:=g) hk hS; h x hx a u h'
theorem zot (t g:Nat) {x:Value} {r:Res} {c:Code} (hk:κ g = some (.own (AtV x r))) (ht:κ t = some (.is x)) (h:V P F B n O (upd (upd κ g zed) t (.own r)) c Q):V P F B n O κ c Q:=fun a u hh => h a u (hh.attach hk ht)
theorem zcr (t g:Nat) {x:Value} {r:Res} (hk:κ g = some (.own (AtV x r))) (ht:κ t = some (.is x)) (h:VO P F B n O ops (upd (upd κ g zed) t (.own r)) os Q):VO P F B n O ops κ os Q:=fun a u hh => h a u (hh.attach hk ht)
theorem zix (g:Nat) {b:Nat} {x:Value} {ty:TypeId} {r:Res} {c:Code} (O1:Boxes) {O2:Boxes} (hO:O = O1 ++ bx b [x] ty :: O2) (hk:κ g = some (.own (AtV x r))) (h:V P F B n (O1 ++ O2) (upd κ g (.own (zvw b ty r))) c Q):V P F B n O κ c Q:=fun a u hh => h a u (hh.closeBox O1 O2 hO hk)
theorem ziy (g:Nat) {b:Nat} {x:Value} {ty:TypeId} {r:Res} (O1:Boxes) {O2:Boxes} (hO:O = O1 ++ bx b [x] ty :: O2) (hk:κ g = some (.own (AtV x r))) (h:N F B n (O1 ++ O2) (upd κ g (.own (zvw b ty r))) Q):N F B n O κ Q:=fun a u hh => h a u (hh.closeBox O1 O2 hO hk)
theorem zfd (g:Nat) {b:Nat} {ty:TypeId} {r:Res} {c:Code} (S:Value → Prop) (hk:κ g = some (.own (zvw b ty r))) (hS:∀ v H u C, r.P v H u C → S v) (h:∀ x, S x → V P F B n (bx b [x] ty :: O) (upd κ g (.own (AtV x r))) c Q):V P F B n O κ c Q:=fun a u hh => let ⟨x, hx, h'⟩:=hh.openBox hk hS; h x hx a u h'
theorem Has.seen {t:Nat} {x:Value} (φ:Value → Heap → Prop) (hk:κ t = some (.is x)) (hm:Kn.mono (.sat φ)) (hx:φ x B) (h:Has F B O n κ a u):Has F B O n (upd κ t (.sat φ)) a u:=by
 obtain ⟨H, fp, h⟩:=h
 refine ⟨H, fp, h.size, h.defers, h.nodup, h.marks, h.lent, h.keep, h.sub, h.base, h.fresh, h.boxes, h.apart, fun s k hs => ?_, fun s q r1 r2 hsq h1 h2 => ?_, fun s k hs => ?_⟩
 ·by_cases hst:s = t
  ·subst hst; rw [zah] at hs; cases hs
   have:a.eval (.tmp s) = x:=h.slot s _ hk
   rw [this]
   exact hm _ _ _ hx h.base
  ·rw [zab _ _ hst] at hs; exact h.slot s k hs
 ·have key:∀ x r, upd κ t (.sat φ) x = some (.own r) → κ x = some (.own r):=fun x r hx => by
   by_cases hxd:x = t
   ·subst hxd; rw [zah] at hx; cases hx
   ·rw [zab _ _ hxd] at hx; exact hx
  exact h.owns s q r1 r2 hsq (key _ _ h1) (key _ _ h2)
 ·by_cases hst:s = t
  ·subst hst; rw [zah] at hs; cases hs; exact hm
  ·rw [zab _ _ hst] at hs; exact h.mono s k hs
theorem za4 (t:Nat) {x:Value} (φ:Value → Heap → Prop) {c:Code} (hk:κ t = some (.is x)) (hm:Kn.mono (.sat φ)) (hx:φ x B) (h:V P F B n O (upd κ t (.sat φ)) c Q):V P F B n O κ c Q:=fun a u hh => h a u (hh.seen φ hk hm hx)
theorem zba (t:Nat) {x:Value} (φ:Value → Heap → Prop) (hk:κ t = some (.is x)) (hm:Kn.mono (.sat φ)) (hx:φ x B) (h:VO P F B n O ops (upd κ t (.sat φ)) os Q):VO P F B n O ops κ os Q:=fun a u hh => h a u (hh.seen φ hk hm hx)
theorem SlR.shape {e:TypeId} {s m:Nat} {xs:List Value}:∀ v H u C, (SlR e s m xs).P v H u C → ∃ p c, v = .slice p m c:=fun v _ _ _ ⟨_, h⟩ => by
 rcases h with ⟨rfl, rfl, _⟩ | ⟨b, cap, rest, rfl, _⟩
 ·exact ⟨_, _, rfl⟩
 ·exact ⟨_, _, rfl⟩
theorem z1s {f:FuncId} {fn:Func} {c:Code} {args:List Value} {w:World} {B:Heap} {φ:Value → Heap → World → Prop} {C:Nat → Prop} (i:Nat) {x:Value} (r:Res) (hi:args[i]? = some x) (hf:P.funcs[f]? = some fn) (hb:fn.body = some c) (hn:fn.ntmps = n)
  (hs:args.length ≤ n) (hB:B.Le (hp w)) (hr:r.P x B w C) (hC:∀ k, C k → k < w.heap.size ∧ B k = none) (h:V P ⟨w, none, [], C⟩ B n [] (upd (ziw 0 args) i (.own r)) c (bodyPostM Fence.wide 0 P fn (zff w B C φ))):RetL P f args w B C φ:=by
 refine zfb hf hb (h _ w ?_)
 subst hn
 have h0:=ze9 (B:=B) C (fun k hk => (hC k hk).1) hs hB (fun _ => noL)
 have hk:∀ (vs:List Value) (j t:Nat) (v:Value), vs[t]? = some v → ziw j vs (j + t) = some (.is v):=by
  intro vs
  induction vs with
  | nil => intro j t v hv; cases hv
  | cons y vs ih =>
   intro j t v hv
   cases t with
   | zero => simp only [List.getElem?_cons_zero, Option.some.injEq] at hv; subst hv; exact zah _ _ _
   | succ t =>
    simp only [List.getElem?_cons_succ] at hv
    show upd (ziw (j + 1) vs) j (.is y) (j + (t + 1)) = _
    rw [zab _ _ (by omega), show j + (t + 1) = (j + 1) + t by omega]
    exact ih (j + 1) t v hv
 have hx:=h0.slot i _ (by have:=hk args 0 i x hi; rwa [Nat.zero_add] at this)
 exact ⟨B, _, h0.putR (d:=i) (r:=r) rfl rfl (fun _ _ => rfl) (by rw [show _ = x from hx]; exact hr) (fun k hk => ⟨(hC k hk).1, (hC k hk).2, .inr hk, fun y hy => by cases hy⟩) fun t r' _ ht => by
  obtain ⟨v, hv, _⟩:=zc6 _ _ _ _ ht
  cases hv⟩
theorem zq3 (L:Tabs P) {fn:Func} {B0:Heap} {φ:Value → Heap → Prop} {rs:List ResultVar} (hrs:fn.results = rs.toArray) (hQ:∀ a u, bodyPostM Fence.wide 0 P fn (zff F.w0 B0 F.L fun v H _ => φ v H) .ret a u → Q .ret a u) (hs:Since F B0 B)
  (h:∀ O' u H, H.Le (hp u) → B.Le H → zov L { F with ds:=[] } B O' κ H rs [] (fun vs => φ (tup vs) H)) (hm:zzl F.ds = true:=by rfl):V P F B n O κ .ret Q :=
 zua hQ hs (hm:=hm) fun O' a u H fp _ hh => by
  obtain ⟨vs, h1, h2⟩:=zbn L hh hrs (h O' u H hh.sub hh.base)
  exact ⟨_, h1, h2⟩
end
end Go.V
