/- Texts on the way to WiresParse, part 3: one behind another. -/
import Derived.Test.YtefilnnomholbaaGreatWiresParseM2
import Derived.Sort.AssemblyPlain
import Derived.Lib.AppendZeros
import Derived.Laws.RangeString
import Derived.Laws.Runes
import Derived.Scope
import Derived.Laws.Bits64b
import Derived.Lib.AppendZerosOnto
import Derived.Lib.Overlaps
import Derived.Laws.Externs
import Derived.Laws.IdiomRangeMap
import Derived.Lib.Builder
import Derived.Lib.AppendStr
import Derived.Lib.UnsafeStr
set_option linter.unusedVariables false
set_option linter.unusedSimpArgs false
set_option maxRecDepth 20000
namespace Go.V
open Go.Proofs Go.RowKit
def RetX (P:Program) (f:FuncId) (args:List Value) (w:World) (B:Heap) (C:Nat → Prop) (r:GR) (v:Value):Prop :=
 RetL P f args w B C fun x H u => x = v ∧ ∃ C', r.P H u C' ∧ ∀ k, C' k → (C k ∨ w.heap.size ≤ k) ∧ k < u.heap.size ∧ H k = none
section
variable {P:Program} {F:Fr} {B:Heap} {O:Boxes} {n:Nat} {ops:Array Oper} {κ:Kap} {d:Nat} {ty:TypeId} {pos:String} {aft:Array Edge} {g:Option (Nat × Bool)} {Q:Exit → Act → World → Prop}
theorem y3 (L:Tabs P) (q:Nat) (r':GR) (v:Value) {r:GR} {f:Nat} {args:Array Operand} {at_:Array TypeId} {cap:List Value} {fo:Operand}
  (hn:Nat.blt d n = true) (hg:gK ops κ ⟨some d, .call { callee:=.value fo, args:=args, argTypes:=at_ }, ty, pos, aft, g⟩ = some true)
  (hf:evK κ fo = some (.func (.func f) #[] cap.toArray)) (hfn:L.fn f = some ()) (hq:κ q = some (.own r.res))
  (h:∀ u H C, H.Le (hp u) → B.Le H → r.P H u C → (∀ k, C k → k < u.heap.size ∧ H k = none) → Args κ H args.toList [] (fun vs => RetX P f (vs ++ cap) u H C r' v)) :
  zcl P F B n ops O κ ⟨some d, .call { callee:=.value fo, args:=args, argTypes:=at_ }, ty, pos, aft, g⟩ q (.own r'.res) d (.is v):=by
 rintro κ' a u hlk hks ⟨H, fp, hh⟩
 unfold After
 rw [if_pos (zai hh hlk hg)]
 have hk':κ' q = some (.own r.res):=hks.trans hq
 obtain ⟨hown, hM⟩:=hh.slot q _ hk'
 have e2:=hh.env hlk
 have hfe:a.eval fo = .func (.func f) #[] cap.toArray:=e2.is_ fo _ (by simp [Op.operands, Call.operands]) hf
 have hc:=Args.use e2 args.toList [] (fun x hx => by simp [Op.operands, Call.operands] at hx ⊢; exact .inr hx) (h u H (fp q) hh.sub hh.base hown fun k hk => ⟨(hM k hk).1, (hM k hk).2.1⟩)
 simp only [List.reverse_nil, List.nil_append] at hc
 rw [zc3 L rfl hfe hfn]
 simp only [Upon]
 refine Calls.mono hc fun e' u' hp => ?_
 obtain ⟨x, rfl, H', g', hx, C', hv, hC'⟩:=hp
 have h2:=hh.usePut (d:=q) (a':=a) (r':=r'.res) hk' g' rfl rfl (fun _ _ => rfl) hv hC'
 rw [zbw] at h2
 exact ⟨x, rfl, H', _, h2.put (k:=.is v) (zk hn) trivial hx⟩
theorem za4 (L:Tabs P) {fn:Func} {B0:Heap} (gs:Nat) {r r':GR} {rs:List ResultVar} {v:Value} (hrs:fn.results = rs.toArray)
  (hQ:∀ a u, bodyPostM Fence.wide 0 P fn (ze7 F.w0 B0 F.L fun x H u => x = v ∧ ∃ C', r'.P H u C' ∧ ∀ k, C' k → (F.L k ∨ F.w0.heap.size ≤ k) ∧ k < u.heap.size ∧ H k = none) .ret a u → Q .ret a u) (hs:Since F B0 B) (hk:κ gs = some (.own r.res)) (e:r = r')
  (h:∀ H, zm6 L F B O κ H rs [] (fun vs => tup vs = v)) (hd:F.ds = []:=by rfl):V P F B n O κ .ret Q:=fun a u hh => by
 obtain ⟨H, fp, hH⟩:=hh
 refine wpIn_ret (hQ a u ?_)
 have h0:=hH.defers
 rw [hd] at h0
 show LeavesInM _ _ _ _ _ _ a.defers _ _
 rw [h0]
 subst e
 obtain ⟨vs, h1, h2⟩:=zbr L hH hrs (h H)
 obtain ⟨C', h3, h4⟩:=HasH.ghost hk hH
 exact ⟨_, h1, _, rfl, H, ⟨hH.keep, hH.sub, hs.le.trans hH.base, fun k hk hl => (hH.fresh k hk hl).trans (hs.fresh k hk hl)⟩, h2, C', h3, h4⟩
theorem zqq {t t':TypeId} {x y:Operand} {k k2:IntKind} {p q r:Int} (hn:Nat.blt d n = true) (hg:gK ops κ ⟨some d, .binOp .shl t x y t', ty, pos, aft, g⟩ = some true) (hx:evK κ x = some (.int k p)) (hy:evK κ y = some (.int k2 q)) (h0:0 ≤ q) (hb:k.wrap (p * 2 ^ min q.toNat k.bits) = r) :
  StepOK P F B n ops O κ ⟨some d, .binOp .shl t x y t', ty, pos, aft, g⟩ d (.is (.int k r)):=zb1 hn hg hx hy fun u => by subst hb; simp [eqGuard_shl, binOp_shl, Op.shift, Int.not_lt.2 h0]
theorem zua {t t':TypeId} {x y:Operand} {k:IntKind} {p q r:Int} (hn:Nat.blt d n = true) (hg:gK ops κ ⟨some d, .binOp .xor t x y t', ty, pos, aft, g⟩ = some true) (hx:evK κ x = some (.int k p)) (hy:evK κ y = some (.int k q)) (hb:bits .xor k p q = r) :
  StepOK P F B n ops O κ ⟨some d, .binOp .xor t x y t', ty, pos, aft, g⟩ d (.is (.int k r)):=zb1 hn hg hx hy fun u => by subst hb; simp [eqGuard_xor, binOp_xor, intBits_xor]
theorem zhc {id:Nat} {x y:Code} {R:Exit → Act → World → Prop} (hm:z23 P F B n R y Q) (h:V P F B n O κ x (Exit.inBlock id R)):V P F B n O κ x (Exit.inBlock id (Exit.then (fun a u => y.wpIn (FW F.r) 0 P Q a u) Q)):=fun a u hh => by
 have key:∀ e a u, R e a u → Exit.then (fun a u => y.wpIn (FW F.r) 0 P Q a u) Q e a u:=fun e a u he => by
  cases e <;> first | exact hm.1 a u he | exact hm.2 _ a u (by intro h; cases h) he
 refine Go.wpIn_mono (h a u hh) fun e a u he => ?_
 cases e with
 | exit j =>
  simp only [Exit.inBlock] at he ⊢
  split at he
  ·rename_i h; rw [if_pos h]; exact key _ _ _ he
  ·rename_i h; rw [if_neg h]; exact key _ _ _ he
 | _ => exact key _ _ _ he
end
def uC (d:Array Int):List Value:=d.toList.map (Value.int .u64)
theorem zi8 (d:Array Int):(uC d).length = d.size:=by simp [uC]
theorem zym {d:Array Int} {j:Nat} (h:j < d.size):(uC d)[j]? = some (.int .u64 d[j]!):=by
 unfold uC
 rw [List.getElem?_map, Array.getElem?_toList, Array.getElem?_eq_getElem h, getElem!_pos d j h]
 rfl
theorem zcp {d:Array Int} {rest:List Value} {j:Nat} (h:j < d.size) (off:Nat) (ho:off = 0 + j * 1):∃ r, (uC d ++ rest).drop off = .int .u64 d[j]! :: r:=by
 subst ho
 rw [Nat.zero_add, Nat.mul_one]
 have hl:j < (uC d ++ rest).length:=by rw [List.length_append, zi8]; omega
 refine ⟨(uC d ++ rest).drop (j + 1), ?_⟩
 rw [List.drop_eq_getElem_cons hl]
 congr 1
 have:=zym h
 rw [← List.getElem?_append_left (l₂:=rest) (by rw [zi8]; exact h), List.getElem?_eq_getElem hl] at this
 exact Option.some.inj this
theorem zb4 {d:Array Int} {rest:List Value} {j:Nat} (z:Int) (h:j < d.size) (off:Nat) (ho:off = 0 + j * 1):(uC d ++ rest).take off ++ ([.int .u64 z] ++ (uC d ++ rest).drop (off + 1)) = uC (d.setIfInBounds j z) ++ rest:=by
 subst ho
 rw [Nat.zero_add, Nat.mul_one]
 have h1:uC (d.setIfInBounds j z) = (uC d).set j (.int .u64 z):=by
  unfold uC
  rw [Array.toList_setIfInBounds, List.map_set]
 rw [h1, List.take_append_of_le_length (by rw [zi8]; omega), List.drop_append_of_le_length (by rw [zi8]; omega), List.set_eq_take_append_cons_drop, if_pos (by rw [zi8]; exact h)]
 simp
theorem zb5 {d:Array Int} {rest:List Value} {j:Nat} (h:j < d.size) (off:Nat) (ho:off = 0 + j * 1):Nat.ble (off + 1) (uC d ++ rest).length = true:=Nat.ble_eq_true_of_le (by rw [List.length_append, zi8]; omega)
theorem zcv (d:Array Int) (i j:Nat):(d.setIfInBounds i d[j]!).setIfInBounds j d[i]! = Go.Sort.swp d i j:=rfl
theorem zbk (d:Array Int) (i j:Nat):(Go.Sort.swp d i j).size = d.size:=by unfold Go.Sort.swp; rw [Array.size_setIfInBounds, Array.size_setIfInBounds]
end Go.V
set_option maxRecDepth 20000
namespace Go.V
open Go.RowKit
section
variable {P:Program} {F:Fr} {B:Heap} {O:Boxes} {n:Nat} {ops:Array Oper} {κ:Kap} {d:Nat} {ty:TypeId} {pos:String} {aft:Array Edge} {g:Option (Nat × Bool)} {a:Act} {u:World} {Q:Exit → Act → World → Prop}
end
end Go.V
set_option maxRecDepth 20000
namespace Go.V
open Go.RowKit
section
variable {P:Program} {F:Fr} {B:Heap} {O:Boxes} {n:Nat} {ops:Array Oper} {κ:Kap} {d:Nat} {ty:TypeId} {pos:String} {aft:Array Edge} {g:Option (Nat × Bool)} {Q:Exit → Act → World → Prop}
end
end Go.V
set_option maxRecDepth 20000
namespace Go.V
open Go.Proofs Go.RowKit
section
variable {P:Program} {F:Fr} {B:Heap} {O:Boxes} {n:Nat} {ops:Array Oper} {κ:Kap} {d:Nat} {ty:TypeId} {pos:String} {aft:Array Edge} {g:Option (Nat × Bool)} {Q:Exit → Act → World → Prop}
end
end Go.V
set_option maxRecDepth 20000
namespace Go.V
open Go.RowKit
section
variable {P:Program} {F:Fr} {B:Heap} {O:Boxes} {n:Nat} {ops:Array Oper} {κ:Kap} {d:Nat} {ty:TypeId} {pos:String} {aft:Array Edge} {g:Option (Nat × Bool)}
theorem zkc {u:World} {H:Heap} {b:Nat} {L:Nat → Prop} {o:Obj} (hs:H.Le (hp u)) (hL:L b) (hH:H b = none):Grow L u H (u.putObj b o) H :=
 ⟨⟨rfl, rfl, rfl, Nat.le_of_eq World.putObj_size.symm, fun k _ hk => World.putObj_heap_other (fun e => hk (e ▸ hL)), Nat.le_refl _⟩, fun k x hx => by
  have:k ≠ b:=fun e => by subst e; rw [hH] at hx; cases hx
  show (u.putObj b o).heap[k]? = some x
  rw [World.putObj_heap_other this]; exact hs k x hx, Heap.Le.refl _, fun _ _ _ => rfl⟩
end
section
variable {P:Program} {b:Frame} {a:Act} {k:List Item} {cs:List Frame} {w:World}
end
section
variable {P:Program} {F:Fr} {B:Heap} {O:Boxes} {n:Nat} {κ:Kap} {Q:Exit → Act → World → Prop}
end
end Go.V
set_option maxRecDepth 20000
namespace Go.V
open Go.RowKit
section
variable {P:Program}
end
section
variable {K V:Type} [DecidableEq K]
def ze1 (k:K):List (K × V) → Nat → Option (Nat × V)
 | [], _ => none
 | p :: l, i => if k = p.1 then some (i, p.2) else ze1 k l (i + 1)
def zhg (k:K) (l:List (K × V)):Option V:=(ze1 k l 0).map (·.2)
def zsg (k:K) (v:V):List (K × V) → List (K × V)
 | [] => [(k, v)]
 | p :: l => if k = p.1 then (p.1, v) :: l else p :: zsg k v l
theorem zj4 (k:K):∀ (l:List (K × V)) (i:Nat), ze1 k l (i + 1) = (ze1 k l i).map fun p => (p.1 + 1, p.2)
 | [], _ => rfl
 | p :: l, i => by
  unfold ze1
  split
  ·rfl
  ·exact zj4 k l (i + 1)
theorem zdw (k:K) (p:K × V) (l:List (K × V)):zhg k (p :: l) = if k = p.1 then some p.2 else zhg k l:=by
 unfold zhg
 rw [ze1]
 split
 ·rfl
 ·rw [zj4, Option.map_map]; rfl
theorem zqy (k k':K) (v:V):∀ l:List (K × V), zhg k (zsg k' v l) = if k = k' then some v else zhg k l
 | [] => by rw [zsg, zdw]
 | p :: l => by
  rw [zsg]
  split
  ·rename_i h
   rw [zdw, zdw]
   by_cases h1:k = p.1
   ·rw [if_pos h1, if_pos (h1.trans h.symm)]
   ·rw [if_neg h1, if_neg (fun e => h1 (e.trans h))]
    rw [if_neg h1]
  ·rename_i h
   rw [zdw, zdw, zqy k k' v l]
   by_cases h1:k = p.1
   ·rw [if_pos h1, if_neg (fun e => h (e.symm.trans h1)), if_pos h1]
   ·rw [if_neg h1, if_neg h1]
theorem zj5 {k:K}:∀ {l:List (K × V)} {i j:Nat} {x:V}, ze1 k l i = some (j, x) → ∃ n, j = i + n ∧ l[n]? = some (k, x)
 | [], _, _, _, h => by cases h
 | p :: l, i, j, x, h => by
  unfold ze1 at h
  split at h
  ·rename_i hk
   cases h
   exact ⟨0, rfl, by subst hk; rfl⟩
  ·obtain ⟨n, hn, hx⟩:=zj5 h
   exact ⟨n + 1, by omega, hx⟩
theorem zj2 {k:K} {v:V}:∀ {l:List (K × V)} {i:Nat}, ze1 k l i = none → zsg k v l = l ++ [(k, v)]
 | [], _, _ => rfl
 | p :: l, i, h => by
  unfold ze1 at h
  split at h
  ·cases h
  ·rename_i hk
   rw [zsg, if_neg hk, zj2 h]; rfl
end
section
variable {P:Program} {K V:Type} [DecidableEq K] {kc:K → List Value} {vc:V → Value} {l:List (K × V)} {t kt et:TypeId} {ls:List Nat}
end
section
variable {P:Program} {F:Fr} {B:Heap} {O:Boxes} {n:Nat} {ops:Array Oper} {κ:Kap} {d:Nat} {ty:TypeId} {pos:String} {aft:Array Edge} {g:Option (Nat × Bool)} {a:Act} {u:World} {H:Heap} {os:List Oper} {Q:Exit → Act → World → Prop} {ex:Exs}
variable {K Y:Type} [DecidableEq K] {kc:K → List Value} {vc:Y → Value} {l:List (K × Y)}
end
end Go.V
set_option maxRecDepth 20000
namespace Go.V
open Go.Proofs Go.RowKit
theorem znl {α:Type} {l:List α} {i:Nat} {x:α} (h:l[i]? = some x):l.take (i + 1) = l.take i ++ [x]:=by
 rw [List.take_add_one, h]; rfl
section
variable {P:Program} {F:Fr} {B:Heap} {O:Boxes} {n:Nat} {ops:Array Oper} {κ:Kap} {d:Nat} {ty:TypeId} {pos:String} {aft:Array Edge} {g:Option (Nat × Bool)} {os:List Oper} {Q:Exit → Act → World → Prop}
theorem Has.relE {t q:Nat} {b m:Nat} {e:TypeId} {s:Nat} {xs:List Value} {a:Act} {u:World} (hk:κ q = some (.own (zaj b xs e))) (ht:κ t = some (.is (.slice (some ⟨b, 0, none⟩) m m))) (hl:xs.length = m * s) (hm:m ≤ maxLen) (hh:Has F B O n κ a u):Has F B O n (upd (upd κ q zdv) t (.own (SlE e s m xs))) a u:=by
 obtain ⟨H, fp, hh⟩:=hh
 obtain ⟨⟨hb, hC⟩, hM⟩:=hh.slot q _ hk
 have hx:a.eval (.tmp t) = .slice (some ⟨b, 0, none⟩) m m:=hh.slot t _ ht
 exact ⟨H, _, hh.usePut (d:=t) (a':=a) (r':=SlE e s m xs) (C:=fp q) hk ⟨Keep.refl _ _, hh.sub, Heap.Le.refl _, fun _ _ _ => rfl⟩ rfl rfl (fun _ _ => rfl) ⟨hl, .inr ⟨b, hx, hb, hm, hC⟩⟩ fun k hk => ⟨.inl hk, (hM k hk).1, (hM k hk).2.1⟩⟩
theorem z2y (t q:Nat) {b m:Nat} {e:TypeId} {s:Nat} {xs:List Value} {c:Code} (hk:κ q = some (.own (zaj b xs e))) (ht:κ t = some (.is (.slice (some ⟨b, 0, none⟩) m m))) (hl:xs.length = m * s) (hm:m ≤ maxLen)
  (h:V P F B n O (upd (upd κ q zdv) t (.own (SlE e s m xs))) c Q):V P F B n O κ c Q:=fun a u hh => h a u (hh.relE hk ht hl hm)
theorem StepOK.seeV {o:Oper} {v:Value} {e:TypeId} {s m:Nat} {xs:List Value} {fu:Bool} (h:StepOK P F B n ops O κ o d (.is v)) (hv:SlV e s xs m fu v B):StepOK P F B n ops O κ o d (.sat (SlV e s xs m fu)):=fun κ' a u hl hh =>
 After.mono (fun a' u' hh' => by
  have h2:=hh'.seen (t:=d) (SlV e s xs m fu) (zak _ _ _) SlV.mono hv
  rwa [zbw] at h2) (h κ' a u hl hh)
theorem Has.pubH {q b:Nat} {cs:List Value} {t':TypeId} {a:Act} {u:World} (hk:κ q = some (.own (zaj b cs t'))) (hh:Has F B O n κ a u):∃ H, Since F B H ∧ B b = none ∧ H b = some (.cells cs.toArray t') ∧ Has F H O n (upd κ q zdv) a u:=by
 obtain ⟨H, fp, hh⟩:=hh
 obtain ⟨⟨hb, hC⟩, hM⟩:=hh.slot q _ hk
 have hbm:=hM b ((hC b).2 rfl)
 obtain ⟨H', h'⟩:=hh.pub (φ:=fun _ H => H b = some (.cells cs.toArray t')) hk hb ((hC b).2 rfl) (fun _ _ _ h hle => hle _ _ h) fun H' _ hb' => hb'
 have hx:H' b = some (.cells cs.toArray t'):=h'.slot q _ (zak _ _ _)
 refine ⟨H', h'.isSince, ?_, hx, H', fp, ?_⟩
 ·cases hB:B b with
  | none => rfl
  | some z => have:=hh.base _ _ hB; rw [hbm.2.1] at this; cases this
 ·have h2:=(h'.rebase).setSat (t:=q) (φ:=fun _ _ => True) (fun _ _ _ _ _ => trivial) trivial
  rwa [zbw] at h2
theorem zgd (q:Nat) {b:Nat} {cs:List Value} {t':TypeId} {c:Code} (hk:κ q = some (.own (zaj b cs t'))) (h:∀ H, Since F B H → B b = none → H b = some (.cells cs.toArray t') → V P F H n O (upd κ q zdv) c Q):V P F B n O κ c Q:=fun a u hh =>
 let ⟨H, h1, h2, h3, h4⟩:=hh.pubH hk; h H h1 h2 h3 a u h4
end
section
variable {P:Program} {F:Fr} {B:Heap} {O:Boxes} {n:Nat} {ops:Array Oper} {κ:Kap} {d:Nat} {ty:TypeId} {pos:String} {aft:Array Edge} {g:Option (Nat × Bool)} {K Y:Type} [DecidableEq K] {kc:K → List Value} {vc:Y → Value} {l:List (K × Y)}
end
end Go.V
set_option maxRecDepth 20000
namespace Go.V
open Go.Proofs Go.RowKit
section
variable {P:Program} {F:Fr} {B:Heap} {O:Boxes} {n:Nat} {ops:Array Oper} {κ:Kap} {d:Nat} {ty:TypeId} {pos:String} {aft:Array Edge} {g:Option (Nat × Bool)} {os:List Oper} {Q:Exit → Act → World → Prop}
end
end Go.V
set_option maxRecDepth 20000
namespace Go.V
open Go.Proofs Go.RowKit
section
variable {P:Program} {F:Fr} {B:Heap} {O:Boxes} {n:Nat} {ops:Array Oper} {κ:Kap} {d:Nat} {ty:TypeId} {pos:String} {aft:Array Edge} {g:Option (Nat × Bool)} {os:List Oper} {Q:Exit → Act → World → Prop}
end
theorem Has.nilAt {F:Fr} {B:Heap} {O:Boxes} {n:Nat} {κ:Kap} (g:Nat) (e:TypeId) (s:Nat) {a:Act} {u:World} (hh:Has F B O n κ a u):Has F B O n (upd κ g (.own (AtV (.slice none 0 0) (SlR e s 0 [])))) a u:=by
 obtain ⟨H, fp, hh⟩:=hh
 exact ⟨H, _, hh.putR (C:=noL) (a':=a) rfl rfl (fun _ _ => rfl) ⟨by simp, .inl ⟨rfl, rfl, fun _ h => h⟩⟩ (fun _ h => h.elim) fun _ _ _ _ _ _ h => h⟩
theorem zh1 {P:Program} {F:Fr} {B:Heap} {O:Boxes} {n:Nat} {κ:Kap} {Q:Exit → Act → World → Prop} (g:Nat) (e:TypeId) (s:Nat) {c:Code} (h:V P F B n O (upd κ g (.own (AtV (.slice none 0 0) (SlR e s 0 [])))) c Q):V P F B n O κ c Q:=fun a u hh => h a u (hh.nilAt g e s)
end Go.V
set_option maxRecDepth 20000
namespace Go.V
open Go.RowKit
def zhf (r1 r2:Res):Res where
 P v H u C:=∃ C1 C2:Nat → Prop, r1.P v H u C1 ∧ r2.P v H u C2 ∧ (∀ k, C k ↔ C1 k ∨ C2 k) ∧ ∀ k, C1 k → ¬ C2 k
 st:=fun ⟨C1, C2, h1, h2, h3, h4⟩ hle hs ho hk => ⟨C1, C2, r1.st h1 hle hs ho fun k hc => hk k ((h3 k).2 (.inl hc)), r2.st h2 hle hs ho fun k hc => hk k ((h3 k).2 (.inr hc)), h3, h4⟩
def zfv (r1 r2:GR):GR where
 P H u C:=∃ C1 C2:Nat → Prop, r1.P H u C1 ∧ r2.P H u C2 ∧ (∀ k, C k ↔ C1 k ∨ C2 k) ∧ ∀ k, C1 k → ¬ C2 k
 st:=fun ⟨C1, C2, h1, h2, h3, h4⟩ hle hs ho hk => ⟨C1, C2, r1.st h1 hle hs ho fun k hc => hk k ((h3 k).2 (.inl hc)), r2.st h2 hle hs ho fun k hc => hk k ((h3 k).2 (.inr hc)), h3, h4⟩
theorem zd0 (r1 r2:GR):(zfv r1 r2).res = zhf r1.res r2.res:=rfl
def GEx {X:Type} (r:X → GR) (φ:X → Heap → Prop) (hφ:zhe φ):GR where
 P H u C:=∃ x, φ x H ∧ (r x).P H u C
 st:=fun ⟨x, h1, h2⟩ hle hs hon hk => ⟨x, hφ _ _ _ h1 hle, (r x).st h2 hle hs hon hk⟩
section
variable {P:Program} {F:Fr} {B:Heap} {O:Boxes} {n:Nat} {ops:Array Oper} {κ:Kap} {d:Nat} {ty:TypeId} {pos:String} {aft:Array Edge} {g:Option (Nat × Bool)} {Q:Exit → Act → World → Prop} {a:Act} {u:World} {os:List Oper}
theorem Has.part {q g1:Nat} {r1 r2:Res} (hne:q ≠ g1) (hg1:∀ v v' H u C, r2.P v H u C → r2.P v' H u C) (hk:κ q = some (.own (zhf r1 r2))) (h:Has F B O n κ a u):Has F B O n (upd (upd κ q (.own r1)) g1 (.own r2)) a u:=by
 obtain ⟨H, fp, hh⟩:=h
 obtain ⟨⟨C1, C2, h1, h2, h3, h4⟩, hM⟩:=hh.slot q _ hk
 have e2:=hh.putR (d:=q) (r:=r1) (C:=C1) (a':=a) rfl rfl (fun _ _ => rfl) h1 (fun k hk' => hM k ((h3 k).2 (.inl hk'))) (fun t r' hne' hk' k hf hc => hh.owns t q _ _ hne' hk' hk k hf ((h3 k).2 (.inl hc)))
 have e3:=e2.putR (d:=g1) (r:=r2) (C:=C2) (a':=a) rfl rfl (fun _ _ => rfl) (hg1 _ _ _ _ _ h2) (fun k hk' => hM k ((h3 k).2 (.inr hk'))) (fun t r' hne' hk' k hf hc => by
  by_cases e:t = q
  ·subst e; rw [zg2] at hf; exact h4 k hf hc
  ·rw [zer _ _ e] at hf
   rw [zad _ _ e] at hk'
   exact hh.owns t q _ _ e hk' hk k hf ((h3 k).2 (.inr hc)))
 exact ⟨H, _, e3⟩
theorem Has.join2 {q g1:Nat} {r1 r2:Res} (hne:q ≠ g1) (hg1:∀ v v' H u C, r2.P v H u C → r2.P v' H u C) (hk:κ q = some (.own r1)) (hk1:κ g1 = some (.own r2)) (h:Has F B O n κ a u):Has F B O n (upd (upd κ g1 zdv) q (.own (zhf r1 r2))) a u:=by
 obtain ⟨H, fp, hh⟩:=h
 obtain ⟨h1, hM⟩:=hh.slot q _ hk
 obtain ⟨h2, hM1⟩:=hh.slot g1 _ hk1
 have e1:=hh.drop1 g1
 have hkq:upd κ g1 zdv q = some (.own r1):=by rw [zad _ _ hne]; exact hk
 have e2:=e1.putR (d:=q) (r:=zhf r1 r2) (C:=fun k => fp q k ∨ fp g1 k) (a':=a) rfl rfl (fun _ _ => rfl) ⟨fp q, fp g1, h1, hg1 _ _ _ _ _ h2, fun _ => Iff.rfl, hh.owns q g1 _ _ hne hk hk1⟩
  (fun k hk' => hk'.elim (hM k) (hM1 k)) (fun t r' hne' hk' k hf hc => by
   by_cases e:t = g1
   ·subst e; rw [zak] at hk'; cases hk'
   ·rw [zad _ _ e] at hk'
    rcases hc with hc | hc
    ·exact hh.owns t q _ _ hne' hk' hk k hf hc
    ·exact hh.owns t g1 _ _ e hk' hk1 k hf hc)
 exact ⟨H, _, e2⟩
theorem zdi (q g1:Nat) {r1 r2:Res} {c:Code} (hk:κ q = some (.own (zhf r1 r2))) (hg1:∀ v v' H u C, r2.P v H u C → r2.P v' H u C) (h:V P F B n O (upd (upd κ q (.own r1)) g1 (.own r2)) c Q) (hne:q ≠ g1:=by decide):V P F B n O κ c Q:=fun a u hh => h a u (hh.part hne hg1 hk)
theorem zcu (q g1:Nat) {r1 r2:Res} {c:Code} (hk:κ q = some (.own r1)) (hk1:κ g1 = some (.own r2)) (hg1:∀ v v' H u C, r2.P v H u C → r2.P v' H u C) (h:V P F B n O (upd (upd κ g1 zdv) q (.own (zhf r1 r2))) c Q) (hne:q ≠ g1:=by decide):V P F B n O κ c Q:=fun a u hh => h a u (hh.join2 hne hg1 hk hk1)
theorem zks (q g1:Nat) {r1 r2:Res} (hk:κ q = some (.own r1)) (hk1:κ g1 = some (.own r2)) (hg1:∀ v v' H u C, r2.P v H u C → r2.P v' H u C) (h:N F B n O (upd (upd κ g1 zdv) q (.own (zhf r1 r2))) Q) (hne:q ≠ g1:=by decide):N F B n O κ Q:=fun a u hh => h a u (hh.join2 hne hg1 hk hk1)
theorem ztc (q g1:Nat) {r1 r2:Res} (hk:κ q = some (.own (zhf r1 r2))) (hg1:∀ v v' H u C, r2.P v H u C → r2.P v' H u C) (h:VO P F B n O ops (upd (upd κ q (.own r1)) g1 (.own r2)) os Q) (hne:q ≠ g1:=by decide):VO P F B n O ops κ os Q:=fun a u hh => h a u (hh.part hne hg1 hk)
theorem zik (q g1:Nat) {r1 r2:Res} (hk:κ q = some (.own r1)) (hk1:κ g1 = some (.own r2)) (hg1:∀ v v' H u C, r2.P v H u C → r2.P v' H u C) (h:VO P F B n O ops (upd (upd κ g1 zdv) q (.own (zhf r1 r2))) os Q) (hne:q ≠ g1:=by decide):VO P F B n O ops κ os Q:=fun a u hh => h a u (hh.join2 hne hg1 hk hk1)
theorem zas (r:GR):∀ (v v':Value) H u C, r.res.P v H u C → r.res.P v' H u C:=fun _ _ _ _ _ h => h
theorem zf1 (b:Nat) (cs:List Value) (ty:TypeId):∀ (v v':Value) H u C, (zaj b cs ty).P v H u C → (zaj b cs ty).P v' H u C:=fun _ _ _ _ _ h => h
theorem zv1 (x:Value) (r:Res):∀ (v v':Value) H u C, (AtV x r).P v H u C → (AtV x r).P v' H u C:=fun _ _ _ _ _ h => h
theorem Has.turnO {t:Nat} {r r':Res} (hk:κ t = some (.own r)) (hr:∀ v H u C, B.Le H → r.P v H u C → r'.P v H u C) (h:Has F B O n κ a u):Has F B O n (upd κ t (.own r')) a u:=by
 obtain ⟨H, fp, h⟩:=h
 exact ⟨H, fp, h.turnR hk (hr _ _ _ _ h.base (h.slot t _ hk).1)⟩
theorem z0y (t:Nat) {r:Res} (r':Res) {c:Code} (hk:κ t = some (.own r)) (hr:∀ v H u C, B.Le H → r.P v H u C → r'.P v H u C) (h:V P F B n O (upd κ t (.own r')) c Q):V P F B n O κ c Q:=fun a u hh => h a u (hh.turnO hk hr)
theorem z03 (t:Nat) {r:Res} (r':Res) (hk:κ t = some (.own r)) (hr:∀ v H u C, B.Le H → r.P v H u C → r'.P v H u C) (h:N F B n O (upd κ t (.own r')) Q):N F B n O κ Q:=fun a u hh => h a u (hh.turnO hk hr)
def RetY (P:Program) (f:FuncId) (args:List Value) (w:World) (B:Heap) (C:Nat → Prop) (r:GR) (φ:Value → Heap → Prop):Prop :=
 RetL P f args w B C fun x H u => φ x H ∧ ∃ C', r.P H u C' ∧ ∀ k, C' k → (C k ∨ w.heap.size ≤ k) ∧ k < u.heap.size ∧ H k = none
theorem RetY.mono {f:FuncId} {args:List Value} {w:World} {C:Nat → Prop} {r:GR} {φ ψ:Value → Heap → Prop} (h:RetY P f args w B C r φ) (hi:∀ v H, B.Le H → φ v H → ψ v H):RetY P f args w B C r ψ:=RetL.mono h fun v H u hg hp => ⟨hi v H hg.le hp.1, hp.2⟩
theorem RetX.toY {f:FuncId} {args:List Value} {w:World} {C:Nat → Prop} {r:GR} {v:Value} (h:RetX P f args w B C r v):RetY P f args w B C r (fun x _ => x = v):=RetL.mono h fun _ _ _ _ hp => hp
theorem zn6 (L:Tabs P) (q:Nat) (r':GR) (φ:Value → Heap → Prop) {r:GR} {f:Nat} {args:Array Operand} {at_:Array TypeId} {cap:List Value} {fo:Operand}
  (hn:Nat.blt d n = true) (hg:gK ops κ ⟨some d, .call { callee:=.value fo, args:=args, argTypes:=at_ }, ty, pos, aft, g⟩ = some true)
  (hf:evK κ fo = some (.func (.func f) #[] cap.toArray)) (hfn:L.fn f = some ()) (hq:κ q = some (.own r.res)) (hm:Kn.mono (.sat φ))
  (h:∀ u H C, H.Le (hp u) → B.Le H → r.P H u C → (∀ k, C k → k < u.heap.size ∧ H k = none) → Args κ H args.toList [] (fun vs => RetY P f (vs ++ cap) u H C r' φ)) :
  zcl P F B n ops O κ ⟨some d, .call { callee:=.value fo, args:=args, argTypes:=at_ }, ty, pos, aft, g⟩ q (.own r'.res) d (.sat φ):=by
 rintro κ' a u hlk hks ⟨H, fp, hh⟩
 unfold After
 rw [if_pos (zai hh hlk hg)]
 have hk':κ' q = some (.own r.res):=hks.trans hq
 obtain ⟨hown, hM⟩:=hh.slot q _ hk'
 have e2:=hh.env hlk
 have hfe:a.eval fo = .func (.func f) #[] cap.toArray:=e2.is_ fo _ (by simp [Op.operands, Call.operands]) hf
 have hc:=Args.use e2 args.toList [] (fun x hx => by simp [Op.operands, Call.operands] at hx ⊢; exact .inr hx) (h u H (fp q) hh.sub hh.base hown fun k hk => ⟨(hM k hk).1, (hM k hk).2.1⟩)
 simp only [List.reverse_nil, List.nil_append] at hc
 rw [zc3 L rfl hfe hfn]
 simp only [Upon]
 refine Calls.mono hc fun e' u' hp => ?_
 obtain ⟨x, rfl, H', g', hx, C', hv, hC'⟩:=hp
 have h2:=hh.usePut (d:=q) (a':=a) (r':=r'.res) hk' g' rfl rfl (fun _ _ => rfl) hv hC'
 rw [zbw] at h2
 exact ⟨x, rfl, H', _, h2.put (k:=.sat φ) (zk hn) hm hx⟩
theorem zlu (L:Tabs P) {fn:Func} {B0:Heap} (gs:Nat) {r r':GR} {rs:List ResultVar} {φ:Value → Heap → Prop} (hrs:fn.results = rs.toArray)
  (hQ:∀ a u, bodyPostM Fence.wide 0 P fn (ze7 F.w0 B0 F.L fun x H u => φ x H ∧ ∃ C', r'.P H u C' ∧ ∀ k, C' k → (F.L k ∨ F.w0.heap.size ≤ k) ∧ k < u.heap.size ∧ H k = none) .ret a u → Q .ret a u) (hs:Since F B0 B) (hk:κ gs = some (.own r.res)) (e:r = r')
  (h:∀ H, B.Le H → zm6 L F B O κ H rs [] (fun vs => φ (tup vs) H)) (hd:F.ds = []:=by rfl):V P F B n O κ .ret Q:=fun a u hh => by
 obtain ⟨H, fp, hH⟩:=hh
 refine wpIn_ret (hQ a u ?_)
 have h0:=hH.defers
 rw [hd] at h0
 show LeavesInM _ _ _ _ _ _ a.defers _ _
 rw [h0]
 subst e
 obtain ⟨vs, h1, h2⟩:=zbr L hH hrs (h H hH.base)
 obtain ⟨C', h3, h4⟩:=HasH.ghost hk hH
 exact ⟨_, h1, _, rfl, H, ⟨hH.keep, hH.sub, hs.le.trans hH.base, fun k hk hl => (hH.fresh k hk hl).trans (hs.fresh k hk hl)⟩, h2, C', h3, h4⟩
end
end Go.V
set_option maxRecDepth 20000
namespace Go.V
open Go.Proofs Go.RowKit
theorem zxy:∀ (a b:List UInt8), Lib.compareBytes a b = -1 ∨ Lib.compareBytes a b = 0 ∨ Lib.compareBytes a b = 1
 | [], [] => .inr (.inl rfl)
 | [], _ :: _ => .inl rfl
 | _ :: _, [] => .inr (.inr rfl)
 | a :: xs, b :: bs => by
  unfold Lib.compareBytes
  split
  ·exact .inl rfl
  ·split
   ·exact .inr (.inr rfl)
   ·exact zxy xs bs
theorem zvz:∀ (a:List UInt8), Lib.compareBytes a a = 0
 | [] => rfl
 | a :: xs => by
  unfold Lib.compareBytes
  rw [if_neg (UInt8.lt_irrefl a), if_neg (UInt8.lt_irrefl a)]
  exact zvz xs
theorem z2r:∀ (a b:List UInt8), Lib.compareBytes a b = 0 → a = b
 | [], [], _ => rfl
 | [], _ :: _, h => by cases h
 | _ :: _, [], h => by cases h
 | a :: xs, b :: bs, h => by
  unfold Lib.compareBytes at h
  split at h
  ·cases h
  ·split at h
   ·cases h
   ·rename_i h1 h2
    have:a = b:=UInt8.le_antisymm (UInt8.not_lt.1 h2) (UInt8.not_lt.1 h1)
    rw [this, z2r xs bs h]
theorem zv0:∀ (a b:List UInt8), Lib.compareBytes b a = - Lib.compareBytes a b
 | [], [] => rfl
 | [], _ :: _ => rfl
 | _ :: _, [] => rfl
 | a :: xs, b :: bs => by
  unfold Lib.compareBytes
  by_cases h1:a < b
  ·simp [h1, UInt8.lt_asymm h1]
  ·by_cases h2:b < a
   ·simp [h1, h2]
   ·simp [h1, h2]; exact zv0 xs bs
theorem zrg:∀ (a b c:List UInt8), Lib.compareBytes a b ≤ 0 → Lib.compareBytes b c ≤ 0 → Lib.compareBytes a c ≤ 0
 | [], _, [], _, _ => Int.le_refl _
 | [], _, _ :: _, _, _ => by unfold Lib.compareBytes; decide
 | _ :: _, [], _, h, _ => by unfold Lib.compareBytes at h; exact absurd h (by decide)
 | _ :: _, _ :: _, [], _, h => by unfold Lib.compareBytes at h; exact absurd h (by decide)
 | a :: xs, b :: bs, c :: cs, h1, h2 => by
  unfold Lib.compareBytes at h1 h2 ⊢
  by_cases ab:a < b
  ·by_cases bc:b < c
   ·rw [if_pos (UInt8.lt_trans ab bc)]; decide
   ·rw [if_neg bc] at h2
    by_cases cb:c < b
    ·rw [if_pos cb] at h2; exact absurd h2 (by decide)
    ·have:b = c:=UInt8.le_antisymm (UInt8.not_lt.1 cb) (UInt8.not_lt.1 bc)
     subst this; rw [if_pos ab]; decide
  ·rw [if_neg ab] at h1
   by_cases ba:b < a
   ·rw [if_pos ba] at h1; exact absurd h1 (by decide)
   ·have:a = b:=UInt8.le_antisymm (UInt8.not_lt.1 ba) (UInt8.not_lt.1 ab)
    subst this
    rw [if_neg ab] at h1
    by_cases ac:a < c
    ·rw [if_pos ac]; decide
    ·rw [if_neg ac] at h2 ⊢
     by_cases ca:c < a
     ·rw [if_pos ca] at h2; exact absurd h2 (by decide)
     ·rw [if_neg ca] at h2 ⊢
      exact zrg xs bs cs h1 h2
structure Ord3 {α:Type} (c:α → α → Int):Prop where
 refl:∀ a, c a a = 0
 eq:∀ a b, c a b = 0 → a = b
 anti:∀ a b, c b a = - c a b
 trans:∀ a b d, c a b ≤ 0 → c b d ≤ 0 → c a d ≤ 0
theorem z2v {a b:ByteArray} (h:a.data.toList = b.data.toList):a = b:=by
 obtain ⟨⟨x⟩⟩:=a; obtain ⟨⟨y⟩⟩:=b; simp at h; subst h; rfl
theorem cmpB_ord:Ord3 zy2:=⟨fun a => zvz _, fun a b h => z2v (z2r _ _ h), fun a b => zv0 _ _, fun a b d h1 h2 => zrg _ _ _ h1 h2⟩
def zyy {α β:Type} (c:α → α → Int) (e:β → β → Int) (x y:α × β):Int:=orL [c x.1 y.1, e x.2 y.2]
theorem z1w (x y:Int):orL [x, y] = if x = 0 then y else x:=by
 simp only [orL]
 by_cases hx:x = 0
 ·rw [if_pos hx, if_pos hx]; split <;> simp_all
 ·rw [if_neg hx, if_neg hx]
theorem Ord3.lt_of {α:Type} {c:α → α → Int} (h:Ord3 c) {a b d:α} (h1:c a b ≤ 0) (h2:c b d ≤ 0) (h3:c a d = 0):c a b = 0 ∧ c b d = 0:=by
 obtain rfl:=h.eq _ _ h3
 have:=h.anti a b
 constructor <;> omega
theorem Ord3.lex {α β:Type} {c:α → α → Int} {e:β → β → Int} (hc:Ord3 c) (he:Ord3 e):Ord3 (zyy c e):=by
 refine ⟨fun a => ?_, fun a b h => ?_, fun a b => ?_, fun a b d h1 h2 => ?_⟩
 ·unfold zyy; rw [z1w, hc.refl, if_pos rfl, he.refl]
 ·unfold zyy at h
  rw [z1w] at h
  by_cases h0:c a.1 b.1 = 0
  ·rw [if_pos h0] at h
   exact Prod.ext (hc.eq _ _ h0) (he.eq _ _ h)
  ·rw [if_neg h0] at h; exact absurd h h0
 ·unfold zyy
  rw [z1w, z1w, hc.anti a.1 b.1, he.anti a.2 b.2]
  by_cases h0:c a.1 b.1 = 0
  ·rw [if_pos h0, if_pos (by omega)]
  ·rw [if_neg h0, if_neg (by omega)]
 ·unfold zyy at h1 h2 ⊢
  rw [z1w] at h1 h2 ⊢
  have l1:c a.1 b.1 ≤ 0:=by split at h1 <;> omega
  have l2:c b.1 d.1 ≤ 0:=by split at h2 <;> omega
  have l3:=hc.trans _ _ _ l1 l2
  by_cases h0:c a.1 d.1 = 0
  ·obtain ⟨e1, e2⟩:=hc.lt_of l1 l2 h0
   rw [if_pos e1] at h1
   rw [if_pos e2] at h2
   rw [if_pos h0]
   exact he.trans _ _ _ h1 h2
  ·rw [if_neg h0]; exact l3
abbrev z01:=(ByteArray × ByteArray) × ByteArray
def z3v:z01 → z01 → Int:=zyy (zyy zy2 zy2) zy2
theorem cmp3_ord:Ord3 z3v:=(cmpB_ord.lex cmpB_ord).lex cmpB_ord
attribute [local irreducible] V N X VO Par StepOK Has Ret RetL Src
end Go.V
set_option maxRecDepth 20000
namespace Go.V
open Go.Proofs Go.RowKit
section
variable {α:Type} {c:α → α → Int}
theorem Ord3.irr (h:Ord3 c) (a:α):¬ c a a < 0:=by rw [h.refl]; decide
theorem Ord3.asym (h:Ord3 c) {a b:α} (h1:c a b < 0):¬ c b a < 0:=by have:=h.anti a b; omega
theorem Ord3.tr (h:Ord3 c) {a b d:α} (h1:c a b < 0) (h2:c b d < 0):c a d < 0:=by
 have h3:=h.trans a b d (by omega) (by omega)
 by_cases h4:c a d = 0
 ·have:=h.lt_of (a:=a) (b:=b) (d:=d) (by omega) (by omega) h4; omega
 ·omega
theorem Ord3.ne (h:Ord3 c) {a b:α} (h1:c a b < 0):a ≠ b:=fun e => by subst e; exact h.irr a h1
theorem Ord3.tri (h:Ord3 c) {a b:α} (h1:¬ c a b < 0) (h2:a ≠ b):c b a < 0:=by
 have:=h.anti a b
 have h3:c a b ≠ 0:=fun e => h2 (h.eq _ _ e)
 omega
def Sst (c:α → α → Int) (l:List α):Prop:=l.Pairwise fun x y => c x y < 0
theorem Sst.nil:Sst c []:=List.Pairwise.nil
theorem Sst.nodup (h:Ord3 c) {l:List α} (hs:Sst c l):l.Nodup:=hs.imp fun h1 => h.ne h1
theorem zpd (h:Ord3 c):∀ {l m:List α}, Sst c l → Sst c m → (∀ z, z ∈ l ↔ z ∈ m) → l = m
 | [], [], _, _, _ => rfl
 | [], y :: m, _, _, e => by have:=(e y).2 (List.mem_cons_self ..); cases this
 | y :: l, [], _, _, e => by have:=(e y).1 (List.mem_cons_self ..); cases this
 | y :: l, x :: m, hl, hm, e => by
  have h1:=List.pairwise_cons.1 hl
  have h2:=List.pairwise_cons.1 hm
  have exy:y = x:=by
   rcases List.mem_cons.1 ((e y).1 (List.mem_cons_self ..)) with e1 | e1
   ·exact e1
   ·rcases List.mem_cons.1 ((e x).2 (List.mem_cons_self ..)) with e2 | e2
    ·exact e2.symm
    ·exact absurd (h1.1 x e2) (h.asym (h2.1 y e1))
  subst exy
  congr 1
  refine zpd h h1.2 h2.2 fun z => ?_
  constructor
  ·intro hz
   rcases List.mem_cons.1 ((e z).1 (List.mem_cons_of_mem _ hz)) with e1 | e1
   ·subst e1; exact absurd (h1.1 _ hz) (h.irr _)
   ·exact e1
  ·intro hz
   rcases List.mem_cons.1 ((e z).2 (List.mem_cons_of_mem _ hz)) with e1 | e1
   ·subst e1; exact absurd (h2.1 _ hz) (h.irr _)
   ·exact e1
def zoi (c:α → α → Int) (t:α):List α → List α
 | [] => [t]
 | y :: l => if c t y < 0 then t :: y :: l else y :: zoi c t l
theorem zgz {t z:α}:∀ {l:List α}, z ∈ zoi c t l ↔ z = t ∨ z ∈ l
 | [] => by simp [zoi]
 | y :: l => by
  simp only [zoi]
  split
  ·simp
  ·rw [List.mem_cons, zgz, List.mem_cons]
   constructor
   ·rintro (e | e | e)
    ·exact .inr (.inl e)
    ·exact .inl e
    ·exact .inr (.inr e)
   ·rintro (e | e | e)
    ·exact .inr (.inl e)
    ·exact .inl e
    ·exact .inr (.inr e)
theorem zdz (t:α):∀ (l:List α), (zoi c t l).length = l.length + 1
 | [] => rfl
 | y :: l => by
  simp only [zoi]
  split
  ·rfl
  ·simp only [List.length_cons, zdz t l]
theorem zio (h:Ord3 c) {t:α}:∀ {l:List α}, Sst c l → t ∉ l → Sst c (zoi c t l)
 | [], _, _ => List.pairwise_singleton ..
 | y :: l, hs, ht => by
  have h1:=List.pairwise_cons.1 hs
  simp only [zoi]
  split
  ·rename_i hlt
   refine List.pairwise_cons.2 ⟨fun z hz => ?_, hs⟩
   rcases List.mem_cons.1 hz with rfl | hz
   ·exact hlt
   ·exact h.tr hlt (h1.1 z hz)
  ·rename_i hlt
   refine List.pairwise_cons.2 ⟨fun z hz => ?_, zio h h1.2 fun e => ht (List.mem_cons_of_mem _ e)⟩
   rcases zgz.1 hz with rfl | hz
   ·exact h.tri hlt fun e => ht (by rw [e]; exact List.mem_cons_self ..)
   ·exact h1.1 z hz
def zeb (c:α → α → Int) (f:Bool → Bool → Bool):Nat → List α → List α → List α
 | 0, _, _ => []
 | n + 1, [], [] => []
 | n + 1, a :: l, [] => (if f true false = true then [a] else []) ++ zeb c f n l []
 | n + 1, [], b :: m => (if f false true = true then [b] else []) ++ zeb c f n [] m
 | n + 1, a :: l, b :: m =>
  if c a b < 0 then (if f true false = true then [a] else []) ++ zeb c f n l (b :: m)
  else if c a b > 0 then (if f false true = true then [b] else []) ++ zeb c f n (a :: l) m
  else (if f true true = true then [a] else []) ++ zeb c f n l m
variable [DecidableEq α]
def zku (c:α → α → Int):List α → List α → List α
 | out, [] => out
 | out, t :: r => zku c (if t ∈ out then out else zoi c t out) r
theorem zjg (h:Ord3 c):∀ {l out:List α}, Sst c out → Sst c (zku c out l)
 | [], _, hs => hs
 | t :: r, out, hs => by
  simp only [zku]
  refine zjg h ?_
  split
  ·exact hs
  ·rename_i ht; exact zio h hs ht
theorem zj6 {z:α}:∀ {l out:List α}, z ∈ zku c out l ↔ z ∈ out ∨ z ∈ l
 | [], _ => by simp [zku]
 | t :: r, out => by
  simp only [zku]
  rw [zj6]
  split
  ·rename_i ht
   constructor
   ·rintro (e | e)
    ·exact .inl e
    ·exact .inr (List.mem_cons_of_mem _ e)
   ·rintro (e | e)
    ·exact .inl e
    ·rcases List.mem_cons.1 e with rfl | e
     ·exact .inl ht
     ·exact .inr e
  ·rw [zgz, List.mem_cons]
   constructor
   ·rintro ((e | e) | e)
    ·exact .inr (.inl e)
    ·exact .inl e
    ·exact .inr (.inr e)
   ·rintro (e | e | e)
    ·exact .inl (.inr e)
    ·exact .inl (.inl e)
    ·exact .inr e
theorem zh6:∀ (l out:List α), (zku c out l).length ≤ out.length + l.length
 | [], _ => Nat.le_refl _
 | t :: r, out => by
  have:=zh6 r (if t ∈ out then out else zoi c t out)
  simp only [zku]
  refine Nat.le_trans this ?_
  split
  ·simp only [List.length_cons]; omega
  ·rw [zdz]; simp only [List.length_cons]; omega
end
end Go.V
set_option maxRecDepth 20000
namespace Go.V.L2
open Go.Proofs Go.RowKit Go.V
abbrev U:=z01 × z01
def ucs (t:U):List Value:=[.string t.1.1.1, .string t.1.1.2, .string t.1.2, .string t.2.1.1, .string t.2.1.2, .string t.2.2]
theorem zl3 (t:U):(ucs t).length = 6:=rfl
def zbt:U → U → Int:=zyy z3v z3v
theorem cmpT_ord:Ord3 zbt:=cmp3_ord.lex cmp3_ord
theorem z4l {t v:U}:(t.1.1.1 = v.1.1.1 ∧ t.1.1.2 = v.1.1.2 ∧ t.1.2 = v.1.2 ∧ t.2.1.1 = v.2.1.1 ∧ t.2.1.2 = v.2.1.2 ∧ t.2.2 = v.2.2) ↔ t = v :=
 ⟨fun ⟨a, b, c, d, e, f⟩ => Prod.ext (Prod.ext (Prod.ext a b) c) (Prod.ext (Prod.ext d e) f), fun e => by subst e; exact ⟨rfl, rfl, rfl, rfl, rfl, rfl⟩⟩
instance memU (t:U) (l:List U):Decidable (t ∈ l):=decidable_of_iff (l.any (fun x => decide (x = t)) = true) (by simp)
def tE (t:U):Int:=if zcw [t.1.1.1, t.1.1.2, t.1.2] = 0 then zif t.2.1.1 t.2.1.2 t.2.2 else zcw [t.1.1.1, t.1.1.2, t.1.2]
abbrev sAt:ByteArray:=⟨#[64]⟩
def tT (t:U):ByteArray:=zhw t.1.1.1 t.1.1.2 t.1.2 ++ sAt ++ zhl t.2.1.1 t.2.1.2 t.2.2
def TZ (t:U):Prop:=(t.1.1.1.size ≤ 1099511627776 ∧ t.1.1.2.size ≤ 1099511627776 ∧ t.1.2.size ≤ 1099511627776) ∧ t.2.1.1.size ≤ 1099511627776 ∧ t.2.1.2.size ≤ 1099511627776 ∧ t.2.2.size ≤ 1099511627776
instance (t:U):Decidable (TZ t):=inferInstanceAs (Decidable (_ ∧ _))
theorem zl8 {α:Type} {c:α → α → Int} (h:Ord3 c):∀ {l:List α}, Sst c l ↔ ∀ (j:Nat) (a b:α), l[j]? = some a → l[j + 1]? = some b → c a b < 0
 | [] => ⟨fun _ j a b h1 _ => by simp at h1, fun _ => Sst.nil⟩
 | [x] => ⟨fun _ j a b _ h2 => by simp at h2, fun _ => List.pairwise_singleton ..⟩
 | x :: y :: l => by
  constructor
  ·intro hs j a b h1 h2
   have hp:=List.pairwise_cons.1 hs
   cases j with
   | zero => simp at h1 h2; subst h1 h2; exact hp.1 _ (List.mem_cons_self ..)
   | succ j => exact (zl8 h).1 hp.2 j a b (by simpa using h1) (by simpa using h2)
  ·intro hj
   have hl:Sst c (y :: l):=(zl8 h).2 fun j a b h1 h2 => hj (j + 1) a b (by simpa using h1) (by simpa using h2)
   have hxy:c x y < 0:=hj 0 x y rfl rfl
   refine List.pairwise_cons.2 ⟨fun z hz => ?_, hl⟩
   rcases List.mem_cons.1 hz with rfl | hz
   ·exact hxy
   ·exact h.tr hxy ((List.pairwise_cons.1 hl).1 z hz)
instance {α:Type} (c:α → α → Int) (l:List α):Decidable (Sst c l):=inferInstanceAs (Decidable (l.Pairwise _))
def isB (l:List U):Bool:=decide (Sst zbt l)
theorem z2i {l:List U} {j:Nat} {a b:U} (h1:l[j]? = some a) (h2:l[j + 1]? = some b) (h:¬ zbt a b < 0):isB l = false:=decide_eq_false fun hs => h ((zl8 cmpT_ord).1 hs j a b h1 h2)
theorem zz9 {l:List U} (h:∀ j a b, l[j]? = some a → l[j + 1]? = some b → zbt a b < 0):isB l = true:=decide_eq_true ((zl8 cmpT_ord).2 h)
def ptA (s:ByteArray):U × Int :=
 if (zc0 s 64).2.2 = true ∧ zoz (zc0 s 64).2.1 64 = false then
  (if (pgA (zc0 s 64).1).2.2.2 = 0 then
   (if (psA (zc0 s 64).2.1).2.2.2 = 0 then
    (((((pgA (zc0 s 64).1).1, (pgA (zc0 s 64).1).2.1), (pgA (zc0 s 64).1).2.2.1), (((psA (zc0 s 64).2.1).1, (psA (zc0 s 64).2.1).2.1), (psA (zc0 s 64).2.1).2.2.1)), 0)
   else ((((⟨#[]⟩, ⟨#[]⟩), ⟨#[]⟩), ((⟨#[]⟩, ⟨#[]⟩), ⟨#[]⟩)), (psA (zc0 s 64).2.1).2.2.2))
  else ((((⟨#[]⟩, ⟨#[]⟩), ⟨#[]⟩), ((⟨#[]⟩, ⟨#[]⟩), ⟨#[]⟩)), (pgA (zc0 s 64).1).2.2.2))
 else ((((⟨#[]⟩, ⟨#[]⟩), ⟨#[]⟩), ((⟨#[]⟩, ⟨#[]⟩), ⟨#[]⟩)), 5)
end Go.V.L2
set_option maxRecDepth 20000
namespace Go.V
open Go.Proofs Go.RowKit
section
variable {P:Program} {F:Fr} {B:Heap} {O:Boxes} {n:Nat} {ops:Array Oper} {κ:Kap} {d:Nat} {ty:TypeId} {pos:String} {aft:Array Edge} {g:Option (Nat × Bool)} {a:Act} {u:World} {H:Heap} {fp:Nat → Nat → Prop} {Q:Exit → Act → World → Prop}
end
end Go.V
set_option maxRecDepth 20000
namespace Go.V
open Go.Proofs Go.RowKit
section
variable {P:Program} {F:Fr} {B:Heap} {O:Boxes} {n:Nat} {ops:Array Oper} {κ:Kap} {d:Nat} {ty:TypeId} {pos:String} {aft:Array Edge} {g:Option (Nat × Bool)}
theorem zum {t t':TypeId} {x y:Operand} {k:IntKind} {p q r:Int} (hn:Nat.blt d n = true) (hg:gK ops κ ⟨some d, .binOp .and t x y t', ty, pos, aft, g⟩ = some true) (hx:evK κ x = some (.int k p)) (hy:evK κ y = some (.int k q)) (hb:bits .and k p q = r) :
  StepOK P F B n ops O κ ⟨some d, .binOp .and t x y t', ty, pos, aft, g⟩ d (.is (.int k r)):=zb1 hn hg hx hy fun u => by subst hb; simp [eqGuard_and, binOp_and, intBits_and]
end
end Go.V
set_option maxRecDepth 20000
namespace Go.V
open Go.Proofs Go.RowKit
section
variable {P:Program} {F:Fr} {B:Heap} {O:Boxes} {n:Nat} {ops:Array Oper} {κ:Kap} {d:Nat} {ty:TypeId} {pos:String} {aft:Array Edge} {g:Option (Nat × Bool)}
theorem z3p {t t':TypeId} {x y:Operand} {k:IntKind} {p q r:Int} (hn:Nat.blt d n = true) (hg:gK ops κ ⟨some d, .binOp .or t x y t', ty, pos, aft, g⟩ = some true) (hx:evK κ x = some (.int k p)) (hy:evK κ y = some (.int k q)) (hb:bits .or k p q = r) :
  StepOK P F B n ops O κ ⟨some d, .binOp .or t x y t', ty, pos, aft, g⟩ d (.is (.int k r)):=zb1 hn hg hx hy fun u => by subst hb; simp [eqGuard_or, binOp_or, intBits_or]
end
theorem z0w {m:Nat} (h:m ≤ 255):bits .and .u8 m 127 = ((m % 128:Nat):Int):=by
 have:∀ x:Fin 256, bits .and .u8 (x.val:Int) 127 = ((x.val % 128:Nat):Int):=by decide +kernel
 exact this ⟨m, by omega⟩
theorem zyt {a b i:Nat} (ha:a < 2 ^ i):a ||| (b * 2 ^ i) = a + b * 2 ^ i:=by
 rw [Nat.or_comm, ← Nat.shiftLeft_eq, ← Nat.shiftLeft_add_eq_or_of_lt ha]
 omega
end Go.V
set_option maxRecDepth 20000
namespace Go.V
open Go.Proofs Go.RowKit
section
variable {α:Type} [DecidableEq α]
def dd:List α → List α
 | [] => []
 | [x] => [x]
 | x :: y :: l => if x = y then dd (y :: l) else x :: dd (y :: l)
variable {c:α → α → Int}
end
theorem zib {α:Type} {l:List α} {i:Nat} {a:α} (h:l[i]? = some a):l[i]'(get_lt h) = a:=by
 have h1:=h
 rw [List.getElem?_eq_getElem (get_lt h)] at h1
 exact Option.some.inj h1
section
variable {α:Type} {c:α → α → Int}
def zyr (c:α → α → Int) (t:α) (l:List α):Nat:=(l.takeWhile fun x => decide (c x t < 0)).length
theorem zt6 (h:Ord3 c) {t:α}:∀ {l:List α} {i:Nat}, Sst c l → (∀ (j:Nat) (x:α), j < i → l[j]? = some x → c x t < 0) → (∀ (j:Nat) (x:α), i ≤ j → l[j]? = some x → ¬ c x t < 0) → i ≤ l.length → zyr c t l = i
 | [], i, _, _, _, hi => by simp at hi; subst hi; rfl
 | x :: l, 0, _, _, h2, _ => by
  unfold zyr
  rw [List.takeWhile_cons, if_neg (by simpa using h2 0 x (Nat.le_refl _) rfl)]
  rfl
 | x :: l, i + 1, hs, h1, h2, hi => by
  have ih:=zt6 h (t:=t) (l:=l) (i:=i) (List.pairwise_cons.1 hs).2 (fun j y hj hy => h1 (j + 1) y (by omega) (by simpa using hy)) (fun j y hj hy => h2 (j + 1) y (by omega) (by simpa using hy)) (by simpa using hi)
  unfold zyr at ih ⊢
  rw [List.takeWhile_cons, if_pos (by simpa using h1 0 x (Nat.succ_pos _) rfl), List.length_cons, ih]
theorem zk7 (h:Ord3 c) {l:List α} (hs:Sst c l) {i j:Nat} {x y t:α} (hi:l[i]? = some x) (hj:l[j]? = some y) (hij:j ≤ i) (hx:c x t < 0):c y t < 0:=by
 rcases Nat.lt_or_ge j i with hlt | hge
 ·have h1:=List.pairwise_iff_getElem.1 hs j i (get_lt hj) (get_lt hi) hlt
  rw [zib hj, zib hi] at h1
  exact h.tr h1 hx
 ·have:i = j:=by omega
  subst this
  rw [hi] at hj; cases hj; exact hx
theorem z2b (h:Ord3 c) {t:α} {l:List α} (hs:Sst c l) {i:Nat} (h1:∀ (j:Nat) (x:α), j < i → l[j]? = some x → c x t < 0) {x:α} (hx:l[i]? = some x) (h2:∀ (j:Nat) (y:α), i ≤ j → l[j]? = some y → ¬ c y t < 0):t ∈ l ↔ c x t = 0:=by
 constructor
 ·intro ht
  obtain ⟨j, hj⟩:=List.getElem?_of_mem ht
  rcases Nat.lt_trichotomy j i with hlt | he | hgt
  ·exact absurd (h1 j t hlt hj) (h.irr t)
  ·subst he; rw [hx] at hj; cases hj; exact h.refl t
  ·have h3:=List.pairwise_iff_getElem.1 hs i j (get_lt hx) (get_lt hj) hgt
   rw [zib hj, zib hx] at h3
   exact absurd h3 (h2 i x (Nat.le_refl _) hx)
 ·intro e
  have:=h.eq _ _ e
  subst this
  exact List.mem_of_getElem? hx
theorem zpv (h:Ord3 c) {t:α} {l:List α} (h1:∀ (j:Nat) (x:α), j < l.length → l[j]? = some x → c x t < 0):t ∉ l:=fun ht => by
 obtain ⟨j, hj⟩:=List.getElem?_of_mem ht
 exact absurd (h1 j t (get_lt hj) hj) (h.irr t)
end
end Go.V
set_option maxRecDepth 20000
namespace Go.V.L10
open Go.Proofs Go.RowKit Go.V
def cP (a b:Int):Int:=if a < b then -1 else if b < a then 1 else 0
theorem zg9:Ord3 cP:=⟨fun a => by unfold cP; simp, fun a b h => by unfold cP at h; split at h <;> (try split at h) <;> omega, fun a b => by unfold cP; split <;> (try split) <;> (try split) <;> omega, fun a b d h1 h2 => by
 unfold cP at h1 h2 ⊢
 split at h1 <;> (try split at h1) <;> split at h2 <;> (try split at h2) <;> split <;> (try split) <;> omega⟩
theorem z2s {a b:Int}:cP a b < 0 ↔ a < b:=by unfold cP; split <;> (try split) <;> omega
def zfc (L:List Int):List Int:=zku cP [] L
theorem zuz {L:List Int} {z:Int}:z ∈ zfc L ↔ z ∈ L:=by unfold zfc; rw [zj6]; simp
theorem zno (L:List Int):Sst cP (zfc L):=zjg zg9 Sst.nil
theorem zok (L:List Int):(zfc L).length ≤ L.length:=by have:=zh6 (c:=cP) L []; simpa [zfc] using this
def zc9 (L:List Int):List (Int × Int):=(zfc L).map fun r => (r, (L.count r:Int))
theorem zgu (L:List Int):(zc9 L).length = (zfc L).length:=by unfold zc9; simp
theorem znz {L:List Int} {i:Nat} {r:Int} (h:(zfc L)[i]? = some r):(zc9 L)[i]? = some (r, (L.count r:Int)):=by unfold zc9; rw [List.getElem?_map, h]; rfl
section
variable {α:Type} {c:α → α → Int}
theorem zt5 (h:Ord3 c) {t:α}:∀ {l:List α}, Sst c l → t ∈ l → l[zyr c t l]? = some t
 | [], _, hm => (by cases hm)
 | y :: l, hs, hm => by
  unfold zyr
  rw [List.takeWhile_cons]
  have h1:=List.pairwise_cons.1 hs
  by_cases hc:c y t < 0
  ·rcases List.mem_cons.1 hm with e | hm
   ·subst e; exact absurd hc (h.irr _)
   ·rw [if_pos (by simpa using hc), List.length_cons, List.getElem?_cons_succ]
    exact zt5 h h1.2 hm
  ·rw [if_neg (by simpa using hc)]
   rcases List.mem_cons.1 hm with e | hm
   ·subst e; rfl
   ·exact absurd (h1.1 t hm) hc
theorem map_erase {β:Type} (f:α → β) (l:List α) (i:Nat):(l.map f).eraseIdx i = (l.eraseIdx i).map f:=by
 rw [List.eraseIdx_eq_take_drop_succ, List.eraseIdx_eq_take_drop_succ, List.map_append, List.map_take, List.map_drop]
end
end Go.V.L10
set_option maxRecDepth 20000
namespace Go.V.L4
open Go.V
structure Rd where
 at_:Nat
 bad:Nat
 err:Int
def Rd.fail (R:Rd) (a:Nat) (e:Int):Rd:=if R.err = 0 then ⟨R.at_, a, e⟩ else R
def z15 (bs:List Nat):Nat → Nat → Nat → Rd → Nat × Rd
 | 0, _, acc, R => (acc, R)
 | f + 1, i, acc, R => match bs[R.at_]? with
  | none => (0, R.fail bs.length 17)
  | some b => if i = 9 ∧ b ≠ 1 ∨ 0 < i ∧ b = 0 then (0, R.fail R.at_ 5) else
   if b < 128 then (acc + b % 128 * 128 ^ i, ⟨R.at_ + 1, R.bad, R.err⟩) else z15 bs f (i + 1) (acc + b % 128 * 128 ^ i) ⟨R.at_ + 1, R.bad, R.err⟩
def zwa (bs:List Nat) (R:Rd):Nat × Rd:=z15 bs 10 0 0 R
def zrs (bs:List Nat) (lim:Nat) (e:Int) (R:Rd):Nat × Rd:=if lim < (zwa bs R).1 then ((zwa bs R).1, (zwa bs R).2.fail R.at_ e) else zwa bs R
def zyl {α:Type} (f:Rd → α × Rd) (z:α) (R:Rd):α × Rd:=if R.err ≠ 0 then (z, R) else if (f R).2.err ≠ 0 then (z, ⟨R.at_, (f R).2.bad, (f R).2.err⟩) else f R
def zut (bs:List Nat):Rd → Nat × Rd:=zyl (zwa bs) 0
def z2e (bs:List Nat) (lim:Nat) (R:Rd):Int × Rd:=(IntKind.i64.wrap ((zrs bs lim 3 R).1:Nat), (zrs bs lim 3 R).2)
def zgk (bs:List Nat) (lim:Nat):Rd → Int × Rd:=zyl (z2e bs lim) 0
theorem zpl (i:Nat):128 ^ i = 2 ^ (7 * i):=by rw [Nat.pow_mul]
theorem zrm {acc b i:Nat} (h:acc < 128 ^ i):acc + b % 128 * 128 ^ i < 128 ^ (i + 1):=by
 rw [Nat.pow_succ]
 have h1:b % 128 ≤ 127:=by omega
 have h2:b % 128 * 128 ^ i ≤ 127 * 128 ^ i:=Nat.mul_le_mul_right _ h1
 omega
end Go.V.L4
set_option maxRecDepth 20000
namespace Go.V
open Go.RowKit
section
variable {P:Program} {F:Fr} {B:Heap} {O:Boxes} {n:Nat} {ops:Array Oper} {κ:Kap} {d:Nat} {ty:TypeId} {pos:String} {aft:Array Edge} {g:Option (Nat × Bool)} {a:Act} {u:World} {H:Heap} {fp:Nat → Nat → Prop} {os:List Oper} {Q:Exit → Act → World → Prop} {ex:Exs}
end
end Go.V
set_option maxRecDepth 20000
namespace Go.V.L4
open Go.Proofs Go.RowKit Go.V
theorem _root_.Go.V.ZM {A B:Prop} (h:B) (t:Wr B → A:=by intro h; refine z7 (qg rfl rfl rfl rfl (by assumption)) rfl ?_;exact h.h):A:=t ⟨h⟩
theorem _root_.Go.V.ZbM {A B:Prop} (h:B) (t:Wr B → A:=by intro h; refine zd (zw L rfl rfl rfl rfl) rfl ?_;exact h.h):A:=t ⟨h⟩
theorem _root_.Go.V.ZbN {A B:Prop} (h:B) (t:Wr B → A:=by intro h; refine z7 (zw L rfl rfl rfl rfl) rfl ?_;exact h.h):A:=t ⟨h⟩
theorem _root_.Go.V.Zem {A B:Prop} (h:B) (t:Wr B → A:=by intro h; refine zd (qn rfl rfl rfl) rfl ?_;exact h.h):A:=t ⟨h⟩
theorem _root_.Go.V.Zfz {A B:Prop} (h:B) (t:Wr B → A:=by intro h; refine z7 (qn rfl rfl rfl) rfl ?_;exact h.h):A:=t ⟨h⟩
theorem _root_.Go.V.ZfN {A B:Prop} (h:B) (t:Wr B → A:=by intro h; refine qw (zx L (q:=900) rfl rfl rfl rfl rfl rfl) ?_;exact h.h):A:=t ⟨h⟩
theorem _root_.Go.V.Ze7 {A B:Prop} (h:B) (t:Wr B → A:=by intro h; refine z7 (zuf rfl rfl rfl rfl (zaa (by omega) (by omega))) rfl ?_;exact h.h):A:=t ⟨h⟩
theorem _root_.Go.V.Zen {A B:Prop} (h:B) (t:Wr B → A:=by intro h; refine q7 (zx L (q:=900) rfl rfl rfl rfl rfl rfl) rfl rfl ?_;exact h.h):A:=t ⟨h⟩
theorem _root_.Go.V.Zc4 {A B:Prop} (h:B) (t:Wr B → A:=by intro h; refine zd (y5 L _ rfl rfl rfl rfl rfl rfl rfl (by first | omega | decide) (by assumption)) rfl ?_;exact h.h):A:=t ⟨h⟩
theorem _root_.Go.V.ZE {A B:Prop} (h:B) (t:Wr B → A:=by intro h; refine zf (id:=11) ?_;exact h.h):A:=t ⟨h⟩
theorem _root_.Go.V.Zap {A B:Prop} (h:B) (t:Wr B → A:=by intro h; refine zf (id:=10) ?_;exact h.h):A:=t ⟨h⟩
theorem _root_.Go.V.ZbO {A B:Prop} (h:B) (t:Wr B → A:=by intro h; refine zf (id:=13) ?_;exact h.h):A:=t ⟨h⟩
theorem _root_.Go.V.Zay {A B:Prop} (h:B) (t:Wr B → A:=by intro h; refine zf (id:=14) ?_;exact h.h):A:=t ⟨h⟩
theorem _root_.Go.V.ZN {A B:Prop} (h:B) (t:Wr B → A:=by intro h; refine zf (id:=12) ?_;exact h.h):A:=t ⟨h⟩
theorem _root_.Go.V.Zaj {A B:Prop} (h:B) (t:Wr B → A:=by intro h; refine zf (id:=16) ?_;exact h.h):A:=t ⟨h⟩
theorem _root_.Go.V.Zag {A B:Prop} (h:B) (t:Wr B → A:=by intro h; refine zf (id:=15) ?_;exact h.h):A:=t ⟨h⟩
theorem _root_.Go.V.Zfl {A B:Prop} (h:B) (t:Wr B → A:=by intro h; refine z7 (qu rfl rfl rfl rfl rfl) rfl ?_;exact h.h):A:=t ⟨h⟩
theorem _root_.Go.V.Zeo {A B:Prop} (h:B) (t:Wr B → A:=by intro h; refine q4 (id:=5) [(200012, [900]), (200016, [900])] mixed (by kernel_rfl) ?_;exact h.h):A:=t ⟨h⟩
theorem _root_.Go.V.ZdY {A B:Prop} (h:B) (t:Wr B → A:=by intro h; refine zd (y7 rfl rfl rfl rfl (decide_eq_false (by omega))) rfl ?_;exact h.h):A:=t ⟨h⟩
theorem _root_.Go.V.Ze8 {A B:Prop} (h:B) (t:Wr B → A:=by intro h; refine q4 (id:=8) [(200029, [900]), (200033, [900])] mixed (by kernel_rfl) ?_;exact h.h):A:=t ⟨h⟩
theorem _root_.Go.V.Zgh {A B:Prop} (h:B) (t:Wr B → A:=by intro h; refine zd (zui L rfl rfl rfl rfl) rfl ?_;exact h.h):A:=t ⟨h⟩
theorem _root_.Go.V.Zdy {A B:Prop} (h:B) (t:Wr B → A:=by intro h; refine z7 (zui L rfl rfl rfl rfl) rfl ?_;exact h.h):A:=t ⟨h⟩
theorem _root_.Go.V.Ze9 {A B:Prop} (h:B) (t:Wr B → A:=by intro h; refine zd (zn4 L rfl rfl rfl rfl rfl) rfl ?_;exact h.h):A:=t ⟨h⟩
theorem _root_.Go.V.ZeV {A B:Prop} (h:B) (t:Wr B → A:=by intro h; refine z7 (zum rfl rfl rfl rfl (by assumption)) rfl ?_;exact h.h):A:=t ⟨h⟩
theorem _root_.Go.V.Zfm {A B:Prop} (h:B) (t:Wr B → A:=by intro h; refine z7 (zqq rfl rfl rfl rfl (by omega) (by assumption)) rfl ?_;exact h.h):A:=t ⟨h⟩
theorem _root_.Go.V.ZeW {A B:Prop} (h:B) (t:Wr B → A:=by intro h; refine z7 (z3p rfl rfl rfl rfl (by assumption)) rfl ?_;exact h.h):A:=t ⟨h⟩
theorem _root_.Go.V.Zep {A B:Prop} (h:B) (t:Wr B → A:=by intro h; refine z7 (y7 rfl rfl rfl rfl rfl) rfl ?_;exact h.h):A:=t ⟨h⟩
theorem _root_.Go.V.Zfn {A B:Prop} (h:B) (t:Wr B → A:=by intro h; refine Zem ?_;refine ZbM ?_;exact h.h):A:=t ⟨h⟩
theorem _root_.Go.V.ZcV {A B:Prop} (h:B) (t:Wr B → A:=by intro h; refine Zh ?_;refine Zfn ?_;exact h.h):A:=t ⟨h⟩
theorem _root_.Go.V.Zar {A B:Prop} (h:B) (t:Wr B → A:=by intro h; refine Zfz ?_;refine ZbN ?_;exact h.h):A:=t ⟨h⟩
theorem _root_.Go.V.Zbv {A B:Prop} (h:B) (t:Wr B → A:=by intro h; refine ZcR ?_;refine Zfg ?_;exact h.h):A:=t ⟨h⟩
theorem _root_.Go.V.Z0 {A B:Prop} (h:B) (t:Wr B → A:=by intro h; refine Zar ?_;refine ZfN ?_;exact h.h):A:=t ⟨h⟩
theorem _root_.Go.V.Zcl {A B:Prop} (h:B) (t:Wr B → A:=by intro h; refine Zac ?_;refine Zz ?_;exact h.h):A:=t ⟨h⟩
theorem _root_.Go.V.Zb9 {A B:Prop} (h:B) (t:Wr B → A:=by intro h; refine ZcR ?_;refine ZeI ?_;exact h.h):A:=t ⟨h⟩
theorem _root_.Go.V.ZaE {A B:Prop} (h:B) (t:Wr B → A:=by intro h; refine ZcV ?_;refine Zen ?_;exact h.h):A:=t ⟨h⟩
theorem _root_.Go.V.Zaz {A B:Prop} (h:B) (t:Wr B → A:=by intro h; refine Zah ?_;refine Za ?_;exact h.h):A:=t ⟨h⟩
theorem _root_.Go.V.Zc5 {A B:Prop} (h:B) (t:Wr B → A:=by intro h; refine Zay ?_;refine Za ?_;exact h.h):A:=t ⟨h⟩
theorem _root_.Go.V.Zeq {A B:Prop} (h:B) (t:Wr B → A:=by intro h; refine Za2 ?_;refine ZaW ?_;exact h.h):A:=t ⟨h⟩
theorem _root_.Go.V.Zbw {A B:Prop} (h:B) (t:Wr B → A:=by intro h; refine Zal ?_;refine Zg ?_;exact h.h):A:=t ⟨h⟩
theorem _root_.Go.V.ZbA {A B:Prop} (h:B) (t:Wr B → A:=by intro h; refine ZO ?_;refine Za ?_;exact h.h):A:=t ⟨h⟩
theorem _root_.Go.V.ZbP {A B:Prop} (h:B) (t:Wr B → A:=by intro h; refine Zbv ?_;refine ZeK ?_;exact h.h):A:=t ⟨h⟩
theorem _root_.Go.V.ZbQ {A B:Prop} (h:B) (t:Wr B → A:=by intro h; refine Zaj ?_;refine Za ?_;exact h.h):A:=t ⟨h⟩
theorem _root_.Go.V.ZbR {A B:Prop} (h:B) (t:Wr B → A:=by intro h; refine zh ?_;refine Zak ?_;exact h.h):A:=t ⟨h⟩
theorem _root_.Go.V.Zcm {A B:Prop} (h:B) (t:Wr B → A:=by intro h; refine Zfl ?_;refine Zg ?_;exact h.h):A:=t ⟨h⟩
theorem _root_.Go.V.Zc6 {A B:Prop} (h:B) (t:Wr B → A:=by intro h; refine Zap ?_;refine Zb ?_;exact h.h):A:=t ⟨h⟩
theorem _root_.Go.V.ZcW {A B:Prop} (h:B) (t:Wr B → A:=by intro h; refine ZaE ?_;refine Zgh ?_;exact h.h):A:=t ⟨h⟩
theorem _root_.Go.V.ZcX {A B:Prop} (h:B) (t:Wr B → A:=by intro h; refine Zeq ?_;refine zh ?_;exact h.h):A:=t ⟨h⟩
theorem _root_.Go.V.Zdz {A B:Prop} (h:B) (t:Wr B → A:=by intro h; refine ZN ?_;refine Za ?_;exact h.h):A:=t ⟨h⟩
abbrev zgo:TypeId:=256
abbrev za3 (b:Nat):Value:=.pointer (some ⟨b, 0, none⟩)
abbrev zs4:TypeId:=5
abbrev BsV (bs:List Nat) (fu:Bool):Value → Heap → Prop:=SlV zs4 1 (bs.map fun b:Nat => Value.int .u8 (b:Int)) bs.length fu
abbrev rdC (sv:Value) (R:Rd):List Value:=[sv, .int .i64 R.at_, .int .i64 R.bad, .int .i64 R.err]
abbrev GRd (rb:Nat) (sv:Value) (R:Rd):GR:=zab rb (rdC sv R) zgo
theorem z3x {bs:List Nat} {i:Nat} {b:Nat} (h:bs[i]? = some b):((bs.map fun b:Nat => Value.int .u8 (b:Int)).drop (i * 1)).take 1 = [.int .u8 (b:Int)]:=by
 rw [Nat.mul_one, List.drop_eq_getElem_cons (by rw [List.length_map]; exact get_lt h), List.take_succ_cons, List.take_zero, List.getElem_map]
 congr 2
 rw [zib h]
theorem _root_.Go.V.StepOKR.seeV {P:Program} {F:Fr} {B:Heap} {n d q:Nat} {ops:Array Oper} {O:Boxes} {κ:Kap} {o:Oper} {v:Value} {e:TypeId} {s m:Nat} {xs:List Value} {fu:Bool} (h:StepOKR P F B n ops O κ o q d (.is v)) (hv:SlV e s xs m fu v B):StepOKR P F B n ops O κ o q d (.sat (SlV e s xs m fu)):=fun κ' a u hl hq hh =>
 After.mono (fun a' u' hh' => by
  have h2:=hh'.seen (t:=d) (SlV e s xs m fu) (zak _ _ _) SlV.mono hv
  rwa [zbw] at h2) (h κ' a u hl hq hh)
attribute [local irreducible] V N X VO Par StepOK Has Ret RetL RetO RetT zbd RetX RetY Src
theorem zi0 {rb:Nat} {sv:Value} {R:Rd} {a:Nat} {e:Int} {w:World} {B:Heap} {C:Nat → Prop} (hB:B.Le (hp w)) (hr:(GRd rb sv R).P B w C) (hC:∀ k, C k → k < w.heap.size ∧ B k = none) :
  zbd Tryz.prog 210 [za3 rb, .int .i64 a, .int .i64 e] w B C (GRd rb sv (R.fail a e)):=by
 unfold zbd
 refine zah 900 (GRd rb sv R) Tryz.func210 rfl Tryz.ntmps210 (Nat.le_of_ble_eq_true rfl) hB hr hC ?_
 rw [zae]
 obtain ⟨at_, bad, err⟩:=R
 by_cases h0:err = 0
 ·subst h0
  refine ZbA ?_;refine Z0 ?_;refine Zep ?_;refine Zz ?_;refine Zn ?_;refine ZU ?_;refine Zar ?_;refine zam (qs L (q:=900) (cs':=[sv, .int .i64 at_, .int .i64 a, .int .i64 0]) rfl rfl rfl rfl rfl rfl rfl rfl rfl) ?_;refine Zar ?_;refine zam (qs L (q:=900) (cs':=[sv, .int .i64 at_, .int .i64 a, .int .i64 e]) rfl rfl rfl rfl rfl rfl rfl rfl rfl) ?_;refine zi ?_
  exact zav L 900 (r:=zab rb _ zgo) rfl (fun _ _ h => h) Since.refl rfl rfl
 ·have hf:(⟨at_, bad, err⟩:Rd).fail a e = ⟨at_, bad, err⟩:=if_neg h0
  refine ZbA ?_;refine Z0 ?_;refine ZL ?_;refine ZX ?_
  exact zav L 900 (r:=zab rb _ zgo) rfl (fun _ _ h => h) Since.refl rfl (by rw [hf])
theorem zcc {rb:Nat} {sv:Value} {R:Rd} {f:Bool} (hf:decide (R.err ≠ 0) = f) {w:World} {B:Heap} {C:Nat → Prop} (hB:B.Le (hp w)) (hr:(GRd rb sv R).P B w C) (hC:∀ k, C k → k < w.heap.size ∧ B k = none) :
  RetX Tryz.prog 209 [za3 rb] w B C (GRd rb sv R) (.bool f):=by
 subst hf
 unfold RetX
 refine zah 900 (GRd rb sv R) Tryz.func209 rfl Tryz.ntmps209 (Nat.le_of_ble_eq_true rfl) hB hr hC ?_
 rw [zae]
 obtain ⟨at_, bad, err⟩:=R
 refine Zbp ?_;refine z7 (zck rfl rfl rfl rfl zxe rfl) rfl ?_;refine Zb ?_;refine Z0 ?_;refine Zcm ?_;refine Zc ?_
 exact za4 L 900 (r:=zab rb _ zgo) (rs:=[.tmp 2]) rfl (fun _ _ h => h) Since.refl rfl rfl (fun _ => rfl)
theorem zle {rb:Nat} {bs:List Nat} {fu:Bool} {sv:Value} {R:Rd} (hb:∀ b ∈ bs, b ≤ 255) (hl:bs.length ≤ 1099511627776) (hat:R.at_ ≤ bs.length) {w:World} {B:Heap} {C:Nat → Prop} (hB:B.Le (hp w)) (hs:BsV bs fu sv B) (hr:(GRd rb sv R).P B w C) (hC:∀ k, C k → k < w.heap.size ∧ B k = none) :
  RetX Tryz.prog 142 [za3 rb] w B C (GRd rb sv (zwa bs R).2) (.int .u64 ((zwa bs R).1:Nat)):=by
 obtain ⟨p, c, rfl⟩:=zcj hs
 unfold RetX
 refine zah 900 (GRd rb _ R) Tryz.func142 rfl Tryz.ntmps142 (Nat.le_of_ble_eq_true rfl) hB hr hC ?_
 rw [zae]
 obtain ⟨z, hz⟩:∃ z, zwa bs R = z:=⟨_, rfl⟩
 rw [hz]
 refine ZZ ?_;refine Zf ?_;refine Z2 ?_;refine ZbI ?_
 refine zan (fun x:Nat × Nat × Rd => [(0, .is (za3 rb)), (3, .is (.int .u64 x.2.1)), (6, .is (.int .i64 x.1)), (900, .own (zaj rb (rdC (.slice p bs.length c) x.2.2) zgo))]) (fun x => x.1 ≤ 10 ∧ x.2.1 < 128 ^ x.1 ∧ x.2.2.at_ ≤ bs.length ∧ z15 bs (10 - x.1) x.1 x.2.1 x.2.2 = z) (fun x => 10 - x.1) (0, 0, R) ⟨Nat.zero_le _, by show (0:Nat) < 128 ^ 0; decide, hat, hz⟩ ⟨rfl, rfl, rfl, rfl, trivial⟩ ?_
 rintro ⟨i, acc, ⟨at_, bad, err⟩⟩ ⟨hi, hacc, ha, hn⟩
 dsimp only [rdC] at hi hacc ha hn ⊢
 by_cases hlt:i < 10
 ·obtain ⟨f, hf⟩:∃ f, 10 - i = f + 1:=⟨9 - i, by omega⟩
  rw [hf] at hn
  unfold z15 at hn
  cases hg:bs[at_]? with
  | none =>
   have hal:at_ = bs.length:=by have:=List.getElem?_eq_none_iff.1 hg; omega
   subst hal
   dsimp only at hn
   rw [hg] at hn
   subst hn
   refine Zdt ?_;refine Zi ?_;refine Zf ?_;refine Zeo ?_;refine ZaE ?_;refine ZcW ?_;refine zd (y7 rfl rfl rfl rfl (decide_eq_true (by omega))) rfl ?_;refine Zb9 ?_;refine ZbR ?_;refine Zb ?_;refine Z0 ?_;refine Zdy ?_;refine q8 (zao L 900 (GRd rb (.slice p bs.length c) ((⟨bs.length, bad, err⟩:Rd).fail bs.length 17)) (r:=GRd rb (.slice p bs.length c) ⟨bs.length, bad, err⟩) rfl rfl rfl rfl rfl (fun u H C2 hH _ hr2 hC2 => zi0 hH hr2 hC2)) ?_;refine Zj ?_;refine ZH ?_;refine Zc ?_
   exact za4 L 900 (r:=zab rb _ zgo) (rs:=[.tmp 2]) rfl (fun _ _ h => h) Since.refl rfl rfl (fun _ => rfl)
  | some b =>
   have hb255:b ≤ 255:=hb b (List.mem_of_getElem? hg)
   have hcr:=z3x hg
   have hlt2:=get_lt hg
   dsimp only at hn
   rw [hg] at hn
   dsimp only at hn
   by_cases hbad:i = 9 ∧ b ≠ 1 ∨ 0 < i ∧ b = 0
   ·rw [if_pos hbad] at hn
    subst hn
    by_cases h9:i = 9 ∧ b ≠ 1
    ·obtain ⟨h9, h91⟩:=h9
     refine Zdt ?_;refine Zi ?_;refine Zf ?_;refine Zeo ?_;refine ZaE ?_;refine ZcW ?_;refine ZdY ?_;refine ZbP ?_;refine Ze8 ?_;refine ZcV ?_;refine q7 (StepOKR.seeV (zx L (q:=900) rfl rfl rfl rfl rfl rfl) hs) rfl rfl ?_;refine ZaE ?_;refine Zc4 ?_;refine Ze9 ?_;refine ZcX ?_;refine Zaz ?_;refine Z9 ?_;refine Zb ?_;refine Zam ?_;refine Zg ?_;refine Zdp ?_;refine ZaA ?_;refine Zc6 ?_;refine Z0 ?_;refine q8 (zao L 900 (GRd rb (.slice p bs.length c) ((⟨at_, bad, err⟩:Rd).fail at_ 5)) (r:=GRd rb (.slice p bs.length c) ⟨at_, bad, err⟩) rfl rfl rfl rfl rfl (fun u H C2 hH _ hr2 hC2 => zi0 hH hr2 hC2)) ?_;refine Zj ?_;refine ZE ?_;refine Zc ?_
     exact za4 L 900 (r:=zab rb _ zgo) (rs:=[.tmp 2]) rfl (fun _ _ h => h) Since.refl rfl rfl (fun _ => rfl)
    ·have h10:0 < i ∧ b = 0:=by omega
     obtain ⟨h10, h0b⟩:=h10
     by_cases h9:i = 9
     ·exfalso; omega
     ·refine Zdt ?_;refine Zi ?_;refine Zf ?_;refine Zeo ?_;refine ZaE ?_;refine ZcW ?_;refine ZdY ?_;refine ZbP ?_;refine Ze8 ?_;refine ZcV ?_;refine q7 (StepOKR.seeV (zx L (q:=900) rfl rfl rfl rfl rfl rfl) hs) rfl rfl ?_;refine ZaE ?_;refine Zc4 ?_;refine Ze9 ?_;refine ZcX ?_;refine Zaz ?_;refine ZL ?_;refine Zbs ?_;refine Zg ?_;refine Zbe ?_;refine Zb ?_;refine Z9 ?_;refine Zg ?_;refine ZaA ?_;refine Zc6 ?_;refine Z0 ?_;refine q8 (zao L 900 (GRd rb (.slice p bs.length c) ((⟨at_, bad, err⟩:Rd).fail at_ 5)) (r:=GRd rb (.slice p bs.length c) ⟨at_, bad, err⟩) rfl rfl rfl rfl rfl (fun u H C2 hH _ hr2 hC2 => zi0 hH hr2 hC2)) ?_;refine Zj ?_;refine ZE ?_;refine Zc ?_
      exact za4 L 900 (r:=zab rb _ zgo) (rs:=[.tmp 2]) rfl (fun _ _ h => h) Since.refl rfl rfl (fun _ => rfl)
   ·rw [if_neg hbad] at hn
    have hw1:IntKind.i64.wrap ((at_:Int) + 1) = ((at_ + 1:Nat):Int):=zaa (by omega) (by omega)
    have hand:=z0w hb255
    have hcv:IntKind.u64.wrap ((b % 128:Nat):Int) = ((b % 128:Nat):Int):=wrap_u64 (by omega) (by omega)
    have hpw:128 ^ i ≤ 128 ^ 9:=Nat.pow_le_pow_right (by decide) (by omega)
    have hnx:acc + b % 128 * 128 ^ i < 2 ^ 64:=by
     by_cases h9:i = 9
     ·have hb1:b = 1:=by omega
      subst h9; subst hb1
      have:(128:Nat) ^ 9 = 9223372036854775808:=by decide
      omega
     ·have h1:=zrm (b:=b) hacc
      have h2:128 ^ (i + 1) ≤ 128 ^ 9:=Nat.pow_le_pow_right (by decide) (by omega)
      have:(128:Nat) ^ 9 = 9223372036854775808:=by decide
      omega
    have hsh:IntKind.u64.wrap (((b % 128:Nat):Int) * 2 ^ min (7 * (i:Int)).toNat IntKind.u64.bits) = ((b % 128 * 128 ^ i:Nat):Int):=by
     have e1:min (7 * (i:Int)).toNat IntKind.u64.bits = 7 * i:=by
      show min (7 * (i:Int)).toNat 64 = 7 * i
      omega
     rw [e1, show ((b % 128:Nat):Int) * 2 ^ (7 * i) = ((b % 128 * 128 ^ i:Nat):Int) by rw [zpl]; push_cast; rfl]
     exact wrap_u64 (by omega) (by omega)
    have hor:bits .or .u64 (acc:Int) ((b % 128 * 128 ^ i:Nat):Int) = ((acc + b % 128 * 128 ^ i:Nat):Int):=by
     rw [bits_or_u64_nat _ _ (by omega) (by omega)]
     congr 1
     have:=zyt (a:=acc) (b:=b % 128) (i:=7 * i) (by rw [← zpl]; exact hacc)
     rwa [← zpl] at this
    have hwk:IntKind.i64.wrap ((i:Int) + 1) = ((i + 1:Nat):Int):=zaa (by omega) (by omega)
    have hnl:=zrm (b:=b) hacc
    generalize b % 128 * 128 ^ i = sh at hn hsh hor hnx hnl
    by_cases hlast:b < 128
    ·rw [if_pos hlast] at hn
     subst hn
     by_cases h9:i = 9
     ·have hb1:b = 1:=by omega
      subst hb1
      refine Zdt ?_;refine Zi ?_;refine Zf ?_;refine Zeo ?_;refine ZaE ?_;refine ZcW ?_;refine ZdY ?_;refine ZbP ?_;refine Ze8 ?_;refine ZcV ?_;refine q7 (StepOKR.seeV (zx L (q:=900) rfl rfl rfl rfl rfl rfl) hs) rfl rfl ?_;refine ZaE ?_;refine Zc4 ?_;refine Ze9 ?_;refine ZcX ?_;refine Zaz ?_;refine Z9 ?_;refine Zb ?_;refine Zbw ?_;refine Zbe ?_;refine Zb ?_;refine ZL ?_;refine Zg ?_;refine Zai ?_;refine Zdz ?_;refine Z0 ?_;refine ZM ?_;refine Zar ?_;refine zam (qs L (q:=900) (cs':=[.slice p bs.length c, .int .i64 (at_ + 1:Nat), .int .i64 bad, .int .i64 err]) rfl rfl rfl rfl rfl rfl rfl rfl rfl) ?_;refine Zj ?_;refine ZbO ?_;refine Zb ?_;refine ZeV ?_;refine z7 (za2 rfl rfl rfl ze9.1 ze9.2 (wrap_u64 (by omega) (by omega))) rfl ?_;refine Za ?_;refine Ze7 ?_;refine Zfm ?_;refine ZeW ?_;refine Zd ?_;refine Zc5 ?_;refine Zcl ?_;refine yd ?_;refine zft rfl ?_;refine ZeL ?_;refine ZbH ?_;refine ZbQ ?_;refine Zc ?_
      exact za4 L 900 (r:=zab rb _ zgo) (rs:=[.tmp 2]) rfl (fun _ _ h => h) Since.refl rfl rfl (fun _ => rfl)
     ·by_cases h0:0 < i
      ·have hb0:b ≠ 0:=by omega
       refine Zdt ?_;refine Zi ?_;refine Zf ?_;refine Zeo ?_;refine ZaE ?_;refine ZcW ?_;refine ZdY ?_;refine ZbP ?_;refine Ze8 ?_;refine ZcV ?_;refine q7 (StepOKR.seeV (zx L (q:=900) rfl rfl rfl rfl rfl rfl) hs) rfl rfl ?_;refine ZaE ?_;refine Zc4 ?_;refine Ze9 ?_;refine ZcX ?_;refine Zaz ?_;refine ZL ?_;refine Zbs ?_;refine Zg ?_;refine Zbe ?_;refine Zb ?_;refine ZL ?_;refine Zg ?_;refine Zai ?_;refine Zdz ?_;refine Z0 ?_;refine ZM ?_;refine Zar ?_;refine zam (qs L (q:=900) (cs':=[.slice p bs.length c, .int .i64 (at_ + 1:Nat), .int .i64 bad, .int .i64 err]) rfl rfl rfl rfl rfl rfl rfl rfl rfl) ?_;refine Zj ?_;refine ZbO ?_;refine Zb ?_;refine ZeV ?_;refine z7 (za2 rfl rfl rfl ze9.1 ze9.2 (wrap_u64 (by omega) (by omega))) rfl ?_;refine Za ?_;refine Ze7 ?_;refine Zfm ?_;refine ZeW ?_;refine Zd ?_;refine Zc5 ?_;refine Zcl ?_;refine yd ?_;refine zft rfl ?_;refine ZeL ?_;refine ZbH ?_;refine ZbQ ?_;refine Zc ?_
       exact za4 L 900 (r:=zab rb _ zgo) (rs:=[.tmp 2]) rfl (fun _ _ h => h) Since.refl rfl rfl (fun _ => rfl)
      ·refine Zdt ?_;refine Zi ?_;refine Zf ?_;refine Zeo ?_;refine ZaE ?_;refine ZcW ?_;refine ZdY ?_;refine ZbP ?_;refine Ze8 ?_;refine ZcV ?_;refine q7 (StepOKR.seeV (zx L (q:=900) rfl rfl rfl rfl rfl rfl) hs) rfl rfl ?_;refine ZaE ?_;refine Zc4 ?_;refine Ze9 ?_;refine ZcX ?_;refine Zaz ?_;refine ZL ?_;refine Zbs ?_;refine ZcS ?_;refine Z3 ?_;refine Zbs ?_;refine Zg ?_;refine Zai ?_;refine Zdz ?_;refine Z0 ?_;refine ZM ?_;refine Zar ?_;refine zam (qs L (q:=900) (cs':=[.slice p bs.length c, .int .i64 (at_ + 1:Nat), .int .i64 bad, .int .i64 err]) rfl rfl rfl rfl rfl rfl rfl rfl rfl) ?_;refine Zj ?_;refine ZbO ?_;refine Zb ?_;refine ZeV ?_;refine z7 (za2 rfl rfl rfl ze9.1 ze9.2 (wrap_u64 (by omega) (by omega))) rfl ?_;refine Za ?_;refine Ze7 ?_;refine Zfm ?_;refine ZeW ?_;refine Zd ?_;refine Zc5 ?_;refine Zcl ?_;refine yd ?_;refine zft rfl ?_;refine ZeL ?_;refine ZbH ?_;refine ZbQ ?_;refine Zc ?_
       exact za4 L 900 (r:=zab rb _ zgo) (rs:=[.tmp 2]) rfl (fun _ _ h => h) Since.refl rfl rfl (fun _ => rfl)
    ·rw [if_neg hlast] at hn
     have h9:i ≠ 9:=by omega
     have hf9:f = 10 - (i + 1):=by omega
     rw [hf9] at hn
     by_cases h0:0 < i
     ·have hb0:b ≠ 0:=by omega
      refine Zdt ?_;refine Zi ?_;refine Zf ?_;refine Zeo ?_;refine ZaE ?_;refine ZcW ?_;refine ZdY ?_;refine ZbP ?_;refine Ze8 ?_;refine ZcV ?_;refine q7 (StepOKR.seeV (zx L (q:=900) rfl rfl rfl rfl rfl rfl) hs) rfl rfl ?_;refine ZaE ?_;refine Zc4 ?_;refine Ze9 ?_;refine ZcX ?_;refine Zaz ?_;refine ZL ?_;refine Zbs ?_;refine Zg ?_;refine Zbe ?_;refine Zb ?_;refine ZL ?_;refine Zg ?_;refine Zai ?_;refine Zdz ?_;refine Z0 ?_;refine ZM ?_;refine Zar ?_;refine zam (qs L (q:=900) (cs':=[.slice p bs.length c, .int .i64 (at_ + 1:Nat), .int .i64 bad, .int .i64 err]) rfl rfl rfl rfl rfl rfl rfl rfl rfl) ?_;refine Zj ?_;refine ZbO ?_;refine Zb ?_;refine ZeV ?_;refine z7 (za2 rfl rfl rfl ze9.1 ze9.2 (wrap_u64 (by omega) (by omega))) rfl ?_;refine Za ?_;refine Ze7 ?_;refine Zfm ?_;refine ZeW ?_;refine Zd ?_;refine Zc5 ?_;refine Z7 ?_;refine Zbj ?_;refine Zag ?_;refine ZM ?_;refine Zdm ?_
      exact qy (x:=(i, acc, ⟨at_, bad, err⟩)) (i + 1, acc + sh, ⟨at_ + 1, bad, err⟩) ⟨hlt, hnl, hlt2, hn⟩ (by dsimp only; omega) ⟨rfl, rfl, rfl, rfl, trivial⟩
     ·refine Zdt ?_;refine Zi ?_;refine Zf ?_;refine Zeo ?_;refine ZaE ?_;refine ZcW ?_;refine ZdY ?_;refine ZbP ?_;refine Ze8 ?_;refine ZcV ?_;refine q7 (StepOKR.seeV (zx L (q:=900) rfl rfl rfl rfl rfl rfl) hs) rfl rfl ?_;refine ZaE ?_;refine Zc4 ?_;refine Ze9 ?_;refine ZcX ?_;refine Zaz ?_;refine ZL ?_;refine Zbs ?_;refine ZcS ?_;refine Z3 ?_;refine Zbs ?_;refine Zg ?_;refine Zai ?_;refine Zdz ?_;refine Z0 ?_;refine ZM ?_;refine Zar ?_;refine zam (qs L (q:=900) (cs':=[.slice p bs.length c, .int .i64 (at_ + 1:Nat), .int .i64 bad, .int .i64 err]) rfl rfl rfl rfl rfl rfl rfl rfl rfl) ?_;refine Zj ?_;refine ZbO ?_;refine Zb ?_;refine ZeV ?_;refine z7 (za2 rfl rfl rfl ze9.1 ze9.2 (wrap_u64 (by omega) (by omega))) rfl ?_;refine Za ?_;refine Ze7 ?_;refine Zfm ?_;refine ZeW ?_;refine Zd ?_;refine Zc5 ?_;refine Z7 ?_;refine Zbj ?_;refine Zag ?_;refine ZM ?_;refine Zdm ?_
      exact qy (x:=(i, acc, ⟨at_, bad, err⟩)) (i + 1, acc + sh, ⟨at_ + 1, bad, err⟩) ⟨hlt, hnl, hlt2, hn⟩ (by dsimp only; omega) ⟨rfl, rfl, rfl, rfl, trivial⟩
 ·have hf:10 - i = 0:=by omega
  rw [hf] at hn
  unfold z15 at hn
  subst hn
  refine ZfM ?_;refine ZaD ?_;refine ZbQ ?_;refine Zc ?_
  exact za4 L 900 (r:=zab rb _ zgo) (rs:=[.tmp 2]) rfl (fun _ _ h => h) Since.refl rfl rfl (fun _ => rfl)
end Go.V.L4
set_option maxRecDepth 20000
namespace Go.V.L11
open Go.Proofs Go.RowKit Go.V Go.V.L2 Go.V.L4
theorem _root_.Go.V.Zc7 {A B:Prop} (h:B) (t:Wr B → A:=by intro h; refine zd (qg rfl rfl rfl rfl (zaa (by omega) (by omega))) rfl ?_;exact h.h):A:=t ⟨h⟩
theorem _root_.Go.V.ZcY {A B:Prop} (h:B) (t:Wr B → A:=by intro h; refine qw (zx L (q:=78) rfl rfl rfl rfl rfl rfl) ?_;exact h.h):A:=t ⟨h⟩
theorem _root_.Go.V.Zf0 {A B:Prop} (h:B) (t:Wr B → A:=by intro h; refine q7 (zx L (q:=78) rfl rfl rfl rfl rfl rfl) rfl rfl ?_;exact h.h):A:=t ⟨h⟩
theorem _root_.Go.V.Zc8 {A B:Prop} (h:B) (t:Wr B → A:=by intro h; refine zq ?_;refine zj ?_;exact h.h):A:=t ⟨h⟩
theorem _root_.Go.V.Zc9 {A B:Prop} (h:B) (t:Wr B → A:=by intro h; refine Zc8 ?_;refine ZI ?_;exact h.h):A:=t ⟨h⟩
theorem _root_.Go.V.ZcA {A B:Prop} (h:B) (t:Wr B → A:=by intro h; refine Zz ?_;refine Zc9 ?_;exact h.h):A:=t ⟨h⟩
theorem _root_.Go.V.Zbx {A B:Prop} (h:B) (t:Wr B → A:=by intro h; refine Zdk ?_;refine Zfx ?_;exact h.h):A:=t ⟨h⟩
abbrev znb:Nat:=9
abbrev zb6 (l:List ByteArray):zbo:=l.map fun x => [Value.string x]
theorem z2j {c:UInt8}:∀ {l:List UInt8}, c ∉ l → Lib.indexByte l c = -1
 | [], _ => rfl
 | x :: l, h => by
  rw [List.mem_cons, not_or] at h
  unfold Lib.indexByte
  rw [if_neg (by simpa using Ne.symm h.1), z2j h.2]
  rfl
theorem zyz {c:UInt8} {q:List UInt8}:∀ {p:List UInt8}, c ∉ p → Lib.indexByte (p ++ c :: q) c = (p.length:Int)
 | [], _ => by
  show Lib.indexByte (c :: q) c = 0
  unfold Lib.indexByte
  rw [if_pos (by simp)]
 | x :: p, h => by
  rw [List.mem_cons, not_or] at h
  show Lib.indexByte (x :: (p ++ c :: q)) c = _
  unfold Lib.indexByte
  rw [if_neg (by simpa using Ne.symm h.1), zyz h.2, if_neg (by simp)]
  rfl
attribute [local irreducible] V N X VO Par StepOK Has Ret RetL RetO RetT zbd RetX RetY Src
theorem zg1 {s:ByteArray} {k:Int} (hk:Lib.indexByte s.data.toList 10 = k) {w:World} {B:Heap} (hB:B.Le (hp w)) :
  Ret Tryz.prog 258 [.string s, .int .u8 10] w B (fun v _ => v = .int .i64 k):=by
 subst hk
 exact Ret.of_same hB (Tryz.strings_IndexByte s 10 w)
theorem zre {s r:ByteArray} {f:Bool} (hs:s.size ≤ 9223372036854775807) (h:Lib.hasSuffix s.data.toList [10] = f) (hr:(⟨(Lib.trimSuffix s.data.toList [10]).toArray⟩:ByteArray) = r) {w:World} {B:Heap} (hB:B.Le (hp w)) :
  Ret Tryz.prog 130 [.string s, .string ⟨#[10]⟩] w B (fun v _ => v = .tuple #[.string r, .bool f]):=by
 subst h hr
 exact Ret.of_same hB (Tryz.strings_CutSuffix s ⟨#[10]⟩ w hs)
theorem zk3 {stop:zbo → Bool} {x:List Value} {xs pre:zbo} (h:stop (pre ++ [x]) = false):za7 stop pre (x :: xs) = za7 stop (pre ++ [x]) xs:=by
 simp only [za7]
 rw [if_neg (by rw [h]; decide)]
theorem znk {stop:zbo → Bool} {x:List Value} {xs pre:zbo} (h:stop (pre ++ [x]) = true):za7 stop pre (x :: xs) = pre ++ [x]:=by
 simp only [za7]
 rw [if_pos h]
theorem zqm {r:ByteArray} (h:r ≠ ⟨#[]⟩):0 < r.size:=by
 rcases Nat.eq_zero_or_pos r.size with h0 | h0
 ·exfalso
  apply h
  apply zbf
  have:=zau r
  rw [h0] at this
  exact List.eq_nil_of_length_eq_zero this
 ·exact h0
set_option maxHeartbeats 1000000 in
theorem zw0 {s:ByteArray} (hs:s.size ≤ 1099511627776) {b:Nat} {w:World} {B:Heap} (hB:B.Le (hp w)):z26 Tryz.prog 257 [za3 b] (zab b [.string s] znb) w B (zb6 (zb9 s)):=by
 intro ly J stop C Cg hst hY hJ hC hg hCg hd
 refine zah 77 (zfv (J []) (zab b [.string s] znb)) Tryz.func257 rfl Tryz.ntmps257 (Nat.le_of_ble_eq_true rfl) hB ⟨C, Cg, hJ, hg, fun _ => Iff.rfl, hd⟩ (fun k hk => hk.elim (hC k) (hCg k)) ?_
 rw [zd0]
 refine zdi 77 78 rfl (fun _ _ _ _ _ h => h) ?_
 rw [zae]
 refine q6 ?_
 refine zan (fun x:List ByteArray × ByteArray => [(0, .is (.func (.yield ly) #[] #[])), (1, .is (za3 b)), (77, .own (J (zb6 x.1)).res), (78, .own (zaj b [.string x.2] znb))])
  (fun x => zb6 x.1 ++ zb6 (zb9 x.2) = zb6 (zb9 s) ∧ za7 stop [] (zb6 (zb9 s)) = za7 stop (zb6 x.1) (zb6 (zb9 x.2)) ∧ stop (zb6 x.1) = false ∧ x.2.size ≤ s.size) (fun x => x.2.size) ([], s) ⟨rfl, rfl, hst, Nat.le_refl _⟩ ⟨rfl, rfl, rfl, rfl, trivial⟩ ?_
 rintro ⟨pre, r⟩ ⟨h1, h2, h3, h4⟩
 dsimp only at h1 h2 h3 h4 ⊢
 by_cases hr:r = ⟨#[]⟩
 ·subst hr
  have h0:(⟨#[]⟩:ByteArray).size = 0:=rfl
  rw [ziv] at h2
  refine zh ?_;refine ZO ?_;refine ZcY ?_;refine ZaB ?_;refine Z3 ?_;refine Zbx ?_
  refine zav (r:=J (zb6 pre)) (r':=J (za7 stop [] (zb6 (zb9 s)))) L 77 rfl (fun _ _ h => h) Since.refl rfl (by rw [h2]; rfl)
 ·have hp0:=zqm hr
  rcases zdf r 10 with hn | ⟨a, c, hac, hn⟩
  ·have e1:=zmq hn hr
   rw [e1] at h1 h2
   have hi:=z2j hn
   have hpre:zb6 pre ++ [[Value.string r]] <+: zb6 (zb9 s):=by rw [← h1]; exact List.prefix_rfl
   cases hb':stop (zb6 pre ++ [[Value.string r]])
   ·refine zh ?_;refine ZO ?_;refine ZcY ?_;refine ZaB ?_;refine ZW ?_;refine ZcA ?_;refine Zn ?_;refine Zf ?_;refine Z5 ?_;refine ZcY ?_;refine z7 (zp L rfl rfl (zk rfl) rfl rfl rfl (fun u H hH _ _ => zg1 hi hH)) rfl ?_;refine Zd ?_;refine Zk ?_;refine ZD ?_;refine Zdk ?_;refine Zw ?_;refine ZcY ?_;refine ZaQ ?_;refine zam (qs L (q:=78) (cs':=[.string ⟨#[]⟩]) rfl rfl rfl rfl rfl rfl rfl rfl rfl) ?_;refine Zj ?_;refine Zak ?_;refine Zb ?_;refine q8 (zch (gs:=77) hY hpre h3 (congrArg Bool.not hb') rfl rfl rfl rfl rfl) ?_;refine Zu ?_;refine ZX ?_;refine qp ?_
    refine qy (x:=(pre, r)) (pre ++ [r], ⟨#[]⟩) ⟨?_, ?_, ?_, Nat.zero_le _⟩ hp0 ⟨rfl, rfl, ?_, rfl, trivial⟩
    ·rw [ziv, ← h1]; simp [zb6]
    ·rw [h2, ziv]
     show za7 stop (zb6 pre) [[Value.string r]] = za7 stop (zb6 (pre ++ [r])) []
     rw [zk3 hb']; simp [zb6]
    ·have:zb6 (pre ++ [r]) = zb6 pre ++ [[Value.string r]]:=by simp [zb6]
     rw [this]; exact hb'
    ·have:zb6 (pre ++ [r]) = zb6 pre ++ [[Value.string r]]:=by simp [zb6]
     dsimp only
     rw [this]; rfl
   ·refine zh ?_;refine ZO ?_;refine ZcY ?_;refine ZaB ?_;refine ZW ?_;refine ZcA ?_;refine Zn ?_;refine Zf ?_;refine Z5 ?_;refine ZcY ?_;refine z7 (zp L rfl rfl (zk rfl) rfl rfl rfl (fun u H hH _ _ => zg1 hi hH)) rfl ?_;refine Zd ?_;refine Zk ?_;refine ZD ?_;refine Zdk ?_;refine Zw ?_;refine ZcY ?_;refine ZaQ ?_;refine zam (qs L (q:=78) (cs':=[.string ⟨#[]⟩]) rfl rfl rfl rfl rfl rfl rfl rfl rfl) ?_;refine Zj ?_;refine Zak ?_;refine Zb ?_;refine q8 (zch (gs:=77) hY hpre h3 (congrArg Bool.not hb') rfl rfl rfl rfl rfl) ?_;refine Zu ?_;refine Zz ?_
    exact za6 L 77 rfl (fun _ _ h => h) Since.refl rfl (by rw [h2]; show _ = J (za7 stop (zb6 pre) [[Value.string r]]); rw [znk hb'])
  ·have e1:zb9 r = (a ++ sNl) :: zb9 c:=by rw [hac]; exact ziw hn
   have hra:r.size = a.size + 1 + c.size:=by rw [hac, ByteArray.size_append, ByteArray.size_append]; rfl
   have hi:Lib.indexByte r.data.toList 10 = (a.size:Int):=by
    rw [hac, zar, zar, List.append_assoc]
    show Lib.indexByte (a.data.toList ++ 10 :: c.data.toList) 10 = _
    rw [zyz hn, zau]
   have x1:r.extract 0 (a.size + 1) = a ++ sNl:=by
    have:=zd2 ⟨#[]⟩ (a ++ sNl) c 0 (a.size + 1) rfl (by rw [ByteArray.size_append]; show _ = 0 + (a.size + 1); omega)
    rw [hac]
    rw [show (a ++ ⟨#[10]⟩ ++ c:ByteArray) = ⟨#[]⟩ ++ (a ++ sNl) ++ c from zbf (by simp [zar])]
    exact this
   have x2:r.extract (a.size + 1) r.size = c:=by
    have:=zd2 (a ++ sNl) c ⟨#[]⟩ (a.size + 1) r.size (by rw [ByteArray.size_append]; rfl) (by rw [ByteArray.size_append]; exact hra)
    rw [show (a ++ sNl ++ c ++ ⟨#[]⟩:ByteArray) = r from zbf (by rw [hac]; simp [zar])] at this
    exact this
   rw [e1] at h1 h2
   have hpre:zb6 pre ++ [[Value.string (a ++ sNl)]] <+: zb6 (zb9 s):=by
    rw [← h1]
    exact ⟨zb6 (zb9 c), by simp [zb6]⟩
   cases hb':stop (zb6 pre ++ [[Value.string (a ++ sNl)]])
   ·refine zh ?_;refine ZO ?_;refine ZcY ?_;refine ZaB ?_;refine ZW ?_;refine ZcA ?_;refine Zn ?_;refine Zf ?_;refine Z5 ?_;refine ZcY ?_;refine z7 (zp L rfl rfl (zk rfl) rfl rfl rfl (fun u H hH _ _ => zg1 hi hH)) rfl ?_;refine Zd ?_;refine Zk ?_;refine Za7 ?_;refine q4 (id:=4) [(200012, [78]), (200016, [78]), (100001, [78])] mixed (by kernel_rfl) ?_;refine Zf0 ?_;refine Zh ?_;refine Zc7 ?_;refine zd (zap L (kl:=.i64) (pl:=0) 0 (a.size + 1) rfl rfl rfl rfl rfl ⟨rfl, by omega⟩ (by omega) (by omega) x1) rfl ?_;refine Zf0 ?_;refine Zh ?_;refine Zc7 ?_;refine zd (zap L (kh:=.i64) (ph:=0) (a.size + 1) _ rfl rfl rfl rfl ⟨rfl, by omega⟩ rfl (by omega) (by omega) x2) rfl ?_;refine Za2 ?_;refine zaf (qs L (q:=78) (cs':=[.string c]) rfl rfl rfl rfl rfl rfl rfl rfl rfl) rfl ?_;refine ZaW ?_;refine Zak ?_;refine Zb ?_;refine q8 (zch (gs:=77) hY hpre h3 (congrArg Bool.not hb') rfl rfl rfl rfl rfl) ?_;refine Zu ?_;refine ZX ?_;refine qp ?_
    have e3:zb6 (pre ++ [a ++ sNl]) = zb6 pre ++ [[Value.string (a ++ sNl)]]:=by simp [zb6]
    refine qy (x:=(pre, r)) (pre ++ [a ++ sNl], c) ⟨?_, ?_, ?_, ?_⟩ ?_ ⟨rfl, rfl, ?_, rfl, trivial⟩
    ·rw [← h1]; simp [zb6]
    ·rw [h2]
     show za7 stop (zb6 pre) ([Value.string (a ++ sNl)] :: zb6 (zb9 c)) = _
     rw [zk3 hb', e3]
    ·rw [e3]; exact hb'
    ·dsimp only; omega
    ·dsimp only; omega
    ·dsimp only
     rw [e3]; rfl
   ·refine zh ?_;refine ZO ?_;refine ZcY ?_;refine ZaB ?_;refine ZW ?_;refine ZcA ?_;refine Zn ?_;refine Zf ?_;refine Z5 ?_;refine ZcY ?_;refine z7 (zp L rfl rfl (zk rfl) rfl rfl rfl (fun u H hH _ _ => zg1 hi hH)) rfl ?_;refine Zd ?_;refine Zk ?_;refine Za7 ?_;refine q4 (id:=4) [(200012, [78]), (200016, [78]), (100001, [78])] mixed (by kernel_rfl) ?_;refine Zf0 ?_;refine Zh ?_;refine Zc7 ?_;refine zd (zap L (kl:=.i64) (pl:=0) 0 (a.size + 1) rfl rfl rfl rfl rfl ⟨rfl, by omega⟩ (by omega) (by omega) x1) rfl ?_;refine Zf0 ?_;refine Zh ?_;refine Zc7 ?_;refine zd (zap L (kh:=.i64) (ph:=0) (a.size + 1) _ rfl rfl rfl rfl ⟨rfl, by omega⟩ rfl (by omega) (by omega) x2) rfl ?_;refine Za2 ?_;refine zaf (qs L (q:=78) (cs':=[.string c]) rfl rfl rfl rfl rfl rfl rfl rfl rfl) rfl ?_;refine ZaW ?_;refine Zak ?_;refine Zb ?_;refine q8 (zch (gs:=77) hY hpre h3 (congrArg Bool.not hb') rfl rfl rfl rfl rfl) ?_;refine Zu ?_;refine Zz ?_
    exact za6 L 77 rfl (fun _ _ h => h) Since.refl rfl (by rw [h2]; show _ = J (za7 stop (zb6 pre) ([Value.string (a ++ sNl)] :: zb6 (zb9 c))); rw [znk hb'])
end Go.V.L11
set_option maxRecDepth 20000
namespace Go.V
open Go.RowKit
def SlX (e:TypeId) (s cap n:Nat) (xs:List Value):Res where
 P x _ u C:=xs.length = n * s ∧ ∃ b rest, x = .slice (some ⟨b, 0, none⟩) n cap ∧ u.heap[b]? = some (.cells (xs ++ rest).toArray e) ∧ n ≤ cap ∧ cap ≤ maxLen ∧ (xs ++ rest).length = cap * s ∧ ∀ k, C k ↔ k = b
 st:=fun ⟨hl, b, rest, h1, h2, h3, h4, h5, h6⟩ _ _ _ hk => ⟨hl, b, rest, h1, (hk b ((h6 b).2 rfl)).trans h2, h3, h4, h5, h6⟩
section
variable {P:Program} {F:Fr} {B:Heap} {O:Boxes} {n:Nat} {ops:Array Oper} {κ:Kap} {d:Nat} {ty:TypeId} {pos:String} {aft:Array Edge} {g:Option (Nat × Bool)} {Q:Exit → Act → World → Prop}
theorem zug (L:Tabs P) {t e:TypeId} {x y:Operand} {kl kc:IntKind} {s by_:Nat} (c:Nat) {p:Int} (hn:Nat.blt d n = true) (hg:gK ops κ ⟨some d, .makeSlice t x y, ty, pos, aft, g⟩ = some true) (ht:L.sl t = some e) (he:elI P e = some (s, by_))
  (hx:evK κ x = some (.int kl 0)) (hy:evK κ y = some (.int kc p)) (hp:p = c) (hb:by_ * c ≤ 281474976710656) (hc:c ≤ maxLen):StepOK P F B n ops O κ ⟨some d, .makeSlice t x y, ty, pos, aft, g⟩ d (.own (SlX e s c 0 [])):=by
 rintro κ' a u hl ⟨H, fp, hh⟩
 unfold After
 rw [if_pos (zai hh hl hg)]
 have en:=hh.env hl
 obtain ⟨i, z, hi, hz, hs1, hs2, hs3, hs4⟩:=zec he
 have h1:=en.is_ x _ (by simp [Op.operands]) hx
 have h2:=en.is_ y _ (by simp [Op.operands]) hy
 subst hp
 have hb':(i.bytes:Int) * (c:Int) ≤ 281474976710656:=by
  have h:((by_ * c:Nat):Int) ≤ 281474976710656:=by omega
  rw [hs2]; rwa [Int.natCast_mul] at h
 have h63:(c:Int) ≤ 9223372036854775807:=by simp [maxLen] at hc; omega
 have hr:=run_make (P:=P) u t e i z (Tabs.sl_spec ht) hi hz kl kc 0 c (Int.le_refl _) (by omega) hb' h63
 simp only [Int.toNat_zero, Int.toNat_natCast] at hr
 have hrun:(execOp a.eval ⟨some d, .makeSlice t x y, ty, pos, aft, g⟩).run P u = .ok (.value (.slice (some ⟨u.heap.size, 0, none⟩) 0 c)) (u.alloc (.cells (madeCells z.cells (c * i.size)) e)):=by
  simp only [execOp, h1, h2, Sem.run_bind, hr, Result.andThen_ok]; rfl
 rw [hrun]
 simp only [Upon]
 have hg2:=hh.grow (Grow.hid hh.sub (.cells (madeCells z.cells (c * i.size)) e))
 refine ⟨H, _, hg2.putR (C:=fun k => k = u.heap.size) (by simp [Act.put]) rfl (fun t ht => zat ht) ⟨by simp, u.heap.size, (madeCells z.cells (c * i.size)).toList, zay (by rw [hh.size]; exact zk hn), by rw [zaq]; simp, Nat.zero_le _, hc, by simp [size_madeCells, hs1], fun _ => Iff.rfl⟩ (fun k hk => ?_) fun t r' _ ht k hf hk => ?_⟩
 ·subst hk
  exact ⟨zac (zaq u _), za9 hh.sub (Nat.le_refl _), .inl hh.keep.size, fun y hy e => by have:=zac (hh.boxes y hy).1; omega⟩
 ·have:=((hh.slot t _ ht).2 k hf).1
  omega
theorem zx8 (t q:Nat) {e:TypeId} {s cap m:Nat} {xs:List Value} {c:Code} (hk:κ t = some (.own (SlX e s cap m xs)))
  (h:∀ b rest, xs.length = m * s → m ≤ cap → cap ≤ maxLen → (xs ++ rest).length = cap * s → V P F B n O (upd (upd (upd κ t zdv) q (.own (zaj b (xs ++ rest) e))) t (.is (.slice (some ⟨b, 0, none⟩) m cap))) c Q):V P F B n O κ c Q:=fun a u hh => by
 obtain ⟨H, fp, hh⟩:=hh
 obtain ⟨⟨hl, b, rest, hv, hb, h3, h4, h5, hC⟩, hM⟩:=hh.slot t _ hk
 have h2:=hh.usePut (d:=q) (a':=a) (r':=zaj b (xs ++ rest) e) (C:=fp t) hk ⟨Keep.refl _ _, hh.sub, Heap.Le.refl _, fun _ _ _ => rfl⟩ rfl rfl (fun _ _ => rfl) ⟨hb, hC⟩ fun k hk => ⟨.inl hk, (hM k hk).1, (hM k hk).2.1⟩
 have h3':=h2.name t
 rw [hv] at h3'
 exact h b rest hl h3 h4 h5 a u ⟨H, _, h3'⟩
theorem zpu (L:Tabs P) {q b nn cap m:Nat} {x y:Operand} {t e:TypeId} {s by_:Nat} {cur news cur':List Value} (hn:Nat.blt d n = true) (hg:gK ops κ ⟨some d, .call ⟨.builtin .append, #[x, y], #[t, t]⟩, ty, pos, aft, g⟩ = some true)
  (hx:evK κ x = some (.slice (some ⟨b, 0, none⟩) nn cap)) (hq:κ q = some (.own (zaj b cur e))) (hy:Apd F B O κ y m news) (ht:L.sl t = some e) (he:elI P e = some (s, by_)) (hm:0 < m) (hnl:news.length = m * s) (hroom:nn + m ≤ cap) (hcl:nn * s + m * s ≤ cur.length) (h1:news.all zdh = true)
  (hr:cur.take (nn * s) ++ (news ++ cur.drop (nn * s + m * s)) = cur') :
  zcl P F B n ops O κ ⟨some d, .call ⟨.builtin .append, #[x, y], #[t, t]⟩, ty, pos, aft, g⟩ q (.own (zaj b cur' e)) d (.is (.slice (some ⟨b, 0, none⟩) (nn + m) cap)):=by
 rintro κ' a u hlk hks ⟨H, fp, hh⟩
 unfold After
 rw [if_pos (zai hh hlk hg)]
 have en:=hh.env hlk
 have hk':κ' q = some (.own (zaj b cur e)):=hks.trans hq
 have hxe:=en.is_ x _ (by simp [Op.operands, Call.operands]) hx
 obtain ⟨⟨hb, hC⟩, hM⟩:=hh.slot q _ hk'
 obtain ⟨i, z, hi, hz, hs1, hs2, hs3, hs4⟩:=zec he
 subst hs1
 rcases hy _ a u H fp (by simp [Op.operands, Call.operands]) en with ⟨h0, _⟩ | ⟨ad, c', hye, hcy⟩
 ·omega
 have hrun0:=run_append_room (P:=P) u t ty e i (Tabs.sl_spec ht) hi b nn cap cur.toArray hb ad m c' news hnl hcy (fun v hv => zjs (List.all_eq_true.1 h1 v hv)) hroom (by rw [hnl]; simpa using hcl)
 rw [hnl] at hrun0
 simp only [List.append_assoc] at hrun0
 rw [hr] at hrun0
 have hrun:(execOp a.eval ⟨some d, .call ⟨.builtin .append, #[x, y], #[t, t]⟩, ty, pos, aft, g⟩).run P u = .ok (.value (.slice (some ⟨b, 0, none⟩) (nn + m) cap)) (u.setRow b cur'.toArray):=by
  simp only [execOp, resolve, invoke, builtin, Sem.run_bind, Sem.run_pure, Result.andThen_ok, List.map_toArray, List.map_cons, List.map_nil, hxe, hye, hrun0]
 rw [hrun]
 simp only [Upon]
 have hbm:=hM b ((hC b).2 rfl)
 have h2:=hh.usePut (d:=q) (a':=a) (r':=zaj b cur' e) (C:=fun k => k = b) hk' (zcz hh.sub hb ((hC b).2 rfl) hbm.2.1 _) rfl rfl (fun _ _ => rfl) ⟨setRow_heap u b cur.toArray cur'.toArray e (0, 0) hb, fun _ => Iff.rfl⟩ (fun k hk => by
  subst hk; exact ⟨.inl ((hC k).2 rfl), by rw [setRow_size]; exact hbm.1, hbm.2.1⟩)
 rw [zbw] at h2
 exact ⟨H, _, h2.put (k:=.is _) (zk hn) trivial rfl⟩
end
end Go.V
set_option maxRecDepth 20000
namespace Go.V
open Go.RowKit
section
variable {P:Program} {F:Fr} {B:Heap} {O:Boxes} {n:Nat} {ops:Array Oper} {κ:Kap} {d:Nat} {ty:TypeId} {pos:String} {aft:Array Edge} {g:Option (Nat × Bool)} {Q:Exit → Act → World → Prop}
theorem zwg {κ:Kap} {q:Nat} {k:Kn} (h:κ q = some k):upd κ q k = κ:=by
 funext t
 by_cases e:t = q
 ·subst e; rw [zak]; exact h.symm
 ·rw [zad _ _ e]
theorem zgx (L:Tabs P) (q:Nat) (φ:Value → Heap → Prop) {r:GR} {f:Nat} {args:Array Operand} {at_:Array TypeId} {cap:List Value} {fo:Operand}
  (hn:Nat.blt d n = true) (hg:gK ops κ ⟨some d, .call { callee:=.value fo, args:=args, argTypes:=at_ }, ty, pos, aft, g⟩ = some true)
  (hf:evK κ fo = some (.func (.func f) #[] cap.toArray)) (hfn:L.fn f = some ()) (hq:κ q = some (.own r.res)) (hm:Kn.mono (.sat φ))
  (h:∀ u H C, H.Le (hp u) → B.Le H → r.P H u C → (∀ k, C k → k < u.heap.size ∧ H k = none) → Args κ H args.toList [] (fun vs => RetY P f (vs ++ cap) u H C r φ)) :
  StepOKR P F B n ops O κ ⟨some d, .call { callee:=.value fo, args:=args, argTypes:=at_ }, ty, pos, aft, g⟩ q d (.sat φ):=by
 rintro κ' a u hlk hks ⟨H, fp, hh⟩
 unfold After
 rw [if_pos (zai hh hlk hg)]
 have hk':κ' q = some (.own r.res):=hks.trans hq
 obtain ⟨hown, hM⟩:=hh.slot q _ hk'
 have e2:=hh.env hlk
 have hfe:a.eval fo = .func (.func f) #[] cap.toArray:=e2.is_ fo _ (by simp [Op.operands, Call.operands]) hf
 have hc:=Args.use e2 args.toList [] (fun x hx => by simp [Op.operands, Call.operands] at hx ⊢; exact .inr hx) (h u H (fp q) hh.sub hh.base hown fun k hk => ⟨(hM k hk).1, (hM k hk).2.1⟩)
 simp only [List.reverse_nil, List.nil_append] at hc
 rw [zc3 L rfl hfe hfn]
 simp only [Upon]
 refine Calls.mono hc fun e' u' hp => ?_
 obtain ⟨x, rfl, H', g', hx, C', hv, hC'⟩:=hp
 have h2:=hh.usePut (d:=q) (a':=a) (r':=r.res) hk' g' rfl rfl (fun _ _ => rfl) hv hC'
 rw [zbw, zwg hk'] at h2
 exact ⟨x, rfl, H', _, h2.put (k:=.sat φ) (zk hn) hm hx⟩
end
theorem RetT.pubY {P:Program} {f:FuncId} {args:List Value} {w:World} {B:Heap} {C:Nat → Prop} {r:GR} {r1:Res} {φ:Value → Heap → Prop} (h:RetT P f args w B C (zhf r1 r.res)) (hl:z34 r1 φ):RetY P f args w B C r φ :=
 Calls.mono h fun _ u ⟨v, he, H, g, C', ⟨C1, C2, h1, h2, h3, h4⟩, h5⟩ => by
  have hs:=zg0 (u:=u) (C:=C1) g.sub
  have hle:=zmt (u:=u) fun k hk => (h5 k ((h3 k).2 (.inl hk))).2.2
  refine ⟨v, he, joinH H u C1, ⟨g.keep, hs, fun k x hx => hle _ _ (g.le _ _ hx), fun k hk hn => (zdy fun hc => ?_).trans (g.fresh k hk hn)⟩, hl _ _ _ _ h1, C2, r.st h2 hle hs (On.refl u) (fun _ _ => rfl), fun k hk => ⟨(h5 k ((h3 k).2 (.inr hk))).1, (h5 k ((h3 k).2 (.inr hk))).2.1, (zdy fun hc => h4 k hc hk).trans (h5 k ((h3 k).2 (.inr hk))).2.2⟩⟩
  rcases (h5 k ((h3 k).2 (.inl hc))).1 with h6 | h6
  ·exact hn h6
  ·omega
theorem RetY.ex {P:Program} {f:FuncId} {args:List Value} {w:World} {B:Heap} {C:Nat → Prop} {X:Type} {r:X → GR} {φ:X → Heap → Prop} {hφ:zhe φ} {ψ:Value → Heap → Prop} (hr:(GEx r φ hφ).P B w C) (h:∀ x, φ x B → (r x).P B w C → RetY P f args w B C (r x) ψ):RetY P f args w B C (GEx r φ hφ) ψ:=by
 obtain ⟨x, h1, h2⟩:=hr
 exact RetL.mono (h x h1 h2) fun v H u hg ⟨h3, C', h4, h5⟩ => ⟨h3, C', ⟨x, hφ _ _ _ h1 hg.le, h4⟩, h5⟩
end Go.V
set_option maxRecDepth 20000
namespace Go.V
open Go.RowKit
def MiE {V:Type} (kd:IntKind) (vc:V → Value) (l:List (Int × V)) (es:List MapEntry):Prop:=es.map (fun e => (e.key, e.val)) = l.map fun p => (Value.int kd p.1, vc p.2)
section
variable {P:Program} {V:Type} {kd:IntKind} {vc:V → Value} {l:List (Int × V)} {t kt et:TypeId}
theorem zqx {p:Int × V} {l:List (Int × V)} {es:List MapEntry} (h:MiE kd vc (p :: l) es):∃ e r, es = e :: r ∧ e.key = .int kd p.1 ∧ e.val = vc p.2 ∧ MiE kd vc l r:=by
 unfold MiE at h
 cases es with
 | nil => simp at h
 | cons e r =>
  simp at h
  exact ⟨e, r, rfl, h.1.1, h.1.2, h.2⟩
theorem zol (k:Int):∀ (l:List (Int × V)) (es:List MapEntry) (i:Nat), MiE kd vc l es → Instr.findNow (.int kd) (.int kd k) es i = some ((ze1 k l i).map fun p => (p.1, vc p.2))
 | [], es, i, h => by
  have:es = []:=by simpa [MiE] using h
  subst this; rfl
 | p :: l, es, i, h => by
  obtain ⟨e, r, rfl, h1, h2, h3⟩:=zqx h
  rw [Instr.findNow, ze1, h1]
  simp only [Instr.sameNow, if_true]
  by_cases hkp:k = p.1
  ·rw [if_pos hkp, beq_iff_eq.2 hkp, h2]; rfl
  ·rw [if_neg hkp, beq_false_of_ne hkp]
   exact zol k l r (i + 1) h3
theorem zh7 (hk:P.underlying kt = some (.int kd)) (k:Int) (w:World) (l:List (Int × V)) (es:List MapEntry) (h:MiE kd vc l es) :
  (Instr.findKey kt (.int kd k) es).run P w = .ok ((ze1 k l 0).map fun p => (p.1, vc p.2)) w:=by
 unfold Instr.findKey
 simp only [Sem.run_bind, run_underlying hk, Result.andThen_ok, zol k l es 0 h, Sem.run_pure]
theorem zex (hk:P.underlying kt = some (.int kd)) (k:Int) (em:Bool) (w:World):(Instr.checkKey em 10000 kt (.int kd k)).run P w = .ok () w:=by
 rw [Instr.checkKey]
 simp only [Sem.run_bind, run_underlying hk, Result.andThen_ok]
 rfl
theorem zoa (k:Int) (v:V):∀ (l:List (Int × V)) (es:List MapEntry) (i j:Nat) (x:V), MiE kd vc l es → ze1 k l i = some (j, x) →
  MiE kd vc (zsg k v l) (es.modify (j - i) fun e => { e with key:=.int kd k, val:=vc v })
 | [], _, _, _, _, _, h => by cases h
 | p :: l, es, i, j, x, he, h => by
  obtain ⟨e, r, rfl, h1, h2, h3⟩:=zqx he
  unfold ze1 at h
  rw [zsg]
  split at h
  ·rename_i hk
   cases h
   rw [if_pos hk, Nat.sub_self]
   unfold MiE at h3 ⊢
   subst hk
   simpa using h3
  ·rename_i hk
   rw [if_neg hk]
   obtain ⟨n, hn, _⟩:=zj5 h
   have ih:=zoa k v l r (i + 1) j x h3 h
   have e1:j - i = (j - (i + 1)) + 1:=by omega
   rw [e1]
   unfold MiE at ih ⊢
   simp [h1, h2]
   exact ih
end
section
variable {P:Program} {F:Fr} {B:Heap} {O:Boxes} {n:Nat} {ops:Array Oper} {κ:Kap} {d:Nat} {ty:TypeId} {pos:String} {aft:Array Edge} {g:Option (Nat × Bool)} {a:Act} {u:World} {H:Heap} {os:List Oper} {Q:Exit → Act → World → Prop} {ex:Exs}
variable {Y:Type} {kd:IntKind} {vc:Y → Value} {l:List (Int × Y)}
end
end Go.V
set_option maxRecDepth 20000
namespace Go.V
open Go.RowKit
section
variable {V:Type}
end
structure Brn (es:List MapEntry) (ck:Nat):Prop where
 lt:∀ e ∈ es, e.born < ck
 nd:(es.map (·.born)).Nodup
theorem z0s:Brn [] 0:=⟨fun _ h => (by cases h), List.nodup_nil⟩
theorem Brn.push {es:List MapEntry} {ck:Nat} (h:Brn es ck) (e:MapEntry) (he:e.born = ck):Brn (es ++ [e]) (ck + 1):=⟨fun x hx => by
 rcases List.mem_append.1 hx with hx | hx
 ·exact Nat.lt_succ_of_lt (h.lt x hx)
 ·rw [List.mem_singleton.1 hx, he]; exact Nat.lt_succ_self _, by
 rw [List.map_append, List.nodup_append]
 refine ⟨h.nd, List.pairwise_singleton _ _, fun a ha b hb => ?_⟩
 obtain ⟨x, hx, rfl⟩:=List.mem_map.1 ha
 have:=h.lt x hx
 simp only [List.map_cons, List.map_nil, List.mem_singleton] at hb
 omega⟩
theorem Brn.modify {es:List MapEntry} {ck:Nat} (h:Brn es ck) (j:Nat) (f:MapEntry → MapEntry) (hf:∀ e, (f e).born = e.born):Brn (es.modify j f) ck:=by
 have e1:(es.modify j f).map (·.born) = es.map (·.born):=by
  apply List.ext_getElem?
  intro i
  rw [List.getElem?_map, List.getElem?_map, List.getElem?_modify]
  cases es[i]? with
  | none => rfl
  | some e =>
   simp only [Option.map_some]
   split <;> simp [hf]
 refine ⟨fun e he => ?_, by rw [e1]; exact h.nd⟩
 have h2:e.born ∈ es.map (·.born):=by rw [← e1]; exact List.mem_map_of_mem he
 obtain ⟨x, hx, hb⟩:=List.mem_map.1 h2
 rw [← hb]; exact h.lt x hx
section
variable {P:Program} {V:Type} {kd:IntKind} {vc:V → Value} {l:List (Int × V)} {t kt et:TypeId}
theorem znx (ht:P.underlying t = some (.map kt et)) (hk:P.underlying kt = some (.int kd)) {b:Nat} {es:Array MapEntry} {ck:Nat} {u:World} (hb:u.heap[b]? = some (.map es ck)) (he:MiE kd vc l es.toList) (k:Int) {z:Value}
  (hz:(zeroValue et).run P u = .ok z u):(Instr.lookup t (.map (some b)) (.int kd k) true).run P u = .ok (.tuple #[(zhg k l).elim z vc, .bool (zhg k l).isSome]) u:=by
 unfold Instr.lookup
 have hf:=zh7 hk k u l es.toList he
 simp only [Sem.run_bind, run_underlying ht, Result.andThen_ok, MapKept.run_getObj_map hb, Sem.run_pure, zex hk k, hf]
 unfold zhg
 cases ze1 k l 0 with
 | none => simp [hz]
 | some p => simp
theorem zkv (ht:P.underlying t = some (.map kt et)) (hk:P.underlying kt = some (.int kd)) {b:Nat} {es:Array MapEntry} {ck:Nat} {u:World} (hb:u.heap[b]? = some (.map es ck)) (he:MiE kd vc l es.toList) (hn:Brn es.toList ck) (k:Int) (v:V) :
  ∃ es' ck', (Instr.mapUpdate t (.map (some b)) (.int kd k) (vc v)).run P u = .ok () (u.putObj b (.map es' ck')) ∧ MiE kd vc (zsg k v l) es'.toList ∧ Brn es'.toList ck':=by
 have hf:=zh7 hk k u l es.toList he
 cases hm:ze1 k l 0 with
 | none =>
  refine ⟨es.push { key:=.int kd k, val:=vc v, born:=ck }, ck + 1, ?_, ?_, by simpa using hn.push _ rfl⟩
  ·unfold Instr.mapUpdate
   rw [hm] at hf
   simp only [Sem.run_bind, run_underlying ht, Result.andThen_ok, MapKept.run_getObj_map hb, Sem.run_pure, zex hk k, hf, Option.map_none]
   simp [setObj, Sem.run, hb, World.putObj, Result.andThen]
  ·rw [zj2 hm]
   unfold MiE at he ⊢
   simp [he]
 | some q =>
  obtain ⟨j, x⟩:=q
  refine ⟨es.modify j fun e => { e with key:=.int kd k, val:=vc v }, ck, ?_, ?_, by rw [Array.toList_modify]; exact hn.modify j _ fun _ => rfl⟩
  ·obtain ⟨n, hn2, hx⟩:=zj5 hm
   have hn':j = n:=by omega
   subst hn'
   have hkey:((es[j]?).map (·.key)).getD (.int kd k) = .int kd k:=by
    have h2:=congrArg (·[j]?) he
    simp only [List.getElem?_map, hx, Option.map_some] at h2
    rw [← Array.getElem?_toList]
    cases hz:es.toList[j]? with
    | none => rfl
    | some e =>
     rw [hz] at h2
     simp at h2
     simpa using h2.1
   unfold Instr.mapUpdate
   rw [hm] at hf
   simp only [Sem.run_bind, run_underlying ht, Result.andThen_ok, MapKept.run_getObj_map hb, Sem.run_pure, zex hk k, hf, Option.map_some, hkey]
   unfold Instr.keyThatStays
   rw [if_pos (by simp [Instr.sameBits])]
   simp [setObj, Sem.run, hb, World.putObj, Result.andThen]
  ·have:=zoa k v l es.toList 0 j x he hm
   simpa using this
theorem map_erase {α β:Type} (f:α → β):∀ (l:List α) (j:Nat), (l.eraseIdx j).map f = (l.map f).eraseIdx j
 | [], _ => rfl
 | _ :: _, 0 => rfl
 | x :: l, j + 1 => by simp [map_erase f l j]
theorem zuw {es:List MapEntry} (h:MiE kd vc l es) (j:Nat):MiE kd vc (l.eraseIdx j) (es.eraseIdx j):=by
 unfold MiE at *
 rw [map_erase, map_erase, h]
theorem znw {u:World} {m i:Nat} {es:Array MapEntry} {ck since last:Nat} {seen:Array Nat} {ty:TypeId} (hm:u.heap[m]? = some (.map es ck)) (hi:u.heap[i]? = some (.mapIter (some m) since seen last)) (hold:∀ x ∈ es.toList, x.born < since) (hsc:since ≤ last) :
  ((leftOf es seen).size = 0 ∧ (Instr.next (.pointer (some ⟨i, 0, none⟩)) false ty).run P u = .ok (.tuple #[.bool false]) u) ∨
  ∃ (j:Nat) (e:MapEntry), (leftOf es seen)[j]? = some e ∧ ∃ u1:World, (u1 = u ∨ u1 = u.drew) ∧ (Instr.next (.pointer (some ⟨i, 0, none⟩)) false ty).run P u = .ok (.tuple #[.bool true, e.key, e.val]) (u1.putObj i (.mapIter (some m) since (seen.push e.born) ck)):=by
 simp only [Instr.next, getObj, Sem.run_bind, Sem.run, hi, hm, Result.andThen, next_test_false seen es since last hold hsc, Bool.false_eq_true, if_false]
 unfold leftOf
 have hmem:∀ x ∈ (Array.filter (fun e => !seen.contains e.born) es).toList, x.born < since:=fun x hx => hold x (by simp at hx ⊢; exact hx.1)
 generalize Array.filter (fun e => !seen.contains e.born) es = L at hmem ⊢
 have e1:L.filter (fun x => decide (x.born < since)) = L:=Array.filter_eq_self.2 (fun x hx => by simpa using hmem x (by simpa using hx))
 have e2:L.filter (fun x => decide (x.born ≥ since)) = #[]:=by
  rw [Array.filter_eq_empty_iff]
  intro x hx
  have:=hmem x (by simpa using hx)
  simp
  omega
 simp only [e1, e2, Array.append_empty]
 by_cases h0:L.size = 0
 ·left
  have:L = #[]:=Array.eq_empty_of_size_eq_zero h0
  subst this
  refine ⟨rfl, ?_⟩
  simp [choose, Sem.run, Question.forced]
 ·right
  have hne:L.isEmpty = false:=by simp [Array.isEmpty, h0]
  simp only [hne, Bool.false_eq_true, if_false, Array.empty_append, Array.size_map]
  have hch:∃ (j:Nat) (w1:World), j < L.size ∧ (w1 = u ∨ w1 = u.drew) ∧ (choose (Question.mapNext L.size)).run P u = .ok j w1:=by
   by_cases hf:L.size ≤ 1
   ·exact ⟨0, u, by omega, .inl rfl, by simp [choose, Sem.run, Question.forced, hf]⟩
   ·exact ⟨_, u.drew, Nat.mod_lt _ (by omega), .inr rfl, by
     simp only [choose, Sem.run, Question.forced, decide_eq_true_eq, hf, if_false, Question.cut]
     rfl⟩
  obtain ⟨j, w1, hj, hal, hrun⟩:=hch
  refine ⟨j, L[j], by simp [hj], w1, hal, ?_⟩
  have hi1:w1.heap[i]? = some (.mapIter (some m) since seen last):=by rcases hal with rfl | rfl <;> exact hi
  simp only [hrun, Array.getElem?_map, Array.getElem?_eq_getElem hj, Option.map_some, Sem.run_bind, Result.andThen]
  simp [setObj, Sem.run, hi1, World.putObj]
end
def z35 {V:Type} (b:Nat) (kd:IntKind) (vc:V → Value) (l:List (Int × V)):GR where
 P _ u C:=(∃ es ck, u.heap[b]? = some (.map es ck) ∧ MiE kd vc l es.toList ∧ Brn es.toList ck) ∧ ∀ k, C k ↔ k = b
 st:=fun ⟨⟨es, ck, hb, he⟩, hC⟩ _ _ _ hk => ⟨⟨es, ck, (hk b ((hC b).2 rfl)).trans hb, he⟩, hC⟩
abbrev zo1 {V:Type} (b:Nat) (kd:IntKind) (vc:V → Value) (l:List (Int × V)):Res:=(z35 b kd vc l).res
def zyi {V:Type} (kd:IntKind) (vc:V → Value) (l:List (Int × V)):Res where
 P x _ u C:=∃ b, x = .map (some b) ∧ (∃ es ck, u.heap[b]? = some (.map es ck) ∧ MiE kd vc l es.toList ∧ Brn es.toList ck) ∧ ∀ k, C k ↔ k = b
 st:=fun ⟨b, hx, ⟨es, ck, hb, he⟩, hC⟩ _ _ _ hk => ⟨b, hx, ⟨es, ck, (hk b ((hC b).2 rfl)).trans hb, he⟩, hC⟩
def zye {V:Type} (m:Nat) (kd:IntKind) (vc:V → Value) (l left:List (Int × V)):Res where
 P x _ u C:=∃ i es ck since seen last, x = .pointer (some ⟨i, 0, none⟩) ∧ i ≠ m ∧ u.heap[m]? = some (.map es ck) ∧ MiE kd vc l es.toList ∧ Brn es.toList ck ∧ u.heap[i]? = some (.mapIter (some m) since seen last) ∧
  (∀ e ∈ es.toList, e.born < since) ∧ since ≤ last ∧ since ≤ ck ∧ MiE kd vc left (leftOf es seen).toList ∧ ∀ k, C k ↔ k = m ∨ k = i
 st:=fun ⟨i, es, ck, since, seen, last, h1, h2, h3, h4, h5, h6, h7, h8, h9, h10, hC⟩ _ _ _ hk => ⟨i, es, ck, since, seen, last, h1, h2, (hk m ((hC m).2 (.inl rfl))).trans h3, h4, h5, (hk i ((hC i).2 (.inr rfl))).trans h6, h7, h8, h9, h10, hC⟩
section
variable {P:Program} {F:Fr} {B:Heap} {O:Boxes} {n:Nat} {ops:Array Oper} {κ:Kap} {d:Nat} {ty:TypeId} {pos:String} {aft:Array Edge} {g:Option (Nat × Bool)} {a:Act} {u:World} {H:Heap} {os:List Oper} {Q:Exit → Act → World → Prop}
variable {Y:Type} {kd:IntKind} {vc:Y → Value} {l left:List (Int × Y)}
theorem Has.holdMb {t q:Nat} (hk:κ t = some (.own (zyi kd vc l))) (h:Has F B O n κ a u):∃ b, Has F B O n (upd (upd (upd κ t zdv) q (.own (zo1 b kd vc l))) t (.is (.map (some b)))) a u:=by
 obtain ⟨H, fp, h⟩:=h
 obtain ⟨⟨b, hv, hb, hC⟩, hM⟩:=h.slot t _ hk
 have h2:=h.usePut (d:=q) (a':=a) (r':=zo1 b kd vc l) (C:=fp t) hk ⟨Keep.refl _ _, h.sub, Heap.Le.refl _, fun _ _ _ => rfl⟩ rfl rfl (fun _ _ => rfl) ⟨hb, hC⟩ fun k hk => ⟨.inl hk, (hM k hk).1, (hM k hk).2.1⟩
 have h3:=h2.name t
 rw [hv] at h3
 exact ⟨b, H, _, h3⟩
theorem z29 (t q:Nat) {c:Code} (hk:κ t = some (.own (zyi kd vc l))) (h:∀ b, V P F B n O (upd (upd (upd κ t zdv) q (.own (zo1 b kd vc l))) t (.is (.map (some b)))) c Q):V P F B n O κ c Q:=fun a u hh => let ⟨b, h'⟩:=hh.holdMb (q:=q) hk; h b a u h'
theorem ztd (t q:Nat) (hk:κ t = some (.own (zyi kd vc l))) (h:∀ b, VO P F B n O ops (upd (upd (upd κ t zdv) q (.own (zo1 b kd vc l))) t (.is (.map (some b)))) os Q):VO P F B n O ops κ os Q:=fun a u hh => let ⟨b, h'⟩:=hh.holdMb (q:=q) hk; h b a u h'
theorem zpr (kd:IntKind) (vc:Y → Value) {t:TypeId} {hint:Option Operand} (hn:Nat.blt d n = true) (hg:gK ops κ ⟨some d, .makeMap t none, ty, pos, aft, g⟩ = some true) :
  StepOK P F B n ops O κ ⟨some d, .makeMap t none, ty, pos, aft, g⟩ d (.own (zyi kd vc [])):=by
 rintro κ' a u hl ⟨H, fp, hh⟩
 have hn:d < n:=by simpa using hn
 unfold After
 rw [if_pos (zai hh hl hg)]
 have hrun:(execOp a.eval ⟨some d, .makeMap t none, ty, pos, aft, g⟩).run P u = .ok (.value (.map (some u.heap.size))) (u.alloc (.map #[] 0)):=by
  simp [execOp, Instr.makeMap]
 rw [hrun]
 simp only [Upon]
 have hg2:=hh.grow (Grow.hid hh.sub (.map #[] 0))
 refine ⟨H, _, hg2.putR (C:=fun k => k = u.heap.size) (by simp [Act.put]) rfl (fun t ht => zat ht) ⟨u.heap.size, zay (by rw [hh.size]; exact hn), ⟨_, _, zaq _ _, rfl, z0s⟩, fun _ => Iff.rfl⟩ (fun k hk => ?_) fun t r' _ ht k hf hk => ?_⟩
 ·subst hk
  exact ⟨zac (zaq u _), za9 hh.sub (Nat.le_refl _), .inl hh.keep.size, fun y hy e => by have:=zac (hh.boxes y hy).1; omega⟩
 ·have:=((hh.slot t _ ht).2 k hf).1
  omega
theorem zfx {x y:Operand} {q b:Nat} {t kt et:TypeId} (k:Int) {r z:Value} {f:Bool} (ht:P.underlying t = some (.map kt et)) (hkt:P.underlying kt = some (.int kd)) (hz:∀ w, (zeroValue et).run P w = .ok z w)
  (hx:evK κ x = some (.map (some b))) (hq:κ q = some (.own (zo1 b kd vc l))) (hy:evK κ y = some (.int kd k)) (hn:Nat.blt d n = true) (hg:gK ops κ ⟨some d, .lookup t x y true, ty, pos, aft, g⟩ = some true)
  (hr:(zhg k l).elim z vc = r) (hf:(zhg k l).isSome = f) :
  StepOKR P F B n ops O κ ⟨some d, .lookup t x y true, ty, pos, aft, g⟩ q d (.is (.tuple #[r, .bool f])):=by
 rintro κ' a u hlk hqk ⟨H, fp, hh⟩
 subst hr hf
 unfold After
 rw [if_pos (zai hh hlk hg)]
 have e:=hh.env hlk
 have h1:=e.is_ x _ (by simp [Op.operands]) hx
 have h2:=e.is_ y _ (by simp [Op.operands]) hy
 obtain ⟨⟨⟨es, ck, hb, he, _⟩, hC⟩, hM⟩:=hh.slot q _ (hqk.trans hq)
 have hrun:(execOp a.eval ⟨some d, .lookup t x y true, ty, pos, aft, g⟩).run P u = .ok (.value (.tuple #[(zhg k l).elim z vc, .bool (zhg k l).isSome])) u:=by
  simp only [execOp, h1, h2, Sem.run_bind, znx ht hkt hb he k (hz u), Result.andThen_ok]
  rfl
 rw [hrun]
 simp only [Upon]
 exact ⟨H, fp, hh.put (k:=.is _) (zk hn) trivial rfl⟩
theorem HasH.turnMap {q b:Nat} {fp:Nat → Nat → Prop} {es:Array MapEntry} {ck:Nat} {l':List (Int × Y)} (hh:HasH F B O n κ a u H fp) (hq:κ q = some (.own (zo1 b kd vc l))) (he:MiE kd vc l' es.toList) (hb:Brn es.toList ck) :
  HasH F B O n (upd κ q (.own (zo1 b kd vc l'))) a (u.putObj b (.map es ck)) H (fpu fp q fun k => k = b):=by
 obtain ⟨⟨_, hC⟩, hM⟩:=hh.slot q _ hq
 have hbm:=hM b ((hC b).2 rfl)
 have:=hh.usePut (d:=q) (a':=a) (r':=zo1 b kd vc l') (C:=fun k => k = b) hq (zkc hh.sub ((hC b).2 rfl) hbm.2.1) rfl rfl (fun _ _ => rfl) ⟨⟨es, ck, World.putObj_heap_same hbm.1, he, hb⟩, fun _ => Iff.rfl⟩ (fun k hk => by
  subst hk; exact ⟨.inl ((hC k).2 rfl), by rw [World.putObj_size]; exact hbm.1, hbm.2.1⟩)
 rw [zbw] at this
 exact this
theorem zzz {x:Operand} {q b:Nat} {t kt et:TypeId} {m:Nat} (ht:P.underlying t = some (.map kt et)) (hx:evK κ x = some (.map (some b))) (hq:κ q = some (.own (zo1 b kd vc l))) (hn:Nat.blt d n = true)
  (hg:gK ops κ ⟨some d, .call ⟨.builtin .len, #[x], #[t]⟩, ty, pos, aft, g⟩ = some true) (hm:l.length = m) :
  StepOKR P F B n ops O κ ⟨some d, .call ⟨.builtin .len, #[x], #[t]⟩, ty, pos, aft, g⟩ q d (.is (.int .i64 m)):=by
 rintro κ' a u hlk hqk ⟨H, fp, hh⟩
 subst hm
 unfold After
 rw [if_pos (zai hh hlk hg)]
 have e:=hh.env hlk
 have h1:=e.is_ x _ (by simp [Op.operands, Call.operands]) hx
 obtain ⟨⟨⟨es, ck, hb, he, _⟩, hC⟩, hM⟩:=hh.slot q _ (hqk.trans hq)
 have hsz:es.size = l.length:=by have:=congrArg List.length he; simpa using this
 have hrun:(execOp a.eval ⟨some d, .call ⟨.builtin .len, #[x], #[t]⟩, ty, pos, aft, g⟩).run P u = .ok (.value (.int .i64 l.length)) u:=by
  simp [execOp, resolve, h1, invoke, builtin, Builtin.len_, run_underlying ht, MapKept.run_getObj_map hb, goInt, hsz]
 rw [hrun]
 simp only [Upon]
 exact ⟨H, fp, hh.put (k:=.is _) (zk hn) trivial rfl⟩
theorem zud {x:Operand} {q b:Nat} {t kt et:TypeId} (ht:P.underlying t = some (.map kt et)) (hx:evK κ x = some (.map (some b))) (hq:κ q = some (.own (zo1 b kd vc l))) (hn:Nat.blt d n = true)
  (hg:gK ops κ ⟨some d, .range t x, ty, pos, aft, g⟩ = some true) :
  zcl P F B n ops O κ ⟨some d, .range t x, ty, pos, aft, g⟩ q zdv d (.own (zye b kd vc l l)):=by
 rintro κ' a u hlk hqk ⟨H, fp, hh⟩
 have hn:d < n:=by simpa using hn
 unfold After
 rw [if_pos (zai hh hlk hg)]
 have e:=hh.env hlk
 have h1:=e.is_ x _ (by simp [Op.operands]) hx
 have hqs:=hqk.trans hq
 obtain ⟨⟨⟨es, ck, hb, he, hbn⟩, hC⟩, hM⟩:=hh.slot q _ hqs
 have hrun:(execOp a.eval ⟨some d, .range t x, ty, pos, aft, g⟩).run P u = .ok (.value (.pointer (some ⟨u.heap.size, 0, none⟩))) (u.alloc (.mapIter (some b) ck #[] ck)):=by
  simp only [execOp, h1, Sem.run_bind, run_range_map u t kt et b es ck ht hb, Result.andThen_ok]
  rfl
 rw [hrun]
 simp only [Upon]
 have hbm:=hM b ((hC b).2 rfl)
 have hg2:Grow (fp q) u H (u.alloc (.mapIter (some b) ck #[] ck)) H:=⟨(Grow.hid hh.sub (.mapIter (some b) ck #[] ck)).keep.weak (fun k _ h => h.elim), (Grow.hid hh.sub _).sub, Heap.Le.refl _, fun _ _ _ => rfl⟩
 have hlo:leftOf es #[] = es:=by unfold leftOf; simp
 have:=hh.usePut (d:=d) (a':=a.put (some d) (.pointer (some ⟨u.heap.size, 0, none⟩))) (r':=zye b kd vc l l) (C:=fun k => k = b ∨ k = u.heap.size) hqs hg2 (by simp [Act.put]) rfl (fun t ht => zat ht)
  ⟨u.heap.size, es, ck, ck, #[], ck, zay (by rw [hh.size]; exact hn), by omega, by rw [heap_alloc_old u _ hbm.1]; exact hb, he, hbn, heap_alloc_new u _, hbn.lt, Nat.le_refl _, Nat.le_refl _, by rw [hlo]; exact he, fun _ => Iff.rfl⟩
  (fun k hk => by
   have hsz:(u.alloc (.mapIter (some b) ck #[] ck)).heap.size = u.heap.size + 1:=by show (u.heap.push _).size = _; simp
   rcases hk with rfl | rfl
   ·exact ⟨.inl ((hC _).2 rfl), by omega, hbm.2.1⟩
   ·exact ⟨.inr (Nat.le_refl _), by omega, za9 hh.sub (Nat.le_refl _)⟩)
 exact ⟨H, _, this⟩
theorem zue {q m:Nat} {w:Bool} (hw:w = false) (hq:κ q = some (.own (zye m kd vc l left))) (hl:left = []) (hn:Nat.blt d n = true) (hg:gK ops κ ⟨some d, .next (.tmp q) w, ty, pos, aft, g⟩ = some true) :
  StepOK P F B n ops O κ ⟨some d, .next (.tmp q) w, ty, pos, aft, g⟩ d (.is (.tuple #[.bool false])) :=
 zax rfl (zk hn) hg trivial fun a u H fp e => by
  subst hw hl
  obtain ⟨⟨i, es, ck, since, seen, last, h1, h2, h3, h4, h5, h6, h7, h8, h9, h10, hC⟩, hM⟩:=e.own_ q _ (by simp [Op.operands]) hq
  have hz:(leftOf es seen).size = 0:=by have:=congrArg List.length h10; simpa using this
  refine ⟨_, ?_, rfl⟩
  rcases znw (P:=P) (ty:=ty) h3 h6 h7 h8 with ⟨_, hr⟩ | ⟨j, e2, he2, _⟩
  ·simp only [execOp, h1, Sem.run_bind, hr, Result.andThen_ok]
   rfl
  ·rw [Array.getElem?_eq_none (by omega)] at he2; cases he2
theorem zsj {es:Array MapEntry} {ck j:Nat} {seen:Array Nat} {e:MapEntry} (hb:Brn es.toList ck) (he:(leftOf es seen)[j]? = some e):(leftOf es (seen.push e.born)).toList = (leftOf es seen).toList.eraseIdx j:=by
 have e1:(leftOf es (seen.push e.born)).toList = (leftOf es seen).toList.filter fun x => !(x.born == e.born):=by
  unfold leftOf
  rw [Array.toList_filter, Array.toList_filter, List.filter_filter]
  apply List.filter_congr
  intro x _
  rw [contains_push]
  cases seen.contains x.born <;> cases (x.born == e.born) <;> rfl
 have hnd:((leftOf es seen).toList.map (·.born)).Nodup:=by
  unfold leftOf
  rw [Array.toList_filter]
  exact hb.nd.sublist (List.filter_sublist.map _)
 rw [← Array.getElem?_toList] at he
 rw [e1]
 generalize (leftOf es seen).toList = L at hnd he
 clear e1
 induction L generalizing j with
 | nil => cases he
 | cons x L ih =>
  rw [List.map_cons, List.nodup_cons] at hnd
  cases j with
  | zero =>
   cases he
   have h0:L.filter (fun x => !(x.born == e.born)) = L:=List.filter_eq_self.2 fun y hy => by
    have:y.born ≠ e.born:=fun h => hnd.1 (h ▸ List.mem_map_of_mem hy)
    simpa using this
   simp [h0]
  | succ j =>
   have he':L[j]? = some e:=by simpa using he
   have hne:x.born ≠ e.born:=fun h => hnd.1 (h ▸ List.mem_map_of_mem (List.mem_of_getElem? he'))
   have:(!(x.born == e.born)) = true:=by simpa using hne
   rw [List.filter_cons_of_pos (by simpa using hne), ih hnd.2 he']
   rfl
theorem z2a {es:List MapEntry} {j:Nat} {e:MapEntry} (h:MiE kd vc left es) (he:es[j]? = some e):∃ p, left[j]? = some p ∧ e.key = .int kd p.1 ∧ e.val = vc p.2:=by
 have h2:=congrArg (·[j]?) h
 simp only [List.getElem?_map, he, Option.map_some] at h2
 cases hp:left[j]? with
 | none => rw [hp] at h2; cases h2
 | some p =>
  rw [hp] at h2
  simp at h2
  exact ⟨p, rfl, h2.1, h2.2⟩
theorem Has.endM {t q m:Nat} (hne:t ≠ q) (hk:κ t = some (.own (zye m kd vc l left))) (h:Has F B O n κ a u):Has F B O n (upd (upd κ t zdv) q (.own (zo1 m kd vc l))) a u:=by
 obtain ⟨H, fp, hh⟩:=h
 obtain ⟨⟨i, es, ck, since, seen, last, h1, h2, h3, h4, h5, h6, h7, h8, h9, h10, hC⟩, hM⟩:=hh.slot t _ hk
 have:=hh.usePut (d:=q) (a':=a) (r':=zo1 m kd vc l) (C:=fun k => k = m) hk ⟨Keep.refl _ _, hh.sub, Heap.Le.refl _, fun _ _ _ => rfl⟩ rfl rfl (fun _ _ => rfl) ⟨⟨es, ck, h3, h4, h5⟩, fun _ => Iff.rfl⟩
  (fun k hk' => by subst hk'; have:=(hC k).2 (.inl rfl); exact ⟨.inl this, (hM k this).1, (hM k this).2.1⟩)
 exact ⟨H, _, this⟩
theorem z21 (t q:Nat) {m:Nat} {c:Code} (hk:κ t = some (.own (zye m kd vc l left))) (h:V P F B n O (upd (upd κ t zdv) q (.own (zo1 m kd vc l))) c Q) (hne:t ≠ q:=by decide):V P F B n O κ c Q:=fun a u hh => h a u (hh.endM hne hk)
end
end Go.V
set_option maxRecDepth 20000
namespace Go.V
open Go.RowKit
def z3b {V:Type} (m:Nat) (kd:IntKind) (vc:V → Value) (l left:List (Int × V)) (p:Int × V):Res where
 P x _ u C:=∃ (i:Nat) (es:Array MapEntry) (ck since:Nat) (seen:Array Nat) (e:MapEntry), x = .pointer (some ⟨i, 0, none⟩) ∧ i ≠ m ∧ u.heap[m]? = some (.map es ck) ∧ MiE kd vc l es.toList ∧ Brn es.toList ck ∧ u.heap[i]? = some (.mapIter (some m) since (seen.push e.born) ck) ∧
  (∀ e ∈ es.toList, e.born < since) ∧ since ≤ ck ∧ MiE kd vc left (leftOf es (seen.push e.born)).toList ∧ e ∈ es.toList ∧ e.key = .int kd p.1 ∧ e.val = vc p.2 ∧ ∀ k, C k ↔ k = m ∨ k = i
 st:=fun ⟨i, es, ck, since, seen, e, h1, h2, h3, h4, h5, h6, h7, h8, h9, h10, h11, h12, hC⟩ _ _ _ hk => ⟨i, es, ck, since, seen, e, h1, h2, (hk m ((hC m).2 (.inl rfl))).trans h3, h4, h5, (hk i ((hC i).2 (.inr rfl))).trans h6, h7, h8, h9, h10, h11, h12, hC⟩
theorem z1n {V:Type} {m:Nat} {kd:IntKind} {vc:V → Value} {l left:List (Int × V)} {p:Int × V} {B:Heap}:∀ v H u C, B.Le H → (z3b m kd vc l left p).P v H u C → (zye m kd vc l left).P v H u C :=
 fun _ _ _ _ _ ⟨i, es, ck, since, seen, e, h1, h2, h3, h4, h5, h6, h7, h8, h9, _, _, _, hC⟩ => ⟨i, es, ck, since, seen.push e.born, ck, h1, h2, h3, h4, h5, h6, h7, h8, h8, h9, hC⟩
theorem zxj {es:Array MapEntry} {seen:Array Nat} {j:Nat} {e:MapEntry} (h:(leftOf es seen)[j]? = some e):e ∈ es.toList:=by
 have h1:e ∈ leftOf es seen:=Array.mem_of_getElem? h
 unfold leftOf at h1
 rw [Array.mem_filter] at h1
 exact Array.mem_toList_iff.2 h1.1
theorem zvn {es:List MapEntry} (hn:(es.map (·.born)).Nodup) {e:MapEntry} (he:e ∈ es):es.find? (fun x => x.born == e.born) = some e:=by
 induction es with
 | nil => cases he
 | cons x es ih =>
  rw [List.map_cons, List.nodup_cons] at hn
  rw [List.find?_cons]
  rcases List.mem_cons.1 he with h | h
  ·subst h; simp
  ·have hne:x.born ≠ e.born:=fun h2 => hn.1 (h2 ▸ List.mem_map_of_mem (f:=(·.born)) h)
   have:(x.born == e.born) = false:=by simpa using hne
   rw [this]
   exact ih hn.2 h
section
variable {P:Program} {F:Fr} {B:Heap} {O:Boxes} {n:Nat} {ops:Array Oper} {κ:Kap} {d:Nat} {ty:TypeId} {pos:String} {aft:Array Edge} {g:Option (Nat × Bool)} {a:Act} {u:World} {H:Heap} {os:List Oper} {Q:Exit → Act → World → Prop}
variable {Y:Type} {kd:IntKind} {vc:Y → Value} {l left:List (Int × Y)}
theorem zwe {q m d:Nat} {o:Oper} (ho:o = ⟨some d, .next (.tmp q) false, ty, pos, aft, g⟩) (hq:κ q = some (.own (zye m kd vc l left))) (hl:left ≠ []) (hn:Nat.blt d n = true) (hdq:Nat.beq q d = false) (hg:gK ops κ o = some true)
  (h:∀ (j:Nat) (p:Int × Y), left[j]? = some p → VO P F B n O ops (upd (upd κ q (.own (z3b m kd vc l (left.eraseIdx j) p))) d (.is (.tuple #[.bool true, .int kd p.1, vc p.2]))) os Q):VO P F B n O ops κ (o :: os) Q:=fun a u hh => by
 subst ho
 obtain ⟨H, fp, hh⟩:=hh
 obtain ⟨⟨i, es, ck, since, seen, last, h1, h2, h3, h4, h5, h6, h7, h8, h9, h10, hC⟩, hM⟩:=hh.slot q _ hq
 show After P ops _ _ a u
 unfold After
 rw [if_pos (zai hh (fun _ _ => rfl) hg)]
 rcases znw (P:=P) (ty:=ty) h3 h6 h7 h8 with ⟨hz, _⟩ | ⟨j, e, he, u1, hu1, hr⟩
 ·exfalso
  have:=congrArg List.length h10
  simp [hz] at this
  exact hl (List.eq_nil_of_length_eq_zero this.symm)
 ·have hrun:(execOp a.eval ⟨some d, .next (.tmp q) false, ty, pos, aft, g⟩).run P u = .ok (.value (.tuple #[.bool true, e.key, e.val])) (u1.putObj i (.mapIter (some m) since (seen.push e.born) ck)):=by
   simp only [execOp, h1, Sem.run_bind, hr, Result.andThen_ok]
   rfl
  rw [hrun]
  simp only [Upon]
  obtain ⟨p, hp, hk1, hv1⟩:=z2a h10 (by rw [Array.getElem?_toList]; exact he)
  rw [hk1, hv1]
  have him:=hM i ((hC i).2 (.inr rfl))
  have hsub:H.Le (Go.V.hp u1):=by rcases hu1 with rfl | rfl <;> exact hh.sub
  have hgr:Grow (fp q) u H (u1.putObj i (.mapIter (some m) since (seen.push e.born) ck)) H:=by
   have g1:=zkc (u:=u1) (L:=fp q) (o:=.mapIter (some m) since (seen.push e.born) ck) hsub ((hC i).2 (.inr rfl)) him.2.1
   rcases hu1 with rfl | rfl
   ·exact g1
   ·exact ⟨⟨g1.keep.os, g1.keep.tape, g1.keep.output, g1.keep.size, g1.keep.block, Nat.le_trans (Nat.le_succ _) g1.keep.dr⟩, g1.sub, g1.le, g1.fresh⟩
  have hmm:u1.heap[m]? = some (.map es ck):=by rcases hu1 with rfl | rfl <;> exact h3
  have hsz:i < u1.heap.size:=by rcases hu1 with rfl | rfl <;> exact him.1
  have h5':=hh.usePut (d:=q) (a':=a) (r':=z3b m kd vc l (left.eraseIdx j) p) (C:=fun k => k = m ∨ k = i) hq hgr rfl rfl (fun _ _ => rfl)
   ⟨i, es, ck, since, seen, e, h1, h2, by rw [World.putObj_heap_other (Ne.symm h2)]; exact hmm, h4, h5, World.putObj_heap_same hsz, h7, h9, by rw [zsj h5 he]; exact zuw h10 j, zxj he, hk1, hv1, fun _ => Iff.rfl⟩
   (fun k hk => by
    have hkC:fp q k:=(hC k).2 hk
    refine ⟨.inl hkC, ?_, (hM k hkC).2.1⟩
    rw [World.putObj_size]
    rcases hu1 with rfl | rfl <;> exact (hM k hkC).1)
  rw [zbw] at h5'
  exact h j p hp _ _ ⟨H, _, h5'.put (k:=.is _) (zk hn) trivial rfl⟩
theorem zuj {q m:Nat} {p:Int × Y} (hq:κ q = some (.own (z3b m kd vc l left p))) (hn:Nat.blt d n = true) (hg:gK ops κ ⟨some d, .entry (.tmp q), ty, pos, aft, g⟩ = some true) :
  StepOK P F B n ops O κ ⟨some d, .entry (.tmp q), ty, pos, aft, g⟩ d (.is (.tuple #[.int kd p.1, vc p.2])) :=
 zax rfl (zk hn) hg trivial fun a u H fp e => by
  obtain ⟨⟨i, es, ck, since, seen, x, h1, h2, h3, h4, h5, h6, h7, h8, h9, h10, h11, h12, hC⟩, hM⟩:=e.own_ q _ (by simp [Op.operands]) hq
  refine ⟨_, ?_, rfl⟩
  have hf:=zvn h5.nd h10
  have hf2:es.find? (fun y => y.born == x.born) = some x:=by rw [← Array.find?_toList]; exact hf
  simp only [execOp, h1, Instr.entry, getObj, Sem.run_bind, Sem.run, h6, Result.andThen, Array.back?_push, h3, bne_self_eq_false, Bool.false_eq_true, if_false, hf2, h11, h12]
  rfl
theorem zsa {x y z:Operand} {q b:Nat} {t kt et:TypeId} (k:Int) (v:Y) {zv:Value} {l':List (Int × Y)} (ht:P.underlying t = some (.map kt et)) (hkt:P.underlying kt = some (.int kd))
  (hx:evK κ x = some (.map (some b))) (hq:κ q = some (.own (zo1 b kd vc l))) (hy:evK κ y = some (.int kd k)) (hz:evK κ z = some zv) (hzv:vc v = zv) (hg:gK ops κ ⟨none, .insert t x y z, ty, pos, aft, g⟩ = some true)
  (hl':zsg k v l = l') :
  zm5 P F B n ops O κ ⟨none, .insert t x y z, ty, pos, aft, g⟩ q (.own (zo1 b kd vc l')):=by
 rintro κ' a u hlk hqk ⟨H, fp, hh⟩
 subst hl' hzv
 unfold After
 rw [if_pos (zai hh hlk hg)]
 have e:=hh.env hlk
 have h1:=e.is_ x _ (by simp [Op.operands]) hx
 have h2:=e.is_ y _ (by simp [Op.operands]) hy
 have h3:=e.is_ z _ (by simp [Op.operands]) hz
 have hqs:=hqk.trans hq
 obtain ⟨⟨⟨es, ck, hb, he, hbn⟩, hC⟩, hM⟩:=hh.slot q _ hqs
 obtain ⟨es', ck', hr, he', hb'⟩:=zkv ht hkt hb he hbn k v
 have hrun:(execOp a.eval ⟨none, .insert t x y z, ty, pos, aft, g⟩).run P u = .ok .skip (u.putObj b (.map es' ck')):=by
  simp only [execOp, h1, h2, h3, Sem.run_bind, hr, Result.andThen_ok]
  rfl
 rw [hrun]
 simp only [Upon, Act.put]
 exact ⟨H, _, hh.turnMap hqs he' hb'⟩
end
end Go.V
set_option maxRecDepth 20000
namespace Go.V
open Go.RowKit
def zyf {X:Type} (vf:X → Value) (g:X → GR):Res where
 P v H u C:=∃ x, v = vf x ∧ (g x).P H u C
 st:=fun ⟨x, h1, h2⟩ a b c d => ⟨x, h1, (g x).st h2 a b c d⟩
section
variable {P:Program} {F:Fr} {B:Heap} {O:Boxes} {n:Nat} {ops:Array Oper} {κ:Kap} {d:Nat} {ty:TypeId} {pos:String} {aft:Array Edge} {g:Option (Nat × Bool)} {Q:Exit → Act → World → Prop} {a:Act} {u:World} {os:List Oper}
theorem Has.holdRf {X:Type} {t q:Nat} {vf:X → Value} {gg:X → GR} (hk:κ t = some (.own (zyf vf gg))) (h:Has F B O n κ a u):∃ x, Has F B O n (upd (upd (upd κ t zdv) q (.own (gg x).res)) t (.is (vf x))) a u:=by
 obtain ⟨H, fp, h⟩:=h
 obtain ⟨⟨x, hv, hx⟩, hM⟩:=h.slot t _ hk
 have h2:=h.usePut (d:=q) (a':=a) (r':=(gg x).res) (C:=fp t) hk ⟨Keep.refl _ _, h.sub, Heap.Le.refl _, fun _ _ _ => rfl⟩ rfl rfl (fun _ _ => rfl) hx fun k hk => ⟨.inl hk, (hM k hk).1, (hM k hk).2.1⟩
 have h3:=h2.name t
 rw [hv] at h3
 exact ⟨x, H, _, h3⟩
theorem zx9 (t q:Nat) {X:Type} {vf:X → Value} {gg:X → GR} {c:Code} (hk:κ t = some (.own (zyf vf gg))) (h:∀ x, V P F B n O (upd (upd (upd κ t zdv) q (.own (gg x).res)) t (.is (vf x))) c Q):V P F B n O κ c Q:=fun a u hh => let ⟨x, h'⟩:=hh.holdRf (q:=q) hk; h x a u h'
theorem zfe (t q:Nat) {X:Type} {vf:X → Value} {gg:X → GR} (hk:κ t = some (.own (zyf vf gg))) (h:∀ x, VO P F B n O ops (upd (upd (upd κ t zdv) q (.own (gg x).res)) t (.is (vf x))) os Q):VO P F B n O ops κ os Q:=fun a u hh => let ⟨x, h'⟩:=hh.holdRf (q:=q) hk; h x a u h'
theorem Has.packRf {X:Type} {t q:Nat} {vf:X → Value} {gg:X → GR} (x:X) (hk:κ q = some (.own (gg x).res)) (ht:κ t = some (.is (vf x))) (h:Has F B O n κ a u):Has F B O n (upd (upd κ q zdv) t (.own (zyf vf gg))) a u:=by
 obtain ⟨H, fp, h⟩:=h
 obtain ⟨hx, hM⟩:=h.slot q _ hk
 have hv:a.eval (.tmp t) = vf x:=h.slot t _ ht
 exact ⟨H, _, h.usePut (d:=t) (a':=a) (r':=zyf vf gg) (C:=fp q) hk ⟨Keep.refl _ _, h.sub, Heap.Le.refl _, fun _ _ _ => rfl⟩ rfl rfl (fun _ _ => rfl) ⟨x, hv, hx⟩ fun k hk => ⟨.inl hk, (hM k hk).1, (hM k hk).2.1⟩⟩
theorem zx7 (t q:Nat) {X:Type} (vf:X → Value) (gg:X → GR) {c:Code} (x:X) (hk:κ q = some (.own (gg x).res)) (ht:κ t = some (.is (vf x))) (h:V P F B n O (upd (upd κ q zdv) t (.own (zyf vf gg))) c Q):V P F B n O κ c Q:=fun a u hh => h a u (hh.packRf x hk ht)
theorem zv5 (L:Tabs P) {fn:Func} {B0:Heap} (gs:Nat) {r0:GR} {r:Res} {rs:List ResultVar} {v:Value} (hrs:fn.results = rs.toArray)
  (hQ:∀ a u, bodyPostM Fence.wide 0 P fn (ze7 F.w0 B0 F.L (z3d F.w0 r)) .ret a u → Q .ret a u) (hs:Since F B0 B) (hk:κ gs = some (.own r0.res))
  (h:∀ H, zm6 L F B O κ H rs [] (fun vs => tup vs = v)) (hr:∀ H u C, B.Le H → H.Le (hp u) → r0.P H u C → r.P v H u C) (hL:F.L = noL:=by rfl) (hd:F.ds = []:=by rfl):V P F B n O κ .ret Q:=fun a u hh => by
 obtain ⟨H, fp, hH⟩:=hh
 refine wpIn_ret (hQ a u ?_)
 have h0:=hH.defers
 rw [hd] at h0
 show LeavesInM _ _ _ _ _ _ a.defers _ _
 rw [h0]
 obtain ⟨vs, h1, h2⟩:=zbr L hH hrs (h H)
 obtain ⟨hown, hM⟩:=hH.slot gs _ hk
 refine ⟨_, h1, _, rfl, H, ⟨hH.keep, hH.sub, hs.le.trans hH.base, fun k hk hl => (hH.fresh k hk hl).trans (hs.fresh k hk hl)⟩, fp gs, ?_, fun k hk => ?_⟩
 ·rw [h2]
  exact hr H u (fp gs) hH.base hH.sub hown
 ·obtain ⟨g1, g2, g3, _⟩:=hM k hk
  refine ⟨?_, g1, g2⟩
  rcases g3 with g3 | g3
  ·exact g3
  ·have g3':F.L k:=g3
   rw [hL] at g3'; exact g3'.elim
variable {Y:Type} {kd:IntKind} {vc:Y → Value} {l:List (Int × Y)}
end
end Go.V
set_option maxRecDepth 20000
namespace Go.V.L11
open Go.Proofs Go.RowKit Go.V Go.V.L2 Go.V.L4
theorem _root_.Go.V.Zd0 {A B:Prop} (h:B) (t:Wr B → A:=by intro h; refine z7 (zz0 rfl rfl rfl rfl) rfl ?_;exact h.h):A:=t ⟨h⟩
theorem _root_.Go.V.Zby {A B:Prop} (h:B) (t:Wr B → A:=by intro h; refine z7 (zps rfl rfl rfl rfl) rfl ?_;exact h.h):A:=t ⟨h⟩
theorem _root_.Go.V.ZaF {A B:Prop} (h:B) (t:Wr B → A:=by intro h; refine ZO ?_;refine Zd0 ?_;exact h.h):A:=t ⟨h⟩
theorem _root_.Go.V.Zd1 {A B:Prop} (h:B) (t:Wr B → A:=by intro h; refine ZX ?_;refine zj ?_;exact h.h):A:=t ⟨h⟩
def zc6:Nat → zbo → zbo
 | _, [] => []
 | n, x :: xs => (Value.int .i64 (n:Int) :: x) :: zc6 (n + 1) xs
theorem zis:∀ {a b:zbo} {n:Nat}, zc6 n (a ++ b) = zc6 n a ++ zc6 (n + a.length) b
 | [], b, n => rfl
 | x :: a, b, n => by
  show _ :: zc6 (n + 1) (a ++ b) = _
  rw [zis, List.length_cons, show n + 1 + a.length = n + (a.length + 1) by omega]
  rfl
theorem zj0 (a:zbo) (x:List Value):zc6 1 (a ++ [x]) = zc6 1 a ++ [Value.int .i64 ((a.length + 1:Nat):Int) :: x]:=by
 rw [zis, Nat.add_comm 1]; rfl
theorem zjc (stop:zbo → Bool):∀ (xs pre:zbo), zc6 1 (za7 (fun p => stop (zc6 1 p)) pre xs) = za7 stop (zc6 1 pre) (zc6 (1 + pre.length) xs)
 | [], pre => rfl
 | x :: xs, pre => by
  have e:zc6 1 (pre ++ [x]) = zc6 1 pre ++ [Value.int .i64 ((1 + pre.length:Nat):Int) :: x]:=by rw [zis]; rfl
  show zc6 1 (if stop (zc6 1 (pre ++ [x])) = true then _ else _) = (if stop (zc6 1 pre ++ [Value.int .i64 ((1 + pre.length:Nat):Int) :: x]) = true then _ else _)
  rw [← e]
  split
  ·rfl
  ·rw [zjc stop xs (pre ++ [x]), List.length_append]; rfl
theorem zvp {l:List ByteArray} {pre:zbo} {x:List Value} (h:pre ++ [x] <+: zb6 l):∃ y, x = [Value.string y]:=by
 have:x ∈ zb6 l:=h.subset (by simp)
 obtain ⟨y, _, e⟩:=List.mem_map.1 this
 exact ⟨y, e.symm⟩
theorem zmp:∀ {l acc:List UInt8}, (zs6 acc l).length ≤ l.length + (if acc = [] then 0 else 1)
 | [], acc => by
  show (if acc = [] then ([]:List (List UInt8)) else [acc]).length ≤ _
  split <;> simp
 | c :: l, acc => by
  show (if c = 10 then (acc ++ [c]) :: zs6 [] l else zs6 (acc ++ [c]) l).length ≤ _
  split
  ·have:=zmp (l:=l) (acc:=[])
   rw [if_pos rfl] at this
   simp only [List.length_cons]
   split <;> omega
  ·have:=zmp (l:=l) (acc:=acc ++ [c])
   rw [if_neg (by simp)] at this
   simp only [List.length_cons]
   split <;> omega
theorem zf0 (s:ByteArray):(zb9 s).length ≤ s.size:=by
 unfold zb9
 rw [List.length_map]
 have:=zmp (l:=s.data.toList) (acc:=[])
 rw [if_pos rfl, zau] at this
 exact this
def cnS (stop:zbo → Bool) (pre:zbo):Int:=if stop (zc6 1 pre) = true then (pre.length:Int) else ((pre.length + 1:Nat):Int)
theorem zvt {stop:zbo → Bool} {pre:zbo} (h:stop (zc6 1 pre) = false):cnS stop pre = ((pre.length + 1:Nat):Int):=if_neg (by rw [h]; decide)
theorem zxv {stop:zbo → Bool} {pre:zbo} (h:stop (zc6 1 pre) = true):cnS stop pre = (pre.length:Int):=if_pos h
attribute [local irreducible] V N X VO Par StepOK Has Ret RetL RetO RetT zbd RetX RetY Src
theorem zr2 {s:ByteArray} {w:World} {B:Heap} (hB:B.Le (hp w)) :
  RetO Tryz.prog 199 [.string s] w B (zyf (fun b:Nat => .func (.func 257) #[] #[za3 b]) fun b => zab b [.string s] znb):=by
 refine zdp Tryz.func199 rfl Tryz.ntmps199 (Nat.le_of_ble_eq_true rfl) hB ?_
 refine ZaF ?_;refine Zd ?_
 refine za5 1 900 rfl fun b => ?_
 refine Zn ?_;refine Zby ?_;refine Zc ?_
 exact zv5 L 900 (r0:=zab b [.string s] znb) (v:=.func (.func 257) #[] #[za3 b]) (rs:=[.tmp 2]) rfl (fun _ _ h => h) Since.refl rfl (fun _ => rfl) (fun H u C hle _ hr => ⟨b, rfl, hr⟩)
set_option maxHeartbeats 1000000 in
theorem zj7 {s:ByteArray} (hs:s.size ≤ 1099511627776) {sb:Nat} {w:World} {B:Heap} (hB:B.Le (hp w)) (hb:B sb = some (.cells #[.string s] znb)):z3e Tryz.prog 198 [za3 sb] w B (zc6 1 (zb6 (zb9 s))):=by
 intro ly J stop C hst hY hJ hC
 refine zah 77 (J []) Tryz.func198 rfl Tryz.ntmps198 (Nat.le_of_ble_eq_true rfl) hB hJ hC ?_
 refine ZaF ?_;refine Zj ?_
 refine za5 2 81 rfl fun yb => ?_
 refine zgd 81 rfl fun H1 hs1 _ hyb => ?_
 refine Zn ?_;refine Zbn ?_;refine Zj ?_
 refine za5 3 79 rfl fun nb => ?_
 have hb1:=hs1.le _ _ hb
 refine Z5 ?_;refine z7 (q9 L (qm rfl hb1) rfl rfl rfl rfl) rfl ?_;refine z7 (zc5 L rfl rfl (zk rfl) rfl rfl rfl (fun u H hH _ _ => zr2 hH)) rfl ?_;refine ZbI ?_
 refine zx9 6 80 rfl fun b => ?_
 refine zow L 80 (gr:=zab b [.string s] znb) (gf:=257) (caps:=[za3 b]) [(2, za3 yb), (3, za3 nb)]
  (fun pre => [(77, (J (zc6 1 pre)).res), (79, zaj nb [.int .i64 (cnS stop pre)] 3)])
  (fun pre x => [(77, .own (J (zc6 1 pre)).res), (79, .own (zaj nb [.int .i64 ((pre.length + 1:Nat):Int)] 3)), (2, .is (za3 yb)), (3, .is (za3 nb)), (4, .is (x.headD undef))])
  (zb6 (zb9 s)) (fun p => stop (zc6 1 p)) (fun _ => .ret) rfl rfl rfl rfl
  (fun pre p hp => by simp only [List.mem_cons, List.mem_singleton, List.not_mem_nil, or_false] at hp; rcases hp with rfl | rfl <;> exact Nat.ne_of_beq_eq_false rfl) ⟨rfl, by rw [zvt hst]; rfl, rfl, rfl, trivial⟩
  (fun pre p hp => by simp only [List.mem_cons, List.mem_singleton, List.not_mem_nil, or_false] at hp; rcases hp with rfl | rfl <;> exact Nat.le_of_ble_eq_true rfl) hst (fun x hx => by obtain ⟨y, _, rfl⟩:=List.mem_map.1 hx; rfl) (by decide)
  (fun u H hH hle => zw0 hs hH) ?asg ?bd ?dn ?st
 case asg =>
  intro w1 Ln B' l' D' o pre x' hpre hstp hBB
  obtain ⟨y, rfl⟩:=zvp hpre
  refine Zo ?_;refine Zax ?_
  exact zsz Since.refl ⟨rfl, by rw [← zvt hstp]; rfl, rfl, rfl, rfl, trivial⟩
 case bd =>
  intro w1 Ln B' l' D' o pre x' hpre hstp hBB
  have hlen:=hpre.length_le
  obtain ⟨y, rfl⟩:=zvp hpre
  have hll:=zf0 s
  simp only [List.length_append, List.length_map, List.length_cons, List.length_nil] at hlen
  have hyb2:=hBB _ _ hyb
  have hpre':zc6 1 pre ++ [[Value.int .i64 ((pre.length + 1:Nat):Int), Value.string y]] <+: zc6 1 (zb6 (zb9 s)):=by
   obtain ⟨t, ht⟩:=hpre
   rw [← ht, zis, zj0]
   exact List.prefix_append _ _
  have hwk:IntKind.i64.wrap (((pre.length + 1:Nat):Int) + 1) = ((pre.length + 1 + 1:Nat):Int):=zaa (by omega) (by omega)
  have e3:zc6 1 (pre ++ [[Value.string y]]) = zc6 1 pre ++ [[Value.int .i64 ((pre.length + 1:Nat):Int), Value.string y]]:=zj0 _ _
  have hpl:(pre ++ [[Value.string y]]).length = pre.length + 1:=by simp
  cases hb':stop (zc6 1 pre ++ [[Value.int .i64 ((pre.length + 1:Nat):Int), Value.string y]])
  ·refine q6 ?_;refine Ze ?_;refine Zp ?_;refine z7 (q9 L (qm rfl hyb2) rfl rfl rfl rfl) rfl ?_;refine qw (zx L (q:=79) rfl rfl rfl rfl rfl rfl) ?_;refine Za ?_;refine q8 (zch (gs:=77) hY hpre' hstp (congrArg Bool.not hb') rfl rfl rfl rfl rfl) ?_;refine Zu ?_;refine Zd1 ?_;refine Zw ?_;refine qw (zx L (q:=79) rfl rfl rfl rfl rfl rfl) ?_;refine ZM ?_;refine zam (qs L (q:=79) (cs':=[.int .i64 ((pre.length + 1 + 1:Nat):Int)]) rfl rfl rfl rfl rfl rfl rfl rfl rfl) ?_;refine zi ?_;refine qp ?_
   exact zs1 Since.refl (by rw [e3]; exact hb') ⟨by rw [e3]; rfl, by rw [zvt (by rw [e3]; exact hb'), hpl]; rfl, trivial⟩
  ·refine q6 ?_;refine Ze ?_;refine Zp ?_;refine z7 (q9 L (qm rfl hyb2) rfl rfl rfl rfl) rfl ?_;refine qw (zx L (q:=79) rfl rfl rfl rfl rfl rfl) ?_;refine Za ?_;refine q8 (zch (gs:=77) hY hpre' hstp (congrArg Bool.not hb') rfl rfl rfl rfl rfl) ?_;refine Zu ?_;refine Zz ?_
   exact zha (zkr (ze6 (zm7 Since.refl (by rw [e3]; exact hb') rfl ⟨by rw [e3]; rfl, by rw [zxv (by rw [e3]; exact hb'), hpl]; rfl, trivial⟩)))
 case st =>
  intro l' D' o hstop
  exact za6 L 77 rfl (fun _ _ h => h) hs1 rfl (by rw [zjc]; rfl)
 case dn =>
  intro l' D' o hgo
  exact zav L 77 rfl (fun _ _ h => h) hs1 rfl (by rw [zjc]; rfl)
def LinAt (s:ByteArray) (v:Value) (H:Heap):Prop:=∃ b, v = .func (.func 198) #[] #[za3 b] ∧ H b = some (.cells #[.string s] znb)
theorem LinAt.mono {s:ByteArray}:Kn.mono (.sat (LinAt s)):=fun _ _ _ ⟨b, h1, h2⟩ hle => ⟨b, h1, hle _ _ h2⟩
theorem zod {s:ByteArray} {w:World} {B:Heap} (hB:B.Le (hp w)):Ret Tryz.prog 129 [.string s] w B (LinAt s):=by
 refine qt Tryz.func129 rfl Tryz.ntmps129 (Nat.le_of_ble_eq_true rfl) hB ?_
 refine ZaF ?_;refine Zd ?_
 refine za5 1 900 rfl fun b => ?_
 refine zgd 900 rfl fun H1 hs1 _ hyb => ?_
 refine Zn ?_;refine Zby ?_;refine Zc ?_
 refine qq L (rs:=[.tmp 2]) rfl (fun _ _ h => h) hs1 fun u H hH hle => ?_
 exact ⟨b, rfl, hle _ _ hyb⟩
end Go.V.L11
set_option maxRecDepth 20000
namespace Go.V.L11
open Go.Proofs Go.RowKit Go.V Go.V.L2 Go.V.L4
def zhi (p:zbo):List ByteArray:=p.map fun x => match x with
 | [_, .string y] => y
 | _ => ⟨#[]⟩
theorem za0:∀ {ls:List ByteArray} {n:Nat}, zhi (zc6 n (zb6 ls)) = ls
 | [], _ => rfl
 | x :: ls, n => by
  show x :: zhi (zc6 (n + 1) (zb6 ls)) = _
  rw [za0]
theorem zxs (a b:List ByteArray):zb6 (a ++ b) = zb6 a ++ zb6 b:=List.map_append ..
theorem zgy (ls:List ByteArray) (y:ByteArray):zc6 1 (zb6 (ls ++ [y])) = zc6 1 (zb6 ls) ++ [[Value.int .i64 ((ls.length + 1:Nat):Int), Value.string y]]:=by
 rw [zxs]
 have:=zj0 (zb6 ls) [Value.string y]
 rw [List.length_map] at this
 exact this
theorem zun:∀ {L:List ByteArray} {n:Nat} {p:zbo}, p <+: zc6 n (zb6 L) → ∃ ls, p = zc6 n (zb6 ls) ∧ ls <+: L
 | [], n, p, h => ⟨[], List.prefix_nil.1 h, List.prefix_rfl⟩
 | x :: L, n, [], h => ⟨[], rfl, List.nil_prefix⟩
 | x :: L, n, q :: p, h => by
  have h':q :: p <+: [Value.int .i64 (n:Int), Value.string x] :: zc6 (n + 1) (zb6 L):=h
  rw [List.cons_prefix_cons] at h'
  obtain ⟨rfl, h2⟩:=h'
  obtain ⟨ls, rfl, h3⟩:=zun h2
  exact ⟨x :: ls, rfl, List.cons_prefix_cons.2 ⟨rfl, h3⟩⟩
theorem zlf {L:List ByteArray} {pre:zbo} {x:List Value} (h:pre ++ [x] <+: zc6 1 (zb6 L)):∃ ls y, pre = zc6 1 (zb6 ls) ∧ x = [Value.int .i64 ((ls.length + 1:Nat):Int), Value.string y] ∧ ls ++ [y] <+: L:=by
 obtain ⟨ls, e, hp⟩:=zun h
 rcases List.eq_nil_or_concat ls with rfl | ⟨ls', y, rfl⟩
 ·exact absurd e (by simp [zb6, zc6])
 ·rw [List.concat_eq_append] at e hp
  rw [zgy] at e
  obtain ⟨h1, h2⟩:=List.append_inj' e rfl
  exact ⟨ls', y, h1, by simpa using h2, hp⟩
theorem zfg {X:Type} (rd:ByteArray → X × Int):∀ (xs ls:List ByteArray), zba rd 1 ls = true →
  ∃ ks, za7 (fun p => !zba rd 1 (zhi p)) (zc6 1 (zb6 ls)) (zc6 (1 + ls.length) (zb6 xs)) = zc6 1 (zb6 ks) ∧ zde rd [] 1 ks = zde rd [] 1 (ls ++ xs) ∧ (zba rd 1 ks = true → ks = ls ++ xs)
 | [], ls, h => ⟨ls, rfl, by rw [List.append_nil], fun _ => (List.append_nil _).symm⟩
 | x :: xs, ls, h => by
  have e1:zc6 1 (zb6 ls) ++ [[Value.int .i64 ((1 + ls.length:Nat):Int), Value.string x]] = zc6 1 (zb6 (ls ++ [x])):=by rw [zgy, Nat.add_comm 1]
  show ∃ ks, (if (!zba rd 1 (zhi (zc6 1 (zb6 ls) ++ [[Value.int .i64 ((1 + ls.length:Nat):Int), Value.string x]]))) = true then _ else _) = _ ∧ _
  rw [e1, za0]
  cases hg:zba rd 1 (ls ++ [x])
  ·refine ⟨ls ++ [x], if_pos rfl, ?_, fun h' => by rw [hg] at h'; cases h'⟩
   rw [zbg, h] at hg
   exact (zw7 h (by simpa using hg)).symm
  ·obtain ⟨ks, h1, h2, h3⟩:=zfg rd xs (ls ++ [x]) hg
   refine ⟨ks, ?_, by rw [h2, List.append_assoc]; rfl, fun h' => by rw [h3 h', List.append_assoc]; rfl⟩
   rw [if_neg (by decide), ← h1, List.length_append]
   rfl
theorem tup3 {φ1 φ2 φ3:Value → Heap → Prop} {a b c:Value} {H:Heap} (h1:φ1 a H) (h2:φ2 b H) (h3:φ3 c H):TupS [φ1, φ2, φ3] (.tuple #[a, b, c]) H:=⟨[a, b, c], rfl, rfl, fun i φ x hi hx => by
 match i with
 | 0 => cases hi; cases hx; exact h1
 | 1 => cases hi; cases hx; exact h2
 | 2 => cases hi; cases hx; exact h3⟩
end Go.V.L11
set_option maxRecDepth 20000
namespace Go.V
open Go.RowKit
section
variable {P:Program} {F:Fr} {B:Heap} {O:Boxes} {n:Nat} {ops:Array Oper} {κ:Kap} {d:Nat} {ty:TypeId} {pos:String} {aft:Array Edge} {g:Option (Nat × Bool)} {Q:Exit → Act → World → Prop} {a:Act} {u:World} {os:List Oper}
theorem zt0 {f:Nat} (L:Tabs P) {o:Oper} {fst cap:List Value} {fo:Operand} (hop:o.op = .call { callee:=.value fo, args:=#[], argTypes:=#[] }) (hfe:a.eval fo = .func (.func f) fst.toArray cap.toArray) (hfn:L.fn f = some ()) :
  (execOp a.eval o).run P u = .ok (.enter f ((fst ++ cap).toArray)) u:=by
 simp only [execOp, hop, resolve, hfe, Deferred.ofValue, Sem.run_bind, Sem.run_pure, Result.andThen_ok, invoke]
 rw [zc8 L hfn]
 simp
theorem zdu (L:Tabs P) (q:Nat) (r':GR) (v:Value) {r:GR} {f:Nat} {fst cap:List Value} {fo:Operand}
  (hn:Nat.blt d n = true) (hg:gK ops κ ⟨some d, .call { callee:=.value fo, args:=#[], argTypes:=#[] }, ty, pos, aft, g⟩ = some true)
  (hf:evK κ fo = some (.func (.func f) fst.toArray cap.toArray)) (hfn:L.fn f = some ()) (hq:κ q = some (.own r.res))
  (h:∀ u H C, H.Le (hp u) → B.Le H → r.P H u C → (∀ k, C k → k < u.heap.size ∧ H k = none) → RetX P f (fst ++ cap) u H C r' v) :
  zcl P F B n ops O κ ⟨some d, .call { callee:=.value fo, args:=#[], argTypes:=#[] }, ty, pos, aft, g⟩ q (.own r'.res) d (.is v):=by
 rintro κ' a u hlk hks ⟨H, fp, hh⟩
 unfold After
 rw [if_pos (zai hh hlk hg)]
 have hk':κ' q = some (.own r.res):=hks.trans hq
 obtain ⟨hown, hM⟩:=hh.slot q _ hk'
 have e2:=hh.env hlk
 have hfe:a.eval fo = .func (.func f) fst.toArray cap.toArray:=e2.is_ fo _ (by simp [Op.operands, Call.operands]) hf
 have hc:=h u H (fp q) hh.sub hh.base hown fun k hk => ⟨(hM k hk).1, (hM k hk).2.1⟩
 rw [zt0 L rfl hfe hfn]
 simp only [Upon]
 refine Calls.mono hc fun e' u' hp => ?_
 obtain ⟨x, rfl, H', g', hx, C', hv, hC'⟩:=hp
 have h2:=hh.usePut (d:=q) (a':=a) (r':=r'.res) hk' g' rfl rfl (fun _ _ => rfl) hv hC'
 rw [zbw] at h2
 exact ⟨x, rfl, H', _, h2.put (k:=.is v) (zk hn) trivial hx⟩
end
end Go.V
set_option maxRecDepth 20000
namespace Go.V.L4
open Go.Proofs Go.RowKit Go.V
theorem _root_.Go.V.Za0 {A B:Prop} (h:B) (t:Wr B → A:=by intro h; refine Zd ?_;refine Z2 ?_;exact h.h):A:=t ⟨h⟩
theorem _root_.Go.V.ZaX {A B:Prop} (h:B) (t:Wr B → A:=by intro h; refine Z3 ?_;refine Zt ?_;exact h.h):A:=t ⟨h⟩
theorem _root_.Go.V.ZcB {A B:Prop} (h:B) (t:Wr B → A:=by intro h; refine Zf ?_;refine ZJ ?_;exact h.h):A:=t ⟨h⟩
attribute [local irreducible] V N X VO Par StepOK Has Ret RetL RetO RetT zbd RetX RetY Src
theorem zrr {rb:Nat} {bs:List Nat} {fu:Bool} {sv:Value} {R:Rd} {lim:Nat} {e:Int} (hb:∀ b ∈ bs, b ≤ 255) (hl:bs.length ≤ 1099511627776) (hat:R.at_ ≤ bs.length) {w:World} {B:Heap} {C:Nat → Prop} (hB:B.Le (hp w)) (hs:BsV bs fu sv B) (hr:(GRd rb sv R).P B w C) (hC:∀ k, C k → k < w.heap.size ∧ B k = none) :
  RetX Tryz.prog 208 [za3 rb, .int .u64 lim, .int .i64 e] w B C (GRd rb sv (zrs bs lim e R).2) (.int .u64 ((zrs bs lim e R).1:Nat)):=by
 unfold RetX
 refine zah 900 (GRd rb sv R) Tryz.func208 rfl Tryz.ntmps208 (Nat.le_of_ble_eq_true rfl) hB hr hC ?_
 rw [zae]
 obtain ⟨⟨n, ⟨at1, bad1, err1⟩⟩, hz⟩:∃ z, zwa bs R = z:=⟨_, rfl⟩
 obtain ⟨at_, bad, err⟩:=R
 unfold zrs
 rw [hz]
 dsimp only
 have hnum:=fun (u:World) (H:Heap) (C2:Nat → Prop) (hH:H.Le (hp u)) (hle:B.Le H) hr2 hC2 => hz ▸ zle (R:=⟨at_, bad, err⟩) (rb:=rb) (C:=C2) hb hl hat hH (hs.le hle) hr2 hC2
 by_cases hlt:lim < n
 ·rw [if_pos hlt]
  refine Zbp ?_;refine Z0 ?_;refine Za0 ?_;refine q8 (y3 L 900 (GRd rb sv ⟨at1, bad1, err1⟩) (.int .u64 n) (r:=GRd rb sv ⟨at_, bad, err⟩) rfl rfl rfl rfl rfl hnum) ?_;refine Zf ?_;refine Zo ?_;refine Zbe ?_;refine Zz ?_;refine Zp ?_;refine Zr ?_;refine q8 (zao L 900 (GRd rb sv ((⟨at1, bad1, err1⟩:Rd).fail at_ e)) (r:=GRd rb sv ⟨at1, bad1, err1⟩) rfl rfl rfl rfl rfl (fun u H C2 hH _ hr2 hC2 => zi0 hH hr2 hC2)) ?_;refine Zj ?_;refine ZY ?_;refine Zc ?_
  exact za4 L 900 (r:=zab rb _ zgo) (rs:=[.tmp 6]) rfl (fun _ _ h => h) Since.refl rfl rfl (fun _ => rfl)
 ·rw [if_neg hlt]
  refine Zbp ?_;refine Z0 ?_;refine Za0 ?_;refine q8 (y3 L 900 (GRd rb sv ⟨at1, bad1, err1⟩) (.int .u64 n) (r:=GRd rb sv ⟨at_, bad, err⟩) rfl rfl rfl rfl rfl hnum) ?_;refine Zf ?_;refine Zo ?_;refine Zb ?_;refine ZaX ?_;refine ZY ?_;refine Zc ?_
  exact za4 L 900 (r:=zab rb _ zgo) (rs:=[.tmp 6]) rfl (fun _ _ h => h) Since.refl rfl rfl (fun _ => rfl)
theorem zrv {rb:Nat} {sv:Value} {R:Rd} {gf:Rd → Int × Rd} {fr:Nat} {fst cap:List Value} (hfn:L.fn fr = some ()) {w:World} {B:Heap} {C:Nat → Prop} (hB:B.Le (hp w)) (hr:(GRd rb sv R).P B w C) (hC:∀ k, C k → k < w.heap.size ∧ B k = none)
  (hf:R.err = 0 → ∀ (u:World) (H:Heap) (C:Nat → Prop), H.Le (hp u) → B.Le H → (GRd rb sv R).P H u C → (∀ k, C k → k < u.heap.size ∧ H k = none) → RetX Tryz.prog fr (fst ++ cap) u H C (GRd rb sv (gf R).2) (.int .i64 ((gf R).1:Int))) :
  RetX Tryz.prog 206 [za3 rb, .func (.func fr) fst.toArray cap.toArray] w B C (GRd rb sv (zyl gf 0 R).2) (.int .i64 ((zyl gf 0 R).1:Int)):=by
 unfold RetX
 refine zah 900 (GRd rb sv R) Tryz.func206 rfl Tryz.ntmps206 (Nat.le_of_ble_eq_true rfl) hB hr hC ?_
 rw [zae]
 obtain ⟨⟨n, ⟨at1, bad1, err1⟩⟩, hz⟩:∃ z, gf R = z:=⟨_, rfl⟩
 obtain ⟨at_, bad, err⟩:=R
 unfold zyl
 rw [hz] at hf ⊢
 dsimp only at hf ⊢
 by_cases h0:err ≠ 0
 ·rw [if_pos h0]
  refine ZZ ?_;refine Zf ?_;refine Z2 ?_;refine q8 (y3 L 900 (GRd rb sv ⟨at_, bad, err⟩) (.bool true) (r:=GRd rb sv ⟨at_, bad, err⟩) rfl rfl rfl rfl rfl (fun u H C2 hH _ hr2 hC2 => zcc (decide_eq_true h0) hH hr2 hC2)) ?_;refine Zv ?_;refine Zk ?_;refine Zc ?_
  exact za4 L 900 (r:=zab rb _ zgo) (rs:=[.tmp 4]) rfl (fun _ _ h => h) Since.refl rfl rfl (fun _ => rfl)
 ·have he:err = 0:=Decidable.not_not.1 h0
  subst he
  rw [if_neg h0]
  have hf:=hf rfl
  by_cases h1:err1 ≠ 0
  ·rw [if_pos h1]
   refine ZZ ?_;refine Zf ?_;refine Z2 ?_;refine q8 (y3 L 900 (GRd rb sv ⟨at_, bad, 0⟩) (.bool false) (r:=GRd rb sv ⟨at_, bad, 0⟩) rfl rfl rfl rfl rfl (fun u H C2 hH _ hr2 hC2 => zcc (decide_eq_false h0) hH hr2 hC2)) ?_;refine Zt ?_;refine Zi ?_;refine Z0 ?_;refine Zcf ?_;refine q8 (zdu L 900 (GRd rb sv ⟨at1, bad1, err1⟩) (.int .i64 n) (r:=GRd rb sv ⟨at_, bad, 0⟩) rfl rfl rfl hfn rfl hf) ?_;refine ZcB ?_;refine Z0 ?_;refine ZF ?_;refine ZH ?_;refine Zb ?_;refine Zar ?_;refine zam (qs L (q:=900) (cs':=[sv, .int .i64 at_, .int .i64 bad1, .int .i64 err1]) rfl rfl rfl rfl rfl rfl rfl rfl rfl) ?_;refine Zj ?_;refine ZS ?_;refine Zc ?_
   exact za4 L 900 (r:=zab rb _ zgo) (rs:=[.tmp 4]) rfl (fun _ _ h => h) Since.refl rfl rfl (fun _ => rfl)
  ·have he:err1 = 0:=Decidable.not_not.1 h1
   subst he
   rw [if_neg h1]
   refine ZZ ?_;refine Zf ?_;refine Z2 ?_;refine q8 (y3 L 900 (GRd rb sv ⟨at_, bad, 0⟩) (.bool false) (r:=GRd rb sv ⟨at_, bad, 0⟩) rfl rfl rfl rfl rfl (fun u H C2 hH _ hr2 hC2 => zcc (decide_eq_false h0) hH hr2 hC2)) ?_;refine Zt ?_;refine Zi ?_;refine Z0 ?_;refine Zcf ?_;refine q8 (zdu L 900 (GRd rb sv ⟨at1, bad1, 0⟩) (.int .i64 n) (r:=GRd rb sv ⟨at_, bad, 0⟩) rfl rfl rfl hfn rfl hf) ?_;refine ZcB ?_;refine Z0 ?_;refine ZV ?_;refine Zaz ?_;refine Zc ?_
   exact za4 L 900 (r:=zab rb _ zgo) (rs:=[.tmp 4]) rfl (fun _ _ h => h) Since.refl rfl rfl (fun _ => rfl)
theorem zru {rb:Nat} {sv:Value} {R:Rd} {gf:Rd → Nat × Rd} {fr:Nat} {fst cap:List Value} (hfn:L.fn fr = some ()) {w:World} {B:Heap} {C:Nat → Prop} (hB:B.Le (hp w)) (hr:(GRd rb sv R).P B w C) (hC:∀ k, C k → k < w.heap.size ∧ B k = none)
  (hf:R.err = 0 → ∀ (u:World) (H:Heap) (C:Nat → Prop), H.Le (hp u) → B.Le H → (GRd rb sv R).P H u C → (∀ k, C k → k < u.heap.size ∧ H k = none) → RetX Tryz.prog fr (fst ++ cap) u H C (GRd rb sv (gf R).2) (.int .u64 ((gf R).1:Nat))) :
  RetX Tryz.prog 141 [za3 rb, .func (.func fr) fst.toArray cap.toArray] w B C (GRd rb sv (zyl gf 0 R).2) (.int .u64 ((zyl gf 0 R).1:Nat)):=by
 unfold RetX
 refine zah 900 (GRd rb sv R) Tryz.func141 rfl Tryz.ntmps141 (Nat.le_of_ble_eq_true rfl) hB hr hC ?_
 rw [zae]
 obtain ⟨⟨n, ⟨at1, bad1, err1⟩⟩, hz⟩:∃ z, gf R = z:=⟨_, rfl⟩
 obtain ⟨at_, bad, err⟩:=R
 unfold zyl
 rw [hz] at hf ⊢
 dsimp only at hf ⊢
 by_cases h0:err ≠ 0
 ·rw [if_pos h0]
  refine ZZ ?_;refine Zf ?_;refine Z2 ?_;refine q8 (y3 L 900 (GRd rb sv ⟨at_, bad, err⟩) (.bool true) (r:=GRd rb sv ⟨at_, bad, err⟩) rfl rfl rfl rfl rfl (fun u H C2 hH _ hr2 hC2 => zcc (decide_eq_true h0) hH hr2 hC2)) ?_;refine Zv ?_;refine Zk ?_;refine Zc ?_
  exact za4 L 900 (r:=zab rb _ zgo) (rs:=[.tmp 4]) rfl (fun _ _ h => h) Since.refl rfl rfl (fun _ => rfl)
 ·have he:err = 0:=Decidable.not_not.1 h0
  subst he
  rw [if_neg h0]
  have hf:=hf rfl
  by_cases h1:err1 ≠ 0
  ·rw [if_pos h1]
   refine ZZ ?_;refine Zf ?_;refine Z2 ?_;refine q8 (y3 L 900 (GRd rb sv ⟨at_, bad, 0⟩) (.bool false) (r:=GRd rb sv ⟨at_, bad, 0⟩) rfl rfl rfl rfl rfl (fun u H C2 hH _ hr2 hC2 => zcc (decide_eq_false h0) hH hr2 hC2)) ?_;refine Zt ?_;refine Zi ?_;refine Z0 ?_;refine Zcf ?_;refine q8 (zdu L 900 (GRd rb sv ⟨at1, bad1, err1⟩) (.int .u64 n) (r:=GRd rb sv ⟨at_, bad, 0⟩) rfl rfl rfl hfn rfl hf) ?_;refine ZcB ?_;refine Z0 ?_;refine ZF ?_;refine ZH ?_;refine Zb ?_;refine Zar ?_;refine zam (qs L (q:=900) (cs':=[sv, .int .i64 at_, .int .i64 bad1, .int .i64 err1]) rfl rfl rfl rfl rfl rfl rfl rfl rfl) ?_;refine Zj ?_;refine ZS ?_;refine Zc ?_
   exact za4 L 900 (r:=zab rb _ zgo) (rs:=[.tmp 4]) rfl (fun _ _ h => h) Since.refl rfl rfl (fun _ => rfl)
  ·have he:err1 = 0:=Decidable.not_not.1 h1
   subst he
   rw [if_neg h1]
   refine ZZ ?_;refine Zf ?_;refine Z2 ?_;refine q8 (y3 L 900 (GRd rb sv ⟨at_, bad, 0⟩) (.bool false) (r:=GRd rb sv ⟨at_, bad, 0⟩) rfl rfl rfl rfl rfl (fun u H C2 hH _ hr2 hC2 => zcc (decide_eq_false h0) hH hr2 hC2)) ?_;refine Zt ?_;refine Zi ?_;refine Z0 ?_;refine Zcf ?_;refine q8 (zdu L 900 (GRd rb sv ⟨at1, bad1, 0⟩) (.int .u64 n) (r:=GRd rb sv ⟨at_, bad, 0⟩) rfl rfl rfl hfn rfl hf) ?_;refine ZcB ?_;refine Z0 ?_;refine ZV ?_;refine Zaz ?_;refine Zc ?_
   exact za4 L 900 (r:=zab rb _ zgo) (rs:=[.tmp 4]) rfl (fun _ _ h => h) Since.refl rfl rfl (fun _ => rfl)
theorem zpg {rb:Nat} {bs:List Nat} {fu:Bool} {sv:Value} {R:Rd} (hb:∀ b ∈ bs, b ≤ 255) (hl:bs.length ≤ 1099511627776) (hat:R.at_ ≤ bs.length) {w:World} {B:Heap} {C:Nat → Prop} (hB:B.Le (hp w)) (hs:BsV bs fu sv B) (hr:(GRd rb sv R).P B w C) (hC:∀ k, C k → k < w.heap.size ∧ B k = none) :
  RetX Tryz.prog 76 [za3 rb] w B C (GRd rb sv (zut bs R).2) (.int .u64 ((zut bs R).1:Nat)):=by
 unfold RetX
 refine zah 900 (GRd rb sv R) Tryz.func76 rfl Tryz.ntmps76 (Nat.le_of_ble_eq_true rfl) hB hr hC ?_
 rw [zae]
 refine ZZ ?_;refine Zb ?_;refine Zby ?_;refine q8 (y3 L 900 (GRd rb sv (zut bs R).2) (.int .u64 ((zut bs R).1:Nat)) (r:=GRd rb sv R) rfl rfl rfl rfl rfl (fun u H C2 hH hle hr2 hC2 => zru (gf:=zwa bs) (fst:=[za3 rb]) (cap:=[]) rfl hH hr2 hC2 (fun _ u3 H3 C3 hH3 hle3 hr3 hC3 => zle hb hl hat hH3 ((hs.le hle).le hle3) hr3 hC3))) ?_;refine Zc ?_
 exact za4 L 900 (r:=zab rb _ zgo) (rs:=[.tmp 2]) rfl (fun _ _ h => h) Since.refl rfl rfl (fun _ => rfl)
theorem zxi {rb b2 b3:Nat} {bs:List Nat} {fu:Bool} {sv:Value} {R:Rd} {lim:Nat} (hlim:lim ≤ 1099511627776) (hb:∀ b ∈ bs, b ≤ 255) (hl:bs.length ≤ 1099511627776) (hat:R.at_ ≤ bs.length) {w:World} {B:Heap} {C:Nat → Prop} (hB:B.Le (hp w)) (hs:BsV bs fu sv B) (h2:B b2 = some (.cells #[za3 rb] 154)) (h3:B b3 = some (.cells #[.int .i64 lim] 3)) (hr:(GRd rb sv R).P B w C) (hC:∀ k, C k → k < w.heap.size ∧ B k = none) :
  RetX Tryz.prog 207 [za3 b2, za3 b3] w B C (GRd rb sv (z2e bs lim R).2) (.int .i64 (z2e bs lim R).1):=by
 unfold RetX
 refine zah 900 (GRd rb sv R) Tryz.func207 rfl Tryz.ntmps207 (Nat.le_of_ble_eq_true rfl) hB hr hC ?_
 rw [zae]
 have hmx:max (lim:Int) 0 = lim:=by omega
 have hcu:IntKind.u64.wrap (lim:Int) = (lim:Int):=wrap_u64 (by omega) (by omega)
 obtain ⟨⟨n, ⟨at1, bad1, err1⟩⟩, hz⟩:∃ z, zrs bs lim 3 R = z:=⟨_, rfl⟩
 unfold z2e
 rw [hz]
 dsimp only
 have hci:IntKind.i64.wrap ((n:Nat):Int) = IntKind.i64.wrap ((n:Nat):Int):=rfl
 refine ZZ ?_;refine z7 (q9 L (qm rfl h2) rfl rfl rfl rfl) rfl ?_;refine z7 (q9 L (qm rfl h3) rfl rfl rfl rfl) rfl ?_;refine z7 (zlc rfl rfl rfl rfl rfl) rfl ?_;refine z7 (za2 rfl rfl rfl zgc.1 zgc.2 (wrap_u64 (by omega) (by omega))) rfl ?_;refine q8 (y3 L 900 (GRd rb sv ⟨at1, bad1, err1⟩) (.int .u64 n) (r:=GRd rb sv R) rfl rfl rfl rfl rfl (fun u H C2 hH hle hr2 hC2 => by have h:=zrr (lim:=lim) (e:=3) hb hl hat hH (hs.le hle) hr2 hC2; rw [hz] at h; exact h)) ?_;refine z7 (za2 rfl rfl rfl rfl rfl hci) rfl ?_;refine Zc ?_
 exact za4 L 900 (r:=zab rb _ zgo) (rs:=[.tmp 2]) rfl (fun _ _ h => h) Since.refl rfl rfl (fun _ => rfl)
theorem len_ret {rb:Nat} {bs:List Nat} {fu:Bool} {sv:Value} {R:Rd} {lim:Nat} (hlim:lim ≤ 1099511627776) (hb:∀ b ∈ bs, b ≤ 255) (hl:bs.length ≤ 1099511627776) (hat:R.at_ ≤ bs.length) {w:World} {B:Heap} {C:Nat → Prop} (hB:B.Le (hp w)) (hs:BsV bs fu sv B) (hr:(GRd rb sv R).P B w C) (hC:∀ k, C k → k < w.heap.size ∧ B k = none) :
  RetX Tryz.prog 138 [za3 rb, .int .i64 lim] w B C (GRd rb sv (zgk bs lim R).2) (.int .i64 (zgk bs lim R).1):=by
 unfold RetX
 refine zah 900 (GRd rb sv R) Tryz.func138 rfl Tryz.ntmps138 (Nat.le_of_ble_eq_true rfl) hB hr hC ?_
 rw [zae]
 refine ZaF ?_;refine Zd0 ?_;refine Zd ?_
 refine za5 2 901 rfl fun b2 => ?_
 refine za5 3 902 rfl fun b3 => ?_
 refine zgd 901 rfl fun H1 hs1 _ h2 => ?_
 refine zgd 902 rfl fun H2 hs2 _ h3 => ?_
 have h2:=hs2.le _ _ h2
 have hs12:=hs1.trans hs2
 have hs':=hs.le hs12.le
 refine Zn ?_;refine z7 (q9 L (qm rfl h2) rfl rfl rfl rfl) rfl ?_;refine Zby ?_;refine q8 (y3 L 900 (GRd rb sv (zgk bs lim R).2) (.int .i64 (zgk bs lim R).1) (r:=GRd rb sv R) rfl rfl rfl rfl rfl (fun u H C2 hH hle hr2 hC2 => zrv (gf:=z2e bs lim) (fst:=[]) (cap:=[za3 b2, za3 b3]) rfl hH hr2 hC2 (fun _ u3 H3 C3 hH3 hle3 hr3 hC3 => zxi hlim hb hl hat hH3 ((hs'.le hle).le hle3) ((hle.trans hle3) _ _ h2) ((hle.trans hle3) _ _ h3) hr3 hC3))) ?_;refine Zc ?_
 exact za4 L 900 (r:=zab rb _ zgo) (rs:=[.tmp 4]) rfl (fun _ _ h => h) hs12 rfl rfl (fun _ => rfl)
end Go.V.L4
set_option maxRecDepth 20000
namespace Go.V.L4
open Go.Proofs Go.RowKit Go.V
theorem _root_.Go.V.ZdZ {A B:Prop} (h:B) (t:Wr B → A:=by intro h; refine zd (y8 rfl rfl rfl rfl (by assumption)) rfl ?_;exact h.h):A:=t ⟨h⟩
theorem _root_.Go.V.Zbz {A B:Prop} (h:B) (t:Wr B → A:=by intro h; refine ZO ?_;refine ZaJ ?_;exact h.h):A:=t ⟨h⟩
def zvo (bs:List Nat) (R:Rd):Nat × Int:=if R.err = 0 ∧ R.at_ < bs.length then (R.at_, 5) else (R.bad, R.err)
attribute [local irreducible] V N X VO Par StepOK Has Ret RetL RetO RetT zbd RetX RetY Src
theorem zv2 {rb:Nat} {sv:Value} {R:Rd} {w:World} {B:Heap} {C:Nat → Prop} (hB:B.Le (hp w)) (hr:(GRd rb sv R).P B w C) (hC:∀ k, C k → k < w.heap.size ∧ B k = none):RetX Tryz.prog 139 [za3 rb] w B C (GRd rb sv R) (.int .i64 R.at_):=by
 unfold RetX
 refine zah 900 (GRd rb sv R) Tryz.func139 rfl Tryz.ntmps139 (Nat.le_of_ble_eq_true rfl) hB hr hC ?_
 rw [zae]
 refine ZaT ?_;refine z7 (zck rfl rfl rfl rfl zxe rfl) rfl ?_;refine Zt ?_;refine Zk ?_;refine Z0 ?_;refine Zc ?_
 exact za4 L 900 (r:=zab rb _ zgo) (rs:=[.tmp 2]) rfl (fun _ _ h => h) Since.refl rfl rfl (fun _ => rfl)
theorem zq4 {rb:Nat} {bs:List Nat} {fu:Bool} {sv:Value} {R:Rd} (hl:bs.length ≤ 1099511627776) (hat:R.at_ ≤ bs.length) {w:World} {B:Heap} {C:Nat → Prop} (hB:B.Le (hp w)) (hs:BsV bs fu sv B) (hr:(GRd rb sv R).P B w C) (hC:∀ k, C k → k < w.heap.size ∧ B k = none):RetX Tryz.prog 219 [za3 rb] w B C (GRd rb sv R) (.int .i64 (bs.length - R.at_:Nat)):=by
 obtain ⟨p, c, rfl⟩:=zcj hs
 unfold RetX
 refine zah 900 (GRd rb _ R) Tryz.func219 rfl Tryz.ntmps219 (Nat.le_of_ble_eq_true rfl) hB hr hC ?_
 rw [zae]
 obtain ⟨at_, bad, err⟩:=R
 dsimp only [rdC] at hat ⊢
 have hw:IntKind.i64.wrap ((bs.length:Int) - (at_:Int)) = ((bs.length - at_:Nat):Int):=(zaa (by omega) (by omega)).trans (by omega)
 refine ZaT ?_;refine z7 (zck rfl rfl rfl rfl zxe rfl) rfl ?_;refine Zt ?_;refine q4 (id:=3) [(200008, [900]), (200013, [900])] mixed (by kernel_rfl) ?_;refine ZcW ?_;refine ZaE ?_;refine ZdZ ?_;refine ZK ?_
 exact za4 L 900 (r:=zab rb _ zgo) (rs:=[.tmp 2]) rfl (fun _ _ h => h) Since.refl rfl rfl (fun _ => rfl)
theorem zfo {rb:Nat} {sv:Value} {R:Rd} {w:World} {B:Heap} {C:Nat → Prop} (hB:B.Le (hp w)) (hr:(GRd rb sv R).P B w C) (hC:∀ k, C k → k < w.heap.size ∧ B k = none):RetX Tryz.prog 140 [za3 rb] w B C (GRd rb sv R) (.tuple #[.int .i64 R.bad, .int .i64 R.err]):=by
 unfold RetX
 refine zah 900 (GRd rb sv R) Tryz.func140 rfl Tryz.ntmps140 (Nat.le_of_ble_eq_true rfl) hB hr hC ?_
 rw [zae]
 refine Zbz ?_;refine Z4 ?_;refine z7 (zck rfl rfl rfl rfl zxe rfl) rfl ?_;refine Zt ?_;refine q4 (id:=3) [(200009, [900]), (200013, [900])] mixed (by kernel_rfl) ?_;refine ZaE ?_;refine ZaE ?_;refine Za2 ?_;refine ZK ?_
 exact za4 L 900 (r:=zab rb _ zgo) (rs:=[.tmp 2, .tmp 3]) rfl (fun _ _ h => h) Since.refl rfl rfl (fun _ => rfl)
theorem z0g {rb:Nat} {bs:List Nat} {fu:Bool} {sv:Value} {R:Rd} (hl:bs.length ≤ 1099511627776) (hat:R.at_ ≤ bs.length) {w:World} {B:Heap} {C:Nat → Prop} (hB:B.Le (hp w)) (hs:BsV bs fu sv B) (hr:(GRd rb sv R).P B w C) (hC:∀ k, C k → k < w.heap.size ∧ B k = none):RetX Tryz.prog 148 [za3 rb] w B C (GRd rb sv R) (.tuple #[.int .i64 (zvo bs R).1, .int .i64 (zvo bs R).2]):=by
 unfold RetX
 refine zah 900 (GRd rb sv R) Tryz.func148 rfl Tryz.ntmps148 (Nat.le_of_ble_eq_true rfl) hB hr hC ?_
 rw [zae]
 obtain ⟨at_, bad, err⟩:=R
 unfold zvo
 dsimp only [rdC] at hat ⊢
 by_cases h0:err = 0
 ·subst h0
  by_cases h1:at_ < bs.length
  ·rw [if_pos ⟨rfl, h1⟩]
   refine Zbz ?_;refine Z4 ?_;refine q8 (y3 L 900 (GRd rb sv ⟨at_, bad, 0⟩) (.bool false) (r:=GRd rb sv ⟨at_, bad, 0⟩) rfl rfl rfl rfl rfl (fun u H C2 hH _ hr2 hC2 => zcc (decide_eq_false fun h => h rfl) hH hr2 hC2)) ?_;refine Zu ?_;refine Zb ?_;refine q8 (y3 L 900 (GRd rb sv ⟨at_, bad, 0⟩) (.int .i64 (bs.length - at_:Nat)) (r:=GRd rb sv ⟨at_, bad, 0⟩) rfl rfl rfl rfl rfl (fun u H C2 hH hle hr2 hC2 => zq4 hl hat hH (hs.le hle) hr2 hC2)) ?_;refine ZW ?_;refine ZaA ?_;refine Z2 ?_;refine Z0 ?_;refine Zy ?_
   exact za4 L 900 (r:=zab rb _ zgo) (rs:=[.tmp 2, .tmp 3]) rfl (fun _ _ h => h) Since.refl rfl rfl (fun _ => rfl)
  ·rw [if_neg (fun h => h1 h.2)]
   refine Zbz ?_;refine Z4 ?_;refine q8 (y3 L 900 (GRd rb sv ⟨at_, bad, 0⟩) (.bool false) (r:=GRd rb sv ⟨at_, bad, 0⟩) rfl rfl rfl rfl rfl (fun u H C2 hH _ hr2 hC2 => zcc (decide_eq_false fun h => h rfl) hH hr2 hC2)) ?_;refine Zu ?_;refine Zb ?_;refine q8 (y3 L 900 (GRd rb sv ⟨at_, bad, 0⟩) (.int .i64 (bs.length - at_:Nat)) (r:=GRd rb sv ⟨at_, bad, 0⟩) rfl rfl rfl rfl rfl (fun u H C2 hH hle hr2 hC2 => zq4 hl hat hH (hs.le hle) hr2 hC2)) ?_;refine Z3 ?_;refine Zai ?_;refine Zk ?_;refine q8 (y3 L 900 (GRd rb sv ⟨at_, bad, 0⟩) (.tuple #[.int .i64 bad, .int .i64 0]) (r:=GRd rb sv ⟨at_, bad, 0⟩) rfl rfl rfl rfl rfl (fun u H C2 hH hle hr2 hC2 => zfo hH hr2 hC2)) ?_;refine ZdU ?_;refine Zy ?_
   exact za4 L 900 (r:=zab rb _ zgo) (rs:=[.tmp 2, .tmp 3]) rfl (fun _ _ h => h) Since.refl rfl rfl (fun _ => rfl)
 ·rw [if_neg (fun h => h0 h.1)]
  refine Zbz ?_;refine Z4 ?_;refine q8 (y3 L 900 (GRd rb sv ⟨at_, bad, err⟩) (.bool true) (r:=GRd rb sv ⟨at_, bad, err⟩) rfl rfl rfl rfl rfl (fun u H C2 hH _ hr2 hC2 => zcc (decide_eq_true h0) hH hr2 hC2)) ?_;refine Zu ?_;refine Zad ?_;refine Zt ?_;refine Zk ?_;refine q8 (y3 L 900 (GRd rb sv ⟨at_, bad, err⟩) (.tuple #[.int .i64 bad, .int .i64 err]) (r:=GRd rb sv ⟨at_, bad, err⟩) rfl rfl rfl rfl rfl (fun u H C2 hH hle hr2 hC2 => zfo hH hr2 hC2)) ?_;refine ZdU ?_;refine Zy ?_
  exact za4 L 900 (r:=zab rb _ zgo) (rs:=[.tmp 2, .tmp 3]) rfl (fun _ _ h => h) Since.refl rfl rfl (fun _ => rfl)
end Go.V.L4
set_option maxRecDepth 20000
namespace Go.V.L4
open Go.Proofs Go.RowKit Go.V
theorem zrj (bs:List Nat):(bs.map fun b:Nat => Value.int .u8 (b:Int)).all zdh = true:=by
 rw [List.all_eq_true]
 intro v hv
 obtain ⟨b, _, rfl⟩:=List.mem_map.1 hv
 rfl
abbrev z44 (bs:List Nat) (R:Rd) (rb:Nat):GR:=GEx (X:=Value) (fun sv => GRd rb sv R) (fun sv H => BsV bs false sv H) (fun _ _ _ h hle => h.le hle)
attribute [local irreducible] V N X VO Par StepOK Has Ret RetL RetO RetT zbd RetX RetY Src
theorem zlt {bs:List Nat} {fu:Bool} (hz:bs.length ≤ 1099511627776) {v:Value} {w:World} {B:Heap} (hB:B.Le (hp w)) (hv:BsV bs fu v B) :
  RetO Tryz.prog 135 [v] w B (SlR zs4 1 bs.length (bs.map fun b:Nat => Value.int .u8 (b:Int))):=by
 have hv0:=hv
 have hlen:(bs.map fun b:Nat => Value.int .u8 (b:Int)).length = bs.length * 1:=by rw [List.length_map, Nat.mul_one]
 have hpl:=zrj bs
 obtain ⟨p, c, rfl⟩:=zcj hv
 rcases p with _ | b
 ·obtain ⟨h0, rfl⟩:bs.length = 0 ∧ c = 0:=zql hv
  have hn:bs = []:=List.eq_nil_of_length_eq_zero h0
  subst hn
  refine zdp Tryz.func135 rfl Tryz.ntmps135 (Nat.le_of_ble_eq_true rfl) hB ?_
  refine ZaT ?_;refine z7 (zck rfl rfl rfl rfl z4a rfl) rfl ?_;refine Zdq ?_
  refine zge 2 zs4 1 rfl ?_
  exact zko rfl (fun _ _ h => h) Since.refl rfl
 ·refine zdp Tryz.func135 rfl Tryz.ntmps135 (Nat.le_of_ble_eq_true rfl) hB ?_
  refine ZaT ?_;refine z7 (zck rfl rfl rfl rfl z4a rfl) rfl ?_;refine Zt ?_
  refine zbl 0 (BsV bs fu) rfl SlV.mono hv0 ?_
  refine Zo ?_;refine z7 (zgb L rfl rfl rfl rfl rfl) rfl ?_;refine Zl ?_;refine q8 (zce L rfl rfl rfl (z0v rfl) rfl el5 (by assumption) (by assumption) (by omega) (by omega)) ?_;refine q8 (zal (.inr rfl) rfl rfl rfl rfl) ?_;refine Z1 ?_
  rw [Nat.zero_add, List.nil_append]
  exact zko rfl (fun _ _ h => h) Since.refl rfl
theorem zqt {bs:List Nat} {fu:Bool} (hz:bs.length ≤ 1099511627776) {v:Value} {w:World} {B:Heap} (hB:B.Le (hp w)) (hv:BsV bs fu v B) :
  RetO Tryz.prog 72 [v] w B (zyf za3 (z44 bs ⟨0, 0, 0⟩)):=by
 obtain ⟨p, c, rfl⟩:=zcj hv
 refine zdp Tryz.func72 rfl Tryz.ntmps72 (Nat.le_of_ble_eq_true rfl) hB ?_
 refine ZdT ?_
 refine Z4 ?_;refine z7 (zc5 L rfl rfl (zk rfl) rfl rfl rfl (fun u H hH hle _ => zlt hz hH (hv.le hle))) rfl ?_;refine zi5 4 rfl ?_;refine zd7 4 rfl fun sv H1 hs1 hsv => ?_;obtain ⟨p1, c1, rfl⟩:=zcj hsv; refine z7 (y6 (cs:=[_, _, _, _]) rfl rfl z3l rfl rfl) rfl ?_;refine Zd0 ?_;refine q8 (zal (.inr rfl) rfl rfl rfl rfl) ?_;refine Z1 ?_
 refine za5 2 900 rfl fun rb => ?_
 exact zv5 L 900 (r0:=GRd rb _ ⟨0, 0, 0⟩) (v:=za3 rb) (rs:=[.tmp 2]) rfl (fun _ _ h => h) hs1 rfl (fun _ => rfl) (fun H u C hle _ hr => ⟨rb, rfl, _, hsv.le hle, hr⟩)
end Go.V.L4
set_option maxRecDepth 20000
namespace Go.V.L4
open Go.Proofs Go.RowKit Go.V
theorem _root_.Go.V.Zaa {A B:Prop} (h:B) (t:Wr B → A:=by intro h; refine z7 (qv rfl rfl rfl) rfl ?_;exact h.h):A:=t ⟨h⟩
theorem _root_.Go.V.Zd2 {A B:Prop} (h:B) (t:Wr B → A:=by intro h; refine z7 (zyv rfl rfl rfl rfl (by omega) (by assumption)) rfl ?_;exact h.h):A:=t ⟨h⟩
theorem _root_.Go.V.Zer {A B:Prop} (h:B) (t:Wr B → A:=by intro h; refine z7 (zxa L rfl rfl rfl rfl rfl rfl rfl) rfl ?_;exact h.h):A:=t ⟨h⟩
theorem _root_.Go.V.ZcZ {A B:Prop} (h:B) (t:Wr B → A:=by intro h; refine zi ?_;refine Zat ?_;exact h.h):A:=t ⟨h⟩
theorem _root_.Go.V.Zd3 {A B:Prop} (h:B) (t:Wr B → A:=by intro h; refine Zaa ?_;refine Z1 ?_;exact h.h):A:=t ⟨h⟩
def zoy (n:Nat):List Nat:=if n < 128 then [n] else (n % 128 + 128) :: zoy (n / 128)
termination_by n
decreasing_by omega
theorem zfk {n:Nat} (h:n < 128):zoy n = [n]:=by unfold zoy; rw [if_pos h]
theorem zuo {n:Nat} (h:¬ n < 128):zoy n = (n % 128 + 128) :: zoy (n / 128):=by rw [zoy, if_neg h]
abbrev z28:TypeId:=179
abbrev byV (bs:List Nat):List Value:=bs.map fun b:Nat => Value.int .u8 (b:Int)
def GSl (sv:Value) (bs:List Nat):GR:=⟨fun H u C => (SlR zs4 1 bs.length (byV bs)).P sv H u C, (SlR zs4 1 bs.length (byV bs)).st⟩
theorem zmw (sv:Value) (bs:List Nat):(GSl sv bs).res = AtV sv (SlR zs4 1 bs.length (byV bs)):=rfl
abbrev GWv (wb:Nat) (bs:List Nat) (sv:Value):GR:=zfv (zab wb [sv] z28) (GSl sv bs)
def zs2 (v:Value):Prop:=∃ p k c, v = .slice p k c
theorem zeo:zhe fun (sv:Value) (_:Heap) => zs2 sv:=fun _ _ _ h _ => h
abbrev GWr (wb:Nat) (bs:List Nat):GR:=GEx (X:=Value) (GWv wb bs) (fun sv _ => zs2 sv) zeo
theorem ztx {e:TypeId} {s n:Nat} {xs:List Value}:∀ v H u C, (SlR e s n xs).P v H u C → zs2 v:=fun v H u C ⟨_, h⟩ => by
 rcases h with ⟨_, rfl, _⟩ | ⟨b, c, r, rfl, _⟩ <;> exact ⟨_, _, _, rfl⟩
theorem zri (acc:List Nat) (m:Nat):byV acc ++ [Value.int .u8 (m:Int)] = byV (acc ++ [m]):=by unfold byV; rw [List.map_append]; rfl
theorem zqu:∀ (k n:Nat), n < 128 ^ (k + 1) → (zoy n).length ≤ k + 1
 | 0, n, h => by rw [zfk (by omega)]; exact Nat.le_refl _
 | k + 1, n, h => by
  by_cases h2:n < 128
  ·rw [zfk h2]; exact Nat.le_add_left _ _
  ·rw [zuo h2, List.length_cons]
   have:=zqu k (n / 128) (by rw [Nat.pow_succ] at h; exact Nat.div_lt_of_lt_mul (by rw [Nat.mul_comm]; exact h))
   omega
theorem zx2 {n:Nat} (h:n < 18446744073709551616):bits .and .u64 (n:Int) 127 = ((n % 128:Nat):Int):=by
 have h2:=bits_and_u64_nat n 127 h (by decide)
 rw [show n &&& 127 = n % 128 from Nat.and_two_pow_sub_one_eq_mod n 7] at h2
 exact h2
theorem zzu (n:Nat):bits .or .u64 ((n % 128:Nat):Int) 128 = ((n % 128 + 128:Nat):Int):=by
 have h2:=bits_or_u64_nat (n % 128) 128 (by omega) (by decide)
 have h3:=zyt (a:=n % 128) (b:=1) (i:=7) (by omega)
 rw [show 1 * 2 ^ 7 = 128 from rfl] at h3
 rw [h3] at h2
 exact h2
def GNo:GR:=⟨fun _ _ C => ∀ k, ¬ C k, fun h _ _ _ _ => h⟩
theorem zlo {P:Program} {f:FuncId} {args:List Value} {w:World} {B:Heap} {C:Nat → Prop} {φ:Value → Heap → Prop} (h:RetL P f args w B C (fun v H _ => φ v H)):RetY P f args w B C GNo φ:=RetL.mono h fun _ _ _ _ hp => ⟨hp, fun _ => False, fun _ h => h, fun _ h => h.elim⟩
attribute [local irreducible] V N X VO Par StepOK Has Ret RetL RetO RetT zbd RetX RetY Src
theorem zdr {wb n:Nat} {bs:List Nat} (hn:n < 18446744073709551616) (hz:bs.length + 10 ≤ 1099511627776) {w:World} {B:Heap} {C:Nat → Prop} (hB:B.Le (hp w)) (hr:(GWr wb bs).P B w C) (hC:∀ k, C k → k < w.heap.size ∧ B k = none) :
  zbd Tryz.prog 86 [za3 wb, .int .u64 n] w B C (GWr wb (bs ++ zoy n)):=by
 unfold zbd
 refine zah 900 (GWr wb bs) Tryz.func86 rfl Tryz.ntmps86 (Nat.le_of_ble_eq_true rfl) hB hr hC ?_
 refine zid (X:=Value) 900 (r:=fun sv => (GWv wb bs sv).res) (φ:=fun sv _ => zs2 sv) (hφ:=zeo) rfl fun sv H0 hs0 hsp => ?_
 refine zdi (r1:=zaj wb [sv] z28) (r2:=(GSl sv bs).res) 900 901 rfl (zas _) ?_
 rw [zmw]
 refine zh ?_;refine ZbA ?_;refine z7 (zck rfl rfl rfl rfl z17 rfl) rfl ?_;refine Zt ?_;refine q6 ?_
 refine zan (fun x:Value × Nat × List Nat => [(0, .is (za3 wb)), (1, .is (.int .u64 x.2.1)), (900, .own (zaj wb [x.1] z28)), (901, .own (AtV x.1 (SlR zs4 1 x.2.2.length (byV x.2.2))))]) (fun x => x.2.1 < 18446744073709551616 ∧ zs2 x.1 ∧ x.2.2.length + (zoy x.2.1).length = bs.length + (zoy n).length ∧ x.2.2 ++ zoy x.2.1 = bs ++ zoy n) (fun x => x.2.1) (sv, n, bs) ⟨hn, hsp, rfl, rfl⟩ ⟨rfl, rfl, rfl, rfl, trivial⟩ ?_
 rintro ⟨s1, m, acc⟩ ⟨hm, hp1, hl, he⟩
 dsimp only at hm hp1 hl he ⊢
 have hlen:(byV acc).length = acc.length * 1:=by rw [List.length_map, Nat.mul_one]
 have hpl:=zrj acc
 have h128:(128:Nat) ^ 10 = 1180591620717411303424:=by decide
 have hnl:=zqu 9 n (by omega)
 have haz:acc.length ≤ 1099511627776:=by omega
 by_cases h:m < 128
 ·rw [zfk h] at he
  have hcv:IntKind.u8.wrap (m:Int) = (m:Int):=zlx (by omega) (by omega)
  refine Ze ?_;refine Z4 ?_;refine ZD ?_;refine Zbx ?_;refine zj ?_;refine Zp ?_;refine Zb ?_;refine Z0 ?_;refine zcq 27 901 rfl rfl ?_;refine Za ?_;refine z7 (za2 rfl rfl rfl zrb.1 zrb.2 (zlx (by omega) (by omega))) rfl ?_;refine ZR ?_;refine q8 (zce L rfl rfl rfl (zkw rfl) rfl el5 rfl rfl (by omega) (by omega)) ?_;refine zej 31 901 zs2 rfl ztx fun s2 hp2 => ?_;obtain ⟨p2, k2, c2, rfl⟩:=hp2; refine Zar ?_;refine zam (qs L (q:=900) (cs':=[.slice p2 k2 c2]) rfl rfl rfl rfl rfl rfl rfl rfl rfl) ?_;refine zi ?_
  have e1:byV acc ++ zmx [(0, Value.int .u8 (m:Int))] = byV (bs ++ zoy n):=by rw [← he]; exact zri acc m
  have e2:acc.length + 1 = (bs ++ zoy n).length:=by rw [← he, List.length_append]; rfl
  rw [e1, e2]
  refine zks 900 901 rfl rfl (zv1 _ _) ?_
  refine zox (X:=Value) 900 (r:=fun sv => (GWv wb (bs ++ zoy n) sv).res) (φ:=fun sv _ => zs2 sv) zeo (.slice p2 k2 c2) ⟨_, _, _, rfl⟩ rfl ?_
  exact zav L 900 (r:=GWr wb (bs ++ zoy n)) rfl (fun _ _ h => h) hs0 rfl rfl
 ·rw [zuo h] at he hl
  have hand:=zx2 hm
  have hor:=zzu m
  have hcv:IntKind.u8.wrap ((m % 128 + 128:Nat):Int) = ((m % 128 + 128:Nat):Int):=zlx (by omega) (by omega)
  have hsr:(m:Int).fdiv (2 ^ min (7:Int).toNat IntKind.u64.bits) = ((m / 128:Nat):Int):=by
   show (m:Int).fdiv 128 = _
   rw [Int.fdiv_eq_ediv_of_nonneg _ (by decide)]
   omega
  refine Ze ?_;refine Z4 ?_;refine Za7 ?_;refine ZaM ?_;refine Zo ?_;refine Zb ?_;refine Z0 ?_;refine zcq 14 901 rfl rfl ?_;refine Za ?_;refine ZeV ?_;refine ZeW ?_;refine z7 (za2 rfl rfl rfl zrb.1 zrb.2 (zlx (by omega) (by omega))) rfl ?_;refine ZR ?_;refine q8 (zce L rfl rfl rfl (zkw rfl) rfl el5 rfl rfl (by omega) (by omega)) ?_;refine zej 20 901 zs2 rfl ztx fun s2 hp2 => ?_;obtain ⟨p2, k2, c2, rfl⟩:=hp2; refine Zar ?_;refine zam (qs L (q:=900) (cs':=[.slice p2 k2 c2]) rfl rfl rfl rfl rfl rfl rfl rfl rfl) ?_;refine ZcZ ?_;refine Z2 ?_;refine Zd2 ?_;refine Zax ?_
  have e1:byV acc ++ zmx [(0, Value.int .u8 ((m % 128 + 128:Nat):Int))] = byV (acc ++ [m % 128 + 128]):=zri _ _
  have e2:acc.length + 1 = (acc ++ [m % 128 + 128]).length:=by rw [List.length_append]; rfl
  rw [e1, e2]
  exact qy (x:=(s1, m, acc)) (.slice p2 k2 c2, m / 128, acc ++ [m % 128 + 128]) ⟨by dsimp only; omega, ⟨_, _, _, rfl⟩, by dsimp only; rw [List.length_append]; rw [List.length_cons] at hl; simp only [List.length_cons, List.length_nil]; omega, by dsimp only; rw [List.append_assoc]; exact he⟩ (by dsimp only; omega) ⟨rfl, rfl, rfl, rfl, trivial⟩
theorem zvv {bs:List Nat} {fu:Bool} {v:Value} {w:World} {B:Heap} (hB:B.Le (hp w)) (hv:BsV bs fu v B):Ret Tryz.prog 158 [v] w B (BsV bs true):=by
 refine qt Tryz.func158 rfl Tryz.ntmps158 (Nat.le_of_ble_eq_true rfl) hB ?_
 refine zbl 0 (BsV bs fu) rfl SlV.mono hv ?_
 refine ZZ ?_;refine Zl ?_;refine Zx ?_;refine Zx ?_;refine Zer ?_;refine Zd3 ?_
 refine qq L (rs:=[.tmp 2]) rfl (fun _ _ h => h) Since.refl fun u H hH hle => ?_
 exact fun v hv => hv
theorem zky {wb:Nat} {bs:List Nat} (hz:bs.length ≤ 1099511627776) {w:World} {B:Heap} {C:Nat → Prop} (hB:B.Le (hp w)) (hr:(GWr wb bs).P B w C) (hC:∀ k, C k → k < w.heap.size ∧ B k = none) :
  RetL Tryz.prog 91 [za3 wb] w B C (fun v H _ => BsV bs true v H):=by
 refine zah 900 (GWr wb bs) Tryz.func91 rfl Tryz.ntmps91 (Nat.le_of_ble_eq_true rfl) hB hr hC ?_
 refine zid (X:=Value) 900 (r:=fun sv => (GWv wb bs sv).res) (φ:=fun sv _ => zs2 sv) (hφ:=zeo) rfl fun sv H0 hs0 hsp => ?_
 refine zdi (r1:=zaj wb [sv] z28) (r2:=(GSl sv bs).res) 900 901 rfl (zas _) ?_
 rw [zmw]
 obtain ⟨p, k, c, rfl⟩:=hsp
 refine ZaT ?_;refine z7 (zck rfl rfl rfl rfl z17 rfl) rfl ?_;refine Zt ?_;refine Zk ?_;refine Z0 ?_;refine zcq 8 901 rfl rfl ?_;refine zi5 8 rfl ?_;refine z7 (zc5 L rfl rfl (zk rfl) rfl rfl rfl (fun u H hH hle _ v1 h1 => zlt hz hH h1)) rfl ?_;refine zi5 9 rfl ?_;refine z7 (zag (φ:=BsV bs true) L rfl rfl (zk rfl) rfl rfl rfl SlV.mono (fun u H hH hle _ v1 h1 => zvv hH h1)) rfl ?_;refine Zd3 ?_
 exact qq L (rs:=[.tmp 2]) rfl (fun _ _ h => h) hs0 (fun _ H _ _ v hv => hv)
end Go.V.L4
set_option maxRecDepth 20000
namespace Go.V
open Go.RowKit
section
variable {P:Program} {F:Fr} {B:Heap} {O:Boxes} {n:Nat} {ops:Array Oper} {κ:Kap} {d q b:Nat} {ty:TypeId} {pos:String} {aft:Array Edge} {g:Option (Nat × Bool)} {src dst t t':TypeId} {x y:Operand} {cs:List Value}
theorem zgs {u:World} {vs:Array Value} {fr:Nat × Nat} (h:u.heap[b]? = some (.cells vs t' fr)):u.shape? b = some (t', vs.size):=by simp [World.shape?, h]
theorem zpo (hx:evK κ x = some (.pointer (some ⟨b, 0, none⟩))) (hq:κ q = some (.own (zaj b cs t'))) (hn:Nat.blt d n = true) (hg:gK ops κ ⟨some d, .convert src dst x, ty, pos, aft, g⟩ = some true) (hs:P.underlying src = some (.pointer t)) (hd:P.underlying dst = some .unsafePointer) (hj:(P.info? t).map (fun j => decide (j.size ≠ 0)) = some true) (hc:Nat.ble 1 cs.length = true) :
  StepOKR P F B n ops O κ ⟨some d, .convert src dst x, ty, pos, aft, g⟩ q d (.is (.pointer (some ⟨b, 0, none⟩))):=by
 obtain ⟨j, ht, hj⟩:∃ j, P.info? t = some j ∧ j.size ≠ 0:=by
  cases h:P.info? t with
  | none => rw [h] at hj; cases hj
  | some j => rw [h] at hj; exact ⟨j, rfl, by simpa using hj⟩
 rintro κ' a u hlk hqk ⟨H, fp, hh⟩
 unfold After
 rw [if_pos (zai hh hlk hg)]
 have e:=hh.env hlk
 have h1:=e.is_ x _ (by simp [Op.operands]) hx
 obtain ⟨⟨h2, hC⟩, hM⟩:=hh.slot q _ (hqk.trans hq)
 have hr:=Lib.run_to_unsafe (P:=P) u (src:=src) (dst:=dst) ⟨b, 0, none⟩ hs hd ht hj (zgs h2) (by have:=Nat.le_of_ble_eq_true hc; simp only [List.size_toArray]; omega)
 have hrun:(execOp a.eval ⟨some d, .convert src dst x, ty, pos, aft, g⟩).run P u = .ok (.value (.pointer (some ⟨b, 0, none⟩))) u:=by
  simp only [execOp, h1, Sem.run_bind, Sem.run_pure, hr, Result.andThen_ok]
 rw [hrun]
 simp only [Upon]
 exact ⟨H, fp, hh.put (k:=.is _) (zk hn) trivial rfl⟩
theorem zmk (hx:evK κ x = some (.pointer (some ⟨b, 0, none⟩))) (hq:κ q = some (.own (zaj b cs t'))) (hn:Nat.blt d n = true) (hg:gK ops κ ⟨some d, .convert src dst x, ty, pos, aft, g⟩ = some true) (hs:P.underlying src = some .unsafePointer) (hd:P.underlying dst = some (.pointer t)) (ht:(P.info? t).isSome = true) {m:Nat} (hm:cs.length = m) (hl:liesAt P P.depth t' (m / P.cellsOf t') 0 t 1 = true) :
  StepOKR P F B n ops O κ ⟨some d, .convert src dst x, ty, pos, aft, g⟩ q d (.is (.pointer (some ⟨b, 0, none⟩))):=by
 obtain ⟨j, ht⟩:=Option.isSome_iff_exists.1 ht
 rintro κ' a u hlk hqk ⟨H, fp, hh⟩
 subst hm
 unfold After
 rw [if_pos (zai hh hlk hg)]
 have e:=hh.env hlk
 have h1:=e.is_ x _ (by simp [Op.operands]) hx
 obtain ⟨⟨h2, hC⟩, hM⟩:=hh.slot q _ (hqk.trans hq)
 have hr:=Lib.run_from_unsafe (P:=P) u (src:=src) (dst:=dst) ⟨b, 0, none⟩ hs hd ht (zgs h2) (by simpa using hl)
 have hrun:(execOp a.eval ⟨some d, .convert src dst x, ty, pos, aft, g⟩).run P u = .ok (.value (.pointer (some ⟨b, 0, none⟩))) u:=by
  simp only [execOp, h1, Sem.run_bind, Sem.run_pure, hr, Result.andThen_ok]
 rw [hrun]
 simp only [Upon]
 exact ⟨H, fp, hh.put (k:=.is _) (zk hn) trivial rfl⟩
theorem zr9 {te:TypeId} {a0:Addr} (hn:Nat.blt d n = true) (hg:gK ops κ ⟨some d, .binOp .neq t x y t', ty, pos, aft, g⟩ = some true) (hx:evK κ x = some (.pointer (some a0))) (hy:evK κ y = some (.pointer (some a0))) (hp:P.underlying t = some (.pointer te)) (hte:(P.info? te).isSome = true) :
  StepOK P F B n ops O κ ⟨some d, .binOp .neq t x y t', ty, pos, aft, g⟩ d (.is (.bool false)):=by
 obtain ⟨j, hte⟩:=Option.isSome_iff_exists.1 hte
 exact zb1 hn hg hx hy fun u => Lib.run_neq_ptr_same u a0 hp hte
theorem zpt {f:Nat} {at_:Array TypeId} {fo:Operand} {v r:Value} (hn:Nat.blt d n = true) (hg:gK ops κ ⟨some d, .call { callee:=.value fo, args:=#[x], argTypes:=at_ }, ty, pos, aft, g⟩ = some true) (hfo:evK κ fo = some (.func (.func f) #[] #[])) (hx:evK κ x = some v) (hext:∀ u, (callFunc f #[v]).run P u = .ok (.value r) u) :
  StepOK P F B n ops O κ ⟨some d, .call { callee:=.value fo, args:=#[x], argTypes:=at_ }, ty, pos, aft, g⟩ d (.is r):=by
 rintro κ' a u hlk ⟨H, fp, hh⟩
 unfold After
 rw [if_pos (zai hh hlk hg)]
 have e:=hh.env hlk
 have h1:a.eval x = v:=e.is_ x _ (by simp [Op.operands, Call.operands]) hx
 have h2:a.eval fo = .func (.func f) #[] #[]:=e.is_ fo _ (by simp [Op.operands, Call.operands]) hfo
 have hrun:(execOp a.eval ⟨some d, .call { callee:=.value fo, args:=#[x], argTypes:=at_ }, ty, pos, aft, g⟩).run P u = .ok (.value r) u:=by
  simp only [execOp, resolve, h2, Deferred.ofValue, Sem.run_bind, Sem.run_pure, Result.andThen_ok, invoke]
  simp [h1, hext]
 rw [hrun]
 simp only [Upon]
 exact ⟨H, fp, hh.put (k:=.is r) (zk hn) trivial rfl⟩
end
end Go.V
set_option maxRecDepth 20000
namespace Go.V
open Go.RowKit
theorem zx1 {P:Program} (u:World) {t ty2 e:TypeId} {aty:TypeId} {i:TypeInfo} {z:Value} (ht:P.underlying t = some (.slice e)) (hu:P.underlying ty2 = some .string) (hi:P.info? e = some i) (hz:i.zero = some z) (hs1:i.size = 1) (hs2:i.bytes = 1) (hs3:z.cells.size = 1)
  {x:Value} {str:ByteArray} {C:Nat → Prop} {H:Heap} {nn:Nat} {xs:List Value} (hsub:H.Le (hp u)) (hown:(SlR e 1 nn xs).P x H u C) (hlt:∀ k, C k → k < u.heap.size ∧ H k = none) (h63:nn + str.size ≤ 9223372036854775807) (hb:nn + str.size ≤ 140737488355328) :
  ∃ x' u' C', (Builtin.append_ #[t, ty2] aty #[x, .string str]).run P u = .ok x' u' ∧ (SlR e 1 (nn + str.size) (xs ++ Lib.strCells str)).P x' H u' C' ∧ Grow C u H u' H ∧ ∀ k, C' k → (C k ∨ u.heap.size ≤ k) ∧ k < u'.heap.size ∧ H k = none:=by
 have hl:=Lib.strCells_length str
 generalize hnews:Lib.strCells str = news at hl ⊢
 obtain ⟨m, hm0⟩:∃ m, str.size = m:=⟨_, rfl⟩
 have hmx:nn + m ≤ maxLen:=by simp only [maxLen]; omega
 obtain ⟨hxl, hown⟩:=hown
 have hlen:(xs ++ news).length = (nn + m) * 1:=by rw [List.length_append, hxl, hl, hm0]; omega
 have hdrew:∀ o:Obj, Grow C u H (u.drew.alloc o) H:=fun o => ⟨⟨rfl, rfl, rfl, by simp, fun k hk _ => zb0 u.drew _ hk, Nat.le_succ _⟩, fun k v hv => by
  have:=hsub.size hv
  show (u.drew.alloc o).heap[k]? = some v
  rw [zb0 u.drew _ this]; exact hsub k v hv, Heap.Le.refl _, fun _ _ _ => rfl⟩
 have hnew:∀ (o:Obj) (k:Nat), k = u.heap.size → (C k ∨ u.heap.size ≤ k) ∧ k < (u.drew.alloc o).heap.size ∧ H k = none:=fun o k hk => by
  subst hk
  exact ⟨.inr (Nat.le_refl _), by simp, za9 hsub (Nat.le_refl _)⟩
 have grown:∀ (old:Nat), old < nn + m → ∀ vs:List Value, vs = xs →
   (SlR e 1 (nn + m) (xs ++ news)).P (.slice (some ⟨u.heap.size, 0, none⟩) (nn + m) (grownCap u (nn + m) old e)) H (u.drew.alloc (.cells (vs.toArray ++ news.toArray ++ Builtin.zeroCells z.cells (grownCap u (nn + m) old e - (nn + m))) e)) (fun k => k = u.heap.size):=by
  rintro old ho vs rfl
  have hge:=grownCap_ge u (nn + m) old e
  refine ⟨hlen, .inr ⟨u.heap.size, _, (Builtin.zeroCells z.cells (grownCap u (nn + m) old e - (nn + m))).toList, rfl, ?_, hge, grownCap_le_maxLen u (nn + m) old e hmx, ?_, fun _ => Iff.rfl⟩⟩
  ·have h2:(u.drew.alloc (.cells (vs.toArray ++ news.toArray ++ Builtin.zeroCells z.cells (grownCap u (nn + m) old e - (nn + m))) e)).heap[u.heap.size]? = some (.cells (vs.toArray ++ news.toArray ++ Builtin.zeroCells z.cells (grownCap u (nn + m) old e - (nn + m))) e):=heap_alloc_new u.drew _
   rw [h2]
   congr 2
   apply Array.ext'
   simp
  ·rw [List.length_append, hlen, Array.length_toList, size_zeroCells, hs3]
   omega
 rcases hown with ⟨rfl, rfl, hC⟩ | ⟨b, cap, rest, rfl, hbk, hnc, hcm, hcl, hC⟩
 ·have hx:xs = []:=List.eq_nil_of_length_eq_zero (by simpa using hxl)
  subst hx
  by_cases h0:m = 0
  ·subst h0
   have hn:news = []:=List.eq_nil_of_length_eq_zero (by omega)
   subst hn
   refine ⟨.slice none 0 0, u, noL, ?_, ⟨by simp [hm0], .inl ⟨by omega, rfl, fun _ h => h⟩⟩, ⟨Keep.refl _ _, hsub, Heap.Le.refl _, fun _ _ _ => rfl⟩, fun _ h => h.elim⟩
   have hf:=Lib.run_firstCells_string (P:=P) u i.size str
   rw [hm0] at hf
   simp [Builtin.append_, run_underlying ht, run_underlying hu, sizeOf, typeInfo, hi, Builtin.lenOf, hm0, hf]
  ·have hr:=run_append_nil_string (P:=P) u t ty2 aty e i z ht hu hi hz str (by omega) (by omega) (by rw [hs2]; omega)
   have hgr:=grown 0 (by omega) [] rfl
   rw [hm0] at hr ⊢
   simp only [Nat.zero_add, List.nil_append, Array.empty_append] at hgr ⊢
   refine ⟨_, _, _, hr, ?_, hdrew _, fun k hk => hnew _ k hk⟩
   have e1:str.data.map (fun b => Value.int .u8 b.toNat) = news.toArray:=by rw [← hnews]; apply Array.ext'; simp [Lib.strCells]
   rw [e1]
   exact hgr
 ·have hbl:=hlt b ((hC b).2 rfl)
  have holds:∀ j v, xs[j]? = some v → u.cell? ((⟨b, 0, none⟩:Addr).add j) = some v:=fun j v hj => by
   rw [zc7, Nat.zero_add, za1 hbk]
   have hlt:j < xs.length:=by
    rcases Nat.lt_or_ge j xs.length with h | h
    ·exact h
    ·rw [List.getElem?_eq_none h] at hj; cases hj
   simp only [List.getElem?_toArray]
   rw [List.getElem?_append_left hlt]; exact hj
  rw [hm0]
  by_cases hroom:nn + m ≤ cap
  ·have hfit:nn + str.size ≤ (xs ++ rest).toArray.size:=by simp only [List.size_toArray, hcl]; omega
   have hr:=Lib.run_append_room_string (P:=P) u t ty2 aty e i ht hu hi hs1 b nn cap _ hbk str (by omega) hfit
   rw [hnews, hm0] at hr
   refine ⟨_, _, C, hr, ⟨hlen, .inr ⟨b, cap, rest.drop news.length, rfl, ?_, hroom, hcm, ?_, hC⟩⟩, zcz hsub hbk ((hC b).2 rfl) hbl.2 _, fun k hk => ⟨.inl hk, by rw [setRow_size]; exact (hlt k hk).1, (hlt k hk).2⟩⟩
   ·rw [setRow_heap u b _ _ e (0, 0) hbk]
    congr 2
    have hx1:xs.length = nn:=by omega
    rw [← hx1, hl, hm0]
    simp [List.drop_append, List.drop_eq_nil_of_le]
   ·have h5:rest.length = cap * 1 - nn * 1:=by rw [← hcl, List.length_append, hxl]; omega
    rw [List.length_append, hlen, List.length_drop, h5, hl, hm0]
    omega
  ·have hr:=Lib.run_append_grow_string (P:=P) u t ty2 aty e i z ht hu hi hz ⟨b, 0, none⟩ nn cap xs (by rw [hs1]; exact hxl) holds str (by omega) (by omega) (by rw [hs2]; exact growslice_fits (by omega) (by omega))
   rw [hnews, hm0] at hr
   exact ⟨_, _, _, hr, grown cap (by omega) xs rfl, hdrew _, fun k hk => hnew _ k hk⟩
section
variable {P:Program} {F:Fr} {B:Heap} {O:Boxes} {n:Nat} {ops:Array Oper} {κ:Kap} {d:Nat} {ty:TypeId} {pos:String} {aft:Array Edge} {g:Option (Nat × Bool)}
theorem zn8 (L:Tabs P) {q:Nat} {t ty2 e:TypeId} {y:Operand} {nn:Nat} {xs:List Value} {str:ByteArray} (hn:Nat.blt d n = true) (hg:gK ops κ ⟨some d, .call ⟨.builtin .append, #[.tmp q, y], #[t, ty2]⟩, ty, pos, aft, g⟩ = some true)
  (hq:κ q = some (.own (SlR e 1 nn xs))) (hy:evK κ y = some (.string str)) (ht:L.sl t = some e) (hu:P.underlying ty2 = some .string) (he:elI P e = some (1, 1)) (hb:nn + str.size ≤ 140737488355328) :
  zcl P F B n ops O κ ⟨some d, .call ⟨.builtin .append, #[.tmp q, y], #[t, ty2]⟩, ty, pos, aft, g⟩ q zdv d (.own (SlR e 1 (nn + str.size) (xs ++ Lib.strCells str))):=by
 rintro κ' a u hlk hks ⟨H, fp, hh⟩
 unfold After
 rw [if_pos (zai hh hlk hg)]
 have en:=hh.env hlk
 obtain ⟨i, z, hi, hz, hs1, hs2, hs3, hs4⟩:=zec he
 have hk':κ' q = some (.own (SlR e 1 nn xs)):=hks.trans hq
 obtain ⟨hown, hM⟩:=hh.slot q _ hk'
 have h1:a.eval y = .string str:=en.is_ y _ (by simp [Op.operands, Call.operands]) hy
 obtain ⟨x', u', C', hr, hown', hgr, hC'⟩:=zx1 u (aty:=ty) (Tabs.sl_spec ht) hu hi hz hs1 hs2 hs3 hh.sub hown (fun k hk => ⟨(hM k hk).1, (hM k hk).2.1⟩) (by omega) hb
 have hrun:(execOp a.eval ⟨some d, .call ⟨.builtin .append, #[.tmp q, y], #[t, ty2]⟩, ty, pos, aft, g⟩).run P u = .ok (.value x') u':=by
  simp only [execOp, resolve, invoke, builtin, Sem.run_bind, Sem.run_pure, Result.andThen_ok, List.map_toArray, List.map_cons, List.map_nil, h1, hr]
 rw [hrun]
 simp only [Upon]
 exact ⟨H, _, hh.usePut hk' hgr (by simp [Act.put]) rfl (fun t ht => zat ht) (by rw [zay (by rw [hh.size]; exact zk hn)]; exact hown') hC'⟩
end
end Go.V
set_option maxRecDepth 20000
namespace Go.V.Bd
open Go.Proofs Go.RowKit Go.V Go.V.L4
theorem _root_.Go.V.Zfo {A B:Prop} (h:B) (t:Wr B → A:=by intro h; refine zcu 900 901 rfl rfl (zv1 _ _) ?_;exact h.h):A:=t ⟨h⟩
theorem _root_.Go.V.ZcC {A B:Prop} (h:B) (t:Wr B → A:=by intro h; refine Zdk ?_;refine zh ?_;exact h.h):A:=t ⟨h⟩
abbrev zi9:TypeId:=228
theorem z0f (v:Value) (u:World):(callFunc 255 #[v]).run Tryz.prog u = .ok (.value v) u :=
 (run_callFunc_extern Tryz.func255 (by kernel_rfl) (by kernel_rfl) (by kernel_rfl) (e:=Extern.AbiNoEscape.same) (by kernel_rfl) #[v] u).trans rfl
attribute [local irreducible] V N X VO Par StepOK Has Ret RetL RetO RetT zbd RetX RetY Src
theorem check_ret {bb:Nat} {sv p:Value} (hpp:p = .pointer none ∨ p = za3 bb) {w:World} {B:Heap} {C:Nat → Prop} (hB:B.Le (hp w)) (hr:(zab bb [p, sv] zi9).P B w C) (hC:∀ k, C k → k < w.heap.size ∧ B k = none) :
  zbd Tryz.prog 195 [za3 bb] w B C (zab bb [za3 bb, sv] zi9):=by
 unfold zbd
 refine zah 900 (zab bb [p, sv] zi9) Tryz.func195 rfl Tryz.ntmps195 (Nat.le_of_ble_eq_true rfl) hB hr hC ?_
 rw [zae]
 rcases hpp with rfl | rfl
 ·refine ZbA ?_;refine Z0 ?_;refine z7 (zck rfl rfl rfl rfl z18 rfl) rfl ?_;refine Zz ?_;refine Zn ?_;refine Zb ?_;refine qw (zpo (q:=900) (t:=zi9) rfl rfl rfl rfl (by kernel_rfl) (by kernel_rfl) (by kernel_rfl) rfl) ?_;refine z7 (zpt rfl rfl rfl rfl (z0f _)) rfl ?_;refine qw (zmk (q:=900) (t:=zi9) rfl rfl rfl rfl (by kernel_rfl) (by kernel_rfl) (by kernel_rfl) rfl (by kernel_rfl)) ?_;refine Zar ?_;refine zam (qs L (q:=900) (cs':=[za3 bb, sv]) rfl rfl rfl rfl rfl rfl rfl rfl rfl) ?_;refine zi ?_
  exact zav L 900 (r:=zab bb _ zi9) rfl (fun _ _ h => h) Since.refl rfl rfl
 ·refine ZbA ?_;refine Z0 ?_;refine z7 (zck rfl rfl rfl rfl z18 rfl) rfl ?_;refine ZcC ?_;refine Z2 ?_;refine Z0 ?_;refine Za ?_;refine z7 (zr9 (te:=zi9) rfl rfl rfl rfl (by kernel_rfl) (by kernel_rfl)) rfl ?_;refine ZX ?_
  exact zav L 900 (r:=zab bb _ zi9) rfl (fun _ _ h => h) Since.refl rfl rfl
abbrev GBv (bb:Nat) (bs:List Nat) (x:Value × Value):GR:=zfv (zab bb [x.1, x.2] zi9) (GSl x.2 bs)
def z05 (bb:Nat) (x:Value × Value):Prop:=(x.1 = .pointer none ∨ x.1 = za3 bb) ∧ zs2 x.2
theorem zet (bb:Nat):zhe fun (x:Value × Value) (_:Heap) => z05 bb x:=fun _ _ _ h _ => h
abbrev GBd (bb:Nat) (bs:List Nat):GR:=GEx (X:=Value × Value) (GBv bb bs) (fun x _ => z05 bb x) (zet bb)
def zfr (s:ByteArray):List Nat:=s.data.toList.map fun c => c.toNat
theorem zfq (s:ByteArray):(zfr s).length = s.size:=by unfold zfr; rw [List.length_map, Array.length_toList]; rfl
theorem z0q (bs:List Nat) (s:ByteArray):byV bs ++ Lib.strCells s = byV (bs ++ zfr s):=by
 unfold byV zfr Lib.strCells
 rw [List.map_append, List.map_map]
 rfl
theorem write_ret {bb:Nat} {bs:List Nat} {str:ByteArray} (hz:bs.length + str.size ≤ 140737488355328) {w:World} {B:Heap} {C:Nat → Prop} (hB:B.Le (hp w)) (hr:(GBd bb bs).P B w C) (hC:∀ k, C k → k < w.heap.size ∧ B k = none) :
  RetX Tryz.prog 122 [za3 bb, .string str] w B C (GBd bb (bs ++ zfr str)) (.tuple #[.int .i64 str.size, .nilIface]):=by
 unfold RetX
 refine zah 900 (GBd bb bs) Tryz.func122 rfl Tryz.ntmps122 (Nat.le_of_ble_eq_true rfl) hB hr hC ?_
 refine zid (X:=Value × Value) 900 (r:=fun x => (GBv bb bs x).res) (φ:=fun x _ => z05 bb x) (hφ:=zet bb) rfl fun x H0 hs0 hx => ?_
 obtain ⟨p, sv⟩:=x
 obtain ⟨hpp, hsl⟩:=hx
 dsimp only at hpp hsl ⊢
 obtain ⟨p1, k1, c1, rfl⟩:=hsl
 refine zdi (r1:=zaj bb [p, .slice p1 k1 c1] zi9) (r2:=(GSl (.slice p1 k1 c1) bs).res) 900 901 rfl (zas _) ?_
 rw [zmw]
 refine ZcU ?_;refine Z4 ?_;refine q8 (zao L 900 (zab bb [za3 bb, .slice p1 k1 c1] zi9) (r:=zab bb [p, .slice p1 k1 c1] zi9) rfl rfl rfl rfl rfl (fun u H C hH _ hr hC => check_ret hpp hH hr hC)) ?_;refine Zj ?_;refine Zav ?_;refine Z0 ?_;refine zcq 12 901 rfl rfl ?_;refine Za ?_;refine q8 (zn8 L rfl rfl rfl rfl rfl (by kernel_rfl) el5 hz) ?_;refine zej 14 901 zs2 rfl ztx fun s2 hp2 => ?_;obtain ⟨p2, k2, c2, rfl⟩:=hp2; refine Zar ?_;refine zam (qs L (q:=900) (cs':=[za3 bb, .slice p2 k2 c2]) rfl rfl rfl rfl rfl rfl rfl rfl rfl) ?_;refine Zj ?_;refine Zk ?_;refine ZaB ?_;refine Zy ?_
 have e2:bs.length + str.size = (bs ++ zfr str).length:=by rw [List.length_append, zfq]
 rw [z0q, e2]
 refine Zfo ?_
 refine zlv (X:=Value × Value) 900 (r:=fun x => (GBv bb (bs ++ zfr str) x).res) (φ:=fun x _ => z05 bb x) (zet bb) (za3 bb, .slice p2 k2 c2) ⟨.inr rfl, _, _, _, rfl⟩ rfl ?_
 exact za4 L 900 (r:=GBd bb (bs ++ zfr str)) (rs:=[.tmp 4, .tmp 5]) rfl (fun _ _ h => h) hs0 rfl rfl (fun _ => rfl)
end Go.V.Bd
set_option maxRecDepth 20000
namespace Go.V
open Go.RowKit Go.V.L4
theorem zep {u:World} {a:Addr} {n k:Nat} (h:k ≠ a.block):(u.freeze a n).heap[k]? = u.heap[k]?:=by
 unfold World.freeze
 split
 ·rfl
 ·simp [Array.getElem?_modify, Ne.symm h]
theorem zpe (u:World) (a:Addr) (n:Nat):(u.freeze a n).heap.size = u.heap.size:=by
 unfold World.freeze
 split <;> simp
theorem zp1 {u:World} {H:Heap} {b n:Nat} {L:Nat → Prop} (hs:H.Le (hp u)) (hL:L b) (hH:H b = none):Grow L u H (u.freeze ⟨b, 0, none⟩ n) H :=
 have ho:(u.freeze ⟨b, 0, none⟩ n).os = u.os ∧ (u.freeze ⟨b, 0, none⟩ n).tape = u.tape ∧ (u.freeze ⟨b, 0, none⟩ n).output = u.output ∧ (u.freeze ⟨b, 0, none⟩ n).drawn = u.drawn:=by unfold World.freeze; split <;> exact ⟨rfl, rfl, rfl, rfl⟩
 ⟨⟨ho.1, ho.2.1, ho.2.2.1, Nat.le_of_eq (zpe ..).symm, fun k _ hk => zep (fun e => hk (e ▸ hL)), Nat.le_of_eq ho.2.2.2.symm⟩, fun k x hx => by
  have:k ≠ b:=fun e => by subst e; rw [hH] at hx; cases hx
  show (u.freeze ⟨b, 0, none⟩ n).heap[k]? = some x
  rw [zep this]; exact hs k x hx, Heap.Le.refl _, fun _ _ _ => rfl⟩
def zfa (bs:List Nat):ByteArray:=⟨(bs.map UInt8.ofNat).toArray⟩
section
variable {P:Program} {F:Fr} {B:Heap} {O:Boxes} {n:Nat} {ops:Array Oper} {κ:Kap} {d q b:Nat} {ty:TypeId} {pos:String} {aft:Array Edge} {g:Option (Nat × Bool)} {x y:Operand} {Q:Exit → Act → World → Prop}
theorem z20 (q:Nat) {r:Res} {c:Code} (S:Prop) (hk:κ q = some (.own r)) (hS:∀ v H u C, r.P v H u C → S) (h:S → V P F B n O κ c Q):V P F B n O κ c Q:=fun a u hh => by
 obtain ⟨H, fp, hH⟩:=hh
 exact h (hS _ _ _ _ (hH.slot q _ hk).1) a u ⟨H, fp, hH⟩
theorem zn2 {tts:Array TypeId} {a0:Addr} {m c:Nat} (hn:Nat.blt d n = true) (hg:gK ops κ ⟨some d, .call ⟨.builtin .unsafeSliceData, #[x], tts⟩, ty, pos, aft, g⟩ = some true) (hx:evK κ x = some (.slice (some a0) m c)) (hc:c ≠ 0) :
  StepOK P F B n ops O κ ⟨some d, .call ⟨.builtin .unsafeSliceData, #[x], tts⟩, ty, pos, aft, g⟩ d (.is (.pointer (some a0))) :=
 zax rfl (by simpa using hn) hg trivial fun a u H fp e => ⟨_, by
  have h1:a.eval x = .slice (some a0) m c:=e.is_ x _ (by simp [Op.operands, Call.operands]) hx
  have h2:=Lib.run_unsafeSliceData_row (P:=P) u tts ty a0 m c hc
  simp only [execOp, resolve, invoke, builtin, Sem.run_bind, Sem.run_pure, Result.andThen_ok, List.map_toArray, List.map_cons, List.map_nil, h1, h2], rfl⟩
theorem zn1 {pt it e:TypeId} {m c:Nat} {bs:List Nat} (hb:∀ b ∈ bs, b ≤ 255) (h0:bs ≠ []) (hl:bs.length ≤ 1099511627776) (hn:Nat.blt d n = true) (hg:gK ops κ ⟨some d, .call ⟨.builtin .unsafeString, #[x, y], #[pt, it]⟩, ty, pos, aft, g⟩ = some true) (hx:evK κ x = some (.pointer (some ⟨b, 0, none⟩))) (hy:evK κ y = some (.int .i64 bs.length))
  (hq:κ q = some (.own (AtV (.slice (some ⟨b, 0, none⟩) m c) (SlR e 1 bs.length (byV bs))))) (hp:P.underlying pt = some (.pointer e)) (hc:P.cellsOf e = 1) :
  zcl P F B n ops O κ ⟨some d, .call ⟨.builtin .unsafeString, #[x, y], #[pt, it]⟩, ty, pos, aft, g⟩ q (.own GNo.res) d (.is (.string (zfa bs))):=by
 rintro κ' a u hlk hks ⟨H, fp, hh⟩
 unfold After
 rw [if_pos (zai hh hlk hg)]
 have en:=hh.env hlk
 have hk':=hks.trans hq
 obtain ⟨hown, hM⟩:=hh.slot q _ hk'
 have h1:a.eval x = .pointer (some ⟨b, 0, none⟩):=en.is_ x _ (by simp [Op.operands, Call.operands]) hx
 have h2:a.eval y = .int .i64 bs.length:=en.is_ y _ (by simp [Op.operands, Call.operands]) hy
 obtain ⟨hxl, hown⟩:=hown
 rcases hown with ⟨_, hv, _⟩ | ⟨b2, cap, rest, hv, hbk, hnc, hcm, hcl, hC⟩
 ·cases hv
 ·cases hv
  have hbm:=hM b ((hC b).2 rfl)
  have hlen:(bs.map UInt8.ofNat).length = bs.length:=List.length_map _
  have hr:=Lib.run_unsafeString_row (P:=P) u pt it ty e hp hc b (byV bs ++ rest).toArray.size (by simp [World.shape?, hbk]) (bs.map UInt8.ofNat) (fun h => h0 (List.map_eq_nil_iff.1 h)) (by rw [hlen]; simp) (by rw [hlen]; omega) (fun j v hj => by
   rw [zc7, Nat.zero_add, za1 hbk]
   rw [List.getElem?_map] at hj
   cases hbj:bs[j]? with
   | none => rw [hbj] at hj; cases hj
   | some z =>
    rw [hbj] at hj
    cases hj
    have hz:=hb z (List.mem_of_getElem? hbj)
    have hjl:j < (byV bs).length:=by rw [List.length_map]; exact get_lt hbj
    simp only [List.getElem?_toArray]
    rw [List.getElem?_append_left hjl, List.getElem?_map, hbj]
    have:(UInt8.ofNat z).toNat = z:=by simp; omega
    rw [this]
    rfl)
  rw [hlen] at hr
  have hrun:(execOp a.eval ⟨some d, .call ⟨.builtin .unsafeString, #[x, y], #[pt, it]⟩, ty, pos, aft, g⟩).run P u = .ok (.value (.string (zfa bs))) (u.freeze ⟨b, 0, none⟩ bs.length):=by
   simp only [execOp, resolve, invoke, builtin, Sem.run_bind, Sem.run_pure, Result.andThen_ok, List.map_toArray, List.map_cons, List.map_nil, h1, h2, hr]
   rfl
  rw [hrun]
  simp only [Upon]
  have h3:=hh.usePut (d:=q) (a':=a) (r':=GNo.res) (C:=fun _ => False) hk' (zp1 (n:=bs.length) hh.sub ((hC b).2 rfl) hbm.2.1) rfl rfl (fun _ _ => rfl) (fun k h => h) (fun k h => h.elim)
  rw [zbw] at h3
  exact ⟨H, _, h3.put (k:=.is _) (zk hn) trivial rfl⟩
theorem zmj {tts:Array TypeId} {m c:Nat} (hn:Nat.blt d n = true) (hg:gK ops κ ⟨some d, .call ⟨.builtin .unsafeSliceData, #[x], tts⟩, ty, pos, aft, g⟩ = some true) (hx:evK κ x = some (.slice none m c)) :
  StepOK P F B n ops O κ ⟨some d, .call ⟨.builtin .unsafeSliceData, #[x], tts⟩, ty, pos, aft, g⟩ d (.is (.pointer none)) :=
 zax rfl (by simpa using hn) hg trivial fun a u H fp e => ⟨_, by
  have h1:a.eval x = .slice none m c:=e.is_ x _ (by simp [Op.operands, Call.operands]) hx
  have h2:=Lib.run_unsafeSliceData_nil (P:=P) u tts ty m c
  simp only [execOp, resolve, invoke, builtin, Sem.run_bind, Sem.run_pure, Result.andThen_ok, List.map_toArray, List.map_cons, List.map_nil, h1, h2], rfl⟩
theorem zmh {pt it:TypeId} {p0:Option Addr} (hn:Nat.blt d n = true) (hg:gK ops κ ⟨some d, .call ⟨.builtin .unsafeString, #[x, y], #[pt, it]⟩, ty, pos, aft, g⟩ = some true) (hx:evK κ x = some (.pointer p0)) (hy:evK κ y = some (.int .i64 0)) :
  StepOK P F B n ops O κ ⟨some d, .call ⟨.builtin .unsafeString, #[x, y], #[pt, it]⟩, ty, pos, aft, g⟩ d (.is (.string .empty)) :=
 zax rfl (by simpa using hn) hg trivial fun a u H fp e => ⟨_, by
  have h1:a.eval x = .pointer p0:=e.is_ x _ (by simp [Op.operands, Call.operands]) hx
  have h2:a.eval y = .int .i64 0:=e.is_ y _ (by simp [Op.operands, Call.operands]) hy
  have h3:=Lib.run_unsafeString_none (P:=P) u pt it ty p0
  simp only [execOp, resolve, invoke, builtin, Sem.run_bind, Sem.run_pure, Result.andThen_ok, List.map_toArray, List.map_cons, List.map_nil, h1, h2, h3], rfl⟩
end
end Go.V
set_option maxRecDepth 20000
namespace Go.V.Bd
open Go.Proofs Go.RowKit Go.V Go.V.L4
theorem zze {bs:List Nat} (h0:bs ≠ []) {p:Option Addr} {k c:Nat}:∀ v H u C, (AtV (.slice p k c) (SlR zs4 1 bs.length (byV bs))).P v H u C → ∃ b cap, Value.slice p k c = .slice (some ⟨b, 0, none⟩) bs.length cap ∧ bs.length ≤ cap:=fun v H u C ⟨_, h⟩ => by
 rcases h with ⟨h, _⟩ | ⟨b, cap, rest, hv, _, hnc, _⟩
 ·exact absurd (List.eq_nil_of_length_eq_zero h) h0
 ·exact ⟨b, cap, hv, hnc⟩
attribute [local irreducible] V N X VO Par StepOK Has Ret RetL RetO RetT zbd RetX RetY Src
theorem zk4 {bb:Nat} {bs:List Nat} (hb:∀ b ∈ bs, b ≤ 255) (h0:bs ≠ []) (hl:bs.length ≤ 1099511627776) {w:World} {B:Heap} {C:Nat → Prop} (hB:B.Le (hp w)) (hr:(GBd bb bs).P B w C) (hC:∀ k, C k → k < w.heap.size ∧ B k = none) :
  RetX Tryz.prog 124 [za3 bb] w B C GNo (.string (zfa bs)):=by
 unfold RetX
 refine zah 900 (GBd bb bs) Tryz.func124 rfl Tryz.ntmps124 (Nat.le_of_ble_eq_true rfl) hB hr hC ?_
 refine zid (X:=Value × Value) 900 (r:=fun x => (GBv bb bs x).res) (φ:=fun x _ => z05 bb x) (hφ:=zet bb) rfl fun x H0 hs0 hx => ?_
 obtain ⟨p, sv⟩:=x
 obtain ⟨hpp, hsl⟩:=hx
 dsimp only at hpp hsl ⊢
 obtain ⟨p1, k1, c1, rfl⟩:=hsl
 refine zdi (r1:=zaj bb [p, .slice p1 k1 c1] zi9) (r2:=(GSl (.slice p1 k1 c1) bs).res) 900 901 rfl (zas _) ?_
 rw [zmw]
 refine z20 901 _ rfl (zze h0) fun hk => ?_
 obtain ⟨b, cap, hv, hcap⟩:=hk
 cases hv
 have hlp:0 < bs.length:=List.length_pos_iff.2 h0
 refine ZdT ?_;refine q4 (id:=1) [(200006, [900]), (200011, [900]), (13, [901])] mixed (by kernel_rfl) ?_;refine ZaE ?_;refine zd (zn2 rfl rfl rfl (by omega)) rfl ?_;refine ZcW ?_;refine zbi (zn1 (q:=901) hb h0 hl rfl rfl rfl rfl rfl (by kernel_rfl) (by kernel_rfl)) rfl rfl ?_;refine ZK ?_
 exact za4 L 901 (r:=GNo) (rs:=[.tmp 2]) rfl (fun _ _ h => h) hs0 rfl rfl (fun _ => rfl)
theorem zje {bb:Nat} {p:Value} {w:World} {B:Heap} {C:Nat → Prop} (hB:B.Le (hp w)) (hr:(zab bb [p, .slice none 0 0] zi9).P B w C) (hC:∀ k, C k → k < w.heap.size ∧ B k = none) :
  RetX Tryz.prog 124 [za3 bb] w B C (zab bb [p, .slice none 0 0] zi9) (.string .empty):=by
 unfold RetX
 refine zah 900 (zab bb [p, .slice none 0 0] zi9) Tryz.func124 rfl Tryz.ntmps124 (Nat.le_of_ble_eq_true rfl) hB hr hC ?_
 rw [zae]
 refine ZdT ?_;refine q4 (id:=1) [(200006, [900]), (200011, [900])] mixed (by kernel_rfl) ?_;refine ZaE ?_;refine zd (zmj rfl rfl rfl) rfl ?_;refine ZcW ?_;refine zd (zmh rfl rfl rfl rfl) rfl ?_;refine ZK ?_
 exact za4 L 900 (r:=zab bb _ zi9) (rs:=[.tmp 2]) rfl (fun _ _ h => h) Since.refl rfl rfl (fun _ => rfl)
end Go.V.Bd
set_option maxRecDepth 20000
namespace Go.V.L2
open Go.Proofs Go.RowKit Go.V
theorem _root_.Go.V.Zea {A B:Prop} (h:B) (t:Wr B → A:=by intro h; refine zd (yf L (vs:=[_, _, _, _, _, _]) rfl rfl rfl rfl rfl ⟨_, rfl⟩) rfl ?_;exact h.h):A:=t ⟨h⟩
theorem _root_.Go.V.Zcn {A B:Prop} (h:B) (t:Wr B → A:=by intro h; refine z7 (y6 (cs:=[_, _, _, _, _, _]) rfl rfl z4u rfl rfl) rfl ?_;exact h.h):A:=t ⟨h⟩
theorem _root_.Go.V.ZcD {A B:Prop} (h:B) (t:Wr B → A:=by intro h; refine zd (zt rfl rfl rfl) rfl ?_;exact h.h):A:=t ⟨h⟩
theorem _root_.Go.V.Zgi {A B:Prop} (h:B) (t:Wr B → A:=by intro h; refine zd (zy L (vs:=[_, _, _]) (qo rfl) rfl rfl rfl rfl ⟨_, rfl⟩) rfl ?_;exact h.h):A:=t ⟨h⟩
theorem _root_.Go.V.ZeA {A B:Prop} (h:B) (t:Wr B → A:=by intro h; refine zd (yh rfl rfl rfl rfl (decide_eq_true (by omega))) rfl ?_;exact h.h):A:=t ⟨h⟩
theorem _root_.Go.V.Zeb {A B:Prop} (h:B) (t:Wr B → A:=by intro h; refine q4 (id:=4) [] mixed (by kernel_rfl) ?_;exact h.h):A:=t ⟨h⟩
theorem _root_.Go.V.Zfp {A B:Prop} (h:B) (t:Wr B → A:=by intro h; refine zd (yh rfl rfl rfl rfl (decide_eq_false (by omega))) rfl ?_;exact h.h):A:=t ⟨h⟩
theorem _root_.Go.V.ZeX {A B:Prop} (h:B) (t:Wr B → A:=by intro h; refine Zci ?_;refine Zbn ?_;exact h.h):A:=t ⟨h⟩
theorem _root_.Go.V.ZaG {A B:Prop} (h:B) (t:Wr B → A:=by intro h; refine ZeX ?_;refine Zf ?_;exact h.h):A:=t ⟨h⟩
theorem _root_.Go.V.Zbq {A B:Prop} (h:B) (t:Wr B → A:=by intro h; refine zh ?_;refine Zw ?_;exact h.h):A:=t ⟨h⟩
theorem _root_.Go.V.ZbB {A B:Prop} (h:B) (t:Wr B → A:=by intro h; refine Zcl ?_;refine Ze3 ?_;exact h.h):A:=t ⟨h⟩
theorem _root_.Go.V.Zfq {A B:Prop} (h:B) (t:Wr B → A:=by intro h; refine ZcD ?_;refine Zh ?_;exact h.h):A:=t ⟨h⟩
theorem _root_.Go.V.Zd4 {A B:Prop} (h:B) (t:Wr B → A:=by intro h; refine Zbc ?_;refine Zgi ?_;exact h.h):A:=t ⟨h⟩
theorem _root_.Go.V.Zd5 {A B:Prop} (h:B) (t:Wr B → A:=by intro h; refine Zfq ?_;refine Zc4 ?_;exact h.h):A:=t ⟨h⟩
abbrev uv (t:U):Value:=.agg #[.string t.1.1.1, .string t.1.1.2, .string t.1.2, .string t.2.1.1, .string t.2.1.2, .string t.2.2]
abbrev tyU:TypeId:=34
abbrev US (l:List U) (fu:Bool):Value → Heap → Prop:=SlV tyU 6 (l.flatMap ucs) l.length fu
theorem zi7 {l:List U} {i:Nat} {t:U} (h:l[i]? = some t):((l.flatMap ucs).drop (i * 6)).take 6 = [.string t.1.1.1, .string t.1.1.2, .string t.1.2, .string t.2.1.1, .string t.2.1.2, .string t.2.2]:=zf2 zl3 l i t h
attribute [local irreducible] V N X VO Par StepOK Has Ret RetL Src
theorem zca {t:U} (hz:TZ t) {w:World} {B:Heap} (hB:B.Le (hp w)):Ret Tryz.prog 100 [uv t] w B (fun v _ => v = .int .i64 (tE t)):=by
 obtain ⟨⟨z1, z2, z3⟩, z4, z5, z6⟩:=hz
 unfold tE
 refine qt Tryz.func100 rfl Tryz.ntmps100 (Nat.le_of_ble_eq_true rfl) hB ?_
 by_cases h:zcw [t.1.1.1, t.1.1.2, t.1.2] = 0
 ·rw [if_pos h]
  refine Zds ?_;refine Zdr ?_;refine z7 (zp L rfl rfl (zk rfl) rfl rfl rfl (fun u H hH _ _ => ze4 (by first | assumption | omega | decide) (by first | assumption | omega | decide) (by first | assumption | omega | decide) hH)) rfl ?_;refine Za0 ?_;refine ZV ?_;refine Zp ?_;refine ZaV ?_;refine Zdr ?_;refine z7 (zp L rfl rfl (zk rfl) rfl rfl rfl (fun u H hH _ _ => zjd (by first | assumption | omega | decide) (by first | assumption | omega | decide) (by first | assumption | omega | decide) hH)) rfl ?_;refine Zc ?_
  refine qq L (rs:=[.tmp 2]) rfl (fun _ _ h => h) Since.refl fun u H hH hle => ?_
  rfl
 ·rw [if_neg h]
  refine Zds ?_;refine Zdr ?_;refine z7 (zp L rfl rfl (zk rfl) rfl rfl rfl (fun u H hH _ _ => ze4 (by first | assumption | omega | decide) (by first | assumption | omega | decide) (by first | assumption | omega | decide) hH)) rfl ?_;refine Za0 ?_;refine ZF ?_;refine Zk ?_;refine Zc ?_
  refine qq L (rs:=[.tmp 2]) rfl (fun _ _ h => h) Since.refl fun u H hH hle => ?_
  rfl
theorem zc1 {a b:U} {w:World} {B:Heap} (hB:B.Le (hp w)):Ret Tryz.prog 101 [uv a, uv b] w B (fun v _ => v = .int .i64 (zbt a b)):=by
 refine qt Tryz.func101 rfl Tryz.ntmps101 (Nat.le_of_ble_eq_true rfl) hB ?_
 refine Zae ?_;refine Zd ?_;refine Zbt ?_;refine Zd4 ?_;refine Zd4 ?_;refine zd (zp L rfl rfl (zk rfl) rfl rfl rfl (fun u H hH _ _ => zm0 hH)) rfl ?_;refine Zd4 ?_;refine Zd4 ?_;refine zd (zp L rfl rfl (zk rfl) rfl rfl rfl (fun u H hH _ _ => cmpU_ret hH)) rfl ?_;refine ZeN ?_;refine zd (zp L rfl rfl (zk rfl) rfl rfl rfl (fun u H hH _ _ v hv => zmg hH hv)) rfl ?_;refine ZK ?_
 refine qq L (rs:=[.tmp 4]) rfl (fun _ _ h => h) Since.refl fun u H hH hle => ?_
 rfl
theorem subjT_size (a b c:ByteArray):(zhl a b c).size ≤ a.size + b.size + c.size + 2:=by
 unfold zhl
 split
 ·rw [objT_size]; omega
 ·rw [goalT_size]; omega
theorem zne {t:U} (hz:TZ t) {w:World} {B:Heap} (hB:B.Le (hp w)):Ret Tryz.prog 123 [uv t] w B (fun v _ => v = .string (tT t)):=by
 obtain ⟨⟨z1, z2, z3⟩, z4, z5, z6⟩:=hz
 have h0:sAt.size = 1:=rfl
 have h1:=goalT_size t.1.1.1 t.1.1.2 t.1.2
 have h2:=subjT_size t.2.1.1 t.2.1.2 t.2.2
 have h3:(zhw t.1.1.1 t.1.1.2 t.1.2).size + sAt.size ≤ 9223372036854775807:=by omega
 have h4:(zhw t.1.1.1 t.1.1.2 t.1.2 ++ sAt).size + (zhl t.2.1.1 t.2.1.2 t.2.2).size ≤ 9223372036854775807:=by rw [ByteArray.size_append]; omega
 refine qt Tryz.func123 rfl Tryz.ntmps123 (Nat.le_of_ble_eq_true rfl) hB ?_
 refine Zbk ?_;refine Zbt ?_;refine Zd4 ?_;refine zd (zp L rfl rfl (zk rfl) rfl rfl rfl (fun u H hH _ _ => zh8 (by first | assumption | omega | decide) (by first | assumption | omega | decide) (by first | assumption | omega | decide) hH)) rfl ?_;refine Zel ?_;refine Zd4 ?_;refine zd (zp L rfl rfl (zk rfl) rfl rfl rfl (fun u H hH _ _ => znm (by first | assumption | omega | decide) (by first | assumption | omega | decide) (by first | assumption | omega | decide) hH)) rfl ?_;refine Zel ?_;refine ZK ?_
 refine qq L (rs:=[.tmp 2]) rfl (fun _ _ h => h) Since.refl fun u H hH hle => ?_
 rfl
set_option maxHeartbeats 1000000 in
theorem zek {s:ByteArray} {r:U × Int} (hr:ptA s = r) (hs:s.size ≤ 1000000) {w:World} {B:Heap} (hB:B.Le (hp w)) (hM:GlobM B) :
  Ret Tryz.prog 63 [.string s] w B (fun v _ => v = .tuple #[uv r.1, .int .i64 r.2]):=by
 subst hr
 have hz:=zg6 s 64
 have hz1:(zc0 s 64).1.size ≤ 1000000:=by omega
 have hz2:(zc0 s 64).2.1.size ≤ 1000000:=by omega
 unfold ptA
 refine qt Tryz.func63 rfl Tryz.ntmps63 (Nat.le_of_ble_eq_true rfl) hB ?_
 cases h1:(zc0 s 64).2.2
 ·rw [if_neg (fun h => by cases h.1)]
  refine Zb5 ?_;refine z7 (zp L rfl rfl (zk rfl) rfl rfl rfl (fun u H hH hle _ => zeh (by assumption) hH (GlobM.mono (by assumption) hle) (by assumption))) rfl ?_;refine Zbl ?_;refine Zdu ?_;refine ZeT ?_;refine Zbs ?_;refine ZaA ?_;refine Zo ?_;refine Zcn ?_;refine ZaL ?_
  refine qq L (rs:=[.cell 2 34, .tmp 3]) rfl (fun _ _ h => h) Since.refl fun u H hH hle => ?_
  exact ⟨_, qk rfl, rfl, rfl⟩
 ·cases h2:zoz (zc0 s 64).2.1 64
  ·rw [if_pos ⟨rfl, rfl⟩]
   rcases hp:pgA (zc0 s 64).1 with ⟨a, b, c, e⟩
   dsimp only
   by_cases he:e = 0
   ·rw [if_pos he]
    rcases hq:psA (zc0 s 64).2.1 with ⟨a', b', c', e'⟩
    dsimp only
    by_cases he':e' = 0
    ·rw [if_pos he']
     refine Zb5 ?_;refine z7 (zp L rfl rfl (zk rfl) rfl rfl rfl (fun u H hH hle _ => zeh (by assumption) hH (GlobM.mono (by assumption) hle) (by assumption))) rfl ?_;refine Zbl ?_;refine Zdu ?_;refine ZeT ?_;refine Zb ?_;refine z7 (zp L rfl rfl (zk rfl) rfl rfl rfl (fun u H hH _ _ => zbp hH (by assumption))) rfl ?_;refine Zai ?_;refine Zi ?_;refine z7 (zp L rfl rfl (zk rfl) rfl rfl rfl (fun u H hH hle _ => zpm (by first | assumption | rfl) (by first | assumption | omega | decide) hH (GlobM.mono (by assumption) hle))) rfl ?_;refine ZaG ?_;refine ZY ?_;refine ZV ?_;refine ZC ?_;refine z7 (zp L rfl rfl (zk rfl) rfl rfl rfl (fun u H hH hle _ => zt3 (by first | assumption | rfl) (by first | assumption | omega | decide) hH (GlobM.mono (by assumption) hle))) rfl ?_;refine ZaG ?_;refine ZS ?_;refine ZV ?_;refine Zap ?_;refine Zfj ?_;refine Zfj ?_;refine Zcn ?_;refine ZaL ?_
     refine qq L (rs:=[.cell 2 34, .tmp 3]) rfl (fun _ _ h => h) Since.refl fun u H hH hle => ?_
     exact ⟨_, qk rfl, rfl, rfl⟩
    ·rw [if_neg he']
     refine Zb5 ?_;refine z7 (zp L rfl rfl (zk rfl) rfl rfl rfl (fun u H hH hle _ => zeh (by assumption) hH (GlobM.mono (by assumption) hle) (by assumption))) rfl ?_;refine Zbl ?_;refine Zdu ?_;refine ZeT ?_;refine Zb ?_;refine z7 (zp L rfl rfl (zk rfl) rfl rfl rfl (fun u H hH _ _ => zbp hH (by assumption))) rfl ?_;refine Zai ?_;refine Zi ?_;refine z7 (zp L rfl rfl (zk rfl) rfl rfl rfl (fun u H hH hle _ => zpm (by first | assumption | rfl) (by first | assumption | omega | decide) hH (GlobM.mono (by assumption) hle))) rfl ?_;refine ZaG ?_;refine ZY ?_;refine ZV ?_;refine ZC ?_;refine z7 (zp L rfl rfl (zk rfl) rfl rfl rfl (fun u H hH hle _ => zt3 (by first | assumption | rfl) (by first | assumption | omega | decide) hH (GlobM.mono (by assumption) hle))) rfl ?_;refine ZaG ?_;refine ZS ?_;refine ZF ?_;refine Zah ?_;refine Zcn ?_;refine ZbL ?_
     refine qq L (rs:=[.cell 2 34, .tmp 3]) rfl (fun _ _ h => h) Since.refl fun u H hH hle => ?_
     exact ⟨_, qk rfl, rfl, rfl⟩
   ·rw [if_neg he]
    refine Zb5 ?_;refine z7 (zp L rfl rfl (zk rfl) rfl rfl rfl (fun u H hH hle _ => zeh (by assumption) hH (GlobM.mono (by assumption) hle) (by assumption))) rfl ?_;refine Zbl ?_;refine Zdu ?_;refine ZeT ?_;refine Zb ?_;refine z7 (zp L rfl rfl (zk rfl) rfl rfl rfl (fun u H hH _ _ => zbp hH (by assumption))) rfl ?_;refine Zai ?_;refine Zi ?_;refine z7 (zp L rfl rfl (zk rfl) rfl rfl rfl (fun u H hH hle _ => zpm (by first | assumption | rfl) (by first | assumption | omega | decide) hH (GlobM.mono (by assumption) hle))) rfl ?_;refine ZaG ?_;refine ZY ?_;refine ZF ?_;refine Zak ?_;refine Zcn ?_;refine ZbL ?_
    refine qq L (rs:=[.cell 2 34, .tmp 3]) rfl (fun _ _ h => h) Since.refl fun u H hH hle => ?_
    exact ⟨_, qk rfl, rfl, rfl⟩
  ·rw [if_neg (fun h => by cases h.2)]
   refine Zb5 ?_;refine z7 (zp L rfl rfl (zk rfl) rfl rfl rfl (fun u H hH hle _ => zeh (by assumption) hH (GlobM.mono (by assumption) hle) (by assumption))) rfl ?_;refine Zbl ?_;refine Zdu ?_;refine ZeT ?_;refine Zb ?_;refine z7 (zp L rfl rfl (zk rfl) rfl rfl rfl (fun u H hH _ _ => zbp hH (by assumption))) rfl ?_;refine ZaA ?_;refine Zo ?_;refine Zcn ?_;refine ZaL ?_
   refine qq L (rs:=[.cell 2 34, .tmp 3]) rfl (fun _ _ h => h) Since.refl fun u H hH hle => ?_
   exact ⟨_, qk rfl, rfl, rfl⟩
theorem zja {l:List U} {fu:Bool} (hl:l.length ≤ 1000000) {r:Bool} (hr:isB l = r) {v:Value} {w:World} {B:Heap} (hB:B.Le (hp w)) (hv:US l fu v B) :
  Ret Tryz.prog 280 [v] w B (fun v _ => v = .bool r):=by
 subst hr
 refine qt Tryz.func280 rfl Tryz.ntmps280 (Nat.le_of_ble_eq_true rfl) hB ?_
 refine zbl 0 (US l fu) rfl SlV.mono hv ?_
 refine ZO ?_;refine Zf ?_;refine Zn ?_;refine Zaf ?_
 refine zan (fun i:Nat => [(0, .sat (US l fu)), (3, .is (.int .i64 (i + 1:Nat)))])
  (fun i => ∀ j a b, j < i → l[j]? = some a → l[j + 1]? = some b → zbt a b < 0) (fun i => l.length - i) 0 (fun j a b h => by omega) ⟨rfl, rfl, trivial⟩ ?_
 rintro i hall
 by_cases hlt:i + 1 < l.length
 ·obtain ⟨a, ha⟩:=zaw (show i < l.length by omega)
  obtain ⟨b, hb⟩:=zaw hlt
  have hca:=zi7 ha
  have hcb:=zi7 hb
  have hsub:IntKind.i64.wrap (((i + 1:Nat):Int) - 1) = (i:Int):=zaa (by omega) (by omega) |>.trans (by omega)
  by_cases hc:zbt a b < 0
  ·refine Ze ?_;refine Z2 ?_;refine Zx ?_;refine ZbB ?_;refine Zeb ?_;refine Zfq ?_;refine ZdZ ?_;refine Zc4 ?_;refine Zea ?_;refine Zd5 ?_;refine Zea ?_;refine zd (zp L rfl rfl (zk rfl) rfl rfl rfl (fun u H hH _ _ => zc1 hH)) rfl ?_;refine Zfp ?_;refine Zbv ?_;refine zq ?_;refine Zat ?_;refine Zk ?_;refine Za6 ?_
   exact qy (x:=i) (i + 1) (fun j a' b' hj h1 h2 => by
    by_cases hji:j = i
    ·subst hji; rw [ha] at h1; rw [hb] at h2; cases h1; cases h2; exact hc
    ·exact hall j a' b' (by omega) h1 h2) (by omega) ⟨rfl, rfl, trivial⟩
  ·rw [z2i ha hb hc]
   refine Ze ?_;refine Z2 ?_;refine Zx ?_;refine ZbB ?_;refine Zeb ?_;refine Zfq ?_;refine ZdZ ?_;refine Zc4 ?_;refine Zea ?_;refine Zd5 ?_;refine Zea ?_;refine zd (zp L rfl rfl (zk rfl) rfl rfl rfl (fun u H hH _ _ => zc1 hH)) rfl ?_;refine ZeA ?_;refine Zb9 ?_;refine Zbq ?_;refine Zc ?_
   refine qq L (rs:=[.tmp 2]) rfl (fun _ _ h => h) Since.refl fun u H hH hle => ?_
   rfl
 ·rw [zz9 fun j a b h1 h2 => hall j a b (by
   have:j + 1 < l.length:=by
    rcases Nat.lt_or_ge (j + 1) l.length with h | h
    ·exact h
    ·rw [List.getElem?_eq_none h] at h2; cases h2
   omega) h1 h2]
  refine Ze ?_;refine Z2 ?_;refine Zx ?_;refine Z7 ?_;refine Zbd ?_;refine Zak ?_;refine Zc ?_
  refine qq L (rs:=[.tmp 2]) rfl (fun _ _ h => h) Since.refl fun u H hH hle => ?_
  rfl
end Go.V.L2
set_option maxRecDepth 20000
namespace Go.V.L11
open Go.Proofs Go.RowKit Go.V Go.V.L2 Go.V.L4 Go.V.Bd
theorem _root_.Go.V.ZaH {A B:Prop} (h:B) (t:Wr B → A:=by intro h; refine z7 (zy L (vs:=[_, _, _, _, _, _]) (qk rfl) rfl rfl rfl rfl ⟨_, rfl⟩) rfl ?_;exact h.h):A:=t ⟨h⟩
theorem _root_.Go.V.ZaO {A B:Prop} (h:B) (t:Wr B → A:=by intro h; refine z7 (zy L (vs:=[_, _, _, _, _, _]) (qo rfl) rfl rfl rfl rfl ⟨_, rfl⟩) rfl ?_;exact h.h):A:=t ⟨h⟩
theorem _root_.Go.V.Zec {A B:Prop} (h:B) (t:Wr B → A:=by intro h; refine z7 (yf L (vs:=[_, _, _, _, _, _]) rfl rfl rfl rfl rfl ⟨_, rfl⟩) rfl ?_;exact h.h):A:=t ⟨h⟩
theorem _root_.Go.V.ZeY {A B:Prop} (h:B) (t:Wr B → A:=by intro h; refine zd (zy L (vs:=[_, _, _, _, _, _]) (qk rfl) rfl rfl rfl rfl ⟨_, rfl⟩) rfl ?_;exact h.h):A:=t ⟨h⟩
theorem _root_.Go.V.ZaY {A B:Prop} (h:B) (t:Wr B → A:=by intro h; refine Zan ?_;refine Z1 ?_;exact h.h):A:=t ⟨h⟩
theorem _root_.Go.V.ZaI {A B:Prop} (h:B) (t:Wr B → A:=by intro h; refine Z6 ?_;refine Zaw ?_;exact h.h):A:=t ⟨h⟩
theorem _root_.Go.V.Zb0 {A B:Prop} (h:B) (t:Wr B → A:=by intro h; refine Z6 ?_;refine Zj ?_;exact h.h):A:=t ⟨h⟩
theorem _root_.Go.V.Zco {A B:Prop} (h:B) (t:Wr B → A:=by intro h; refine qe ?_;refine Zat ?_;exact h.h):A:=t ⟨h⟩
def zef (t:U):ByteArray:=(⟨#[]⟩ ++ tT t) ++ ⟨#[10]⟩
def zf8 (l:List U):List Nat:=l.flatMap fun t => zfr (zef t)
def ztj:List U → Int
 | [] => 0
 | t :: l => if tE t ≠ 0 then tE t else ztj l
theorem zti {l:List U} {i:Nat} {t:U} (hi:l[i]? = some t):ztj (l.drop i) = if tE t ≠ 0 then tE t else ztj (l.drop (i + 1)):=by
 rw [List.drop_eq_getElem_cons (get_lt hi), zib hi]
 rfl
theorem zk1 {l:List U} {i:Nat} {t:U} (hi:l[i]? = some t):zf8 (l.take (i + 1)) = zf8 (l.take i) ++ zfr (zef t):=by
 unfold zf8
 rw [znl hi, List.flatMap_append, List.flatMap_cons, List.flatMap_nil, List.append_nil]
theorem zgq {l:List U} (hs:∀ t ∈ l, (zef t).size ≤ 1000):∀ i, (zf8 (l.take i)).length ≤ i * 1000
 | 0 => by rw [List.take_zero]; exact Nat.le_refl _
 | i + 1 => by
  cases h:l[i]? with
  | none =>
   have:=List.getElem?_eq_none_iff.1 h
   rw [List.take_of_length_le (by omega)]
   have h2:=zgq hs i
   rw [List.take_of_length_le (by omega)] at h2
   omega
  | some t =>
   rw [zk1 h, List.length_append, zfq]
   have h2:=zgq hs i
   have:=hs t (List.mem_of_getElem? h)
   omega
theorem zrh (s:ByteArray):∀ b ∈ zfr s, b ≤ 255:=fun b hb => by
 obtain ⟨c, _, rfl⟩:=List.mem_map.1 hb
 have:=c.toNat_lt
 omega
theorem zwn (l:List U):∀ b ∈ zf8 l, b ≤ 255:=fun b hb => by
 obtain ⟨t, _, h⟩:=List.mem_flatMap.1 hb
 exact zrh _ b h
attribute [local irreducible] V N X VO Par StepOK Has Ret RetL RetO RetT zbd RetX RetY Src
theorem id_ret {t:U} {w:World} {B:Heap} (hB:B.Le (hp w)):Ret Tryz.prog 53 [uv t] w B (fun v _ => v = uv t):=by
 refine qt Tryz.func53 rfl Tryz.ntmps53 (Nat.le_of_ble_eq_true rfl) hB ?_
 refine Za3 ?_;refine Zb0 ?_;refine Zn ?_;refine ZaO ?_;refine ZaY ?_
 refine qq L (rs:=[.cell 2 34]) rfl (fun _ _ h => h) Since.refl fun u H hH hle => ?_
 exact ⟨_, qk rfl, rfl, rfl⟩
theorem none_ret {t:U} {w:World} {B:Heap} (hB:B.Le (hp w)):Ret Tryz.prog 54 [uv t] w B (fun v _ => v = .string ⟨#[]⟩):=by
 refine qt Tryz.func54 rfl Tryz.ntmps54 (Nat.le_of_ble_eq_true rfl) hB ?_
 refine Zbk ?_;refine Zn ?_;refine Zc ?_
 refine qq L (rs:=[.tmp 2]) rfl (fun _ _ h => h) Since.refl fun u H hH hle => ?_
 rfl
theorem zj8 (t:U):(zef t).size = (tT t).size + 1:=by
 unfold zef
 rw [ByteArray.size_append, ByteArray.size_append]
 have h1:(⟨#[]⟩:ByteArray).size = 0:=rfl
 have h2:(⟨#[10]⟩:ByteArray).size = 1:=rfl
 omega
theorem zwm {l:List U} (h:l ≠ []):zf8 l ≠ []:=fun e => by
 cases l with
 | nil => exact h rfl
 | cons t l =>
  unfold zf8 at e
  rw [List.flatMap_cons] at e
  have h1:=(List.append_eq_nil_iff.1 e).1
  have h2:=zfq (zef t)
  rw [h1, zj8] at h2
  cases h2
set_option maxRecDepth 20000 in
set_option maxHeartbeats 1000000 in
theorem text_ret {l:List U} {fu:Bool} (hln:l.length ≤ 4096) (hz:∀ t ∈ l, TZ t) (hs:∀ t ∈ l, (zef t).size ≤ 1000) {v:Value} {w:World} {B:Heap} (hB:B.Le (hp w)) (hv:US l fu v B) :
  Ret Tryz.prog 52 [v, .func (.func 53) #[] #[], .func (.func 54) #[] #[]] w B (fun r _ => r = .tuple #[.string (if ztj l ≠ 0 then ⟨#[]⟩ else zfa (zf8 l)), .int .i64 (ztj l)]):=by
 refine qt Tryz.func52 rfl Tryz.ntmps52 (Nat.le_of_ble_eq_true rfl) hB ?_
 refine zbl 0 (US l fu) rfl SlV.mono hv ?_
 refine Zbz ?_;refine Zb3 ?_;refine ZaX ?_;refine Zo ?_;refine ZaI ?_
 refine za5 8 900 rfl fun bb => ?_
 by_cases hl0:l = []
 ·subst hl0
  refine Zp ?_;refine ZbK ?_
  refine zan (fun _:Nat => [(8, .is (za3 bb)), (16, .is (.int .i64 0)), (17, .is (.int .i64 0)), (900, .own (zaj bb [.pointer none, .slice none 0 0] zi9))]) (fun _ => True) (fun i => i) 0 trivial ⟨rfl, rfl, rfl, rfl, trivial⟩ ?_
  rintro _ _
  refine Zbq ?_;refine ZaD ?_;refine ZN ?_;refine q8 (y3 L 900 (zab bb [.pointer none, .slice none 0 0] zi9) (.string .empty) (r:=zab bb [.pointer none, .slice none 0 0] zi9) rfl rfl rfl rfl rfl (fun u H C hH _ hr hC => zje hH hr hC)) ?_;refine Zy ?_
  refine qq L (rs:=[.tmp 6, .tmp 7]) rfl (fun _ _ h => h) Since.refl fun u H hH hle => ?_
  rfl
 ·refine zh1 901 zs4 1 ?_
  refine Zfo ?_
  refine zlv (X:=Value × Value) 900 (r:=fun x => (GBv bb [] x).res) (φ:=fun x _ => z05 bb x) (zet bb) (.pointer none, .slice none 0 0) ⟨.inl rfl, _, _, _, rfl⟩ rfl ?_
  refine Zp ?_;refine ZbK ?_
  refine zan (fun i:Nat => [(1, .is (.func (.func 53) #[] #[])), (2, .is (.func (.func 54) #[] #[])), (8, .is (za3 bb)), (15, .sat (US l fu)), (16, .is (.int .i64 l.length)), (17, .is (.int .i64 i)), (900, .own (GBd bb (zf8 (l.take i))).res)]) (fun i => i ≤ l.length ∧ ztj (l.drop i) = ztj l) (fun i => l.length - i) 0 ⟨Nat.zero_le _, rfl⟩ ⟨rfl, rfl, rfl, rfl, rfl, rfl, rfl, trivial⟩ ?_
  rintro i ⟨hi, hte⟩
  dsimp only at hi hte ⊢
  by_cases hlt:i < l.length
  ·obtain ⟨t, ht⟩:=zaw hlt
   have hcr:=zi7 ht
   have hzt:=hz t (List.mem_of_getElem? ht)
   have hst:=hs t (List.mem_of_getElem? ht)
   have hsl:=zj8 t
   rw [zti ht] at hte
   have hsn:=zk1 ht
   have hbl:=zgq hs i
   have hwk:IntKind.i64.wrap ((i:Int) + 1) = ((i + 1:Nat):Int):=zaa (by omega) (by omega)
   by_cases he:tE t = 0
   ·rw [if_neg (fun h => h he)] at hte
    have hs1:(⟨#[]⟩:ByteArray).size + (tT t).size ≤ 9223372036854775807:=by have h1:(⟨#[]⟩:ByteArray).size = 0:=rfl; omega
    have hs2:((⟨#[]⟩:ByteArray) ++ tT t).size + (⟨#[10]⟩:ByteArray).size ≤ 9223372036854775807:=by rw [ByteArray.size_append]; have h1:(⟨#[]⟩:ByteArray).size = 0:=rfl; have h2:(⟨#[10]⟩:ByteArray).size = 1:=rfl; omega
    refine Zbq ?_;refine ZT ?_;refine Zak ?_;refine ZaU ?_;refine Zec ?_;refine Ze5 ?_;refine ZC ?_;refine ZaH ?_;refine z7 (zp L rfl rfl (zk rfl) rfl rfl rfl (fun u H hH _ _ => id_ret hH)) rfl ?_;refine z7 (zp L rfl rfl (zk rfl) rfl rfl rfl (fun u H hH _ _ => zca hzt hH)) rfl ?_;refine Zd ?_;refine ZS ?_;refine Zal ?_;refine Zd1 ?_
    refine q4 (id:=10) [(37, [900])] mixed (by kernel_rfl) ?_;refine Zh ?_;refine ZeY ?_;refine zd (zp L rfl rfl (zk rfl) rfl rfl rfl (fun u H hH _ _ => none_ret hH)) rfl ?_;refine Zh ?_;refine ZeY ?_;refine zd (zp L rfl rfl (zk rfl) rfl rfl rfl (fun u H hH _ _ => id_ret hH)) rfl ?_;refine zd (zp L rfl rfl (zk rfl) rfl rfl rfl (fun u H hH _ _ => zne hzt hH)) rfl ?_;refine Zel ?_;refine Zel ?_;refine zbi (y3 L 900 (GBd bb (zf8 (l.take (i + 1)))) (.tuple #[.int .i64 (zef t).size, .nilIface]) (r:=GBd bb (zf8 (l.take i))) rfl rfl rfl rfl rfl (fun u H C hH _ hr hC => by rw [hsn]; exact write_ret (str:=zef t) (by omega) hH hr hC)) rfl rfl ?_;refine Zco ?_;refine ZE ?_;refine ZM ?_;refine Zdm ?_
    exact qy (x:=i) (i + 1) ⟨hlt, hte⟩ (by omega) ⟨rfl, rfl, rfl, rfl, rfl, rfl, rfl, trivial⟩
   ·rw [if_pos he] at hte
    refine Zbq ?_;refine ZT ?_;refine Zak ?_;refine ZaU ?_;refine Zec ?_;refine Ze5 ?_;refine ZC ?_;refine ZaH ?_;refine z7 (zp L rfl rfl (zk rfl) rfl rfl rfl (fun u H hH _ _ => id_ret hH)) rfl ?_;refine z7 (zp L rfl rfl (zk rfl) rfl rfl rfl (fun u H hH _ _ => zca hzt hH)) rfl ?_;refine Zd ?_;refine ZS ?_;refine ZF ?_;refine Zaz ?_;refine Zy ?_
    refine qq L (rs:=[.tmp 6, .tmp 7]) rfl (fun _ _ h => h) Since.refl fun u H hH hle => ?_
    rw [← hte, if_pos he]
    rfl
  ·obtain rfl:i = l.length:=by omega
   rw [List.drop_length] at hte
   rw [List.take_length]
   have hbl:=zgq hs l.length
   rw [List.take_length] at hbl
   refine Zbq ?_;refine ZaD ?_;refine ZN ?_;refine q8 (y3 L 900 GNo (.string (zfa (zf8 l))) (r:=GBd bb (zf8 l)) rfl rfl rfl rfl rfl (fun u H C hH _ hr hC => zk4 (zwn l) (zwm hl0) (by omega) hH hr hC)) ?_;refine Zy ?_
   refine qq L (rs:=[.tmp 6, .tmp 7]) rfl (fun _ _ h => h) Since.refl fun u H hH hle => ?_
   rw [← hte]
   rfl
end Go.V.L11
set_option maxRecDepth 20000
namespace Go.V.L11
open Go.Proofs Go.RowKit Go.V Go.V.L2 Go.V.L4 Go.V.Bd
theorem _root_.Go.V.Zda {A B:Prop} (h:B) (t:Wr B → A:=by intro h; refine Zn ?_;refine Zl ?_;exact h.h):A:=t ⟨h⟩
def zni (l:List U):ByteArray × Int:=if 4096 < l.length then (⟨#[]⟩, 3) else (if ztj l ≠ 0 then ⟨#[]⟩ else zfa (zf8 l), ztj l)
attribute [local irreducible] V N X VO Par StepOK Has Ret RetL RetO RetT zbd RetX RetY Src
theorem zo7 {l:List U} {fu:Bool} {f g:Value} (hln:4096 < l.length) {v:Value} {w:World} {B:Heap} (hB:B.Le (hp w)) (hv:US l fu v B) :
  Ret Tryz.prog 52 [v, f, g] w B (fun r _ => r = .tuple #[.string ⟨#[]⟩, .int .i64 3]):=by
 refine qt Tryz.func52 rfl Tryz.ntmps52 (Nat.le_of_ble_eq_true rfl) hB ?_
 refine zbl 0 (US l fu) rfl SlV.mono hv ?_
 refine Zbz ?_;refine Zb3 ?_;refine ZW ?_;refine ZdS ?_;refine Zy ?_
 refine qq L (rs:=[.tmp 6, .tmp 7]) rfl (fun _ _ h => h) Since.refl fun u H hH hle => ?_
 rfl
theorem zs8 {l:List U} {fu:Bool} (hz:∀ t ∈ l, TZ t) (hs:∀ t ∈ l, (zef t).size ≤ 1000) {v:Value} {w:World} {B:Heap} (hB:B.Le (hp w)) (hv:US l fu v B) :
  Ret Tryz.prog 12 [v] w B (fun r _ => r = .tuple #[.string (zni l).1, .int .i64 (zni l).2]):=by
 unfold zni
 refine qt Tryz.func12 rfl Tryz.ntmps12 (Nat.le_of_ble_eq_true rfl) hB ?_
 refine zbl 0 (US l fu) rfl SlV.mono hv ?_
 by_cases hln:4096 < l.length
 ·rw [if_pos hln]
  refine ZcU ?_;refine Zda ?_;refine z7 (zp L rfl rfl (zk rfl) rfl rfl rfl (fun u H hH hle _ v1 h1 => zo7 hln hH h1)) rfl ?_;refine ZdU ?_;refine Zy ?_
  refine qq L (rs:=[.tmp 2, .tmp 3]) rfl (fun _ _ h => h) Since.refl fun u H hH hle => ?_
  rfl
 ·rw [if_neg hln]
  refine ZcU ?_;refine Zda ?_;refine z7 (zp L rfl rfl (zk rfl) rfl rfl rfl (fun u H hH hle _ v1 h1 => text_ret (by omega) hz hs hH h1)) rfl ?_;refine ZdU ?_;refine Zy ?_
  refine qq L (rs:=[.tmp 2, .tmp 3]) rfl (fun _ _ h => h) Since.refl fun u H hH hle => ?_
  rfl
end Go.V.L11
set_option maxRecDepth 20000
namespace Go.V.L2
open Go.Proofs Go.RowKit Go.V
theorem _root_.Go.V.Zes {A B:Prop} (h:B) (t:Wr B → A:=by intro h; refine q4 (id:=6) [] mixed (by kernel_rfl) ?_;exact h.h):A:=t ⟨h⟩
theorem _root_.Go.V.Zcp {A B:Prop} (h:B) (t:Wr B → A:=by intro h; refine Zal ?_;refine ZB ?_;exact h.h):A:=t ⟨h⟩
theorem zm4:∀ (l:List ByteArray), zcw l = 0 ∨ zcw l = 6
 | [] => .inl rfl
 | s :: l => by
  simp only [zcw]
  split
  ·exact zm4 l
  ·rename_i h; exact .inr ((zbq s).resolve_left h)
theorem zto (a b c:ByteArray):zif a b c = 0 ∨ zif a b c = 6:=by
 unfold zif
 split <;> exact zm4 _
theorem eqU {t v:U} {r:Bool} (e:decide (t = v) = r):zhh [0, 0, 0, 0, 0, 0] [.string t.1.1.1, .string t.1.1.2, .string t.1.2, .string t.2.1.1, .string t.2.1.2, .string t.2.2] [.string v.1.1.1, .string v.1.1.2, .string v.1.2, .string v.2.1.1, .string v.2.1.2, .string v.2.2] = some r:=by
 subst e
 simp only [zhh, eqC]
 have h:=@z4l t v
 by_cases hh:t = v
 ·subst hh; simp
 ·rw [decide_eq_false hh]
  have h':=fun x => hh (h.1 x)
  by_cases a1:t.1.1.1 = v.1.1.1
  ·by_cases a2:t.1.1.2 = v.1.1.2
   ·by_cases a3:t.1.2 = v.1.2
    ·by_cases a4:t.2.1.1 = v.2.1.1
     ·by_cases a5:t.2.1.2 = v.2.1.2
      ·by_cases a6:t.2.2 = v.2.2
       ·exact absurd ⟨a1, a2, a3, a4, a5, a6⟩ h'
       ·simp [a6]
      ·simp [a5]
     ·simp [a4]
    ·simp [a3]
   ·simp [a2]
  ·simp [a1]
theorem zyo {α:Type} {l:List α} {k:Nat} {g:α} (h:l[k]? = some g):l.take (k + 1) = l.take k ++ [g]:=by rw [List.take_add_one, h]; rfl
theorem zh9 {α:Type} {l:List α} {k:Nat} {g:α} (h:l[k]? = some g):l.drop k = g :: l.drop (k + 1):=by
 obtain ⟨hl, he⟩:=List.getElem?_eq_some_iff.1 h
 rw [List.drop_eq_getElem_cons hl, he]
theorem zwf {κ:Kap} {s:Nat} {r:List U} {t:U} (h:κ s = some (.own (SlR tyU 6 (r.length + 1) (r.flatMap ucs ++ [.string t.1.1.1, .string t.1.1.2, .string t.1.2, .string t.2.1.1, .string t.2.1.2, .string t.2.2])))):κ s = some (.own (SlR tyU 6 (r ++ [t]).length ((r ++ [t]).flatMap ucs))):=by
 rw [h, List.flatMap_append, List.length_append]; rfl
attribute [local irreducible] V N X VO Par StepOK Has Ret RetL Src
theorem zr3 {a b:List U} {fa fb:Bool} (hla:a.length ≤ 1000000) (hlb:b.length ≤ 1000000) {e:Int} (he:(if a = b then 1 else 0:Int) = e) {va vb:Value} {w:World} {B:Heap} (hB:B.Le (hp w)) (ha:US a fa va B) (hb:US b fb vb B) :
  Ret Tryz.prog 18 [va, vb] w B (fun v _ => v = .int .i64 e):=by
 subst he
 refine qt Tryz.func18 rfl Tryz.ntmps18 (Nat.le_of_ble_eq_true rfl) hB ?_
 refine zbl 0 (US a fa) rfl SlV.mono ha ?_
 refine zbl 1 (US b fb) rfl SlV.mono hb ?_
 by_cases hlen:a.length = b.length
 ·refine ZO ?_;refine Zf ?_;refine Zb3 ?_;refine Zx ?_;refine Zcp ?_;refine Zo ?_;refine Zaf ?_
  refine zan (fun i:Nat => [(0, .sat (US a fa)), (1, .sat (US b fb)), (5, .is (.int .i64 i))])
   (fun i => i ≤ a.length ∧ a.take i = b.take i) (fun i => a.length - i) 0 ⟨Nat.zero_le _, rfl⟩ ⟨rfl, rfl, rfl, trivial⟩ ?_
  rintro i ⟨hi, he⟩
  by_cases hlt:i < a.length
  ·obtain ⟨x, hx⟩:=zaw hlt
   obtain ⟨y, hy⟩:=zaw (show i < b.length by omega)
   have hcx:=zi7 hx
   have hcy:=zi7 hy
   by_cases hxy:x = y
   ·have hq:=eqU (decide_eq_true hxy)
    refine Ze ?_;refine Zi ?_;refine Zx ?_;refine ZbB ?_;refine Zes ?_;refine Zd5 ?_;refine Zea ?_;refine Zd5 ?_;refine Zea ?_;refine zd (zml rfl rfl rfl rfl z4f (by assumption) rfl) rfl ?_;refine Zbv ?_;refine zq ?_;refine Zat ?_;refine ZY ?_;refine Za6 ?_
    exact qy (x:=i) (i + 1) ⟨hlt, by rw [zyo hx, zyo hy, he, hxy]⟩ (by omega) ⟨rfl, rfl, rfl, trivial⟩
   ·have hq:=eqU (decide_eq_false hxy)
    have h1:a ≠ b:=fun e => by subst e; rw [hx] at hy; exact hxy (Option.some.inj hy)
    rw [if_neg h1]
    refine Ze ?_;refine Zi ?_;refine Zx ?_;refine ZbB ?_;refine Zes ?_;refine Zd5 ?_;refine Zea ?_;refine Zd5 ?_;refine Zea ?_;refine zd (zml rfl rfl rfl rfl z4f (by assumption) rfl) rfl ?_;refine Zb9 ?_;refine zh ?_;refine ZH ?_;refine Zc ?_
    refine qq L (rs:=[.tmp 4]) rfl (fun _ _ h => h) Since.refl fun u H hH hle => ?_
    rfl
  ·obtain rfl:i = a.length:=by omega
   have h1:a = b:=by rw [List.take_length, hlen, List.take_length] at he; exact he
   rw [if_pos h1]
   refine Ze ?_;refine Zi ?_;refine Zx ?_;refine Z7 ?_;refine Zbd ?_;refine ZA ?_;refine Zc ?_
   refine qq L (rs:=[.tmp 4]) rfl (fun _ _ h => h) Since.refl fun u H hH hle => ?_
   rfl
 ·have h1:a ≠ b:=fun e => hlen (by rw [e])
  rw [if_neg h1]
  refine ZO ?_;refine Zf ?_;refine Zb3 ?_;refine Zx ?_;refine ZF ?_;refine Z5 ?_;refine Zc ?_
  refine qq L (rs:=[.tmp 4]) rfl (fun _ _ h => h) Since.refl fun u H hH hle => ?_
  rfl
end Go.V.L2
set_option maxRecDepth 20000
namespace Go.V.L2
open Go.Proofs Go.RowKit Go.V
theorem _root_.Go.V.Zed {A B:Prop} (h:B) (t:Wr B → A:=by intro h; refine zf (id:=18) ?_;exact h.h):A:=t ⟨h⟩
theorem _root_.Go.V.Zb1 {A B:Prop} (h:B) (t:Wr B → A:=by intro h; refine zf (id:=17) ?_;exact h.h):A:=t ⟨h⟩
theorem _root_.Go.V.ZaZ {A B:Prop} (h:B) (t:Wr B → A:=by intro h; refine ZE ?_;refine Za ?_;exact h.h):A:=t ⟨h⟩
theorem _root_.Go.V.ZbC {A B:Prop} (h:B) (t:Wr B → A:=by intro h; refine ZbO ?_;refine Za ?_;exact h.h):A:=t ⟨h⟩
theorem _root_.Go.V.ZbS {A B:Prop} (h:B) (t:Wr B → A:=by intro h; refine Zb ?_;refine ZM ?_;exact h.h):A:=t ⟨h⟩
theorem zzr (a:ByteArray):pgA a = if (rp1 a).2.2.2.1 = false then (zdg, zdg, zdg, 5) else if (rp1 a).2.2.2.2 = 0 then ((rp1 a).1, (rp1 a).2.1, (rp1 a).2.2.1, 0) else (zdg, zdg, zdg, (rp1 a).2.2.2.2):=by
 unfold pgA rp1
 rcases zbs a with _ | ⟨x, y, z, d⟩
 ·rfl
 ·cases d
  ·rfl
  ·simp only [if_true]
theorem z1p (a:ByteArray):psA a = if (rp1 a).2.2.2.2 = 0 then ((rp1 a).1, (rp1 a).2.1, (rp1 a).2.2.1, 0) else (zdg, zdg, zdg, (rp1 a).2.2.2.2):=by
 unfold psA rp1
 rcases zbs a with _ | ⟨x, y, z, d⟩
 ·rfl
 ·dsimp only
  cases d
  ·simp
  ·simp only [if_true, zcw]
   rcases zbq x with h1 | h1 <;> rcases zbq y with h2 | h2 <;> rcases zbq z with h3 | h3 <;> simp [h1, h2, h3]
theorem z3y {l a b:List UInt8} {c:UInt8} {k:Nat} (e:l = a ++ c :: b) (ha:c ∉ a) (hb:c ∉ b) (hk:l[k]? = some c):k = a.length:=by
 subst e
 rcases Nat.lt_trichotomy k a.length with h | h | h
 ·rw [List.getElem?_append_left h] at hk
  exact absurd (List.mem_of_getElem? hk) ha
 ·exact h
 ·rw [List.getElem?_append_right (by omega), show k - a.length = (k - a.length - 1) + 1 by omega, List.getElem?_cons_succ] at hk
  exact absurd (List.mem_of_getElem? hk) hb
attribute [local irreducible] V N X VO Par StepOK Has Ret RetL Src
set_option maxHeartbeats 4000000 in
theorem zgg {s:ByteArray} {r:U × Int} (hr:ptA s = r) (hs:s.size ≤ 1000000) {w:World} {B:Heap} (hB:B.Le (hp w)) :
  Ret Tryz.prog 39 [.string s] w B (fun v _ => v = .tuple #[uv r.1, .int .i64 r.2]):=by
 subst hr
 have hlen:=zau s
 refine qt Tryz.func39 rfl Tryz.ntmps39 (Nat.le_of_ble_eq_true rfl) hB ?_
 refine ZaK ?_;refine Zd ?_;refine Zn ?_;refine ZaJ ?_;refine Z5 ?_;refine Zaf ?_
 refine zan (fun x:Nat × Nat × Nat => [(0, .is (.string s)), (2, .own (zed [.string ⟨#[]⟩, .string ⟨#[]⟩, .string ⟨#[]⟩, .string ⟨#[]⟩, .string ⟨#[]⟩, .string ⟨#[]⟩] tyU)), (4, .is (.int .i64 x.2.1)), (5, .is (.int .i64 x.2.2)), (6, .is (.int .i64 x.1))])
  (fun x => x.1 ≤ s.size ∧ x.2.2 = (s.data.toList.take x.1).count 64 ∧ x.2.2 ≤ x.1 ∧ (x.2.2 = 1 → x.2.1 < s.size ∧ s.data.toList[x.2.1]? = some 64)) (fun x => s.size - x.1) (0, 0, 0)
  ⟨Nat.zero_le _, by simp, Nat.le_refl _, fun h => by cases h⟩ ⟨rfl, rfl, rfl, rfl, rfl, trivial⟩ ?_
 rintro ⟨i, k, n⟩ ⟨hi, hn, hni, hk⟩
 dsimp only at hi hn hni hk ⊢
 by_cases hlt:i < s.size
 ·obtain ⟨x, hc⟩:=getElem?_lt hlt
  have hd:s.data.toList[i]? = some x:=by
   have:s.data[i]? = some x:=hc
   simpa using this
  have htk:s.data.toList.take (i + 1) = s.data.toList.take i ++ [x]:=by rw [List.take_add_one, hd]; rfl
  by_cases hx:x = 64
  ·subst hx
   refine Zdw ?_;refine ZbB ?_;refine Zw ?_;refine ZaC ?_;refine Zep ?_;refine Zv ?_;refine ZJ ?_;refine Zc ?_;refine ZC ?_;refine Za6 ?_;refine Zat ?_;refine Zi ?_;refine Za6 ?_
   exact qy (x:=(i, k, n)) (i + 1, i, n + 1) ⟨hlt, by dsimp only; rw [htk, List.count_append, ← hn]; rfl, by dsimp only; omega, fun _ => ⟨hlt, hd⟩⟩ (by dsimp only; omega) ⟨rfl, rfl, rfl, rfl, rfl, trivial⟩
  ·have hxc:(x.toNat:Int) ≠ 64:=fun e => hx (UInt8.toNat_inj.1 (by show x.toNat = 64; omega))
   refine Zdw ?_;refine ZbB ?_;refine Zw ?_;refine ZaC ?_;refine ZL ?_;refine Zbj ?_;refine Zi ?_;refine Za6 ?_
   exact qy (x:=(i, k, n)) (i + 1, k, n) ⟨hlt, by dsimp only; rw [htk, List.count_append, ← hn, List.count_cons_of_ne hx]; rfl, by dsimp only; omega, hk⟩ (by dsimp only; omega) ⟨rfl, rfl, rfl, rfl, rfl, trivial⟩
 ·obtain rfl:i = s.size:=by omega
  rw [List.take_of_length_le (by omega)] at hn
  by_cases h1:n = 1
  ·obtain ⟨hk1, hk2⟩:=hk h1
   rcases zdf s 64 with h64 | ⟨a, b, rfl, ha⟩
   ·rw [List.count_eq_zero_of_not_mem h64] at hn; omega
   ·have hls:=zit a b 64
    have hsz:=zmn a b 64
    have hb:noB b 64:=fun hm => by
     have:=List.count_pos_iff.2 hm
     rw [hls, List.count_append, List.count_cons_self] at hn
     omega
    obtain rfl:k = a.size:=(z3y hls ha hb hk2).trans (zau a)
    have hcut:zc0 (a ++ ⟨#[64]⟩ ++ b) 64 = (a, b, true):=ze5 ha
    have x1:(a ++ ⟨#[64]⟩ ++ b).extract 0 a.size = a:=by
     have:=zd2 ⟨#[]⟩ a (⟨#[64]⟩ ++ b) 0 a.size rfl (by show _ = 0 + _; omega)
     conv => rhs; rw [← this]
     congr 1; apply zbf; simp [zar]
    have x2:(a ++ ⟨#[64]⟩ ++ b).extract (a.size + 1) (a ++ ⟨#[64]⟩ ++ b).size = b:=by
     have:=zd2 (a ++ ⟨#[64]⟩) b ⟨#[]⟩ (a.size + 1) (a ++ ⟨#[64]⟩ ++ b).size (by rw [ByteArray.size_append]; rfl) (by rw [ByteArray.size_append])
     conv => rhs; rw [← this]
     congr 1; apply zbf; simp [zar]
    have za:a.size ≤ 1000000:=by omega
    have zb:b.size ≤ 1000000:=by omega
    have hadd:IntKind.i64.wrap ((a.size:Int) + 1) = ((a.size + 1:Nat):Int):=zaa (by omega) (by omega) |>.trans (by omega)
    have hpt:ptA (a ++ ⟨#[64]⟩ ++ b) = if (pgA a).2.2.2 = 0 then (if (psA b).2.2.2 = 0 then (((((pgA a).1, (pgA a).2.1), (pgA a).2.2.1), (((psA b).1, (psA b).2.1), (psA b).2.2.1)), 0) else ((((⟨#[]⟩, ⟨#[]⟩), ⟨#[]⟩), ((⟨#[]⟩, ⟨#[]⟩), ⟨#[]⟩)), (psA b).2.2.2)) else ((((⟨#[]⟩, ⟨#[]⟩), ⟨#[]⟩), ((⟨#[]⟩, ⟨#[]⟩), ⟨#[]⟩)), (pgA a).2.2.2):=by
     unfold ptA
     rw [hcut]
     dsimp only
     rw [if_pos ⟨rfl, zp0 hb⟩]
    clear hk hk2 hn hcut
    generalize a ++ ⟨#[64]⟩ ++ b = s at *
    rcases hra:rp1 a with ⟨o1, o2, rel, has, e⟩
    rcases hrb:rp1 b with ⟨p1, p2, rel2, has2, e2⟩
    cases has
    ·have g1:pgA a = (zdg, zdg, zdg, 5):=by rw [zzr, hra]; rfl
     rw [hpt, g1, if_neg (by decide)]
     by_cases h5:e = 5
     ·skip
      refine Zdx ?_;refine Zb7 ?_;refine ZS ?_;refine ZV ?_;refine Zc6 ?_;refine z7 (zap L (kl:=.i64) (pl:=0) 0 a.size rfl rfl rfl rfl rfl ⟨rfl, rfl⟩ (by omega) (by omega) x1) rfl ?_;refine z7 (zp L rfl rfl (zk rfl) rfl rfl rfl (fun u H hH _ _ => zbz hra za hH)) rfl ?_;refine ZdV ?_;refine ZaZ ?_;refine Zal ?_;refine Zbs ?_;refine Zc0 ?_;refine ZbC ?_;refine ZF ?_;refine Zay ?_;refine Zcn ?_;refine ZbL ?_
      refine qq L (rs:=[.cell 2 34, .tmp 3]) rfl (fun _ _ h => h) Since.refl fun u H hH hle => ?_
      refine ⟨_, qk rfl, rfl, ?_⟩
      rw [h5]; rfl
     ·refine Zdx ?_;refine Zb7 ?_;refine ZS ?_;refine ZV ?_;refine Zc6 ?_;refine z7 (zap L (kl:=.i64) (pl:=0) 0 a.size rfl rfl rfl rfl rfl ⟨rfl, rfl⟩ (by omega) (by omega) x1) rfl ?_;refine z7 (zp L rfl rfl (zk rfl) rfl rfl rfl (fun u H hH _ _ => zbz hra za hH)) rfl ?_;refine ZdV ?_;refine ZaZ ?_;refine Zam ?_;refine Zb ?_;refine Zu ?_;refine Zcj ?_;refine ZN ?_;refine Zf ?_;refine ZbC ?_;refine ZF ?_;refine Zay ?_;refine Zcn ?_;refine ZbL ?_
      refine qq L (rs:=[.cell 2 34, .tmp 3]) rfl (fun _ _ h => h) Since.refl fun u H hH hle => ?_
      exact ⟨_, qk rfl, rfl, rfl⟩
    ·by_cases h0:e = 0
     ·have g1:pgA a = (o1, o2, rel, 0):=by rw [zzr, hra]; dsimp only; rw [if_neg (by decide), if_pos h0]
      by_cases h02:e2 = 0
      ·have g2:psA b = (p1, p2, rel2, 0):=by rw [z1p, hrb]; dsimp only; rw [if_pos h02]
       rw [hpt, g1, g2, if_pos rfl, if_pos rfl]
       refine Zdx ?_;refine Zb7 ?_;refine ZS ?_;refine ZV ?_;refine Zc6 ?_;refine z7 (zap L (kl:=.i64) (pl:=0) 0 a.size rfl rfl rfl rfl rfl ⟨rfl, rfl⟩ (by omega) (by omega) x1) rfl ?_;refine z7 (zp L rfl rfl (zk rfl) rfl rfl rfl (fun u H hH _ _ => zbz hra za hH)) rfl ?_;refine ZdV ?_;refine ZaZ ?_;refine Zam ?_;refine Zb ?_;refine Zu ?_;refine Zc0 ?_;refine ZbC ?_;refine ZV ?_;refine Zag ?_;refine ZbS ?_;refine z7 (zap L (kh:=.i64) (ph:=0) (a.size + 1) _ rfl rfl rfl rfl ⟨rfl, rfl⟩ rfl (by omega) (by omega) x2) rfl ?_;refine z7 (zp L rfl rfl (zk rfl) rfl rfl rfl (fun u H hH _ _ => zbz hrb zb hH)) rfl ?_;refine ZdV ?_;refine ZbQ ?_;refine ZV ?_;refine Zed ?_;refine ZcT ?_;refine Za ?_;refine ZeR ?_;refine ZcT ?_;refine Za ?_;refine Ze4 ?_;refine Zcn ?_;refine ZaL ?_
       refine qq L (rs:=[.cell 2 34, .tmp 3]) rfl (fun _ _ h => h) Since.refl fun u H hH hle => ?_
       exact ⟨_, qk rfl, rfl, rfl⟩
      ·have g2:psA b = (zdg, zdg, zdg, e2):=by rw [z1p, hrb]; dsimp only; rw [if_neg h02]
       rw [hpt, g1, g2, if_pos rfl, if_neg h02]
       refine Zdx ?_;refine Zb7 ?_;refine ZS ?_;refine ZV ?_;refine Zc6 ?_;refine z7 (zap L (kl:=.i64) (pl:=0) 0 a.size rfl rfl rfl rfl rfl ⟨rfl, rfl⟩ (by omega) (by omega) x1) rfl ?_;refine z7 (zp L rfl rfl (zk rfl) rfl rfl rfl (fun u H hH _ _ => zbz hra za hH)) rfl ?_;refine ZdV ?_;refine ZaZ ?_;refine Zam ?_;refine Zb ?_;refine Zu ?_;refine Zc0 ?_;refine ZbC ?_;refine ZV ?_;refine Zag ?_;refine ZbS ?_;refine z7 (zap L (kh:=.i64) (ph:=0) (a.size + 1) _ rfl rfl rfl rfl ⟨rfl, rfl⟩ rfl (by omega) (by omega) x2) rfl ?_;refine z7 (zp L rfl rfl (zk rfl) rfl rfl rfl (fun u H hH _ _ => zbz hrb zb hH)) rfl ?_;refine ZdV ?_;refine ZbQ ?_;refine ZF ?_;refine Zb1 ?_;refine Zcn ?_;refine ZbL ?_
       refine qq L (rs:=[.cell 2 34, .tmp 3]) rfl (fun _ _ h => h) Since.refl fun u H hH hle => ?_
       exact ⟨_, qk rfl, rfl, rfl⟩
     ·have g1:pgA a = (zdg, zdg, zdg, e):=by rw [zzr, hra]; dsimp only; rw [if_neg (by decide), if_neg h0]
      rw [hpt, g1, if_neg h0]
      by_cases h5:e = 5
      ·refine Zdx ?_;refine Zb7 ?_;refine ZS ?_;refine ZV ?_;refine Zc6 ?_;refine z7 (zap L (kl:=.i64) (pl:=0) 0 a.size rfl rfl rfl rfl rfl ⟨rfl, rfl⟩ (by omega) (by omega) x1) rfl ?_;refine z7 (zp L rfl rfl (zk rfl) rfl rfl rfl (fun u H hH _ _ => zbz hra za hH)) rfl ?_;refine ZdV ?_;refine ZaZ ?_;refine Zal ?_;refine Zbs ?_;refine Zc0 ?_;refine ZbC ?_;refine ZF ?_;refine Zay ?_;refine Zcn ?_;refine ZbL ?_
       refine qq L (rs:=[.cell 2 34, .tmp 3]) rfl (fun _ _ h => h) Since.refl fun u H hH hle => ?_
       exact ⟨_, qk rfl, rfl, rfl⟩
      ·refine Zdx ?_;refine Zb7 ?_;refine ZS ?_;refine ZV ?_;refine Zc6 ?_;refine z7 (zap L (kl:=.i64) (pl:=0) 0 a.size rfl rfl rfl rfl rfl ⟨rfl, rfl⟩ (by omega) (by omega) x1) rfl ?_;refine z7 (zp L rfl rfl (zk rfl) rfl rfl rfl (fun u H hH _ _ => zbz hra za hH)) rfl ?_;refine ZdV ?_;refine ZaZ ?_;refine Zam ?_;refine Zb ?_;refine Zu ?_;refine Zc0 ?_;refine ZbC ?_;refine ZF ?_;refine Zay ?_;refine Zcn ?_;refine ZbL ?_
       refine qq L (rs:=[.cell 2 34, .tmp 3]) rfl (fun _ _ h => h) Since.refl fun u H hH hle => ?_
       exact ⟨_, qk rfl, rfl, rfl⟩
  ·have hpt:ptA s = ((((⟨#[]⟩, ⟨#[]⟩), ⟨#[]⟩), ((⟨#[]⟩, ⟨#[]⟩), ⟨#[]⟩)), 5):=by
    unfold ptA
    rw [if_neg]
    rintro ⟨hc1, hc2⟩
    rcases zdf s 64 with h64 | ⟨a, b, rfl, ha⟩
    ·rw [zhy h64] at hc1; cases hc1
    ·rw [ze5 ha] at hc2
     by_cases hb:noB b 64
     ·apply h1
      rw [hn, zit, List.count_append, List.count_cons_self, List.count_eq_zero_of_not_mem ha, List.count_eq_zero_of_not_mem hb]
     ·rw [show zoz b 64 = true from zmv hb] at hc2
      cases hc2
   rw [hpt]
   refine Zdx ?_;refine Zb7 ?_;refine ZS ?_;refine ZF ?_;refine Zah ?_;refine Zcn ?_;refine ZaL ?_
   refine qq L (rs:=[.cell 2 34, .tmp 3]) rfl (fun _ _ h => h) Since.refl fun u H hH hle => ?_
   exact ⟨_, qk rfl, rfl, rfl⟩
end Go.V.L2
set_option maxRecDepth 20000
namespace Go.V.L2
open Go.Proofs Go.RowKit Go.V
theorem zhr {s x y z:ByteArray} {d:Bool} (h:zbs s = some (x, y, z, d)):(d = true → s = zhw x y z) ∧ (d = false → z = zdg ∧ s = zs5 x y):=by
 rcases zdf s 58 with h58 | ⟨a, b, rfl, ha⟩
 ·unfold zbs at h
  rw [zhy h58] at h
  simp at h
 ·unfold zbs at h
  rw [ze5 ha] at h
  split at h
  ·rcases zdf b 35 with h35 | ⟨c, e, rfl, hc⟩
   ·rw [zhy h35] at h
    simp at h
    obtain ⟨rfl, rfl, rfl, rfl⟩:=h
    exact ⟨fun e => (by cases e), fun _ => ⟨rfl, rfl⟩⟩
   ·rw [ze5 hc] at h
    simp at h
    obtain ⟨rfl, rfl, rfl, rfl⟩:=h
    refine ⟨fun _ => ?_, fun e => by cases e⟩
    unfold zhw zs5
    apply zbf
    simp only [zar, List.append_assoc]
  ·cases h
theorem zzq {s x y z:ByteArray} (h:pgA s = (x, y, z, 0)):s = zhw x y z ∧ zcw [x, y, z] = 0:=by
 unfold pgA at h
 rcases hp:zbs s with _ | ⟨a, b, c, d⟩
 ·rw [hp] at h; simp at h
 ·rw [hp] at h
  simp only at h
  cases d
  ·simp at h
  ·rw [if_neg (by decide)] at h
   split at h
   ·rename_i h0
    simp at h
    obtain ⟨rfl, rfl, rfl⟩:=h
    exact ⟨(zhr hp).1 rfl, h0⟩
   ·rename_i h0
    simp at h
    exact absurd h.2.2.2 h0
theorem zzl {s x y z:ByteArray} (h:psA s = (x, y, z, 0)):s = zhl x y z ∧ zif x y z = 0:=by
 unfold psA at h
 rcases hp:zbs s with _ | ⟨a, b, c, d⟩
 ·rw [hp] at h; simp at h
 ·rw [hp] at h
  simp only at h
  split at h
  ·rename_i h0
   cases d
   ·rw [if_neg (by decide)] at h
    simp at h
    obtain ⟨rfl, rfl, rfl⟩:=h
    obtain ⟨rfl, h1⟩:=(zhr hp).2 rfl
    unfold zhl zif
    rw [if_pos rfl, if_pos rfl]
    exact ⟨h1, h0⟩
   ·rw [if_pos rfl] at h
    split at h
    ·rename_i hc
     simp at h
     obtain ⟨rfl, rfl, rfl⟩:=h
     have hn:¬ c = ⟨#[]⟩:=fun e => by subst e; rw [z0l] at hc; exact absurd hc (by decide)
     unfold zhl zif
     rw [if_neg hn, if_neg hn]
     obtain ⟨h1, h2⟩:=z0x h0
     exact ⟨(zhr hp).1 rfl, zx3 h1 h2 hc⟩
    ·rename_i hc
     simp at h
     exact absurd h.2.2.2 hc
  ·rename_i h0
   simp at h
   exact absurd h.2.2.2 h0
theorem zpk {s:ByteArray} {t:U} (h:ptA s = (t, 0)):tE t = 0 ∧ tT t = s:=by
 unfold ptA at h
 split at h
 ·rename_i hc
  rcases zdf s 64 with h64 | ⟨a, b, rfl, ha⟩
  ·rw [zhy h64] at hc
   cases hc.1
  ·rw [ze5 ha] at h
   dsimp only at h
   rcases hg:pgA a with ⟨x, y, z, e⟩
   rcases hs:psA b with ⟨x2, y2, z2, e2⟩
   rw [hg, hs] at h
   dsimp only at h
   by_cases h1:e = 0
   ·subst h1
    rw [if_pos rfl] at h
    by_cases h2:e2 = 0
    ·subst h2
     rw [if_pos rfl] at h
     obtain ⟨g1, g2⟩:=zzq hg
     obtain ⟨s1, s2⟩:=zzl hs
     have ht:t = (((x, y), z), ((x2, y2), z2)):=(congrArg Prod.fst h).symm
     subst ht
     refine ⟨?_, ?_⟩
     ·unfold tE; dsimp only; rw [if_pos g2]; exact s2
     ·unfold tT; dsimp only; rw [← g1, ← s1]
    ·rw [if_neg h2] at h
     exact absurd (congrArg Prod.snd h) h2
   ·rw [if_neg h1] at h
    exact absurd (congrArg Prod.snd h) h1
 ·exact absurd (congrArg Prod.snd h) (show ¬ (5:Int) = 0 by decide)
theorem zci {s:ByteArray} (h:chk s = 0):s.size ≤ 16:=by
 unfold chk at h
 split at h
 ·rename_i hc; exact hc.2.1
 ·exact absurd h (by decide)
theorem z1e {t:U} (h:tE t = 0):TZ t:=by
 unfold tE at h
 split at h
 ·rename_i h1
  obtain ⟨c1, c2, c3⟩:=zsw h1
  obtain ⟨d1, d2, d3⟩:=zhm h
  have a1:=zci c1
  have a2:=zci c2
  have a3:=zci c3
  have b1:=zci d1
  have b2:=zci d2
  have b3:t.2.2.size ≤ 16:=by
   rcases d3 with d3 | d3
   ·rw [d3]; decide
   ·exact zci d3
  unfold TZ
  refine ⟨⟨?_, ?_, ?_⟩, ?_, ?_, ?_⟩ <;> omega
 ·rename_i h1; exact absurd h h1
end Go.V.L2
set_option maxRecDepth 20000
namespace Go.V.L3
open Go.Proofs Go.RowKit Go.V Go.V.L2
abbrev FT:=z01 × z01 × Bool
abbrev n3:z01:=((⟨#[]⟩, ⟨#[]⟩), ⟨#[]⟩)
end Go.V.L3
set_option maxRecDepth 20000
namespace Go.V.L3
open Go.Proofs Go.RowKit Go.V Go.V.L2
end Go.V.L3
set_option maxRecDepth 20000
namespace Go.V.L2
open Go.Proofs Go.RowKit Go.V
def zr0 (l:List U):List U:=zku zbt [] l
attribute [local irreducible] V N X VO Par StepOK Has Ret RetL Src
end Go.V.L2
set_option maxRecDepth 20000
namespace Go.V
inductive Tr (K V:Type) where
 | nil
 | node (k:K) (v:V) (l r:Tr K V)
namespace Tr
variable {K V:Type}
def size:Tr K V → Nat
 | nil => 0
 | node _ _ l r => size l + 1 + size r
def deep:Tr K V → Nat
 | nil => 0
 | node _ _ l r => 1 + max (deep l) (deep r)
theorem deep_le:∀ t:Tr K V, deep t ≤ size t
 | nil => Nat.le_refl _
 | node _ _ l r => by have:=deep_le l; have:=deep_le r; simp only [deep, size]; omega
def bal (k:K) (v:V) (l r:Tr K V):Tr K V :=
 if deep l > deep r + 1 then
  match l with
  | nil => nil
  | node lk lv ll lr =>
   if deep ll ≥ deep lr then node lk lv ll (node k v lr r)
   else match lr with
    | nil => nil
    | node mk mv ml mr => node mk mv (node lk lv ll ml) (node k v mr r)
 else if deep r > deep l + 1 then
  match r with
  | nil => nil
  | node rk rv rl rr =>
   if deep rr ≥ deep rl then node rk rv (node k v l rl) rr
   else match rl with
    | nil => nil
    | node mk mv ml mr => node mk mv (node k v l ml) (node rk rv mr rr)
 else node k v l r
def put (c:K → K → Int) (k:K) (v:V):Tr K V → Tr K V
 | nil => node k v nil nil
 | node nk nv l r => if c k nk < 0 then bal nk nv (put c k v l) r else if c k nk > 0 then bal nk nv l (put c k v r) else node nk v l r
def first:K → V → Tr K V → Tr K V → (K × V) × Tr K V
 | k, v, nil, r => ((k, v), r)
 | k, v, node lk lv ll lr, r => ((first lk lv ll lr).1, bal k v (first lk lv ll lr).2 r)
def drop (c:K → K → Int) (k:K):Tr K V → Tr K V × Bool
 | nil => (nil, false)
 | node nk nv l r => if c k nk < 0 then (bal nk nv (drop c k l).1 r, (drop c k l).2) else if c k nk > 0 then (bal nk nv l (drop c k r).1, (drop c k r).2)
  else match r with
   | nil => (l, true)
   | node rk rv rl rr => (bal (first rk rv rl rr).1.1 (first rk rv rl rr).1.2 l (first rk rv rl rr).2, true)
def get (c:K → K → Int) (k:K):Tr K V → Option V
 | nil => none
 | node nk nv l r => if c k nk = 0 then some nv else if c k nk < 0 then get c k l else get c k r
def list:Tr K V → List (K × V)
 | nil => []
 | node k v l r => list l ++ (k, v) :: list r
def prs:Tr K V → Int → Int → Int → List (K × V)
 | nil, _, _, _ => []
 | node k v l r, a, f, t => if a + (size (node k v l r):Int) ≤ f ∨ a ≥ t then [] else
   prs l a f t ++ ((if a + (size l:Int) ≥ f ∧ a + (size l:Int) < t then [(k, v)] else []) ++ prs r (a + size l + 1) f t)
theorem get_eq {c:K → K → Int} {k nk:K} {nv:V} {l r:Tr K V} (h:c k nk = 0):get c k (node nk nv l r) = some nv:=if_pos h
theorem get_lt {c:K → K → Int} {k nk:K} {nv:V} {l r:Tr K V} (h:c k nk < 0):get c k (node nk nv l r) = get c k l:=(if_neg (by omega)).trans (if_pos h)
theorem get_gt {c:K → K → Int} {k nk:K} {nv:V} {l r:Tr K V} (h0:¬ c k nk = 0) (h:¬ c k nk < 0):get c k (node nk nv l r) = get c k r:=(if_neg h0).trans (if_neg h)
theorem size_list:∀ t:Tr K V, (list t).length = size t
 | nil => rfl
 | node _ _ l r => by simp only [list, List.length_append, List.length_cons, size_list l, size_list r, size]; omega
theorem size_node (k:K) (v:V) (l r:Tr K V):size (node k v l r) = size l + 1 + size r:=rfl
theorem deep_node (k:K) (v:V) (l r:Tr K V):deep (node k v l r) = 1 + max (deep l) (deep r):=rfl
theorem zdo (k:K) (v:V) (l r:Tr K V):list (bal k v l r) = list l ++ (k, v) :: list r:=by
 unfold bal
 split
 ·rename_i h
  cases l with
  | nil => simp [deep] at h
  | node lk lv ll lr =>
   dsimp only
   split
   ·simp [list]
   ·rename_i h2
    cases lr with
    | nil => simp [deep] at h2
    | node mk mv ml mr => simp [list]
 ·split
  ·rename_i h
   cases r with
   | nil => simp [deep] at h
   | node rk rv rl rr =>
    dsimp only
    split
    ·simp [list]
    ·rename_i h2
     cases rl with
     | nil => simp [deep] at h2
     | node mk mv ml mr => simp [list]
  ·simp [list]
theorem zgr (k:K) (v:V) (l r:Tr K V):size (bal k v l r) = size l + 1 + size r:=by
 rw [← size_list, zdo, List.length_append, List.length_cons, size_list, size_list]; omega
theorem zhv:∀ (k:K) (v:V) (l r:Tr K V), (first k v l r).1 :: list (first k v l r).2 = list l ++ (k, v) :: list r
 | k, v, nil, r => rfl
 | k, v, node lk lv ll lr, r => by
  simp only [first, zdo, list]
  rw [← List.cons_append, zhv lk lv ll lr]
theorem size_first (k:K) (v:V) (l r:Tr K V):size (first k v l r).2 = size l + size r:=by
 have:=congrArg List.length (zhv k v l r)
 simp only [List.length_cons, List.length_append, size_list] at this
 omega
theorem size_put (c:K → K → Int) (k:K) (v:V):∀ t:Tr K V, size (put c k v t) ≤ size t + 1
 | nil => by simp [put, size]
 | node nk nv l r => by
  have:=size_put c k v l
  have:=size_put c k v r
  simp only [put]
  split
  ·rw [zgr, size_node]; omega
  ·split
   ·rw [zgr, size_node]; omega
   ·rw [size_node, size_node]; omega
theorem size_drop (c:K → K → Int) (k:K):∀ t:Tr K V, size (drop c k t).1 ≤ size t
 | nil => Nat.le_refl _
 | node nk nv l r => by
  have:=size_drop c k l
  have:=size_drop c k r
  simp only [drop]
  split
  ·rw [zgr, size_node]; omega
  ·split
   ·rw [zgr, size_node]; omega
   ·cases r with
    | nil => simp only [size]; omega
    | node rk rv rl rr => rw [zgr, size_first, size_node, size_node]; omega
theorem prs_length_le:∀ (t:Tr K V) (a f e:Int), (prs t a f e).length ≤ size t
 | nil, _, _, _ => Nat.le_refl _
 | node k v l r, a, f, e => by
  have:=prs_length_le l a f e
  have:=prs_length_le r (a + size l + 1) f e
  simp only [prs]
  split
  ·exact Nat.zero_le _
  ·simp only [List.length_append, size_node]
   split
   ·simp only [List.length_cons, List.length_nil]; omega
   ·simp only [List.length_nil]; omega
def TreeAt (nl:K → V → Value → Value → Int → Int → List Value) (ty:TypeId):Tr K V → Value → Heap → Prop
 | nil, v, _ => v = .pointer none
 | node k x l r, v, H => ∃ b lv rv, v = .pointer (some ⟨b, 0, none⟩) ∧ H b = some (.cells (nl k x lv rv (size (node k x l r)) (deep (node k x l r))).toArray ty) ∧ TreeAt nl ty l lv H ∧ TreeAt nl ty r rv H
theorem TreeAt.mono {nl:K → V → Value → Value → Int → Int → List Value} {ty:TypeId}:∀ {t:Tr K V}, Kn.mono (.sat (TreeAt nl ty t))
 | nil, _, _, _, h, _ => h
 | node k x l r, _, _, _, ⟨b, lv, rv, h1, h2, h3, h4⟩, hle => ⟨b, lv, rv, h1, hle _ _ h2, TreeAt.mono _ _ _ h3 hle, TreeAt.mono _ _ _ h4 hle⟩
theorem TreeAt.le {nl:K → V → Value → Value → Int → Int → List Value} {ty:TypeId} {t:Tr K V} {v:Value} {H H':Heap} (h:TreeAt nl ty t v H) (hle:H.Le H'):TreeAt nl ty t v H':=TreeAt.mono _ _ _ h hle
end Tr
end Go.V
