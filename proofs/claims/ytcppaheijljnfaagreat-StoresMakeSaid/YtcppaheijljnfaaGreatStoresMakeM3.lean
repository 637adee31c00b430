/- Texts on the way to StoresMake, part 3: one behind another. -/
import Derived.Test.YtcppaheijljnfaaGreatStoresMakeM2
import Derived.Sort.AssemblyPlain
import Derived.Lib.AppendZeros
import Derived.Laws.IdiomRangeMap
import Derived.Lib.IndexAny
set_option linter.unusedVariables false
set_option linter.unusedSimpArgs false
set_option maxRecDepth 20000
namespace Go.V
open Go.RowKit
section
variable {P:Program}
end
section
variable {K V:Type} [DecidableEq K]
def zdy (k:K):List (K × V) → Nat → Option (Nat × V)
 | [], _ => none
 | p :: l, i => if k = p.1 then some (i, p.2) else zdy k l (i + 1)
def zdi (k:K) (l:List (K × V)):Option V:=(zdy k l 0).map (·.2)
def zp7 (k:K) (v:V):List (K × V) → List (K × V)
 | [] => [(k, v)]
 | p :: l => if k = p.1 then (p.1, v) :: l else p :: zp7 k v l
theorem zg2 (k:K):∀ (l:List (K × V)) (i:Nat), zdy k l (i + 1) = (zdy k l i).map fun p => (p.1 + 1, p.2)
 | [], _ => rfl
 | p :: l, i => by
  unfold zdy
  split
  ·rfl
  ·exact zg2 k l (i + 1)
theorem zcn (k:K) (p:K × V) (l:List (K × V)):zdi k (p :: l) = if k = p.1 then some p.2 else zdi k l:=by
 unfold zdi
 rw [zdy]
 split
 ·rfl
 ·rw [zg2, Option.map_map]; rfl
theorem zrf (k k':K) (v:V):∀ l:List (K × V), zdi k (zp7 k' v l) = if k = k' then some v else zdi k l
 | [] => by rw [zp7, zcn]
 | p :: l => by
  rw [zp7]
  split
  ·rename_i h
   rw [zcn, zcn]
   by_cases h1:k = p.1
   ·rw [if_pos h1, if_pos (h1.trans h.symm)]
   ·rw [if_neg h1, if_neg (fun e => h1 (e.trans h))]
    rw [if_neg h1]
  ·rename_i h
   rw [zcn, zcn, zrf k k' v l]
   by_cases h1:k = p.1
   ·rw [if_pos h1, if_neg (fun e => h (e.symm.trans h1)), if_pos h1]
   ·rw [if_neg h1, if_neg h1]
theorem zkr {k:K}:∀ {l:List (K × V)} {i j:Nat} {x:V}, zdy k l i = some (j, x) → ∃ n, j = i + n ∧ l[n]? = some (k, x)
 | [], _, _, _, h => by cases h
 | p :: l, i, j, x, h => by
  unfold zdy at h
  split at h
  ·rename_i hk
   cases h
   exact ⟨0, rfl, by subst hk; rfl⟩
  ·obtain ⟨n, hn, hx⟩:=zkr h
   exact ⟨n + 1, by omega, hx⟩
theorem zhf {k:K} {v:V}:∀ {l:List (K × V)} {i:Nat}, zdy k l i = none → zp7 k v l = l ++ [(k, v)]
 | [], _, _ => rfl
 | p :: l, i, h => by
  unfold zdy at h
  split at h
  ·cases h
  ·rename_i hk
   rw [zp7, if_neg hk, zhf h]; rfl
end
section
variable {P:Program} {K V:Type} [DecidableEq K] {kc:K → List Value} {vc:V → Value} {l:List (K × V)} {t kt et:TypeId} {ls:List Nat}
end
section
variable {P:Program} {F:Fr} {B:Heap} {O:Boxes} {n:Nat} {ops:Array Oper} {κ:Kap} {d:Nat} {ty:TypeId} {pos:String} {aft:Array Edge} {g:Option (Nat × Bool)} {a:Act} {u:World} {H:Heap} {os:List Oper} {Q:Exit → Act → World → Prop} {ex:Exs}
variable {K Y:Type} [DecidableEq K] {kc:K → List Value} {vc:Y → Value} {l:List (K × Y)}
end
end Go.V
set_option maxRecDepth 20000
namespace Go.V
open Go.RowKit
def MiE {V:Type} (kd:IntKind) (vc:V → Value) (l:List (Int × V)) (es:List MapEntry):Prop:=es.map (fun e => (e.key, e.val)) = l.map fun p => (Value.int kd p.1, vc p.2)
section
variable {P:Program} {V:Type} {kd:IntKind} {vc:V → Value} {l:List (Int × V)} {t kt et:TypeId}
theorem zre {p:Int × V} {l:List (Int × V)} {es:List MapEntry} (h:MiE kd vc (p :: l) es):∃ e r, es = e :: r ∧ e.key = .int kd p.1 ∧ e.val = vc p.2 ∧ MiE kd vc l r:=by
 unfold MiE at h
 cases es with
 | nil => simp at h
 | cons e r =>
  simp at h
  exact ⟨e, r, rfl, h.1.1, h.1.2, h.2⟩
theorem zo4 (k:Int):∀ (l:List (Int × V)) (es:List MapEntry) (i:Nat), MiE kd vc l es → Instr.findNow (.int kd) (.int kd k) es i = some ((zdy k l i).map fun p => (p.1, vc p.2))
 | [], es, i, h => by
  have:es = []:=by simpa [MiE] using h
  subst this; rfl
 | p :: l, es, i, h => by
  obtain ⟨e, r, rfl, h1, h2, h3⟩:=zre h
  rw [Instr.findNow, zdy, h1]
  simp only [Instr.sameNow, if_true]
  by_cases hkp:k = p.1
  ·rw [if_pos hkp, beq_iff_eq.2 hkp, h2]; rfl
  ·rw [if_neg hkp, beq_false_of_ne hkp]
   exact zo4 k l r (i + 1) h3
theorem zeq (hk:P.underlying kt = some (.int kd)) (k:Int) (w:World) (l:List (Int × V)) (es:List MapEntry) (h:MiE kd vc l es) :
  (Instr.findKey kt (.int kd k) es).run P w = .ok ((zdy k l 0).map fun p => (p.1, vc p.2)) w:=by
 unfold Instr.findKey
 simp only [Sem.run_bind, run_underlying hk, Result.andThen_ok, zo4 k l es 0 h, Sem.run_pure]
theorem zcv (hk:P.underlying kt = some (.int kd)) (k:Int) (em:Bool) (w:World):(Instr.checkKey em 10000 kt (.int kd k)).run P w = .ok () w:=by
 rw [Instr.checkKey]
 simp only [Sem.run_bind, run_underlying hk, Result.andThen_ok]
 rfl
theorem zpv (ht:P.underlying t = some (.map kt et)) (hk:P.underlying kt = some (.int kd)) {b:Nat} {es:Array MapEntry} {ck:Nat} {u:World} (hb:u.heap[b]? = some (.map es ck)) (he:MiE kd vc l es.toList) (k:Int) {z:Value}
  (hz:(zeroValue et).run P u = .ok z u):(Instr.lookup t (.map (some b)) (.int kd k) false).run P u = .ok ((zdi k l).elim z vc) u:=by
 unfold Instr.lookup
 have hf:=zeq hk k u l es.toList he
 simp only [Sem.run_bind, run_underlying ht, Result.andThen_ok, MapKept.run_getObj_map hb, Sem.run_pure, zcv hk k, hf]
 unfold zdi
 cases zdy k l 0 with
 | none => simp [hz]
 | some p => simp
theorem zou (k:Int) (v:V):∀ (l:List (Int × V)) (es:List MapEntry) (i j:Nat) (x:V), MiE kd vc l es → zdy k l i = some (j, x) →
  MiE kd vc (zp7 k v l) (es.modify (j - i) fun e => { e with key:=.int kd k, val:=vc v })
 | [], _, _, _, _, _, h => by cases h
 | p :: l, es, i, j, x, he, h => by
  obtain ⟨e, r, rfl, h1, h2, h3⟩:=zre he
  unfold zdy at h
  rw [zp7]
  split at h
  ·rename_i hk
   cases h
   rw [if_pos hk, Nat.sub_self]
   unfold MiE at h3 ⊢
   subst hk
   simpa using h3
  ·rename_i hk
   rw [if_neg hk]
   obtain ⟨n, hn, _⟩:=zkr h
   have ih:=zou k v l r (i + 1) j x h3 h
   have e1:j - i = (j - (i + 1)) + 1:=by omega
   rw [e1]
   unfold MiE at ih ⊢
   simp [h1, h2]
   exact ih
end
section
variable {P:Program} {F:Fr} {B:Heap} {O:Boxes} {n:Nat} {ops:Array Oper} {κ:Kap} {d:Nat} {ty:TypeId} {pos:String} {aft:Array Edge} {g:Option (Nat × Bool)} {a:Act} {u:World} {H:Heap} {os:List Oper} {Q:Exit → Act → World → Prop} {ex:Exs}
variable {Y:Type} {kd:IntKind} {vc:Y → Value} {l:List (Int × Y)}
end
end Go.V
set_option maxRecDepth 20000
namespace Go.V
open Go.Proofs Go.RowKit
def z7o (w:World) (C:Nat → Prop) (r:Res) (v:Value) (H:Heap) (u:World):Prop:=∃ C':Nat → Prop, r.P v H u C' ∧ ∀ k, C' k → (C k ∨ w.heap.size ≤ k) ∧ k < u.heap.size ∧ H k = none
def RetT (P:Program) (f:FuncId) (args:List Value) (w:World) (B:Heap) (C:Nat → Prop) (r:Res):Prop:=RetL P f args w B C (z7o w C r)
theorem zmg {zs:Array Value} {m:Nat} (h:zs.all zbs = true):∀ v ∈ Builtin.zeroCells zs m, zbs v = true:=by
 intro v hv
 unfold Builtin.zeroCells at hv
 obtain ⟨i, hi, rfl⟩:=Array.mem_map.1 hv
 have hi':i < m * zs.size:=by simpa using hi
 have hpos:0 < zs.size:=by
  rcases Nat.eq_zero_or_pos zs.size with e | e
  ·rw [e] at hi'; simp at hi'
  ·exact e
 have hlt:=Nat.mod_lt i hpos
 rw [getElem!_pos zs _ hlt]
 exact Array.all_eq_true.1 h _ hlt
section
variable {P:Program} {F:Fr} {B:Heap} {O:Boxes} {n:Nat} {ops:Array Oper} {κ:Kap} {d:Nat} {ty:TypeId} {pos:String} {aft:Array Edge} {g:Option (Nat × Bool)} {a:Act} {u:World} {H:Heap} {fp:Nat → Nat → Prop} {Q:Exit → Act → World → Prop}
theorem zor (L:Tabs P) {q f:Nat} {args:Array Operand} {at_:Array TypeId} {cap:List Value} {r r':Res} {fo:Operand}
  (hn:Nat.blt d n = true) (hg:gK ops κ ⟨some d, .call { callee:=.value fo, args:=args, argTypes:=at_ }, ty, pos, aft, g⟩ = some true)
  (hf:evK (upd κ q (.is undef)) fo = some (.func (.func f) #[] cap.toArray)) (hfn:L.fn f = some ()) (hq:κ q = some (.own r))
  (h:∀ u H C x, H.Le (hp u) → B.Le H → r.P x H u C → (∀ k, C k → k < u.heap.size ∧ H k = none) → Args (upd κ q (.is x)) H args.toList [] (fun vs => RetT P f (vs ++ cap) u H C r')) :
  StepOK2 P F B n ops O κ ⟨some d, .call { callee:=.value fo, args:=args, argTypes:=at_ }, ty, pos, aft, g⟩ q zec d (.own r'):=by
 rintro κ' a u hlk hks ⟨H, fp, hh⟩
 unfold After
 rw [if_pos (zag hh hlk hg)]
 have hk':κ' q = some (.own r):=hks.trans hq
 obtain ⟨hown, hM⟩:=hh.slot q _ hk'
 have hh2:=hh.name q
 have e2:Env F B O (upd κ q (.is (a.eval (.tmp q)))) ⟨some d, .call { callee:=.value fo, args:=args, argTypes:=at_ }, ty, pos, aft, g⟩ a u H fp:=hh2.env (ops:=ops) fun t ht => by
  by_cases htq:t = q
  ·subst htq; rw [zaf, zaf]
  ·rw [zac _ _ htq, zac _ _ htq]; exact hlk t ht
 have hfe:a.eval fo = .func (.func f) #[] cap.toArray:=by
  refine e2.is_ fo _ (by simp [Op.operands, Call.operands]) ?_
  cases fo with
  | tmp t =>
   simp only [evK] at hf ⊢
   by_cases htq:t = q
   ·subst htq; rw [zaf] at hf; cases hf
   ·rw [zac _ _ htq] at hf ⊢; exact hf
  | _ => exact hf
 have hc:=Args.use e2 args.toList [] (fun x hx => by simp [Op.operands, Call.operands] at hx ⊢; exact .inr hx) (h u H (fp q) _ hh.sub hh.base hown fun k hk => ⟨(hM k hk).1, (hM k hk).2.1⟩)
 simp only [List.reverse_nil, List.nil_append] at hc
 rw [zde L rfl hfe hfn]
 simp only [Upon]
 refine Calls.mono hc fun e' u' hp => ?_
 obtain ⟨v, rfl, H', g', C', hv, hC'⟩:=hp
 exact ⟨v, rfl, H', _, hh.usePut (d:=d) (a':=a.put (some d) v) hk' g' (by simp [Act.put]) rfl (fun t ht => zap ht) (by rw [zar (by rw [hh.size]; exact zk hn)]; exact hv) hC'⟩
theorem zk9 {fn:Func} {B0:Heap} {t:Nat} {r:Res} (hrs:fn.results = #[.tmp t]) (hQ:∀ a u, bodyPostM Fence.wide 0 P fn (zfs F.w0 B0 F.L (z7o F.w0 F.L r)) .ret a u → Q .ret a u) (hs:Since F B0 B) (hk:κ t = some (.own r)):V P F B n O κ .ret Q :=
 zsa hQ hs fun O' a u H fp _ hh => by
  obtain ⟨hown, hM⟩:=hh.slot t _ hk
  refine ⟨a.eval (.tmp t), ?_, fp t, hown, fun k hk => ?_⟩
  ·simp [results, hrs, Act.eval]
  ·obtain ⟨h1, h2, h3, _⟩:=hM k hk
   exact ⟨h3.symm, h1, h2⟩
theorem zg7 (t q:Nat) {e:TypeId} {s m:Nat} {xs:List Value} {c:Code} (hk:κ t = some (.own (SlR e s m xs)))
  (h0:m = 0 → xs = [] → V P F B n O (upd κ t (.is (.slice none 0 0))) c Q)
  (h:∀ b cap rest, xs.length = m * s → m ≤ cap → cap ≤ maxLen → (xs ++ rest).length = cap * s → V P F B n O (upd (upd (upd κ t zec) q (.own (zan b (xs ++ rest) e))) t (.is (.slice (some ⟨b, 0, none⟩) m cap))) c Q):V P F B n O κ c Q:=fun a u hh => by
 obtain ⟨H, fp, hh⟩:=hh
 obtain ⟨⟨hl, hv⟩, hM⟩:=hh.slot t _ hk
 rcases hv with ⟨hm, hv, _⟩ | ⟨b, cap, rest, hv, hb, h3, h4, h5, hC⟩
 ·have h3:=hh.name t
  rw [hv] at h3
  subst hm
  exact h0 rfl (List.eq_nil_of_length_eq_zero (by simpa using hl)) a u ⟨H, _, h3⟩
 ·have h2:=hh.usePut (d:=q) (a':=a) (r':=zan b (xs ++ rest) e) (C:=fp t) hk ⟨Keep.refl _ _, hh.sub, Heap.Le.refl _, fun _ _ _ => rfl⟩ rfl rfl (fun _ _ => rfl) ⟨hb, hC⟩ fun k hk => ⟨.inl hk, (hM k hk).1, (hM k hk).2.1⟩
  have h3':=h2.name t
  rw [hv] at h3'
  exact h b cap rest hl h3 h4 h5 a u ⟨H, _, h3'⟩
theorem zcc (t q:Nat) {b m cap:Nat} {e:TypeId} {s:Nat} {xs rest cs:List Value} {c:Code} (hcs:cs = xs ++ rest) (hk:κ q = some (.own (zan b cs e))) (ht:κ t = some (.is (.slice (some ⟨b, 0, none⟩) m cap))) (hl:xs.length = m * s) (hm:m ≤ cap) (hc:cap ≤ maxLen) (hcl:cs.length = cap * s)
  (h:V P F B n O (upd (upd κ q zec) t (.own (SlR e s m xs))) c Q):V P F B n O κ c Q:=fun a u hh => by
 subst hcs
 obtain ⟨H, fp, hh⟩:=hh
 obtain ⟨⟨hb, hC⟩, hM⟩:=hh.slot q _ hk
 have hx:a.eval (.tmp t) = .slice (some ⟨b, 0, none⟩) m cap:=hh.slot t _ ht
 exact h a u ⟨H, _, hh.usePut (d:=t) (a':=a) (r':=SlR e s m xs) (C:=fp q) hk ⟨Keep.refl _ _, hh.sub, Heap.Le.refl _, fun _ _ _ => rfl⟩ rfl rfl (fun _ _ => rfl) ⟨hl, .inr ⟨b, cap, rest, hx, hb, hm, hc, hcl, hC⟩⟩ fun k hk => ⟨.inl hk, (hM k hk).1, (hM k hk).2.1⟩⟩
theorem z0i {t t':TypeId} {x y:Operand} {k k2:IntKind} {p q r:Int} (hn:Nat.blt d n = true) (hg:gK ops κ ⟨some d, .binOp .shr t x y t', ty, pos, aft, g⟩ = some true) (hx:evK κ x = some (.int k p)) (hy:evK κ y = some (.int k2 q)) (h0:0 ≤ q) (hb:p.fdiv (2 ^ min q.toNat k.bits) = r) :
  StepOK P F B n ops O κ ⟨some d, .binOp .shr t x y t', ty, pos, aft, g⟩ d (.is (.int k r)):=zcm hn hg hx hy fun u => by subst hb; simp [eqGuard_shr, binOp_shr, Op.shift, Int.not_lt.2 h0]
theorem zbt (L:Tabs P) {x:Operand} {tt e:TypeId} {s m b off cap:Nat} {lo hi:Option Operand} {kl kh:IntKind} {ag:Bool} (i j:Nat) {pl ph:Int} (hn:Nat.blt d n = true) (hg:gK ops κ ⟨some d, .slice tt x lo hi none, ty, pos, aft, g⟩ = some true)
  (hx:evK κ x = some (.slice (some ⟨b, off, none⟩) m cap)) (ht:L.sl tt = some e) (hl:L.ld e = some (ag, s))
  (hlo:match lo with | some y => evK κ y = some (.int kl pl) ∧ pl = i | none => i = 0) (hhi:match hi with | some y => evK κ y = some (.int kh ph) ∧ ph = j | none => j = m)
  (hij:i ≤ j) (hjc:j ≤ cap) :
  StepOK P F B n ops O κ ⟨some d, .slice tt x lo hi none, ty, pos, aft, g⟩ d (.is (.slice (some (if cap = i then ⟨b, off, none⟩ else ⟨b, off + i * s, none⟩)) (j - i) (cap - i))) :=
 zaw rfl (zk hn) hg trivial fun a u H fp en => ⟨_, by
  have hu:=Tabs.sl_spec ht
  have h1:=en.is_ x _ (by simp [Op.operands]) hx
  have hrun:(Instr.sliceBounds true m cap (lo.map a.eval) (hi.map a.eval) none).run P u = .ok (i, j, cap) u:=by
   cases hi with
   | none =>
    simp only at hhi
    subst hhi
    cases lo with
    | none => simp only at hlo; subst hlo; simp [Instr.sliceBounds]
    | some z =>
     obtain ⟨hz, rfl⟩:=hlo
     have h3:=en.is_ z _ (by simp [Op.operands]) hz
     simp [h3, Instr.sliceBounds, za8 i kl _ _ hij]
   | some y =>
    obtain ⟨hy, rfl⟩:=hhi
    have h2:=en.is_ y _ (by simp [Op.operands]) hy
    cases lo with
    | none => simp only at hlo; subst hlo; simp [h2, Instr.sliceBounds, za8 j kh cap _ hjc]
    | some z =>
     obtain ⟨hz, rfl⟩:=hlo
     have h3:=en.is_ z _ (by simp [Op.operands]) hz
     simp [h2, h3, Instr.sliceBounds, za8 j kh cap _ hjc, za8 i kl _ _ hij]
  simp only [execOp, h1, Instr.sliceAt, Instr.slice, Sem.run_bind, run_underlying hu, Result.andThen_ok, Option.map_none, hrun, za9 (Tabs.ld_spec hl), Sem.run_pure]
  congr 3
  split <;> simp [Addr.add], rfl⟩
theorem zoq (L:Tabs P) {q:Nat} {y:Operand} {tt e t':TypeId} {by_ s b off m cap:Nat} {z:Value} {cs cs':List Value} (hg:gK ops κ ⟨none, .call ⟨.builtin .clear, #[y], #[tt]⟩, ty, pos, aft, g⟩ = some true)
  (hy:evK κ y = some (.slice (some ⟨b, off, none⟩) m cap)) (hq:κ q = some (.own (zan b cs t'))) (ht:L.sl tt = some e) (he:elI P e = some (s, by_)) (hz:L.zr e = some z) (hz1:z.cells.toList.all zbs = true)
  (hcs:m = 0 ∨ off + m * s ≤ cs.length) (hr:m ≠ 0 → cs.take off ++ ((Builtin.zeroCells z.cells m).toList ++ cs.drop (off + m * s)) = cs') (hr0:m = 0 → cs = cs') :
  zgg P F B n ops O κ ⟨none, .call ⟨.builtin .clear, #[y], #[tt]⟩, ty, pos, aft, g⟩ q (.own (zan b cs' t')):=by
 rintro κ' a u hlk hqk ⟨H, fp, hh⟩
 unfold After
 rw [if_pos (zag hh hlk hg)]
 have en:=hh.env hlk
 have hye:=en.is_ y _ (by simp [Op.operands, Call.operands]) hy
 have hqs:=hqk.trans hq
 obtain ⟨⟨hb, hC⟩, hM⟩:=hh.slot q _ hqs
 by_cases hm:m = 0
 ·subst hm
  obtain rfl:=hr0 rfl
  have hrun:(execOp a.eval ⟨none, .call ⟨.builtin .clear, #[y], #[tt]⟩, ty, pos, aft, g⟩).run P u = .ok (.value (.tuple #[])) u:=by
   simp [execOp, resolve, invoke, builtin, hye, Builtin.clear_, run_underlying (Tabs.sl_spec ht)]
  rw [hrun]
  simp only [Upon, Act.put]
  exact ⟨H, fp, by
   have:upd κ' q (.own (zan b cs t')) = κ':=by
    funext t
    by_cases h:t = q
    ·subst h; rw [zaf]; exact hqs.symm
    ·rw [zac _ _ h]
   rw [this]; exact hh⟩
 ·have hr:=hr hm
  subst hr
  have hcs':=hcs.resolve_left hm
  obtain ⟨i, z', hi, hz', hs1, hs2, hs3, hs4⟩:=zcf he
  have hzz:=Tabs.zr_spec hz
  have hzr:(zeroValue e).run P u = .ok z u:=by
   unfold zrI at hzz
   split at hzz
   ·rename_i it hit
    simp [zeroValue, typeInfo, hit, hzz]
   ·cases hzz
  have hze:z' = z:=by
   have h1:(zeroValue e).run P u = .ok z' u:=by simp [zeroValue, typeInfo, hi, hz']
   rw [hzr] at h1
   cases h1; rfl
  subst hze
  have hzl:(Builtin.zeroCells z'.cells m).toList.length = m * s:=by rw [Array.length_toList, size_zeroCells, hs3]
  have hst:=zcu (P:=P) b t' off (Builtin.zeroCells z'.cells m).toList 0 cs.toArray u hb (by rw [hzl]; simpa using hcs') (fun v hv => by
   have h1:v ∈ Builtin.zeroCells z'.cells m:=by simpa using hv
   exact zdf (zmg (by rw [← Array.all_toList]; exact hz1) v h1))
  have hrun:(execOp a.eval ⟨none, .call ⟨.builtin .clear, #[y], #[tt]⟩, ty, pos, aft, g⟩).run P u = .ok (.value (.tuple #[])) (u.setRow b (cs.take off ++ ((Builtin.zeroCells z'.cells m).toList ++ cs.drop (off + m * s))).toArray):=by
   rw [hzl] at hst
   cases m with
   | zero => exact absurd rfl hm
   | succ m =>
    simp only [execOp, resolve, invoke, builtin, Sem.run_bind, Sem.run_pure, Result.andThen_ok, List.map_toArray, List.map_cons, List.map_nil, hye, Builtin.clear_, List.getElem?_toArray, List.getElem?_cons_zero, run_underlying (Tabs.sl_spec ht), hzr]
    rw [hst]
    simp
  rw [hrun]
  simp only [Upon, Act.put]
  have hset:=setRow_heap u b cs.toArray (cs.take off ++ ((Builtin.zeroCells z'.cells m).toList ++ cs.drop (off + m * s))).toArray t' (0, 0) hb
  have hbm:=hM b ((hC b).2 rfl)
  have:=hh.usePut (d:=q) (a':=a) (r':=zan b (cs.take off ++ ((Builtin.zeroCells z'.cells m).toList ++ cs.drop (off + m * s))) t') (C:=fun k => k = b) hqs (zbu hh.sub hb ((hC b).2 rfl) hbm.2.1 _) rfl rfl (fun _ _ => rfl) ⟨hset, fun _ => Iff.rfl⟩ (fun k hk => by
   subst hk; exact ⟨.inl ((hC k).2 rfl), by rw [setRow_size]; exact hbm.1, hbm.2.1⟩)
  rw [zbf] at this
  exact ⟨H, _, this⟩
theorem zgt (L:Tabs P) {t e:TypeId} {ag:Bool} {s:Nat} {z:Value} (hn:Nat.blt d n = true) (hg:gK ops κ ⟨some d, .buildSlice t 0 #[], ty, pos, aft, g⟩ = some true) (ht:L.sl t = some e) (hl:L.ld e = some (ag, s)) (hz:L.zr e = some z) :
  StepOK P F B n ops O κ ⟨some d, .buildSlice t 0 #[], ty, pos, aft, g⟩ d (.own (SlR e s 0 [])):=by
 rintro κ' a u hlk ⟨H, fp, hh⟩
 unfold After
 rw [if_pos (zag hh hlk hg)]
 have hrun:(execOp a.eval ⟨some d, .buildSlice t 0 #[], ty, pos, aft, g⟩).run P u = .ok (.value (.slice (some ⟨u.heap.size, 0, none⟩) 0 0)) (u.alloc (.cells #[] e)):=by
  have hzz:=Tabs.zr_spec hz
  unfold zrI at hzz
  split at hzz
  ·rename_i it hit
   have hzr:(zeroValue e).run P u = .ok z u:=by simp [zeroValue, typeInfo, hit, hzz]
   simp only [execOp, Sem.run_bind]
   have e0:(Array.map (fun x:Nat × Operand => (x.1, a.eval x.2)) #[]) = (#[]:Array (Nat × Value)):=by simp
   rw [e0]
   have hfill:Instr.fill (fun i => some (i * s, s)) #[] [] = some #[]:=by simp [Instr.fill]
   simp only [Instr.buildSlice, Sem.run_bind, run_underlying (Tabs.sl_spec ht), Result.andThen_ok, za9 (Tabs.ld_spec hl)]
   simp only [Nat.zero_mul, if_true, Sem.run_pure, Result.andThen_ok]
   have e1:(Array.range 0).map (fun _:Nat => (default:Value)) = #[]:=by simp
   simp [newRow, hfill, e1]
  ·cases hzz
 rw [hrun]
 simp only [Upon]
 have hg2:=hh.grow (Grow.hid hh.sub (.cells #[] e))
 refine ⟨H, _, hg2.putR (C:=fun k => k = u.heap.size) (by simp [Act.put]) rfl (fun t ht => zap ht) ⟨by simp, .inr ⟨u.heap.size, 0, [], zar (by rw [hh.size]; exact zk hn), zao _ _, Nat.le_refl _, by simp [maxLen], by simp, fun _ => Iff.rfl⟩⟩ (fun k hk => ?_) fun t r' _ ht k hf hk => ?_⟩
 ·subst hk
  exact ⟨zai (zao u _), zbd hh.sub (Nat.le_refl _), .inl hh.keep.size, fun y hy e => by have:=zai (hh.boxes y hy).1; omega⟩
 ·have:=((hh.slot t _ ht).2 k hf).1
  omega
end
end Go.V
set_option maxRecDepth 20000
namespace Go.V
open Go.RowKit
def zab (b:Nat) (cs:List Value) (ty:TypeId):GR where
 P _ u C:=u.heap[b]? = some (.cells cs.toArray ty) ∧ ∀ k, C k ↔ k = b
 st:=fun ⟨h1, h2⟩ _ _ _ hk => ⟨(hk b ((h2 b).2 rfl)).trans h1, h2⟩
theorem za6 (b:Nat) (cs:List Value) (ty:TypeId):(zab b cs ty).res = zan b cs ty:=rfl
def zcd (P:Program) (f:FuncId) (args:List Value) (w:World) (B:Heap) (C:Nat → Prop) (r:GR):Prop :=
 RetL P f args w B C fun _ H u => ∃ C', r.P H u C' ∧ ∀ k, C' k → (C k ∨ w.heap.size ≤ k) ∧ k < u.heap.size ∧ H k = none
section
variable {P:Program} {F:Fr} {B:Heap} {O:Boxes} {n:Nat} {ops:Array Oper} {κ:Kap} {d:Nat} {ty:TypeId} {pos:String} {aft:Array Edge} {g:Option (Nat × Bool)} {Q:Exit → Act → World → Prop}
theorem za5 (L:Tabs P) (q:Nat) (r':GR) {r:GR} {f:Nat} {args:Array Operand} {at_:Array TypeId} {cap:List Value} {fo:Operand}
  (hn:Nat.blt d n = true) (hg:gK ops κ ⟨some d, .call { callee:=.value fo, args:=args, argTypes:=at_ }, ty, pos, aft, g⟩ = some true)
  (hf:evK κ fo = some (.func (.func f) #[] cap.toArray)) (hfn:L.fn f = some ()) (hq:κ q = some (.own r.res))
  (h:∀ u H C, H.Le (hp u) → B.Le H → r.P H u C → (∀ k, C k → k < u.heap.size ∧ H k = none) → Args κ H args.toList [] (fun vs => zcd P f (vs ++ cap) u H C r')) :
  StepOK2 P F B n ops O κ ⟨some d, .call { callee:=.value fo, args:=args, argTypes:=at_ }, ty, pos, aft, g⟩ q (.own r'.res) d zec:=by
 rintro κ' a u hlk hks ⟨H, fp, hh⟩
 unfold After
 rw [if_pos (zag hh hlk hg)]
 have hk':κ' q = some (.own r.res):=hks.trans hq
 obtain ⟨hown, hM⟩:=hh.slot q _ hk'
 have e2:=hh.env hlk
 have hfe:a.eval fo = .func (.func f) #[] cap.toArray:=e2.is_ fo _ (by simp [Op.operands, Call.operands]) hf
 have hc:=Args.use e2 args.toList [] (fun x hx => by simp [Op.operands, Call.operands] at hx ⊢; exact .inr hx) (h u H (fp q) hh.sub hh.base hown fun k hk => ⟨(hM k hk).1, (hM k hk).2.1⟩)
 simp only [List.reverse_nil, List.nil_append] at hc
 rw [zde L rfl hfe hfn]
 simp only [Upon]
 refine Calls.mono hc fun e' u' hp => ?_
 obtain ⟨v, rfl, H', g', C', hv, hC'⟩:=hp
 have h2:=hh.usePut (d:=q) (a':=a) (r':=r'.res) hk' g' rfl rfl (fun _ _ => rfl) hv hC'
 rw [zbf] at h2
 exact ⟨v, rfl, H', _, h2.put (k:=zec) (zk hn) (fun _ _ _ h _ => h) trivial⟩
theorem zxe (L:Tabs P) {fn:Func} {B0:Heap} (hrs:fn.results = #[]) (hQ:∀ a u, bodyPostM Fence.wide 0 P fn (zfs F.w0 B0 F.L fun _ _ _ => True) .normal a u → Q .normal a u) (hs:Since F B0 B):N F B n O κ Q :=
 z05 hQ hs fun O' a u H fp _ hh => by
  obtain ⟨vs, h1, _⟩:=zb7 L hh (rs:=[]) hrs (K:=fun _ => True) trivial
  exact ⟨_, h1, trivial⟩
theorem zfo {x c y:Code} {T:Type} (Fk:T → List (Nat × Kn)) (I:T → Prop) (Ob:T → Boxes) (hy:∀ t, I t → V P F B n (Ob t) (ofL (Fk t)) y Q)
  (h:V P F B n O κ x (Exit.then (fun a u => c.wpIn (FW F.r) 0 P (Exit.then (fun a u => ∃ t, I t ∧ Has F B (Ob t) n (ofL (Fk t)) a u) Q) a u) (Exit.then (fun a u => ∃ t, I t ∧ Has F B (Ob t) n (ofL (Fk t)) a u) Q))) :
  V P F B n O κ x (Exit.then (fun a u => c.wpIn (FW F.r) 0 P (Exit.then (fun a u => y.wpIn (FW F.r) 0 P Q a u) Q) a u) (Exit.then (fun a u => y.wpIn (FW F.r) 0 P Q a u) Q)):=fun a u hh => by
 have key:∀ e a u, Exit.then (fun a u => ∃ t, I t ∧ Has F B (Ob t) n (ofL (Fk t)) a u) Q e a u → Exit.then (fun a u => y.wpIn (FW F.r) 0 P Q a u) Q e a u:=fun e a u he => by
  cases e <;> first | exact he | (obtain ⟨t, hI, hh⟩:=he; exact hy t hI a u hh)
 refine Go.wpIn_mono (h a u hh) fun e a u he => ?_
 cases e <;> first | exact Go.wpIn_mono he key | exact he
theorem HasH.setSat {t:Nat} {φ:Value → Heap → Prop} {H:Heap} {fp:Nat → Nat → Prop} {a:Act} {u:World} (hm:Kn.mono (.sat φ)) (h:HasH F B O n κ a u H fp) (hφ:φ (a.eval (.tmp t)) H):HasH F B O n (upd κ t (.sat φ)) a u H fp :=
 ⟨h.size, h.defers, h.nodup, h.marks, h.lent, h.keep, h.sub, h.base, h.fresh, h.boxes, h.apart, fun s k hs => by
  by_cases hst:s = t
  ·subst hst; rw [zaf] at hs; cases hs; exact hφ
  ·rw [zac _ _ hst] at hs; exact h.slot s k hs, fun s r r1 r2 hsr h1 h2 => by
  have key:∀ x r, upd κ t (.sat φ) x = some (.own r) → κ x = some (.own r):=fun x r hx => by
   by_cases hxd:x = t
   ·subst hxd; rw [zaf] at hx; cases hx
   ·rw [zac _ _ hxd] at hx; exact hx
  exact h.owns s r r1 r2 hsr (key _ _ h1) (key _ _ h2), fun s k hs => by
  by_cases hst:s = t
  ·subst hst; rw [zaf] at hs; cases hs; exact hm
  ·rw [zac _ _ hst] at hs; exact h.mono s k hs⟩
def SlG (e:TypeId) (s n:Nat) (xs:List Value):Res where
 P x H u C:=(n = 0 ∧ xs = [] ∧ SlV e s [] 0 true x H ∧ ∀ k, ¬ C k) ∨ (SlR e s n xs).P x H u C
 st:=fun h hle hs ho hk => by
  rcases h with ⟨h1, h2, h3, h4⟩ | h
  ·exact .inl ⟨h1, h2, h3.le hle, h4⟩
  ·exact .inr ((SlR e s n xs).st h hle hs ho hk)
theorem Has.toG {t:Nat} {e:TypeId} {s:Nat} {a:Act} {u:World} (hk:κ t = some (.sat (SlV e s [] 0 true))) (h:Has F B O n κ a u):Has F B O n (upd κ t (.own (SlG e s 0 []))) a u:=by
 obtain ⟨H, fp, h⟩:=h
 exact ⟨H, _, h.putR (C:=noL) (a':=a) rfl rfl (fun _ _ => rfl) (.inl ⟨rfl, rfl, h.slot t _ hk, fun _ h => h⟩) (fun k hk => hk.elim) (fun _ _ _ _ _ _ hk => hk.elim)⟩
theorem z64 (t:Nat) {e:TypeId} {s:Nat} {c:Code} (hk:κ t = some (.sat (SlV e s [] 0 true))) (h:V P F B n O (upd κ t (.own (SlG e s 0 []))) c Q):V P F B n O κ c Q:=fun a u hh => h a u (hh.toG hk)
theorem Has.pubG {t:Nat} {e:TypeId} {s m:Nat} {xs:List Value} {a:Act} {u:World} (hk:κ t = some (.own (SlG e s m xs))) (h:Has F B O n κ a u):Has F B O n (upd κ t (.sat (SlV e s xs m false))) a u:=by
 obtain ⟨H, fp, h⟩:=h
 obtain ⟨hv, hM⟩:=h.slot t _ hk
 rcases hv with ⟨rfl, rfl, h3, _⟩ | hv
 ·exact ⟨H, fp, h.setSat SlV.mono h3.nofu⟩
 ·have h2:=h.putR (d:=t) (r:=SlR e s m xs) (C:=fp t) (a':=a) rfl rfl (fun _ _ => rfl) hv hM (fun t' r' hne hk' k hf hc => h.owns t' t _ _ hne hk' hk k hf hc)
  have h3:=Has.pubR (t:=t) (zaf _ _ _) ⟨H, _, h2⟩
  rwa [zbf] at h3
theorem z5i (t:Nat) {e:TypeId} {s m:Nat} {xs:List Value} {c:Code} (hk:κ t = some (.own (SlG e s m xs))) (h:V P F B n O (upd κ t (.sat (SlV e s xs m false))) c Q):V P F B n O κ c Q:=fun a u hh => h a u (hh.pubG hk)
theorem zl0 (L:Tabs P) {q:Nat} {t e:TypeId} {y:Operand} {s by_ nn m:Nat} {xs news:List Value} (hm:0 < m) (hn:Nat.blt d n = true) (hg:gK ops κ ⟨some d, .call ⟨.builtin .append, #[.tmp q, y], #[t, t]⟩, ty, pos, aft, g⟩ = some true)
  (hq:κ q = some (.own (SlG e s nn xs))) (hy:Apd F B O κ y m news) (ht:L.sl t = some e) (he:elI P e = some (s, by_)) (hl:news.length = m * s) (h1:news.all zbs = true) (hb:(nn + m) * by_ ≤ 140737488355328) (h63:nn + m ≤ 9223372036854775807) :
  StepOK2 P F B n ops O κ ⟨some d, .call ⟨.builtin .append, #[.tmp q, y], #[t, t]⟩, ty, pos, aft, g⟩ q zec d (.own (SlG e s (nn + m) (xs ++ news))):=by
 rintro κ' a u hlk hks ⟨H, fp, hh⟩
 unfold After
 rw [if_pos (zag hh hlk hg)]
 have en:=hh.env hlk
 obtain ⟨i, z, hi, hz, hs1, hs2, hs3, hs4⟩:=zcf he
 have hk':κ' q = some (.own (SlG e s nn xs)):=hks.trans hq
 obtain ⟨hown, hM⟩:=hh.slot q _ hk'
 have hyv:=hy _ a u H fp (by simp [Op.operands, Call.operands]) en
 have h1':∀ v ∈ news, v.oneCell' = true:=fun v hv => zdf (List.all_eq_true.1 h1 v hv)
 have hap:∃ x' u' C', (Builtin.append_ #[t, t] ty #[a.eval (.tmp q), a.eval y]).run P u = .ok x' u' ∧ (SlR e s (nn + m) (xs ++ news)).P x' H u' C' ∧ Grow (fp q) u H u' H ∧ ∀ k, C' k → (fp q k ∨ u.heap.size ≤ k) ∧ k < u'.heap.size ∧ H k = none:=by
  rcases hown with ⟨rfl, rfl, h3, hC⟩ | hown
  ·have hxx:a.eval (.tmp q) = .slice none 0 0 ∨ ∃ a0, a.eval (.tmp q) = .slice (some a0) 0 0:=by
    obtain ⟨hl3, ⟨_, p0, hx⟩ | ⟨b, off, cap, cs, ty0, fr, hx, hb1, _, hcp, hfu⟩⟩:=h3
    ·cases p0 with
     | none => exact .inl hx
     | some a0 => exact .inr ⟨a0, hx⟩
    ·obtain rfl:=hfu rfl
     exact .inr ⟨_, hx⟩
   rcases hxx with hx | ⟨a0, hx⟩
   ·refine zk7 u (Tabs.sl_spec ht) hi hz hs1 hs2 hs3 hs4 hh.sub ⟨by simp, .inl ⟨rfl, hx, hC⟩⟩ (fun k hk => ⟨(hM k hk).1, (hM k hk).2.1⟩) hyv hl h1' h63 hb
   ·rcases hyv with ⟨rfl, _⟩ | ⟨ad, c, hye, hnews⟩
    ·omega
    ·subst hs1 hs2
     have hr:=run_append_grow (P:=P) u t ty e i z (Tabs.sl_spec ht) hi hz a0 0 0 [] (by simp) (fun j v hj => by simp at hj) ad m c news hl hnews (by omega) (by omega) (growslice_fits (by omega) hb)
     rw [hx, hye]
     have hmx:0 + m ≤ maxLen:=by simp only [maxLen]; omega
     have hge:=grownCap_ge u (0 + m) 0 e
     refine ⟨_, _, fun k => k = u.heap.size, hr, ⟨by simpa using hl, .inr ⟨u.heap.size, _, (Builtin.zeroCells z.cells (grownCap u (0 + m) 0 e - (0 + m))).toList, rfl, ?_, hge, grownCap_le_maxLen u (0 + m) 0 e hmx, ?_, fun _ => Iff.rfl⟩⟩, ⟨⟨rfl, rfl, rfl, by simp, fun k hk _ => zb0 u.drew _ hk, Nat.le_succ _⟩, fun k v hv => by
      have:=hh.sub.size hv
      show (u.drew.alloc _).heap[k]? = some v
      rw [zb0 u.drew _ this]; exact hh.sub k v hv, Heap.Le.refl _, fun _ _ _ => rfl⟩, fun k hk => by
      subst hk
      exact ⟨.inr (Nat.le_refl _), by simp, zbd hh.sub (Nat.le_refl _)⟩⟩
     ·rw [show u.heap.size = u.drew.heap.size from rfl, heap_alloc_new]
      congr 2
      apply Array.ext'
      simp
     ·rw [List.nil_append, List.length_append, hl, Array.length_toList, size_zeroCells, hs3, ← Nat.add_mul]
      congr 1
      omega
  ·exact zk7 u (Tabs.sl_spec ht) hi hz hs1 hs2 hs3 hs4 hh.sub hown (fun k hk => ⟨(hM k hk).1, (hM k hk).2.1⟩) hyv hl h1' h63 hb
 obtain ⟨x', u', C', hr, hown', hgr, hC'⟩:=hap
 have hrun:(execOp a.eval ⟨some d, .call ⟨.builtin .append, #[.tmp q, y], #[t, t]⟩, ty, pos, aft, g⟩).run P u = .ok (.value x') u':=by
  simp only [execOp, resolve, invoke, builtin, Sem.run_bind, Sem.run_pure, Result.andThen_ok, List.map_toArray, List.map_cons, List.map_nil, hr]
 rw [hrun]
 simp only [Upon]
 exact ⟨H, _, hh.usePut hk' hgr (by simp [Act.put]) rfl (fun t ht => zap ht) (by rw [zar (by rw [hh.size]; exact zk hn)]; exact .inr hown') hC'⟩
end
end Go.V
set_option maxRecDepth 20000
namespace Go.V
open Go.Proofs Go.RowKit
def zd2 (P:Program) (f:FuncId) (args:List Value) (w:World) (B:Heap) (C:Nat → Prop) (r:GR) (v:Value):Prop :=
 RetL P f args w B C fun x H u => x = v ∧ ∃ C', r.P H u C' ∧ ∀ k, C' k → (C k ∨ w.heap.size ≤ k) ∧ k < u.heap.size ∧ H k = none
section
variable {P:Program} {F:Fr} {B:Heap} {O:Boxes} {n:Nat} {ops:Array Oper} {κ:Kap} {d:Nat} {ty:TypeId} {pos:String} {aft:Array Edge} {g:Option (Nat × Bool)} {Q:Exit → Act → World → Prop}
theorem zaj (L:Tabs P) (q:Nat) (r':GR) (v:Value) {r:GR} {f:Nat} {args:Array Operand} {at_:Array TypeId} {cap:List Value} {fo:Operand}
  (hn:Nat.blt d n = true) (hg:gK ops κ ⟨some d, .call { callee:=.value fo, args:=args, argTypes:=at_ }, ty, pos, aft, g⟩ = some true)
  (hf:evK κ fo = some (.func (.func f) #[] cap.toArray)) (hfn:L.fn f = some ()) (hq:κ q = some (.own r.res))
  (h:∀ u H C, H.Le (hp u) → B.Le H → r.P H u C → (∀ k, C k → k < u.heap.size ∧ H k = none) → Args κ H args.toList [] (fun vs => zd2 P f (vs ++ cap) u H C r' v)) :
  StepOK2 P F B n ops O κ ⟨some d, .call { callee:=.value fo, args:=args, argTypes:=at_ }, ty, pos, aft, g⟩ q (.own r'.res) d (.is v):=by
 rintro κ' a u hlk hks ⟨H, fp, hh⟩
 unfold After
 rw [if_pos (zag hh hlk hg)]
 have hk':κ' q = some (.own r.res):=hks.trans hq
 obtain ⟨hown, hM⟩:=hh.slot q _ hk'
 have e2:=hh.env hlk
 have hfe:a.eval fo = .func (.func f) #[] cap.toArray:=e2.is_ fo _ (by simp [Op.operands, Call.operands]) hf
 have hc:=Args.use e2 args.toList [] (fun x hx => by simp [Op.operands, Call.operands] at hx ⊢; exact .inr hx) (h u H (fp q) hh.sub hh.base hown fun k hk => ⟨(hM k hk).1, (hM k hk).2.1⟩)
 simp only [List.reverse_nil, List.nil_append] at hc
 rw [zde L rfl hfe hfn]
 simp only [Upon]
 refine Calls.mono hc fun e' u' hp => ?_
 obtain ⟨x, rfl, H', g', hx, C', hv, hC'⟩:=hp
 have h2:=hh.usePut (d:=q) (a':=a) (r':=r'.res) hk' g' rfl rfl (fun _ _ => rfl) hv hC'
 rw [zbf] at h2
 exact ⟨x, rfl, H', _, h2.put (k:=.is v) (zk hn) trivial hx⟩
theorem zgf (L:Tabs P) {fn:Func} {B0:Heap} (gs:Nat) {r r':GR} {rs:List ResultVar} {v:Value} (hrs:fn.results = rs.toArray)
  (hQ:∀ a u, bodyPostM Fence.wide 0 P fn (zfs F.w0 B0 F.L fun x H u => x = v ∧ ∃ C', r'.P H u C' ∧ ∀ k, C' k → (F.L k ∨ F.w0.heap.size ≤ k) ∧ k < u.heap.size ∧ H k = none) .ret a u → Q .ret a u) (hs:Since F B0 B) (hk:κ gs = some (.own r.res)) (e:r = r')
  (h:∀ H, zpj L F B O κ H rs [] (fun vs => tup vs = v)) (hd:F.ds = []:=by rfl):V P F B n O κ .ret Q:=fun a u hh => by
 obtain ⟨H, fp, hH⟩:=hh
 refine wpIn_ret (hQ a u ?_)
 have h0:=hH.defers
 rw [hd] at h0
 show LeavesInM _ _ _ _ _ _ a.defers _ _
 rw [h0]
 subst e
 obtain ⟨vs, h1, h2⟩:=zb7 L hH hrs (h H)
 obtain ⟨C', h3, h4⟩:=HasH.ghost hk hH
 exact ⟨_, h1, _, rfl, H, ⟨hH.keep, hH.sub, hs.le.trans hH.base, fun k hk hl => (hH.fresh k hk hl).trans (hs.fresh k hk hl)⟩, h2, C', h3, h4⟩
theorem zve {t t':TypeId} {x y:Operand} {k k2:IntKind} {p q r:Int} (hn:Nat.blt d n = true) (hg:gK ops κ ⟨some d, .binOp .shl t x y t', ty, pos, aft, g⟩ = some true) (hx:evK κ x = some (.int k p)) (hy:evK κ y = some (.int k2 q)) (h0:0 ≤ q) (hb:k.wrap (p * 2 ^ min q.toNat k.bits) = r) :
  StepOK P F B n ops O κ ⟨some d, .binOp .shl t x y t', ty, pos, aft, g⟩ d (.is (.int k r)):=zcm hn hg hx hy fun u => by subst hb; simp [eqGuard_shl, binOp_shl, Op.shift, Int.not_lt.2 h0]
theorem zvc {t t':TypeId} {x y:Operand} {k:IntKind} {p q r:Int} (hn:Nat.blt d n = true) (hg:gK ops κ ⟨some d, .binOp .xor t x y t', ty, pos, aft, g⟩ = some true) (hx:evK κ x = some (.int k p)) (hy:evK κ y = some (.int k q)) (hb:bits .xor k p q = r) :
  StepOK P F B n ops O κ ⟨some d, .binOp .xor t x y t', ty, pos, aft, g⟩ d (.is (.int k r)):=zcm hn hg hx hy fun u => by subst hb; simp [eqGuard_xor, binOp_xor, intBits_xor]
theorem zhs {id:Nat} {x y:Code} {R:Exit → Act → World → Prop} (hm:z5p P F B n R y Q) (h:V P F B n O κ x (Exit.inBlock id R)):V P F B n O κ x (Exit.inBlock id (Exit.then (fun a u => y.wpIn (FW F.r) 0 P Q a u) Q)):=fun a u hh => by
 have key:∀ e a u, R e a u → Exit.then (fun a u => y.wpIn (FW F.r) 0 P Q a u) Q e a u:=fun e a u he => by
  cases e <;> first | exact hm.1 a u he | exact hm.2 _ a u (by intro h; cases h) he
 refine Go.wpIn_mono (h a u hh) fun e a u he => ?_
 cases e with
 | exit j =>
  simp only [Exit.inBlock] at he ⊢
  split at he
  ·rename_i h; rw [if_pos h]; exact key _ _ _ he
  ·rename_i h; rw [if_neg h]; exact key _ _ _ he
 | _ => exact key _ _ _ he
end
def uC (d:Array Int):List Value:=d.toList.map (Value.int .u64)
theorem zjr (d:Array Int):(uC d).length = d.size:=by simp [uC]
theorem zz7 {d:Array Int} {j:Nat} (h:j < d.size):(uC d)[j]? = some (.int .u64 d[j]!):=by
 unfold uC
 rw [List.getElem?_map, Array.getElem?_toList, Array.getElem?_eq_getElem h, getElem!_pos d j h]
 rfl
theorem zdb {d:Array Int} {rest:List Value} {j:Nat} (h:j < d.size) (off:Nat) (ho:off = 0 + j * 1):∃ r, (uC d ++ rest).drop off = .int .u64 d[j]! :: r:=by
 subst ho
 rw [Nat.zero_add, Nat.mul_one]
 have hl:j < (uC d ++ rest).length:=by rw [List.length_append, zjr]; omega
 refine ⟨(uC d ++ rest).drop (j + 1), ?_⟩
 rw [List.drop_eq_getElem_cons hl]
 congr 1
 have:=zz7 h
 rw [← List.getElem?_append_left (l₂:=rest) (by rw [zjr]; exact h), List.getElem?_eq_getElem hl] at this
 exact Option.some.inj this
theorem zcj {d:Array Int} {rest:List Value} {j:Nat} (z:Int) (h:j < d.size) (off:Nat) (ho:off = 0 + j * 1):(uC d ++ rest).take off ++ ([.int .u64 z] ++ (uC d ++ rest).drop (off + 1)) = uC (d.setIfInBounds j z) ++ rest:=by
 subst ho
 rw [Nat.zero_add, Nat.mul_one]
 have h1:uC (d.setIfInBounds j z) = (uC d).set j (.int .u64 z):=by
  unfold uC
  rw [Array.toList_setIfInBounds, List.map_set]
 rw [h1, List.take_append_of_le_length (by rw [zjr]; omega), List.drop_append_of_le_length (by rw [zjr]; omega), List.set_eq_take_append_cons_drop, if_pos (by rw [zjr]; exact h)]
 simp
theorem zck {d:Array Int} {rest:List Value} {j:Nat} (h:j < d.size) (off:Nat) (ho:off = 0 + j * 1):Nat.ble (off + 1) (uC d ++ rest).length = true:=Nat.ble_eq_true_of_le (by rw [List.length_append, zjr]; omega)
theorem zdj (d:Array Int) (i j:Nat):(d.setIfInBounds i d[j]!).setIfInBounds j d[i]! = Go.Sort.swp d i j:=rfl
theorem zbv (d:Array Int) (i j:Nat):(Go.Sort.swp d i j).size = d.size:=by unfold Go.Sort.swp; rw [Array.size_setIfInBounds, Array.size_setIfInBounds]
end Go.V
set_option maxRecDepth 20000
namespace Go.V
open Go.RowKit
section
variable {P:Program} {F:Fr} {B:Heap} {O:Boxes} {n:Nat} {ops:Array Oper} {κ:Kap} {d:Nat} {ty:TypeId} {pos:String} {aft:Array Edge} {g:Option (Nat × Bool)} {a:Act} {u:World} {Q:Exit → Act → World → Prop}
end
end Go.V
set_option maxRecDepth 20000
namespace Go.V
open Go.RowKit
section
variable {P:Program} {F:Fr} {B:Heap} {O:Boxes} {n:Nat} {ops:Array Oper} {κ:Kap} {d:Nat} {ty:TypeId} {pos:String} {aft:Array Edge} {g:Option (Nat × Bool)} {Q:Exit → Act → World → Prop}
end
end Go.V
set_option maxRecDepth 20000
namespace Go.V
open Go.Proofs Go.RowKit
section
variable {P:Program} {F:Fr} {B:Heap} {O:Boxes} {n:Nat} {ops:Array Oper} {κ:Kap} {d:Nat} {ty:TypeId} {pos:String} {aft:Array Edge} {g:Option (Nat × Bool)} {Q:Exit → Act → World → Prop}
def z5o (B:Heap) (v:Value):Prop:=∀ b o k m c, v = .slice (some ⟨b, o, k⟩) m c → B b = none
end
end Go.V
set_option maxRecDepth 20000
namespace Go.V
open Go.Proofs Go.RowKit
theorem za3 {α:Type} {l:List α} {i:Nat} {x:α} (h:l[i]? = some x):l.take (i + 1) = l.take i ++ [x]:=by
 rw [List.take_add_one, h]; rfl
section
variable {P:Program} {F:Fr} {B:Heap} {O:Boxes} {n:Nat} {ops:Array Oper} {κ:Kap} {d:Nat} {ty:TypeId} {pos:String} {aft:Array Edge} {g:Option (Nat × Bool)} {os:List Oper} {Q:Exit → Act → World → Prop}
theorem Has.relE {t q:Nat} {b m:Nat} {e:TypeId} {s:Nat} {xs:List Value} {a:Act} {u:World} (hk:κ q = some (.own (zan b xs e))) (ht:κ t = some (.is (.slice (some ⟨b, 0, none⟩) m m))) (hl:xs.length = m * s) (hm:m ≤ maxLen) (hh:Has F B O n κ a u):Has F B O n (upd (upd κ q zec) t (.own (SlE e s m xs))) a u:=by
 obtain ⟨H, fp, hh⟩:=hh
 obtain ⟨⟨hb, hC⟩, hM⟩:=hh.slot q _ hk
 have hx:a.eval (.tmp t) = .slice (some ⟨b, 0, none⟩) m m:=hh.slot t _ ht
 exact ⟨H, _, hh.usePut (d:=t) (a':=a) (r':=SlE e s m xs) (C:=fp q) hk ⟨Keep.refl _ _, hh.sub, Heap.Le.refl _, fun _ _ _ => rfl⟩ rfl rfl (fun _ _ => rfl) ⟨hl, .inr ⟨b, hx, hb, hm, hC⟩⟩ fun k hk => ⟨.inl hk, (hM k hk).1, (hM k hk).2.1⟩⟩
theorem z0z (t q:Nat) {b m:Nat} {e:TypeId} {s:Nat} {xs:List Value} {c:Code} (hk:κ q = some (.own (zan b xs e))) (ht:κ t = some (.is (.slice (some ⟨b, 0, none⟩) m m))) (hl:xs.length = m * s) (hm:m ≤ maxLen)
  (h:V P F B n O (upd (upd κ q zec) t (.own (SlE e s m xs))) c Q):V P F B n O κ c Q:=fun a u hh => h a u (hh.relE hk ht hl hm)
theorem StepOK.seeV {o:Oper} {v:Value} {e:TypeId} {s m:Nat} {xs:List Value} {fu:Bool} (h:StepOK P F B n ops O κ o d (.is v)) (hv:SlV e s xs m fu v B):StepOK P F B n ops O κ o d (.sat (SlV e s xs m fu)):=fun κ' a u hl hh =>
 After.mono (fun a' u' hh' => by
  have h2:=hh'.seen (t:=d) (SlV e s xs m fu) (zaf _ _ _) SlV.mono hv
  rwa [zbf] at h2) (h κ' a u hl hh)
theorem Has.pubH {q b:Nat} {cs:List Value} {t':TypeId} {a:Act} {u:World} (hk:κ q = some (.own (zan b cs t'))) (hh:Has F B O n κ a u):∃ H, Since F B H ∧ B b = none ∧ H b = some (.cells cs.toArray t') ∧ Has F H O n (upd κ q zec) a u:=by
 obtain ⟨H, fp, hh⟩:=hh
 obtain ⟨⟨hb, hC⟩, hM⟩:=hh.slot q _ hk
 have hbm:=hM b ((hC b).2 rfl)
 obtain ⟨H', h'⟩:=hh.pub (φ:=fun _ H => H b = some (.cells cs.toArray t')) hk hb ((hC b).2 rfl) (fun _ _ _ h hle => hle _ _ h) fun H' _ hb' => hb'
 have hx:H' b = some (.cells cs.toArray t'):=h'.slot q _ (zaf _ _ _)
 refine ⟨H', h'.isSince, ?_, hx, H', fp, ?_⟩
 ·cases hB:B b with
  | none => rfl
  | some z => have:=hh.base _ _ hB; rw [hbm.2.1] at this; cases this
 ·have h2:=(h'.rebase).setSat (t:=q) (φ:=fun _ _ => True) (fun _ _ _ _ _ => trivial) trivial
  rwa [zbf] at h2
theorem z00 (q:Nat) {b:Nat} {cs:List Value} {t':TypeId} {c:Code} (hk:κ q = some (.own (zan b cs t'))) (h:∀ H, Since F B H → B b = none → H b = some (.cells cs.toArray t') → V P F H n O (upd κ q zec) c Q):V P F B n O κ c Q:=fun a u hh =>
 let ⟨H, h1, h2, h3, h4⟩:=hh.pubH hk; h H h1 h2 h3 a u h4
theorem znn (L:Tabs P) {fn:Func} {B0:Heap} {r:Res} {rs:List ResultVar} {v:Value} (hrs:fn.results = rs.toArray)
  (hQ:∀ a u, bodyPostM Fence.wide 0 P fn (zfs F.w0 B0 F.L (z5n F.w0 r)) .ret a u → Q .ret a u) (hs:Since F B0 B)
  (h:∀ H, zpj L F B O κ H rs [] (fun vs => tup vs = v)) (hr:∀ H u, B.Le H → r.P v H u noL) (hd:F.ds = []:=by rfl):V P F B n O κ .ret Q:=fun a u hh => by
 obtain ⟨H, fp, hH⟩:=hh
 refine wpIn_ret (hQ a u ?_)
 have h0:=hH.defers
 rw [hd] at h0
 show LeavesInM _ _ _ _ _ _ a.defers _ _
 rw [h0]
 obtain ⟨vs, h1, h2⟩:=zb7 L hH hrs (h H)
 exact ⟨_, h1, _, rfl, H, ⟨hH.keep, hH.sub, hs.le.trans hH.base, fun k hk hl => (hH.fresh k hk hl).trans (hs.fresh k hk hl)⟩, noL, by rw [h2]; exact hr H u hH.base, fun _ h => h.elim⟩
theorem zgl (L:Tabs P) {t t':TypeId} {ag:Bool} {z b off q w:Nat} {p:Operand} {cs:List Value} {φ:Value → Heap → Prop} (hm:Kn.mono (.sat φ)) (hg:gK ops κ ⟨none, .store t p (.tmp w), ty, pos, aft, g⟩ = some true) (hp:evK κ p = some (.pointer (some ⟨b, off, none⟩)))
  (hq:κ q = some (.own (zan b cs t'))) (hx:κ w = some (.sat φ)) (hl:L.ld t = some (ag, z)) (hv:∀ v H, φ v H → (zav v).length = z ∧ (zav v).all zbs = true) (hcs:off + z ≤ cs.length) :
  zgg P F B n ops O κ ⟨none, .store t p (.tmp w), ty, pos, aft, g⟩ q (.own (z5t b t' (StP (fun c _ => c = cs) φ off z) (StP.mono (fun _ _ _ h _ => h) hm))):=by
 rintro κ' a u hlk hqk ⟨H, fp, hh⟩
 unfold After
 rw [if_pos (zag hh hlk hg)]
 have e:=hh.env hlk
 have hev:=e.sat_ w φ (by simp [Op.operands]) hx
 have hes:=e.is_ p _ (by simp [Op.operands]) hp
 have hqs:=hqk.trans hq
 obtain ⟨⟨hb, hC⟩, hM⟩:=hh.slot q _ hqs
 generalize hv':a.eval (.tmp w) = v at hev
 obtain ⟨hlen, hpl⟩:=hv v H hev
 have hrun:(execOp a.eval ⟨none, .store t p (.tmp w), ty, pos, aft, g⟩).run P u = .ok .skip (u.setRow b (cs.take off ++ (zav v ++ cs.drop (off + z))).toArray):=by
  simp only [execOp, hes, hv', Instr.storeAt, Instr.sureAddr, Sem.run_bind, Sem.run_pure, Result.andThen_ok]
  have:=zb4 (P:=P) (off:=off) (Tabs.ld_spec hl) hb hlen hcs hpl
  rw [this]
  simp
 rw [hrun]
 simp only [Upon, Act.put]
 have hset:=setRow_heap u b cs.toArray (cs.take off ++ (zav v ++ cs.drop (off + z))).toArray t' (0, 0) hb
 have hbm:=hM b ((hC b).2 rfl)
 have:=hh.usePut (d:=q) (a':=a) (r':=z5t b t' (StP (fun c _ => c = cs) φ off z) (StP.mono (fun _ _ _ h _ => h) hm)) (C:=fun k => k = b) hqs (zbu hh.sub hb ((hC b).2 rfl) hbm.2.1 _) rfl rfl (fun _ _ => rfl) ⟨_, ⟨cs, v, rfl, hev, rfl⟩, hset, fun _ => Iff.rfl⟩ (fun k hk => by
  subst hk; exact ⟨.inl ((hC k).2 rfl), by rw [setRow_size]; exact hbm.1, hbm.2.1⟩)
 rw [zbf] at this
 exact ⟨H, _, this⟩
end
section
variable {P:Program} {F:Fr} {B:Heap} {O:Boxes} {n:Nat} {ops:Array Oper} {κ:Kap} {d:Nat} {ty:TypeId} {pos:String} {aft:Array Edge} {g:Option (Nat × Bool)} {K Y:Type} [DecidableEq K] {kc:K → List Value} {vc:Y → Value} {l:List (K × Y)}
end
end Go.V
set_option maxRecDepth 20000
namespace Go.V
open Go.Proofs Go.RowKit
section
variable {P:Program} {F:Fr} {B:Heap} {O:Boxes} {n:Nat} {ops:Array Oper} {κ:Kap} {d:Nat} {ty:TypeId} {pos:String} {aft:Array Edge} {g:Option (Nat × Bool)} {os:List Oper} {Q:Exit → Act → World → Prop}
end
end Go.V
set_option maxRecDepth 20000
namespace Go.V
open Go.Proofs Go.RowKit
def SlW (e:TypeId) (s n:Nat) (xs:List Value):Value → Heap → Prop:=fun v H => xs.length = n * s ∧ ((n = 0 ∧ v = .slice none 0 0) ∨ ∃ b cap rest, v = .slice (some ⟨b, 0, none⟩) n cap ∧ H b = some (.cells (xs ++ rest).toArray e) ∧ n ≤ cap ∧ cap ≤ maxLen ∧ (xs ++ rest).length = cap * s)
theorem SlW.toV {e:TypeId} {s n:Nat} {xs:List Value} {v:Value} {H:Heap} (h:SlW e s n xs v H):SlV e s xs n false v H:=⟨h.1, by
 rcases h.2 with ⟨h1, h2⟩ | ⟨b, cap, rest, h1, h2, h3, _, _⟩
 ·exact .inl ⟨h1, _, h2⟩
 ·exact .inr ⟨b, 0, cap, _, _, (0, 0), h1, h2, by show ((xs ++ rest).drop 0).take xs.length = _; rw [List.drop_zero, List.take_left], h3, fun h => by cases h⟩⟩
section
variable {P:Program} {F:Fr} {B:Heap} {O:Boxes} {n:Nat} {ops:Array Oper} {κ:Kap} {d:Nat} {ty:TypeId} {pos:String} {aft:Array Edge} {g:Option (Nat × Bool)} {os:List Oper} {Q:Exit → Act → World → Prop}
theorem Has.pubW {t:Nat} {e:TypeId} {s m:Nat} {xs:List Value} {a:Act} {u:World} (hk:κ t = some (.own (SlR e s m xs))) (hh:Has F B O n κ a u):∃ x H, Since F B H ∧ z5o B x ∧ SlW e s m xs x H ∧ Has F H O n (upd κ t (.is x)) a u:=by
 obtain ⟨H, fp, hh⟩:=hh
 obtain ⟨⟨hl, hv⟩, hM⟩:=hh.slot t _ hk
 rcases hv with ⟨h0, hv, hC⟩ | ⟨b, cap, rest, hv, hb, h3, h4, h5, hC⟩
 ·exact ⟨_, H, hh.isSince, (fun b o k m c e => by rw [hv] at e; cases e), ⟨hl, .inl ⟨h0, hv⟩⟩, H, fp, (hh.name t).rebase⟩
 ·have hbm:=hM b ((hC b).2 rfl)
  obtain ⟨H', h'⟩:=hh.pub (φ:=fun v H => v = .slice (some ⟨b, 0, none⟩) m cap ∧ H b = some (.cells (xs ++ rest).toArray e)) hk hb ((hC b).2 rfl) (fun _ _ _ h hle => ⟨h.1, hle _ _ h.2⟩) fun H' _ hb' => ⟨hv, hb'⟩
  have hx:=h'.slot t _ (zaf _ _ _)
  have hB:B b = none:=by
   cases hB:B b with
   | none => rfl
   | some z => have:=hh.base _ _ hB; rw [hbm.2.1] at this; cases this
  have h2:=(h'.name t).rebase
  rw [zbf] at h2
  exact ⟨_, H', h'.isSince, (fun b' o k m c e => by rw [hv] at e; cases e; exact hB), ⟨hl, .inr ⟨b, cap, rest, hv, hx.2, h3, h4, h5⟩⟩, H', fp, h2⟩
theorem zsb (t:Nat) {e:TypeId} {s m:Nat} {xs:List Value} {c:Code} (hk:κ t = some (.own (SlR e s m xs))) (h:∀ x H, Since F B H → z5o B x → SlW e s m xs x H → V P F H n O (upd κ t (.is x)) c Q):V P F B n O κ c Q:=fun a u hh =>
 let ⟨x, H, h1, h2, h3, h4⟩:=hh.pubW hk; h x H h1 h2 h3 a u h4
theorem zs4 (L:Tabs P) {q b cap:Nat} {x y:Operand} {t e:TypeId} {s by_ nn m:Nat} {xs rest news:List Value} (hn:Nat.blt d n = true) (hg:gK ops κ ⟨some d, .call ⟨.builtin .append, #[x, y], #[t, t]⟩, ty, pos, aft, g⟩ = some true)
  (hx:evK κ x = some (.slice (some ⟨b, 0, none⟩) nn cap)) (hq:κ q = some (.own (zan b (xs ++ rest) e))) (hxl:xs.length = nn * s) (hnc:nn ≤ cap) (hcm:cap ≤ maxLen) (hcl:(xs ++ rest).length = cap * s) (hy:Apd F B O κ y m news) (ht:L.sl t = some e) (he:elI P e = some (s, by_)) (hl:news.length = m * s) (h1:news.all zbs = true) (hb:(nn + m) * by_ ≤ 140737488355328) (h63:nn + m ≤ 9223372036854775807) :
  StepOK2 P F B n ops O κ ⟨some d, .call ⟨.builtin .append, #[x, y], #[t, t]⟩, ty, pos, aft, g⟩ q zec d (.own (SlR e s (nn + m) (xs ++ news))):=by
 rintro κ' a u hlk hks ⟨H, fp, hh⟩
 unfold After
 rw [if_pos (zag hh hlk hg)]
 have en:=hh.env hlk
 obtain ⟨i, z, hi, hz, hs1, hs2, hs3, hs4⟩:=zcf he
 have hxe:=en.is_ x _ (by simp [Op.operands, Call.operands]) hx
 have hk':κ' q = some (.own (zan b (xs ++ rest) e)):=hks.trans hq
 obtain ⟨⟨hb', hC⟩, hM⟩:=hh.slot q _ hk'
 have hown:(SlR e s nn xs).P (.slice (some ⟨b, 0, none⟩) nn cap) H u (fp q):=⟨hxl, .inr ⟨b, cap, rest, rfl, hb', hnc, hcm, hcl, hC⟩⟩
 obtain ⟨x', u', C', hr, hown', hgr, hC'⟩:=zk7 u (aty:=ty) (Tabs.sl_spec ht) hi hz hs1 hs2 hs3 hs4 hh.sub hown (fun k hk => ⟨(hM k hk).1, (hM k hk).2.1⟩) (hy _ a u H fp (by simp [Op.operands, Call.operands]) en) hl (fun v hv => zdf (List.all_eq_true.1 h1 v hv)) h63 hb
 have hrun:(execOp a.eval ⟨some d, .call ⟨.builtin .append, #[x, y], #[t, t]⟩, ty, pos, aft, g⟩).run P u = .ok (.value x') u':=by
  simp only [execOp, resolve, invoke, builtin, Sem.run_bind, Sem.run_pure, Result.andThen_ok, List.map_toArray, List.map_cons, List.map_nil, hxe, hr]
 rw [hrun]
 simp only [Upon]
 exact ⟨H, _, hh.usePut hk' hgr (by simp [Act.put]) rfl (fun t ht => zap ht) (by rw [zar (by rw [hh.size]; exact zk hn)]; exact hown') hC'⟩
end
end Go.V
set_option maxRecDepth 20000
namespace Go.V
open Go.RowKit
def zg9 (r1 r2:Res):Res where
 P v H u C:=∃ C1 C2:Nat → Prop, r1.P v H u C1 ∧ r2.P v H u C2 ∧ (∀ k, C k ↔ C1 k ∨ C2 k) ∧ ∀ k, C1 k → ¬ C2 k
 st:=fun ⟨C1, C2, h1, h2, h3, h4⟩ hle hs ho hk => ⟨C1, C2, r1.st h1 hle hs ho fun k hc => hk k ((h3 k).2 (.inl hc)), r2.st h2 hle hs ho fun k hc => hk k ((h3 k).2 (.inr hc)), h3, h4⟩
def zcy (r1 r2:GR):GR where
 P H u C:=∃ C1 C2:Nat → Prop, r1.P H u C1 ∧ r2.P H u C2 ∧ (∀ k, C k ↔ C1 k ∨ C2 k) ∧ ∀ k, C1 k → ¬ C2 k
 st:=fun ⟨C1, C2, h1, h2, h3, h4⟩ hle hs ho hk => ⟨C1, C2, r1.st h1 hle hs ho fun k hc => hk k ((h3 k).2 (.inl hc)), r2.st h2 hle hs ho fun k hc => hk k ((h3 k).2 (.inr hc)), h3, h4⟩
theorem zhj (r1 r2:GR):(zcy r1 r2).res = zg9 r1.res r2.res:=rfl
def GEx {X:Type} (r:X → GR) (φ:X → Heap → Prop) (hφ:zg8 φ):GR where
 P H u C:=∃ x, φ x H ∧ (r x).P H u C
 st:=fun ⟨x, h1, h2⟩ hle hs hon hk => ⟨x, hφ _ _ _ h1 hle, (r x).st h2 hle hs hon hk⟩
section
variable {P:Program} {F:Fr} {B:Heap} {O:Boxes} {n:Nat} {ops:Array Oper} {κ:Kap} {d:Nat} {ty:TypeId} {pos:String} {aft:Array Edge} {g:Option (Nat × Bool)} {Q:Exit → Act → World → Prop} {a:Act} {u:World} {os:List Oper}
theorem Has.part {q g1:Nat} {r1 r2:Res} (hne:q ≠ g1) (hg1:∀ v v' H u C, r2.P v H u C → r2.P v' H u C) (hk:κ q = some (.own (zg9 r1 r2))) (h:Has F B O n κ a u):Has F B O n (upd (upd κ q (.own r1)) g1 (.own r2)) a u:=by
 obtain ⟨H, fp, hh⟩:=h
 obtain ⟨⟨C1, C2, h1, h2, h3, h4⟩, hM⟩:=hh.slot q _ hk
 have e2:=hh.putR (d:=q) (r:=r1) (C:=C1) (a':=a) rfl rfl (fun _ _ => rfl) h1 (fun k hk' => hM k ((h3 k).2 (.inl hk'))) (fun t r' hne' hk' k hf hc => hh.owns t q _ _ hne' hk' hk k hf ((h3 k).2 (.inl hc)))
 have e3:=e2.putR (d:=g1) (r:=r2) (C:=C2) (a':=a) rfl rfl (fun _ _ => rfl) (hg1 _ _ _ _ _ h2) (fun k hk' => hM k ((h3 k).2 (.inr hk'))) (fun t r' hne' hk' k hf hc => by
  by_cases e:t = q
  ·subst e; rw [zhk] at hf; exact h4 k hf hc
  ·rw [ze7 _ _ e] at hf
   rw [zac _ _ e] at hk'
   exact hh.owns t q _ _ e hk' hk k hf ((h3 k).2 (.inr hc)))
 exact ⟨H, _, e3⟩
theorem Has.join2 {q g1:Nat} {r1 r2:Res} (hne:q ≠ g1) (hg1:∀ v v' H u C, r2.P v H u C → r2.P v' H u C) (hk:κ q = some (.own r1)) (hk1:κ g1 = some (.own r2)) (h:Has F B O n κ a u):Has F B O n (upd (upd κ g1 zec) q (.own (zg9 r1 r2))) a u:=by
 obtain ⟨H, fp, hh⟩:=h
 obtain ⟨h1, hM⟩:=hh.slot q _ hk
 obtain ⟨h2, hM1⟩:=hh.slot g1 _ hk1
 have e1:=hh.drop1 g1
 have hkq:upd κ g1 zec q = some (.own r1):=by rw [zac _ _ hne]; exact hk
 have e2:=e1.putR (d:=q) (r:=zg9 r1 r2) (C:=fun k => fp q k ∨ fp g1 k) (a':=a) rfl rfl (fun _ _ => rfl) ⟨fp q, fp g1, h1, hg1 _ _ _ _ _ h2, fun _ => Iff.rfl, hh.owns q g1 _ _ hne hk hk1⟩
  (fun k hk' => hk'.elim (hM k) (hM1 k)) (fun t r' hne' hk' k hf hc => by
   by_cases e:t = g1
   ·subst e; rw [zaf] at hk'; cases hk'
   ·rw [zac _ _ e] at hk'
    rcases hc with hc | hc
    ·exact hh.owns t q _ _ hne' hk' hk k hf hc
    ·exact hh.owns t g1 _ _ e hk' hk1 k hf hc)
 exact ⟨H, _, e2⟩
theorem zhr (q g1:Nat) {r1 r2:Res} {c:Code} (hk:κ q = some (.own (zg9 r1 r2))) (hg1:∀ v v' H u C, r2.P v H u C → r2.P v' H u C) (h:V P F B n O (upd (upd κ q (.own r1)) g1 (.own r2)) c Q) (hne:q ≠ g1:=by decide):V P F B n O κ c Q:=fun a u hh => h a u (hh.part hne hg1 hk)
theorem zb8 (q g1:Nat) {r1 r2:Res} {c:Code} (hk:κ q = some (.own r1)) (hk1:κ g1 = some (.own r2)) (hg1:∀ v v' H u C, r2.P v H u C → r2.P v' H u C) (h:V P F B n O (upd (upd κ g1 zec) q (.own (zg9 r1 r2))) c Q) (hne:q ≠ g1:=by decide):V P F B n O κ c Q:=fun a u hh => h a u (hh.join2 hne hg1 hk hk1)
theorem za4 (r:GR):∀ (v v':Value) H u C, r.res.P v H u C → r.res.P v' H u C:=fun _ _ _ _ _ h => h
theorem Has.turnO {t:Nat} {r r':Res} (hk:κ t = some (.own r)) (hr:∀ v H u C, B.Le H → r.P v H u C → r'.P v H u C) (h:Has F B O n κ a u):Has F B O n (upd κ t (.own r')) a u:=by
 obtain ⟨H, fp, h⟩:=h
 exact ⟨H, fp, h.turnR hk (hr _ _ _ _ h.base (h.slot t _ hk).1)⟩
theorem zbi (t:Nat) {r:Res} (r':Res) {c:Code} (hk:κ t = some (.own r)) (hr:∀ v H u C, B.Le H → r.P v H u C → r'.P v H u C) (h:V P F B n O (upd κ t (.own r')) c Q):V P F B n O κ c Q:=fun a u hh => h a u (hh.turnO hk hr)
theorem z25 (t:Nat) {r:Res} (r':Res) (hk:κ t = some (.own r)) (hr:∀ v H u C, B.Le H → r.P v H u C → r'.P v H u C) (h:N F B n O (upd κ t (.own r')) Q):N F B n O κ Q:=fun a u hh => h a u (hh.turnO hk hr)
def RetY (P:Program) (f:FuncId) (args:List Value) (w:World) (B:Heap) (C:Nat → Prop) (r:GR) (φ:Value → Heap → Prop):Prop :=
 RetL P f args w B C fun x H u => φ x H ∧ ∃ C', r.P H u C' ∧ ∀ k, C' k → (C k ∨ w.heap.size ≤ k) ∧ k < u.heap.size ∧ H k = none
theorem RetY.mono {f:FuncId} {args:List Value} {w:World} {C:Nat → Prop} {r:GR} {φ ψ:Value → Heap → Prop} (h:RetY P f args w B C r φ) (hi:∀ v H, B.Le H → φ v H → ψ v H):RetY P f args w B C r ψ:=RetL.mono h fun v H u hg hp => ⟨hi v H hg.le hp.1, hp.2⟩
theorem zhe (L:Tabs P) (q:Nat) (r':GR) (φ:Value → Heap → Prop) {r:GR} {f:Nat} {args:Array Operand} {at_:Array TypeId} {cap:List Value} {fo:Operand}
  (hn:Nat.blt d n = true) (hg:gK ops κ ⟨some d, .call { callee:=.value fo, args:=args, argTypes:=at_ }, ty, pos, aft, g⟩ = some true)
  (hf:evK κ fo = some (.func (.func f) #[] cap.toArray)) (hfn:L.fn f = some ()) (hq:κ q = some (.own r.res)) (hm:Kn.mono (.sat φ))
  (h:∀ u H C, H.Le (hp u) → B.Le H → r.P H u C → (∀ k, C k → k < u.heap.size ∧ H k = none) → Args κ H args.toList [] (fun vs => RetY P f (vs ++ cap) u H C r' φ)) :
  StepOK2 P F B n ops O κ ⟨some d, .call { callee:=.value fo, args:=args, argTypes:=at_ }, ty, pos, aft, g⟩ q (.own r'.res) d (.sat φ):=by
 rintro κ' a u hlk hks ⟨H, fp, hh⟩
 unfold After
 rw [if_pos (zag hh hlk hg)]
 have hk':κ' q = some (.own r.res):=hks.trans hq
 obtain ⟨hown, hM⟩:=hh.slot q _ hk'
 have e2:=hh.env hlk
 have hfe:a.eval fo = .func (.func f) #[] cap.toArray:=e2.is_ fo _ (by simp [Op.operands, Call.operands]) hf
 have hc:=Args.use e2 args.toList [] (fun x hx => by simp [Op.operands, Call.operands] at hx ⊢; exact .inr hx) (h u H (fp q) hh.sub hh.base hown fun k hk => ⟨(hM k hk).1, (hM k hk).2.1⟩)
 simp only [List.reverse_nil, List.nil_append] at hc
 rw [zde L rfl hfe hfn]
 simp only [Upon]
 refine Calls.mono hc fun e' u' hp => ?_
 obtain ⟨x, rfl, H', g', hx, C', hv, hC'⟩:=hp
 have h2:=hh.usePut (d:=q) (a':=a) (r':=r'.res) hk' g' rfl rfl (fun _ _ => rfl) hv hC'
 rw [zbf] at h2
 exact ⟨x, rfl, H', _, h2.put (k:=.sat φ) (zk hn) hm hx⟩
theorem zbp (L:Tabs P) {fn:Func} {B0:Heap} (gs:Nat) {r r':GR} {rs:List ResultVar} {φ:Value → Heap → Prop} (hrs:fn.results = rs.toArray)
  (hQ:∀ a u, bodyPostM Fence.wide 0 P fn (zfs F.w0 B0 F.L fun x H u => φ x H ∧ ∃ C', r'.P H u C' ∧ ∀ k, C' k → (F.L k ∨ F.w0.heap.size ≤ k) ∧ k < u.heap.size ∧ H k = none) .ret a u → Q .ret a u) (hs:Since F B0 B) (hk:κ gs = some (.own r.res)) (e:r = r')
  (h:∀ H, B.Le H → zpj L F B O κ H rs [] (fun vs => φ (tup vs) H)) (hd:F.ds = []:=by rfl):V P F B n O κ .ret Q:=fun a u hh => by
 obtain ⟨H, fp, hH⟩:=hh
 refine wpIn_ret (hQ a u ?_)
 have h0:=hH.defers
 rw [hd] at h0
 show LeavesInM _ _ _ _ _ _ a.defers _ _
 rw [h0]
 subst e
 obtain ⟨vs, h1, h2⟩:=zb7 L hH hrs (h H hH.base)
 obtain ⟨C', h3, h4⟩:=HasH.ghost hk hH
 exact ⟨_, h1, _, rfl, H, ⟨hH.keep, hH.sub, hs.le.trans hH.base, fun k hk hl => (hH.fresh k hk hl).trans (hs.fresh k hk hl)⟩, h2, C', h3, h4⟩
end
end Go.V
set_option maxRecDepth 20000
namespace Go.V
open Go.RowKit
section
variable {V:Type}
def zs8 (k:Int) (l:List (Int × V)):List (Int × V):=match zdy k l 0 with
 | some (j, _) => l.eraseIdx j
 | none => l
end
structure Brn (es:List MapEntry) (ck:Nat):Prop where
 lt:∀ e ∈ es, e.born < ck
 nd:(es.map (·.born)).Nodup
theorem zw8:Brn [] 0:=⟨fun _ h => (by cases h), List.nodup_nil⟩
theorem Brn.push {es:List MapEntry} {ck:Nat} (h:Brn es ck) (e:MapEntry) (he:e.born = ck):Brn (es ++ [e]) (ck + 1):=⟨fun x hx => by
 rcases List.mem_append.1 hx with hx | hx
 ·exact Nat.lt_succ_of_lt (h.lt x hx)
 ·rw [List.mem_singleton.1 hx, he]; exact Nat.lt_succ_self _, by
 rw [List.map_append, List.nodup_append]
 refine ⟨h.nd, List.pairwise_singleton _ _, fun a ha b hb => ?_⟩
 obtain ⟨x, hx, rfl⟩:=List.mem_map.1 ha
 have:=h.lt x hx
 simp only [List.map_cons, List.map_nil, List.mem_singleton] at hb
 omega⟩
theorem Brn.modify {es:List MapEntry} {ck:Nat} (h:Brn es ck) (j:Nat) (f:MapEntry → MapEntry) (hf:∀ e, (f e).born = e.born):Brn (es.modify j f) ck:=by
 have e1:(es.modify j f).map (·.born) = es.map (·.born):=by
  apply List.ext_getElem?
  intro i
  rw [List.getElem?_map, List.getElem?_map, List.getElem?_modify]
  cases es[i]? with
  | none => rfl
  | some e =>
   simp only [Option.map_some]
   split <;> simp [hf]
 refine ⟨fun e he => ?_, by rw [e1]; exact h.nd⟩
 have h2:e.born ∈ es.map (·.born):=by rw [← e1]; exact List.mem_map_of_mem he
 obtain ⟨x, hx, hb⟩:=List.mem_map.1 h2
 rw [← hb]; exact h.lt x hx
theorem Brn.sub {es es':List MapEntry} {ck:Nat} (h:Brn es ck) (hs:es'.Sublist es):Brn es' ck:=⟨fun e he => h.lt e (hs.subset he), h.nd.sublist (hs.map _)⟩
section
variable {P:Program} {V:Type} {kd:IntKind} {vc:V → Value} {l:List (Int × V)} {t kt et:TypeId}
theorem zoc (ht:P.underlying t = some (.map kt et)) (hk:P.underlying kt = some (.int kd)) {b:Nat} {es:Array MapEntry} {ck:Nat} {u:World} (hb:u.heap[b]? = some (.map es ck)) (he:MiE kd vc l es.toList) (k:Int) {z:Value}
  (hz:(zeroValue et).run P u = .ok z u):(Instr.lookup t (.map (some b)) (.int kd k) true).run P u = .ok (.tuple #[(zdi k l).elim z vc, .bool (zdi k l).isSome]) u:=by
 unfold Instr.lookup
 have hf:=zeq hk k u l es.toList he
 simp only [Sem.run_bind, run_underlying ht, Result.andThen_ok, MapKept.run_getObj_map hb, Sem.run_pure, zcv hk k, hf]
 unfold zdi
 cases zdy k l 0 with
 | none => simp [hz]
 | some p => simp
theorem zgs (ht:P.underlying t = some (.map kt et)) (hk:P.underlying kt = some (.int kd)) {b:Nat} {es:Array MapEntry} {ck:Nat} {u:World} (hb:u.heap[b]? = some (.map es ck)) (he:MiE kd vc l es.toList) (hn:Brn es.toList ck) (k:Int) (v:V) :
  ∃ es' ck', (Instr.mapUpdate t (.map (some b)) (.int kd k) (vc v)).run P u = .ok () (u.putObj b (.map es' ck')) ∧ MiE kd vc (zp7 k v l) es'.toList ∧ Brn es'.toList ck':=by
 have hf:=zeq hk k u l es.toList he
 cases hm:zdy k l 0 with
 | none =>
  refine ⟨es.push { key:=.int kd k, val:=vc v, born:=ck }, ck + 1, ?_, ?_, by simpa using hn.push _ rfl⟩
  ·unfold Instr.mapUpdate
   rw [hm] at hf
   simp only [Sem.run_bind, run_underlying ht, Result.andThen_ok, MapKept.run_getObj_map hb, Sem.run_pure, zcv hk k, hf, Option.map_none]
   simp [setObj, Sem.run, hb, World.putObj, Result.andThen]
  ·rw [zhf hm]
   unfold MiE at he ⊢
   simp [he]
 | some q =>
  obtain ⟨j, x⟩:=q
  refine ⟨es.modify j fun e => { e with key:=.int kd k, val:=vc v }, ck, ?_, ?_, by rw [Array.toList_modify]; exact hn.modify j _ fun _ => rfl⟩
  ·obtain ⟨n, hn2, hx⟩:=zkr hm
   have hn':j = n:=by omega
   subst hn'
   have hkey:((es[j]?).map (·.key)).getD (.int kd k) = .int kd k:=by
    have h2:=congrArg (·[j]?) he
    simp only [List.getElem?_map, hx, Option.map_some] at h2
    rw [← Array.getElem?_toList]
    cases hz:es.toList[j]? with
    | none => rfl
    | some e =>
     rw [hz] at h2
     simp at h2
     simpa using h2.1
   unfold Instr.mapUpdate
   rw [hm] at hf
   simp only [Sem.run_bind, run_underlying ht, Result.andThen_ok, MapKept.run_getObj_map hb, Sem.run_pure, zcv hk k, hf, Option.map_some, hkey]
   unfold Instr.keyThatStays
   rw [if_pos (by simp [Instr.sameBits])]
   simp [setObj, Sem.run, hb, World.putObj, Result.andThen]
  ·have:=zou k v l es.toList 0 j x he hm
   simpa using this
theorem map_erase {α β:Type} (f:α → β):∀ (l:List α) (j:Nat), (l.eraseIdx j).map f = (l.map f).eraseIdx j
 | [], _ => rfl
 | _ :: _, 0 => rfl
 | x :: l, j + 1 => by simp [map_erase f l j]
theorem zot {es:List MapEntry} (h:MiE kd vc l es) (j:Nat):MiE kd vc (l.eraseIdx j) (es.eraseIdx j):=by
 unfold MiE at *
 rw [map_erase, map_erase, h]
theorem zpw (ht:P.underlying t = some (.map kt et)) (hk:P.underlying kt = some (.int kd)) {b:Nat} {es:Array MapEntry} {ck:Nat} {u:World} (hb:u.heap[b]? = some (.map es ck)) (he:MiE kd vc l es.toList) (hn:Brn es.toList ck) (k:Int) (ty:TypeId) {ts:Array TypeId} (hts:ts[0]? = some t) :
  ∃ es', (Builtin.delete_ ts ty #[.map (some b), .int kd k]).run P u = .ok (.tuple #[]) (u.putObj b (.map es' ck)) ∧ MiE kd vc (zs8 k l) es'.toList ∧ Brn es'.toList ck:=by
 have hf:=zeq hk k u l es.toList he
 unfold zs8
 cases hm:zdy k l 0 with
 | none =>
  refine ⟨es, ?_, he, hn⟩
  rw [hm] at hf
  simp only [Builtin.delete_, hts, List.getElem?_toArray, List.getElem?_cons_zero, List.getElem?_cons_succ, Sem.run_bind, run_underlying ht, Result.andThen_ok, MapKept.run_getObj_map hb, zcv hk k, hf, Option.map_none]
  simp [setObj, Sem.run, hb, World.putObj, Result.andThen]
 | some q =>
  obtain ⟨j, x⟩:=q
  refine ⟨es.eraseIdxIfInBounds j, ?_, by simpa using zot he j, by simpa using hn.sub (List.eraseIdx_sublist ..)⟩
  rw [hm] at hf
  simp only [Builtin.delete_, hts, List.getElem?_toArray, List.getElem?_cons_zero, List.getElem?_cons_succ, Sem.run_bind, run_underlying ht, Result.andThen_ok, MapKept.run_getObj_map hb, zcv hk k, hf, Option.map_some]
  simp [setObj, Sem.run, hb, World.putObj, Result.andThen]
theorem zob {u:World} {m i:Nat} {es:Array MapEntry} {ck since last:Nat} {seen:Array Nat} {ty:TypeId} (hm:u.heap[m]? = some (.map es ck)) (hi:u.heap[i]? = some (.mapIter (some m) since seen last)) (hold:∀ x ∈ es.toList, x.born < since) (hsc:since ≤ last) :
  ((leftOf es seen).size = 0 ∧ (Instr.next (.pointer (some ⟨i, 0, none⟩)) false ty).run P u = .ok (.tuple #[.bool false]) u) ∨
  ∃ (j:Nat) (e:MapEntry), (leftOf es seen)[j]? = some e ∧ ∃ u1:World, (u1 = u ∨ u1 = u.drew) ∧ (Instr.next (.pointer (some ⟨i, 0, none⟩)) false ty).run P u = .ok (.tuple #[.bool true, e.key, e.val]) (u1.putObj i (.mapIter (some m) since (seen.push e.born) ck)):=by
 simp only [Instr.next, getObj, Sem.run_bind, Sem.run, hi, hm, Result.andThen, next_test_false seen es since last hold hsc, Bool.false_eq_true, if_false]
 unfold leftOf
 have hmem:∀ x ∈ (Array.filter (fun e => !seen.contains e.born) es).toList, x.born < since:=fun x hx => hold x (by simp at hx ⊢; exact hx.1)
 generalize Array.filter (fun e => !seen.contains e.born) es = L at hmem ⊢
 have e1:L.filter (fun x => decide (x.born < since)) = L:=Array.filter_eq_self.2 (fun x hx => by simpa using hmem x (by simpa using hx))
 have e2:L.filter (fun x => decide (x.born ≥ since)) = #[]:=by
  rw [Array.filter_eq_empty_iff]
  intro x hx
  have:=hmem x (by simpa using hx)
  simp
  omega
 simp only [e1, e2, Array.append_empty]
 by_cases h0:L.size = 0
 ·left
  have:L = #[]:=Array.eq_empty_of_size_eq_zero h0
  subst this
  refine ⟨rfl, ?_⟩
  simp [choose, Sem.run, Question.forced]
 ·right
  have hne:L.isEmpty = false:=by simp [Array.isEmpty, h0]
  simp only [hne, Bool.false_eq_true, if_false, Array.empty_append, Array.size_map]
  have hch:∃ (j:Nat) (w1:World), j < L.size ∧ (w1 = u ∨ w1 = u.drew) ∧ (choose (Question.mapNext L.size)).run P u = .ok j w1:=by
   by_cases hf:L.size ≤ 1
   ·exact ⟨0, u, by omega, .inl rfl, by simp [choose, Sem.run, Question.forced, hf]⟩
   ·exact ⟨_, u.drew, Nat.mod_lt _ (by omega), .inr rfl, by
     simp only [choose, Sem.run, Question.forced, decide_eq_true_eq, hf, if_false, Question.cut]
     rfl⟩
  obtain ⟨j, w1, hj, hal, hrun⟩:=hch
  refine ⟨j, L[j], by simp [hj], w1, hal, ?_⟩
  have hi1:w1.heap[i]? = some (.mapIter (some m) since seen last):=by rcases hal with rfl | rfl <;> exact hi
  simp only [hrun, Array.getElem?_map, Array.getElem?_eq_getElem hj, Option.map_some, Sem.run_bind, Result.andThen]
  simp [setObj, Sem.run, hi1, World.putObj]
end
def z5z {V:Type} (b:Nat) (kd:IntKind) (vc:V → Value) (l:List (Int × V)):GR where
 P _ u C:=(∃ es ck, u.heap[b]? = some (.map es ck) ∧ MiE kd vc l es.toList ∧ Brn es.toList ck) ∧ ∀ k, C k ↔ k = b
 st:=fun ⟨⟨es, ck, hb, he⟩, hC⟩ _ _ _ hk => ⟨⟨es, ck, (hk b ((hC b).2 rfl)).trans hb, he⟩, hC⟩
abbrev zla {V:Type} (b:Nat) (kd:IntKind) (vc:V → Value) (l:List (Int × V)):Res:=(z5z b kd vc l).res
def zty {V:Type} (kd:IntKind) (vc:V → Value) (l:List (Int × V)):Res where
 P x _ u C:=∃ b, x = .map (some b) ∧ (∃ es ck, u.heap[b]? = some (.map es ck) ∧ MiE kd vc l es.toList ∧ Brn es.toList ck) ∧ ∀ k, C k ↔ k = b
 st:=fun ⟨b, hx, ⟨es, ck, hb, he⟩, hC⟩ _ _ _ hk => ⟨b, hx, ⟨es, ck, (hk b ((hC b).2 rfl)).trans hb, he⟩, hC⟩
def zz0 {V:Type} (m:Nat) (kd:IntKind) (vc:V → Value) (l left:List (Int × V)):Res where
 P x _ u C:=∃ i es ck since seen last, x = .pointer (some ⟨i, 0, none⟩) ∧ i ≠ m ∧ u.heap[m]? = some (.map es ck) ∧ MiE kd vc l es.toList ∧ Brn es.toList ck ∧ u.heap[i]? = some (.mapIter (some m) since seen last) ∧
  (∀ e ∈ es.toList, e.born < since) ∧ since ≤ last ∧ since ≤ ck ∧ MiE kd vc left (leftOf es seen).toList ∧ ∀ k, C k ↔ k = m ∨ k = i
 st:=fun ⟨i, es, ck, since, seen, last, h1, h2, h3, h4, h5, h6, h7, h8, h9, h10, hC⟩ _ _ _ hk => ⟨i, es, ck, since, seen, last, h1, h2, (hk m ((hC m).2 (.inl rfl))).trans h3, h4, h5, (hk i ((hC i).2 (.inr rfl))).trans h6, h7, h8, h9, h10, hC⟩
section
variable {P:Program} {F:Fr} {B:Heap} {O:Boxes} {n:Nat} {ops:Array Oper} {κ:Kap} {d:Nat} {ty:TypeId} {pos:String} {aft:Array Edge} {g:Option (Nat × Bool)} {a:Act} {u:World} {H:Heap} {os:List Oper} {Q:Exit → Act → World → Prop}
variable {Y:Type} {kd:IntKind} {vc:Y → Value} {l left:List (Int × Y)}
theorem Has.holdMb {t q:Nat} (hk:κ t = some (.own (zty kd vc l))) (h:Has F B O n κ a u):∃ b, Has F B O n (upd (upd (upd κ t zec) q (.own (zla b kd vc l))) t (.is (.map (some b)))) a u:=by
 obtain ⟨H, fp, h⟩:=h
 obtain ⟨⟨b, hv, hb, hC⟩, hM⟩:=h.slot t _ hk
 have h2:=h.usePut (d:=q) (a':=a) (r':=zla b kd vc l) (C:=fp t) hk ⟨Keep.refl _ _, h.sub, Heap.Le.refl _, fun _ _ _ => rfl⟩ rfl rfl (fun _ _ => rfl) ⟨hb, hC⟩ fun k hk => ⟨.inl hk, (hM k hk).1, (hM k hk).2.1⟩
 have h3:=h2.name t
 rw [hv] at h3
 exact ⟨b, H, _, h3⟩
theorem z5w (t q:Nat) {c:Code} (hk:κ t = some (.own (zty kd vc l))) (h:∀ b, V P F B n O (upd (upd (upd κ t zec) q (.own (zla b kd vc l))) t (.is (.map (some b)))) c Q):V P F B n O κ c Q:=fun a u hh => let ⟨b, h'⟩:=hh.holdMb (q:=q) hk; h b a u h'
theorem zt4 (t q:Nat) (hk:κ t = some (.own (zty kd vc l))) (h:∀ b, VO P F B n O ops (upd (upd (upd κ t zec) q (.own (zla b kd vc l))) t (.is (.map (some b)))) os Q):VO P F B n O ops κ os Q:=fun a u hh => let ⟨b, h'⟩:=hh.holdMb (q:=q) hk; h b a u h'
theorem zp2 (kd:IntKind) (vc:Y → Value) {t:TypeId} {hint:Option Operand} (hn:Nat.blt d n = true) (hg:gK ops κ ⟨some d, .makeMap t none, ty, pos, aft, g⟩ = some true) :
  StepOK P F B n ops O κ ⟨some d, .makeMap t none, ty, pos, aft, g⟩ d (.own (zty kd vc [])):=by
 rintro κ' a u hl ⟨H, fp, hh⟩
 have hn:d < n:=by simpa using hn
 unfold After
 rw [if_pos (zag hh hl hg)]
 have hrun:(execOp a.eval ⟨some d, .makeMap t none, ty, pos, aft, g⟩).run P u = .ok (.value (.map (some u.heap.size))) (u.alloc (.map #[] 0)):=by
  simp [execOp, Instr.makeMap]
 rw [hrun]
 simp only [Upon]
 have hg2:=hh.grow (Grow.hid hh.sub (.map #[] 0))
 refine ⟨H, _, hg2.putR (C:=fun k => k = u.heap.size) (by simp [Act.put]) rfl (fun t ht => zap ht) ⟨u.heap.size, zar (by rw [hh.size]; exact hn), ⟨_, _, zao _ _, rfl, zw8⟩, fun _ => Iff.rfl⟩ (fun k hk => ?_) fun t r' _ ht k hf hk => ?_⟩
 ·subst hk
  exact ⟨zai (zao u _), zbd hh.sub (Nat.le_refl _), .inl hh.keep.size, fun y hy e => by have:=zai (hh.boxes y hy).1; omega⟩
 ·have:=((hh.slot t _ ht).2 k hf).1
  omega
theorem zc6 {x y:Operand} {q b:Nat} {t kt et:TypeId} (k:Int) {r z:Value} {f:Bool} (ht:P.underlying t = some (.map kt et)) (hkt:P.underlying kt = some (.int kd)) (hz:∀ w, (zeroValue et).run P w = .ok z w)
  (hx:evK κ x = some (.map (some b))) (hq:κ q = some (.own (zla b kd vc l))) (hy:evK κ y = some (.int kd k)) (hn:Nat.blt d n = true) (hg:gK ops κ ⟨some d, .lookup t x y true, ty, pos, aft, g⟩ = some true)
  (hr:(zdi k l).elim z vc = r) (hf:(zdi k l).isSome = f) :
  zdr P F B n ops O κ ⟨some d, .lookup t x y true, ty, pos, aft, g⟩ q d (.is (.tuple #[r, .bool f])):=by
 rintro κ' a u hlk hqk ⟨H, fp, hh⟩
 subst hr hf
 unfold After
 rw [if_pos (zag hh hlk hg)]
 have e:=hh.env hlk
 have h1:=e.is_ x _ (by simp [Op.operands]) hx
 have h2:=e.is_ y _ (by simp [Op.operands]) hy
 obtain ⟨⟨⟨es, ck, hb, he, _⟩, hC⟩, hM⟩:=hh.slot q _ (hqk.trans hq)
 have hrun:(execOp a.eval ⟨some d, .lookup t x y true, ty, pos, aft, g⟩).run P u = .ok (.value (.tuple #[(zdi k l).elim z vc, .bool (zdi k l).isSome])) u:=by
  simp only [execOp, h1, h2, Sem.run_bind, zoc ht hkt hb he k (hz u), Result.andThen_ok]
  rfl
 rw [hrun]
 simp only [Upon]
 exact ⟨H, fp, hh.put (k:=.is _) (zk hn) trivial rfl⟩
theorem HasH.turnMap {q b:Nat} {fp:Nat → Nat → Prop} {es:Array MapEntry} {ck:Nat} {l':List (Int × Y)} (hh:HasH F B O n κ a u H fp) (hq:κ q = some (.own (zla b kd vc l))) (he:MiE kd vc l' es.toList) (hb:Brn es.toList ck) :
  HasH F B O n (upd κ q (.own (zla b kd vc l'))) a (u.putObj b (.map es ck)) H (fpu fp q fun k => k = b):=by
 obtain ⟨⟨_, hC⟩, hM⟩:=hh.slot q _ hq
 have hbm:=hM b ((hC b).2 rfl)
 have:=hh.usePut (d:=q) (a':=a) (r':=zla b kd vc l') (C:=fun k => k = b) hq (zkw hh.sub ((hC b).2 rfl) hbm.2.1) rfl rfl (fun _ _ => rfl) ⟨⟨es, ck, World.putObj_heap_same hbm.1, he, hb⟩, fun _ => Iff.rfl⟩ (fun k hk => by
  subst hk; exact ⟨.inl ((hC k).2 rfl), by rw [World.putObj_size]; exact hbm.1, hbm.2.1⟩)
 rw [zbf] at this
 exact this
theorem zlz {x y z:Operand} {q b:Nat} {t kt et:TypeId} (k:Int) (v:Y) {zv:Value} {l':List (Int × Y)} (ht:P.underlying t = some (.map kt et)) (hkt:P.underlying kt = some (.int kd))
  (hx:evK κ x = some (.map (some b))) (hq:κ q = some (.own (zla b kd vc l))) (hy:evK κ y = some (.int kd k)) (hz:evK κ z = some zv) (hzv:vc v = zv) (hg:gK ops κ ⟨none, .mapUpdate t x y z, ty, pos, aft, g⟩ = some true)
  (hl':zp7 k v l = l') :
  zgg P F B n ops O κ ⟨none, .mapUpdate t x y z, ty, pos, aft, g⟩ q (.own (zla b kd vc l')):=by
 rintro κ' a u hlk hqk ⟨H, fp, hh⟩
 subst hl' hzv
 unfold After
 rw [if_pos (zag hh hlk hg)]
 have e:=hh.env hlk
 have h1:=e.is_ x _ (by simp [Op.operands]) hx
 have h2:=e.is_ y _ (by simp [Op.operands]) hy
 have h3:=e.is_ z _ (by simp [Op.operands]) hz
 have hqs:=hqk.trans hq
 obtain ⟨⟨⟨es, ck, hb, he, hbn⟩, hC⟩, hM⟩:=hh.slot q _ hqs
 obtain ⟨es', ck', hr, he', hb'⟩:=zgs ht hkt hb he hbn k v
 have hrun:(execOp a.eval ⟨none, .mapUpdate t x y z, ty, pos, aft, g⟩).run P u = .ok .skip (u.putObj b (.map es' ck')):=by
  simp only [execOp, h1, h2, h3, Sem.run_bind, hr, Result.andThen_ok]
  rfl
 rw [hrun]
 simp only [Upon, Act.put]
 exact ⟨H, _, hh.turnMap hqs he' hb'⟩
theorem zs2 {x y:Operand} {q b:Nat} {t kt et t2:TypeId} (k:Int) {l':List (Int × Y)} (ht:P.underlying t = some (.map kt et)) (hkt:P.underlying kt = some (.int kd))
  (hx:evK κ x = some (.map (some b))) (hq:κ q = some (.own (zla b kd vc l))) (hy:evK κ y = some (.int kd k)) (hg:gK ops κ ⟨none, .call ⟨.builtin .delete, #[x, y], #[t, t2]⟩, ty, pos, aft, g⟩ = some true)
  (hl':zs8 k l = l') :
  zgg P F B n ops O κ ⟨none, .call ⟨.builtin .delete, #[x, y], #[t, t2]⟩, ty, pos, aft, g⟩ q (.own (zla b kd vc l')):=by
 rintro κ' a u hlk hqk ⟨H, fp, hh⟩
 subst hl'
 unfold After
 rw [if_pos (zag hh hlk hg)]
 have e:=hh.env hlk
 have h1:=e.is_ x _ (by simp [Op.operands, Call.operands]) hx
 have h2:=e.is_ y _ (by simp [Op.operands, Call.operands]) hy
 have hqs:=hqk.trans hq
 obtain ⟨⟨⟨es, ck, hb, he, hbn⟩, hC⟩, hM⟩:=hh.slot q _ hqs
 obtain ⟨es', hr, he', hb'⟩:=zpw ht hkt hb he hbn k ty (ts:=#[t, t2]) rfl
 have hrun:(execOp a.eval ⟨none, .call ⟨.builtin .delete, #[x, y], #[t, t2]⟩, ty, pos, aft, g⟩).run P u = .ok (.value (.tuple #[])) (u.putObj b (.map es' ck)):=by
  simp [execOp, resolve, h1, h2, invoke, builtin, hr]
 rw [hrun]
 simp only [Upon, Act.put]
 exact ⟨H, _, hh.turnMap hqs he' hb'⟩
theorem zp3 {x:Operand} {q b:Nat} {t kt et:TypeId} {m:Nat} (ht:P.underlying t = some (.map kt et)) (hx:evK κ x = some (.map (some b))) (hq:κ q = some (.own (zla b kd vc l))) (hn:Nat.blt d n = true)
  (hg:gK ops κ ⟨some d, .call ⟨.builtin .len, #[x], #[t]⟩, ty, pos, aft, g⟩ = some true) (hm:l.length = m) :
  zdr P F B n ops O κ ⟨some d, .call ⟨.builtin .len, #[x], #[t]⟩, ty, pos, aft, g⟩ q d (.is (.int .i64 m)):=by
 rintro κ' a u hlk hqk ⟨H, fp, hh⟩
 subst hm
 unfold After
 rw [if_pos (zag hh hlk hg)]
 have e:=hh.env hlk
 have h1:=e.is_ x _ (by simp [Op.operands, Call.operands]) hx
 obtain ⟨⟨⟨es, ck, hb, he, _⟩, hC⟩, hM⟩:=hh.slot q _ (hqk.trans hq)
 have hsz:es.size = l.length:=by have:=congrArg List.length he; simpa using this
 have hrun:(execOp a.eval ⟨some d, .call ⟨.builtin .len, #[x], #[t]⟩, ty, pos, aft, g⟩).run P u = .ok (.value (.int .i64 l.length)) u:=by
  simp [execOp, resolve, h1, invoke, builtin, Builtin.len_, run_underlying ht, MapKept.run_getObj_map hb, goInt, hsz]
 rw [hrun]
 simp only [Upon]
 exact ⟨H, fp, hh.put (k:=.is _) (zk hn) trivial rfl⟩
theorem zvi {x:Operand} {q b:Nat} {t kt et:TypeId} (ht:P.underlying t = some (.map kt et)) (hx:evK κ x = some (.map (some b))) (hq:κ q = some (.own (zla b kd vc l))) (hn:Nat.blt d n = true)
  (hg:gK ops κ ⟨some d, .range t x, ty, pos, aft, g⟩ = some true) :
  StepOK2 P F B n ops O κ ⟨some d, .range t x, ty, pos, aft, g⟩ q zec d (.own (zz0 b kd vc l l)):=by
 rintro κ' a u hlk hqk ⟨H, fp, hh⟩
 have hn:d < n:=by simpa using hn
 unfold After
 rw [if_pos (zag hh hlk hg)]
 have e:=hh.env hlk
 have h1:=e.is_ x _ (by simp [Op.operands]) hx
 have hqs:=hqk.trans hq
 obtain ⟨⟨⟨es, ck, hb, he, hbn⟩, hC⟩, hM⟩:=hh.slot q _ hqs
 have hrun:(execOp a.eval ⟨some d, .range t x, ty, pos, aft, g⟩).run P u = .ok (.value (.pointer (some ⟨u.heap.size, 0, none⟩))) (u.alloc (.mapIter (some b) ck #[] ck)):=by
  simp only [execOp, h1, Sem.run_bind, run_range_map u t kt et b es ck ht hb, Result.andThen_ok]
  rfl
 rw [hrun]
 simp only [Upon]
 have hbm:=hM b ((hC b).2 rfl)
 have hg2:Grow (fp q) u H (u.alloc (.mapIter (some b) ck #[] ck)) H:=⟨(Grow.hid hh.sub (.mapIter (some b) ck #[] ck)).keep.weak (fun k _ h => h.elim), (Grow.hid hh.sub _).sub, Heap.Le.refl _, fun _ _ _ => rfl⟩
 have hlo:leftOf es #[] = es:=by unfold leftOf; simp
 have:=hh.usePut (d:=d) (a':=a.put (some d) (.pointer (some ⟨u.heap.size, 0, none⟩))) (r':=zz0 b kd vc l l) (C:=fun k => k = b ∨ k = u.heap.size) hqs hg2 (by simp [Act.put]) rfl (fun t ht => zap ht)
  ⟨u.heap.size, es, ck, ck, #[], ck, zar (by rw [hh.size]; exact hn), by omega, by rw [heap_alloc_old u _ hbm.1]; exact hb, he, hbn, heap_alloc_new u _, hbn.lt, Nat.le_refl _, Nat.le_refl _, by rw [hlo]; exact he, fun _ => Iff.rfl⟩
  (fun k hk => by
   have hsz:(u.alloc (.mapIter (some b) ck #[] ck)).heap.size = u.heap.size + 1:=by show (u.heap.push _).size = _; simp
   rcases hk with rfl | rfl
   ·exact ⟨.inl ((hC _).2 rfl), by omega, hbm.2.1⟩
   ·exact ⟨.inr (Nat.le_refl _), by omega, zbd hh.sub (Nat.le_refl _)⟩)
 exact ⟨H, _, this⟩
theorem zvj {q m:Nat} {w:Bool} (hw:w = false) (hq:κ q = some (.own (zz0 m kd vc l left))) (hl:left = []) (hn:Nat.blt d n = true) (hg:gK ops κ ⟨some d, .next (.tmp q) w, ty, pos, aft, g⟩ = some true) :
  StepOK P F B n ops O κ ⟨some d, .next (.tmp q) w, ty, pos, aft, g⟩ d (.is (.tuple #[.bool false])) :=
 zaw rfl (zk hn) hg trivial fun a u H fp e => by
  subst hw hl
  obtain ⟨⟨i, es, ck, since, seen, last, h1, h2, h3, h4, h5, h6, h7, h8, h9, h10, hC⟩, hM⟩:=e.own_ q _ (by simp [Op.operands]) hq
  have hz:(leftOf es seen).size = 0:=by have:=congrArg List.length h10; simpa using this
  refine ⟨_, ?_, rfl⟩
  rcases zob (P:=P) (ty:=ty) h3 h6 h7 h8 with ⟨_, hr⟩ | ⟨j, e2, he2, _⟩
  ·simp only [execOp, h1, Sem.run_bind, hr, Result.andThen_ok]
   rfl
  ·rw [Array.getElem?_eq_none (by omega)] at he2; cases he2
theorem zta {es:Array MapEntry} {ck j:Nat} {seen:Array Nat} {e:MapEntry} (hb:Brn es.toList ck) (he:(leftOf es seen)[j]? = some e):(leftOf es (seen.push e.born)).toList = (leftOf es seen).toList.eraseIdx j:=by
 have e1:(leftOf es (seen.push e.born)).toList = (leftOf es seen).toList.filter fun x => !(x.born == e.born):=by
  unfold leftOf
  rw [Array.toList_filter, Array.toList_filter, List.filter_filter]
  apply List.filter_congr
  intro x _
  rw [contains_push]
  cases seen.contains x.born <;> cases (x.born == e.born) <;> rfl
 have hnd:((leftOf es seen).toList.map (·.born)).Nodup:=by
  unfold leftOf
  rw [Array.toList_filter]
  exact hb.nd.sublist (List.filter_sublist.map _)
 rw [← Array.getElem?_toList] at he
 rw [e1]
 generalize (leftOf es seen).toList = L at hnd he
 clear e1
 induction L generalizing j with
 | nil => cases he
 | cons x L ih =>
  rw [List.map_cons, List.nodup_cons] at hnd
  cases j with
  | zero =>
   cases he
   have h0:L.filter (fun x => !(x.born == e.born)) = L:=List.filter_eq_self.2 fun y hy => by
    have:y.born ≠ e.born:=fun h => hnd.1 (h ▸ List.mem_map_of_mem hy)
    simpa using this
   simp [h0]
  | succ j =>
   have he':L[j]? = some e:=by simpa using he
   have hne:x.born ≠ e.born:=fun h => hnd.1 (h ▸ List.mem_map_of_mem (List.mem_of_getElem? he'))
   have:(!(x.born == e.born)) = true:=by simpa using hne
   rw [List.filter_cons_of_pos (by simpa using hne), ih hnd.2 he']
   rfl
theorem z4i {es:List MapEntry} {j:Nat} {e:MapEntry} (h:MiE kd vc left es) (he:es[j]? = some e):∃ p, left[j]? = some p ∧ e.key = .int kd p.1 ∧ e.val = vc p.2:=by
 have h2:=congrArg (·[j]?) h
 simp only [List.getElem?_map, he, Option.map_some] at h2
 cases hp:left[j]? with
 | none => rw [hp] at h2; cases h2
 | some p =>
  rw [hp] at h2
  simp at h2
  exact ⟨p, rfl, h2.1, h2.2⟩
theorem Has.endM {t q m:Nat} (hne:t ≠ q) (hk:κ t = some (.own (zz0 m kd vc l left))) (h:Has F B O n κ a u):Has F B O n (upd (upd κ t zec) q (.own (zla m kd vc l))) a u:=by
 obtain ⟨H, fp, hh⟩:=h
 obtain ⟨⟨i, es, ck, since, seen, last, h1, h2, h3, h4, h5, h6, h7, h8, h9, h10, hC⟩, hM⟩:=hh.slot t _ hk
 have:=hh.usePut (d:=q) (a':=a) (r':=zla m kd vc l) (C:=fun k => k = m) hk ⟨Keep.refl _ _, hh.sub, Heap.Le.refl _, fun _ _ _ => rfl⟩ rfl rfl (fun _ _ => rfl) ⟨⟨es, ck, h3, h4, h5⟩, fun _ => Iff.rfl⟩
  (fun k hk' => by subst hk'; have:=(hC k).2 (.inl rfl); exact ⟨.inl this, (hM k this).1, (hM k this).2.1⟩)
 exact ⟨H, _, this⟩
theorem z5j (t q:Nat) {m:Nat} {c:Code} (hk:κ t = some (.own (zz0 m kd vc l left))) (h:V P F B n O (upd (upd κ t zec) q (.own (zla m kd vc l))) c Q) (hne:t ≠ q:=by decide):V P F B n O κ c Q:=fun a u hh => h a u (hh.endM hne hk)
end
end Go.V
set_option maxRecDepth 20000
namespace Go.V.L10
open Go.Proofs Go.RowKit Go.V Go.V.L2 Go.V.L8
def kpt (R:List (Option (List U))) (r:Int):Option (List U):=if 0 < r then (R[(r - 1).toNat]?).join else none
def zas (R:List (Option (List U))):List Int:=((List.range R.length).filter fun i => ((R[i]?).join).isSome).map fun i => ((i + 1:Nat):Int)
theorem zek (R:List (Option (List U))) (i:Nat):kpt R ((i + 1:Nat):Int) = (R[i]?).join:=by
 unfold kpt
 rw [if_pos (by omega), show (((i + 1:Nat):Int) - 1).toNat = i by omega]
theorem zdz {R:List (Option (List U))} {r:Int} (h:(kpt R r).isSome = true):0 < r ∧ r ≤ R.length:=by
 unfold kpt at h
 split at h
 ·rename_i h0
  refine ⟨h0, ?_⟩
  cases hr:R[(r - 1).toNat]? with
  | none => rw [hr] at h; cases h
  | some x => have:=get_lt hr; omega
 ·cases h
theorem zbc {R:List (Option (List U))} {r:Int}:r ∈ zas R ↔ (kpt R r).isSome = true:=by
 unfold zas
 rw [List.mem_map]
 constructor
 ·rintro ⟨i, hi, rfl⟩
  rw [List.mem_filter] at hi
  rw [zek]
  exact hi.2
 ·intro h
  have hb:=zdz h
  obtain ⟨i, rfl⟩:∃ i:Nat, r = ((i + 1:Nat):Int):=⟨(r - 1).toNat, by omega⟩
  rw [zek] at h
  exact ⟨i, List.mem_filter.2 ⟨List.mem_range.2 (by omega), h⟩, rfl⟩
theorem zf2 (R:List (Option (List U))):Sst cP (zas R):=by
 unfold zas Sst
 rw [List.pairwise_map]
 refine (List.Pairwise.filter _ List.pairwise_lt_range).imp ?_
 intro a b h
 exact ztu.2 (by omega)
theorem zco (R:List (Option (List U))):(zas R).length ≤ R.length:=by
 unfold zas
 rw [List.length_map]
 exact Nat.le_trans (List.length_filter_le ..) (by simp)
section
variable {Y:Type}
theorem zrg (k:Int):zdi k ([]:List (Int × Y)) = none:=rfl
theorem zej {k:Int}:∀ {l:List (Int × Y)}, (zdi k l).isSome = true ↔ k ∈ l.map Prod.fst
 | [] => by simp [zrg]
 | p :: l => by
  rw [zcn, List.map_cons, List.mem_cons]
  by_cases h:k = p.1
  ·rw [if_pos h]; simp [h]
  ·rw [if_neg h, zej]; simp [h]
theorem zfg {k:Int} {y:Y}:∀ {l:List (Int × Y)}, zdi k l = some y → (k, y) ∈ l
 | [], h => by cases h
 | p :: l, h => by
  rw [zcn] at h
  by_cases e:k = p.1
  ·rw [if_pos e] at h
   cases h
   rw [e]; exact List.mem_cons_self ..
  ·rw [if_neg e] at h
   exact List.mem_cons_of_mem _ (zfg h)
theorem zs7 (k:Int) (p:Int × Y) (l:List (Int × Y)):zdy k (p :: l) 0 = if k = p.1 then some (0, p.2) else (zdy k l 0).map fun q => (q.1 + 1, q.2):=by
 rw [← zg2]; rfl
theorem zov (k:Int) (p:Int × Y) (l:List (Int × Y)):zs8 k (p :: l) = if k = p.1 then l else p :: zs8 k l:=by
 unfold zs8
 rw [zs7]
 by_cases h:k = p.1
 ·rw [if_pos h, if_pos h]; rfl
 ·rw [if_neg h, if_neg h]
  cases zdy k l 0 with
  | none => rfl
  | some q => rfl
theorem zm4 (k:Int):∀ l:List (Int × Y), (zs8 k l).Sublist l
 | [] => List.Sublist.refl _
 | p :: l => by
  rw [zov]
  by_cases h:k = p.1
  ·rw [if_pos h]; exact List.sublist_cons_self ..
  ·rw [if_neg h]; exact (zm4 k l).cons_cons _
theorem zrh {k r:Int}:∀ {l:List (Int × Y)}, (l.map Prod.fst).Nodup → zdi r (zs8 k l) = if r = k then none else zdi r l
 | [], _ => by rw [show zs8 k ([]:List (Int × Y)) = [] from rfl, zrg]; split <;> rfl
 | p :: l, hn => by
  rw [List.map_cons, List.nodup_cons] at hn
  rw [zov]
  by_cases h:k = p.1
  ·rw [if_pos h]
   by_cases hr:r = k
   ·rw [if_pos hr]
    have:¬ (zdi r l).isSome = true:=fun hs => hn.1 (h ▸ hr ▸ zej.1 hs)
    cases hg:zdi r l with
    | none => rfl
    | some y => rw [hg] at this; exact absurd rfl this
   ·rw [if_neg hr, zcn, if_neg (fun e => hr (e.trans h.symm))]
  ·rw [if_neg h, zcn, zrh hn.2, zcn]
   by_cases hr:r = k
   ·subst hr; rw [if_neg h, if_pos rfl, if_pos rfl]
   ·rw [if_neg hr, if_neg hr]
end
structure MapOK {Y:Type} (es:List (Int × (List U × Y))) (R:List (Option (List U))):Prop where
 nd:(es.map Prod.fst).Nodup
 get:∀ r, (zdi r es).map Prod.fst = kpt R r
theorem MapOK.mem {Y:Type} {es:List (Int × (List U × Y))} {R:List (Option (List U))} (h:MapOK es R) {r:Int}:r ∈ es.map Prod.fst ↔ r ∈ zas R:=by
 rw [← zej, zbc, ← h.get r, Option.isSome_map]
theorem zya {a b:List Int} (ha:a.Nodup) (hb:b.Nodup) (h:∀ x, x ∈ a ↔ x ∈ b):a.length = b.length:=((List.perm_ext_iff_of_nodup ha hb).2 h).length_eq
theorem MapOK.len {Y:Type} {es:List (Int × (List U × Y))} {R:List (Option (List U))} (h:MapOK es R):es.length = (zas R).length:=by
 rw [← List.length_map (f:=Prod.fst)]
 exact zya h.nd ((zf2 R).nodup zcg) fun _ => h.mem
theorem zje (R:List (Option (List U))) (t:List U) (r:Int):kpt (R ++ [some t]) r = if r = ((R.length + 1:Nat):Int) then some t else kpt R r:=by
 by_cases h:r = ((R.length + 1:Nat):Int)
 ·rw [if_pos h, h, zek]; simp
 ·rw [if_neg h]
  unfold kpt
  by_cases h0:0 < r
  ·rw [if_pos h0, if_pos h0]
   rcases Nat.lt_or_ge (r - 1).toNat R.length with hlt | hge
   ·rw [List.getElem?_append_left hlt]
   ·rw [List.getElem?_eq_none (by rw [List.length_append, List.length_singleton]; omega), List.getElem?_eq_none hge]
  ·rw [if_neg h0, if_neg h0]
theorem MapOK.add {Y:Type} {es:List (Int × (List U × Y))} {R:List (Option (List U))} (h:MapOK es R) (t:List U) (y:Y):MapOK (zp7 ((R.length + 1:Nat):Int) (t, y) es) (R ++ [some t]) ∧ zp7 ((R.length + 1:Nat):Int) (t, y) es = es ++ [(((R.length + 1:Nat):Int), (t, y))]:=by
 have hn:((R.length + 1:Nat):Int) ∉ es.map Prod.fst:=fun hm => by
  have:=zdz (zbc.1 (h.mem.1 hm)); omega
 have hf:zdy ((R.length + 1:Nat):Int) es 0 = none:=by
  have h1:¬ (zdi ((R.length + 1:Nat):Int) es).isSome = true:=fun hs => hn (zej.1 hs)
  unfold zdi at h1
  cases hm:zdy ((R.length + 1:Nat):Int) es 0 with
  | none => rfl
  | some q => rw [hm] at h1; exact absurd rfl h1
 have he:zp7 ((R.length + 1:Nat):Int) (t, y) es = es ++ [(((R.length + 1:Nat):Int), (t, y))]:=zhf hf
 refine ⟨⟨?_, fun r => ?_⟩, he⟩
 ·rw [he, List.map_append, List.nodup_append]
  refine ⟨h.nd, List.pairwise_singleton _ _, fun a ha b hb => ?_⟩
  simp only [List.map_cons, List.map_nil, List.mem_singleton] at hb
  subst hb
  exact fun e => hn (e ▸ ha)
 ·rw [zrf, zje]
  by_cases e:r = ((R.length + 1:Nat):Int)
  ·rw [if_pos e, if_pos e]; rfl
  ·rw [if_neg e, if_neg e, h.get]
def clr (R:List (Option (List U))) (g:Int):List (Option (List U)):=R.set (g - 1).toNat none
theorem zwe {R:List (Option (List U))} {g r:Int} (hg:0 < g):kpt (clr R g) r = if r = g then none else kpt R r:=by
 unfold kpt clr
 by_cases h0:0 < r
 ·rw [if_pos h0, if_pos h0, List.getElem?_set]
  by_cases e:r = g
  ·subst e
   rw [if_pos rfl, if_pos rfl]
   split <;> rfl
  ·rw [if_neg (by omega), if_neg e]
 ·rw [if_neg h0, if_neg h0, if_neg (by omega)]
theorem MapOK.del {Y:Type} {es:List (Int × (List U × Y))} {R:List (Option (List U))} (h:MapOK es R) {g:Int} (hg:0 < g):MapOK (zs8 g es) (clr R g):=⟨h.nd.sublist ((zm4 g es).map _), fun r => by
 rw [zrh h.nd, zwe hg]
 by_cases e:r = g
 ·rw [if_pos e, if_pos e]; rfl
 ·rw [if_neg e, if_neg e, h.get]⟩
def clrL (R:List (Option (List U))) (l:List Int):List (Option (List U)):=l.foldl clr R
theorem zem (l:List Int):∀ R:List (Option (List U)), (clrL R l).length = R.length:=by
 induction l with
 | nil => intro R; rfl
 | cons g l ih =>
  intro R
  have:=ih (clr R g)
  unfold clrL at this ⊢
  rw [List.foldl_cons, this]
  unfold clr
  rw [List.length_set]
theorem zjf {r:Int}:∀ {l:List Int} {R:List (Option (List U))}, (∀ g ∈ l, 0 < g) → kpt (clrL R l) r = if r ∈ l then none else kpt R r
 | [], R, _ => by simp [clrL]
 | g :: l, R, h => by
  have:=zjf (r:=r) (l:=l) (R:=clr R g) fun x hx => h x (List.mem_cons_of_mem _ hx)
  unfold clrL at this ⊢
  rw [List.foldl_cons, this, zwe (h g (List.mem_cons_self ..))]
  by_cases e1:r ∈ l
  ·rw [if_pos e1, if_pos (List.mem_cons_of_mem _ e1)]
  ·rw [if_neg e1]
   by_cases e2:r = g
   ·rw [if_pos e2, if_pos (by simp [e2])]
   ·rw [if_neg e2, if_neg (by simp [e1, e2])]
structure Sto where
 R:List (Option (List U))
 P:List Int
structure z5l (S:Sto):Prop where
 last:(kpt S.R S.R.length).isSome = true
 kl:(zas S.R).length ≤ 1024
 pin:∀ r ∈ S.P, (kpt S.R r).isSome = true
 tl:∀ r t, kpt S.R r = some t → t.length ≤ 4096
def newS:Sto:=⟨[some []], []⟩
def atS (S:Sto) (r:Int):List U × Int:=match kpt S.R (if r = 0 then S.R.length else r) with
 | some t => (t, 0)
 | none => ([], 14)
def ze0 (S:Sto) (l cs:List CH):Sto × Int × Int :=
 if (zeo (atS S 0).1 l cs).2.2 = 0 then (if 1024 ≤ (zas S.R).length then (S, 0, 3) else (⟨S.R ++ [some (zeo (atS S 0).1 l cs).1], S.P⟩, ((S.R.length + 1:Nat):Int), 0)) else (S, 0, (zeo (atS S 0).1 l cs).2.2)
def zol (S:Sto) (r:Int) (un:Bool):Sto × Int :=
 if (kpt S.R r).isSome = true then (if un then (if (zfz S.P r).2 = 0 then (⟨S.R, (zfz S.P r).1⟩, 0) else (S, (zfz S.P r).2)) else (⟨S.R, S.P ++ [r]⟩, 0)) else (S, 14)
def zdq (S:Sto) (keep:Int):Sto × List Int × Int :=
 if 1 ≤ keep ∧ keep ≤ 1024 then (⟨clrL S.R (zdp S.P (zas S.R) keep.toNat), S.P⟩, zdp S.P (zas S.R) keep.toNat, 0) else (S, [], 4)
end Go.V.L10
set_option maxRecDepth 20000
namespace Go.V
open Go.RowKit
def fzI (P:Program) (t' st:TypeId) (off i:Nat):Bool :=
 match P.underlying st with
 | some (.struct fs) => match fs[i]? with
  | some f => (match P.info? f.type with | some j => j.size == 0 | none => false) && (!(P.cellsOf t' == 0) && ((byteOfCell P P.depth t' (off % P.cellsOf t')).isSome && (byteOfCell P P.depth t' ((off + f.offset) % P.cellsOf t')).isSome))
  | none => false
 | _ => false
def PtrS:Value → Heap → Prop:=fun v _ => ∃ a, v = .pointer (some a)
theorem PtrS.mono:Kn.mono (.sat PtrS):=fun _ _ _ h _ => h
section
variable {P:Program} {F:Fr} {B:Heap} {O:Boxes} {n:Nat} {ops:Array Oper} {κ:Kap} {d:Nat} {ty:TypeId} {pos:String} {aft:Array Edge} {g:Option (Nat × Bool)}
theorem zls {u:World} {b off k:Nat} {cs:Array Value} {e:TypeId} {fr:Nat × Nat} (h:u.heap[b]? = some (.cells cs e fr)) (hs:P.cellsOf e ≠ 0) (hb:byteOfCell P P.depth e (off % P.cellsOf e) = some k) :
  (byteOf ⟨b, off, none⟩).run P u = .ok (off / P.cellsOf e * P.bytesOf e + k) u:=by
 have hsh:u.shape? b = some (e, cs.size):=by unfold World.shape?; rw [h]
 simp only [byteOf, Sem.run_bind, run_program, Result.andThen_ok, noView, viewAt, shape, Sem.run, hsh, Option.isSome_some, if_true, Sem.run_pure, Option.isSome_none, Bool.false_eq_true, if_false, Option.isSome]
 simp [hs, hb, hsh]
theorem zlr {u:World} {st t':TypeId} {b off i:Nat} {cs:Array Value} {fr:Nat × Nat} (hz:fzI P t' st off i = true) (hb:u.heap[b]? = some (.cells cs t' fr)) :
  ∃ a, (Instr.fieldAt st (.pointer (some ⟨b, off, none⟩)) i).run P u = .ok (.pointer (some a)) u:=by
 unfold fzI at hz
 split at hz
 ·rename_i fs hu
  split at hz
  ·rename_i f hf
   split at hz
   ·rename_i j hj
    simp only [Bool.and_eq_true, beq_iff_eq, Bool.not_eq_true', beq_eq_false_iff_ne, ne_eq, Option.isSome_iff_exists] at hz
    obtain ⟨hj0, hc, ⟨k1, h1⟩, k2, h2⟩:=hz
    have r1:=zls (P:=P) hb hc h1
    have r2:=zls (P:=P) hb hc h2
    have hsz:(sizeOf f.type).run P u = .ok 0 u:=by simp [sizeOf, typeInfo, hj, hj0]
    have hun:=run_underlying (P:=P) (w:=u) hu
    have hfp:∃ a, (fieldPlace ⟨b, off, none⟩ f).run P u = .ok a u:=by
     simp only [fieldPlace, Sem.run_bind, hsz, Result.andThen_ok, if_true, partAt, r1, r2, Sem.run_pure]
     exact ⟨_, rfl⟩
    obtain ⟨a, ha⟩:=hfp
    refine ⟨a, ?_⟩
    simp only [Instr.fieldAt, Sem.run_bind, hun, Result.andThen_ok, hf, Instr.sureAddr, Sem.run_pure, ha]
   ·simp at hz
  ·cases hz
 ·cases hz
theorem zzn {t:TypeId} {places:List (Nat × Nat)} {z cs:List Value} {vs:List (Nat × Value)} (hp:PL P t places z) (hc:zhp places z vs = some cs):P.built t vs = some cs.toArray:=by
 obtain ⟨zv, hz1, hz2⟩:=hp.zr
 have hpl:=hp.pl
 unfold plI at hpl
 unfold zrI at hz1
 split at hz1
 ·rename_i it hit
  unfold Program.built
  split at hpl
  ·rename_i fs hu
   simp only [hit, hu, hz1, hpl]
   rw [zbn, hz2]
   exact zc4 (fun i p h => by simpa using h) vs z cs hc
  ·rename_i m el hu
   split at hpl
   ·rename_i ie hie
    simp only [hit, hu, hz1, hie]
    cases hpl
    rw [zbn, hz2]
    exact zc4 (fun i p h => by
     rw [List.getElem?_map] at h
     cases hr:(List.range m)[i]? with
     | none => rw [hr] at h; cases h
     | some j =>
      rw [hr] at h
      have:j = i:=by
       have:=List.getElem?_eq_some_iff.1 hr
       obtain ⟨h1, h2⟩:=this
       simpa using h2.symm
      subst this
      simpa using h) vs z cs hc
   ·cases hpl
  ·cases hpl
 ·cases hz1
theorem zs1 {t:Nat} {t' st:TypeId} {i off:Nat} {cs:List Value} (hx:κ t = some (.sat (At cs t' off))) (hn:Nat.blt d n = true) (hg:gK ops κ ⟨some d, .fieldAddr st (.tmp t) i, ty, pos, aft, g⟩ = some true)
  (hz:fzI P t' st off i = true):StepOK P F B n ops O κ ⟨some d, .fieldAddr st (.tmp t) i, ty, pos, aft, g⟩ d (.sat PtrS) :=
 zaw rfl (zk hn) hg PtrS.mono fun a u H fp e => by
  obtain ⟨b, hv, hb⟩:=e.sat_ t _ (by simp [Op.operands]) hx
  obtain ⟨ad, hr⟩:=zlr hz (e.sub _ _ hb)
  refine ⟨_, ?_, ad, rfl⟩
  simp only [execOp, hv, Sem.run_bind, hr, Result.andThen_ok]
  rfl
theorem zsz {x:Operand} {t' st:TypeId} {i b off:Nat} {cs:Array Value} {fr:Nat × Nat} (hb:B b = some (.cells cs t' fr)) (hx:evK κ x = some (.pointer (some ⟨b, off, none⟩))) (hn:Nat.blt d n = true) (hg:gK ops κ ⟨some d, .fieldAddr st x i, ty, pos, aft, g⟩ = some true)
  (hz:fzI P t' st off i = true):StepOK P F B n ops O κ ⟨some d, .fieldAddr st x i, ty, pos, aft, g⟩ d (.sat PtrS) :=
 zaw rfl (zk hn) hg PtrS.mono fun a u H fp e => by
  have hv:=e.is_ x _ (by simp [Op.operands]) hx
  obtain ⟨ad, hr⟩:=zlr hz (e.sub _ _ (e.base _ _ hb))
  refine ⟨_, ?_, ad, rfl⟩
  simp only [execOp, hv, Sem.run_bind, hr, Result.andThen_ok]
  rfl
theorem zq9 (L:Tabs P) {q:Nat} {t:TypeId} (hx:κ q = some (.sat PtrS)) (hn:Nat.blt d n = true) (hg:gK ops κ ⟨some d, .load t (.tmp q), ty, pos, aft, g⟩ = some true) (ht:L.ld t = some (true, 0)) :
  StepOK P F B n ops O κ ⟨some d, .load t (.tmp q), ty, pos, aft, g⟩ d (.is (.agg #[])) :=
 zaw rfl (zk hn) hg trivial fun a u H fp e => by
  obtain ⟨ad, hv⟩:=e.sat_ q _ (by simp [Op.operands]) hx
  refine ⟨.agg #[], ?_, rfl⟩
  simp only [execOp, hv, Instr.loadAt, Instr.sureAddr, Sem.run_bind, Sem.run_pure, Result.andThen_ok]
  rw [zb5 (Tabs.ld_spec ht) u ad [] rfl (fun j v hj => by simp at hj)]
  rfl
theorem zos {t:TypeId} {parts:Array (Nat × Operand)} {places:List (Nat × Nat)} {z:List Value} {ψ:Value → Heap → Prop} (hn:Nat.blt d n = true) (hg:gK ops κ ⟨some d, .build t parts, ty, pos, aft, g⟩ = some true)
  (hp:PL P t places z) (hm:Kn.mono (.sat ψ)) (h:∀ H, B.Le H → Args κ H (parts.toList.map (·.2)) [] (fun vs => ∃ cs, zhp places z ((parts.toList.map (·.1)).zip vs) = some cs ∧ ψ (.agg cs.toArray) H)) :
  StepOK P F B n ops O κ ⟨some d, .build t parts, ty, pos, aft, g⟩ d (.sat ψ):=by
 rintro κ' a u hl ⟨H, fp, hh⟩
 unfold After
 rw [if_pos (zag hh hl hg)]
 have e:=hh.env (o:=⟨some d, .build t parts, ty, pos, aft, g⟩) hl
 have hc:=Args.use e (parts.toList.map (·.2)) [] (fun x hx => by
  simp only [Op.operands]
  obtain ⟨q, hq, rfl⟩:=List.mem_map.1 hx
  simp
  exact ⟨q.1, by simpa using hq⟩) (h H e.base)
 obtain ⟨cs, hb, hψ⟩:=hc
 simp only [List.reverse_nil, List.nil_append, List.map_map] at hb
 have hz:(parts.toList.map (·.1)).zip (parts.toList.map (a.eval ∘ (·.2))) = parts.toList.map fun p => (p.1, a.eval p.2):=by
  generalize parts.toList = l
  induction l with
  | nil => rfl
  | cons x l ih => simp only [List.map_cons, List.zip_cons_cons, ih]; rfl
 rw [hz] at hb
 have hbt:=zzn hp hb
 have hr:=run_build (P:=P) u t (parts.toList.map fun p => (p.1, a.eval p.2)).toArray cs.toArray (by simpa using hbt)
 have harr:(parts.map fun (p:Nat × Operand) => (p.1, a.eval p.2)) = (parts.toList.map fun p => (p.1, a.eval p.2)).toArray:=by
  rw [← List.map_toArray, Array.toArray_toList]
 have hrun:(execOp a.eval ⟨some d, .build t parts, ty, pos, aft, g⟩).run P u = .ok (.value (.agg cs.toArray)) u:=by
  simp only [execOp, Sem.run_bind]
  show Result.andThen ((Instr.build t (parts.map fun (p:Nat × Operand) => (p.1, a.eval p.2))).run P u) _ = _
  rw [harr, hr]
  rfl
 rw [hrun]
 simp only [Upon]
 exact ⟨H, fp, hh.put (zk hn) hm hψ⟩
end
end Go.V
set_option maxRecDepth 20000
namespace Go.V.UT
open Go.Proofs Go.RowKit Go.V
theorem _root_.Go.V.ZB {A B:Prop} (h:B) (t:Wr B → A:=by intro h; refine z8 (qf L (ya rfl (by assumption)) rfl rfl rfl rfl) rfl ?_;exact h.h):A:=t ⟨h⟩
theorem _root_.Go.V.Zcw {A B:Prop} (h:B) (t:Wr B → A:=by intro h; refine z8 (qm L rfl rfl rfl rfl) rfl ?_;exact h.h):A:=t ⟨h⟩
theorem _root_.Go.V.ZeI {A B:Prop} (h:B) (t:Wr B → A:=by intro h; refine z8 (ym rfl rfl rfl) rfl ?_;exact h.h):A:=t ⟨h⟩
theorem _root_.Go.V.ZaG {A B:Prop} (h:B) (t:Wr B → A:=by intro h; refine z7 (qm L rfl rfl rfl rfl) rfl ?_;exact h.h):A:=t ⟨h⟩
theorem _root_.Go.V.ZeJ {A B:Prop} (h:B) (t:Wr B → A:=by intro h; refine z7 (zw L (vs:=[_, _, _, _, _, _]) (qo rfl) rfl rfl rfl rfl ⟨_, rfl⟩) rfl ?_;exact h.h):A:=t ⟨h⟩
theorem _root_.Go.V.ZfK {A B:Prop} (h:B) (t:Wr B → A:=by intro h; refine z8 (zw L (vs:=[_, _, _, _, _, _]) (ya rfl (by assumption)) rfl rfl rfl rfl ⟨_, rfl⟩) rfl ?_;exact h.h):A:=t ⟨h⟩
theorem _root_.Go.V.ZfL {A B:Prop} (h:B) (t:Wr B → A:=by intro h; refine z7 (ym rfl rfl rfl) rfl ?_;exact h.h):A:=t ⟨h⟩
theorem _root_.Go.V.Zed {A B:Prop} (h:B) (t:Wr B → A:=by intro h; refine z7 (qf L (ya rfl (by assumption)) rfl rfl rfl rfl) rfl ?_;exact h.h):A:=t ⟨h⟩
theorem _root_.Go.V.Zb8 {A B:Prop} (h:B) (t:Wr B → A:=by intro h; refine z7 (zgy rfl rfl rfl rfl z6e rfl) rfl ?_;exact h.h):A:=t ⟨h⟩
theorem _root_.Go.V.Zdh {A B:Prop} (h:B) (t:Wr B → A:=by intro h; refine z8 (yd rfl rfl rfl) rfl ?_;exact h.h):A:=t ⟨h⟩
theorem _root_.Go.V.ZeK {A B:Prop} (h:B) (t:Wr B → A:=by intro h; refine z8 (y7 rfl rfl rfl rfl (zaa (by omega) (by omega))) rfl ?_;exact h.h):A:=t ⟨h⟩
theorem _root_.Go.V.ZeL {A B:Prop} (h:B) (t:Wr B → A:=by intro h; refine qg (id:=2) [] mixed (by kernel_rfl) ?_;exact h.h):A:=t ⟨h⟩
theorem _root_.Go.V.Zcc {A B:Prop} (h:B) (t:Wr B → A:=by intro h; refine ZeI ?_;refine Zcw ?_;exact h.h):A:=t ⟨h⟩
theorem _root_.Go.V.Zfe {A B:Prop} (h:B) (t:Wr B → A:=by intro h; refine Zh ?_;refine Zcc ?_;exact h.h):A:=t ⟨h⟩
theorem _root_.Go.V.ZeM {A B:Prop} (h:B) (t:Wr B → A:=by intro h; refine Zi ?_;refine Zh ?_;exact h.h):A:=t ⟨h⟩
theorem _root_.Go.V.Zff {A B:Prop} (h:B) (t:Wr B → A:=by intro h; refine Zb ?_;refine ZbP ?_;exact h.h):A:=t ⟨h⟩
theorem _root_.Go.V.Zcd {A B:Prop} (h:B) (t:Wr B → A:=by intro h; refine ZfL ?_;refine ZaG ?_;exact h.h):A:=t ⟨h⟩
theorem _root_.Go.V.Zbq {A B:Prop} (h:B) (t:Wr B → A:=by intro h; refine Zff ?_;refine zh ?_;exact h.h):A:=t ⟨h⟩
theorem _root_.Go.V.Za2 {A B:Prop} (h:B) (t:Wr B → A:=by intro h; refine Zfe ?_;refine ZB ?_;exact h.h):A:=t ⟨h⟩
theorem _root_.Go.V.Zbr {A B:Prop} (h:B) (t:Wr B → A:=by intro h; refine Zb ?_;refine ZdA ?_;exact h.h):A:=t ⟨h⟩
theorem _root_.Go.V.Zce {A B:Prop} (h:B) (t:Wr B → A:=by intro h; refine Zcd ?_;refine Zed ?_;exact h.h):A:=t ⟨h⟩
theorem _root_.Go.V.Zcx {A B:Prop} (h:B) (t:Wr B → A:=by intro h; refine Zcc ?_;refine ZB ?_;exact h.h):A:=t ⟨h⟩
theorem _root_.Go.V.Zdi {A B:Prop} (h:B) (t:Wr B → A:=by intro h; refine Zfe ?_;refine ZfK ?_;exact h.h):A:=t ⟨h⟩
theorem _root_.Go.V.ZdJ {A B:Prop} (h:B) (t:Wr B → A:=by intro h; refine Zdh ?_;refine Zaj ?_;exact h.h):A:=t ⟨h⟩
abbrev KT:=((ByteArray × ByteArray) × ByteArray) × ((ByteArray × ByteArray) × ByteArray)
abbrev VT:=Unit
abbrev kv (k:KT):Value:=.agg #[.string k.1.1.1, .string k.1.1.2, .string k.1.2, .string k.2.1.1, .string k.2.1.2, .string k.2.2]
abbrev vv (x:VT):Value:=.agg #[]
abbrev pl (k:KT) (x:VT):List Value:=[.string k.1.1.1, .string k.1.1.2, .string k.1.2, .string k.2.1.1, .string k.2.1.2, .string k.2.2]
abbrev nl (k:KT) (x:VT) (l r:Value) (s d:Int):List Value:=[.string k.1.1.1, .string k.1.1.2, .string k.1.2, .string k.2.1.1, .string k.2.1.2, .string k.2.2] ++ [l, r, .int .i64 s, .int .i64 d]
abbrev TA (t:Tr KT VT):Value → Heap → Prop:=Tr.TreeAt nl 208 t
theorem TA.mono {t:Tr KT VT}:Kn.mono (.sat (TA t)):=Tr.TreeAt.mono
theorem TA.le {t:Tr KT VT} {v:Value} {H H':Heap} (h:TA t v H) (hle:H.Le H'):TA t v H':=Tr.TreeAt.le h hle
theorem TA.ptr {t:Tr KT VT} {v:Value} {H:Heap} (h:TA t v H):∃ p, v = .pointer p:=by
 cases t with
 | nil => exact ⟨_, h⟩
 | node k x l r => obtain ⟨b, lv, rv, h, _⟩:=h; exact ⟨_, h⟩
attribute [local irreducible] V N X VO Par StepOK Has Ret RetL Src
theorem size_ret (t:Tr KT VT) {v:Value} {w:World} {B:Heap} (hB:B.Le (hp w)) (hv:TA t v B):Ret Tryz.prog 115 [v] w B (fun v _ => v = .int .i64 t.size):=by
 cases t with
 | nil =>
  obtain rfl:v = .pointer none:=hv
  refine yf Tryz.func115 rfl Tryz.ntmps115 (Nat.le_of_ble_eq_true rfl) hB ?_
  refine Zbx ?_;refine Zb8 ?_;refine ZcW ?_
  refine ye L (rs:=[.tmp 2]) rfl (fun _ _ h => h) Since.refl fun u H hH hle => ?_
  rfl
 | node k x l r =>
  obtain ⟨b, lv, rv, rfl, hb, _, _⟩:=hv
  refine yf Tryz.func115 rfl Tryz.ntmps115 (Nat.le_of_ble_eq_true rfl) hB ?_
  refine Zbx ?_;refine Zb8 ?_;refine Zx ?_;refine Z1 ?_;refine Zce ?_;refine Zb ?_
  refine ye L (rs:=[.tmp 2]) rfl (fun _ _ h => h) Since.refl fun u H hH hle => ?_
  rfl
theorem deep_ret (t:Tr KT VT) {v:Value} {w:World} {B:Heap} (hB:B.Le (hp w)) (hv:TA t v B):Ret Tryz.prog 184 [v] w B (fun v _ => v = .int .i64 t.deep):=by
 cases t with
 | nil =>
  obtain rfl:v = .pointer none:=hv
  refine yf Tryz.func184 rfl Tryz.ntmps184 (Nat.le_of_ble_eq_true rfl) hB ?_
  refine Zbx ?_;refine Zb8 ?_;refine ZcW ?_
  refine ye L (rs:=[.tmp 2]) rfl (fun _ _ h => h) Since.refl fun u H hH hle => ?_
  rfl
 | node k x l r =>
  obtain ⟨b, lv, rv, rfl, hb, _, _⟩:=hv
  refine yf Tryz.func184 rfl Tryz.ntmps184 (Nat.le_of_ble_eq_true rfl) hB ?_
  refine Zbx ?_;refine Zb8 ?_;refine Zx ?_;refine Z1 ?_;refine Zce ?_;refine Zb ?_
  refine ye L (rs:=[.tmp 2]) rfl (fun _ _ h => h) Since.refl fun u H hH hle => ?_
  rfl
theorem z2b (a b:Nat):(if ((b:Nat):Int) > (a:Int) then ((b:Nat):Int) else (a:Int)) = ((max a b:Nat):Int):=by
 split <;> omega
theorem join_ret (k:KT) (x:VT) (l r:Tr KT VT) {lv rv:Value} {w:World} {B:Heap} (hB:B.Le (hp w)) (hl:TA l lv B) (hr:TA r rv B) (hs:l.size + r.size < 1099511627776) :
  Ret Tryz.prog 178 [.agg (pl k x).toArray, lv, rv] w B (TA (.node k x l r)):=by
 obtain ⟨pl', rfl⟩:=hl.ptr
 obtain ⟨pr, rfl⟩:=hr.ptr
 have hdl:=l.deep_le
 have hdr:=r.deep_le
 refine yf Tryz.func178 rfl Tryz.ntmps178 (Nat.le_of_ble_eq_true rfl) hB ?_
 refine ZY ?_;refine ZcZ ?_;refine Zb4 ?_;refine ZeM ?_;refine z8 (zp L rfl rfl (zk rfl) rfl rfl rfl (fun u H hH hle _ => UT.size_ret _ hH (UT.TA.le (by assumption) hle))) rfl ?_;refine ZeK ?_;refine Zh ?_;refine z8 (zp L rfl rfl (zk rfl) rfl rfl rfl (fun u H hH hle _ => UT.size_ret _ hH (UT.TA.le (by assumption) hle))) rfl ?_;refine ZeK ?_;refine Zh ?_;refine z8 (zp L rfl rfl (zk rfl) rfl rfl rfl (fun u H hH hle _ => UT.deep_ret _ hH (UT.TA.le (by assumption) hle))) rfl ?_;refine Zh ?_;refine z8 (zp L rfl rfl (zk rfl) rfl rfl rfl (fun u H hH hle _ => UT.deep_ret _ hH (UT.TA.le (by assumption) hle))) rfl ?_;refine z8 (zfq rfl rfl rfl rfl rfl) rfl ?_;refine ZeK ?_;refine z8 (yx (cs:=[_, _, _, _, _, _, _, _, _, _]) rfl rfl z59 rfl rfl) rfl ?_;refine z8 (yj rfl rfl rfl rfl) rfl ?_;refine ZdJ ?_
 refine ye L (rs:=[.tmp 6]) rfl (fun _ _ h => h) Since.refl fun u H hH hle => ?_
 rintro _ ⟨b, rfl, hb⟩
 refine ⟨b, _, _, rfl, ?_, TA.le hl hle, TA.le hr hle⟩
 rw [z2b] at hb
 simpa [Tr.size_node, Tr.deep_node] using hb
theorem bal_ret (k:KT) (x:VT) (l r:Tr KT VT) {lv rv:Value} {w:World} {B:Heap} (hB:B.Le (hp w)) (hl:TA l lv B) (hr:TA r rv B) (hs:l.size + r.size < 1099511627776) :
  Ret Tryz.prog 176 [.agg (pl k x).toArray, lv, rv] w B (TA (Tr.bal k x l r)):=by
 have hdl:=l.deep_le
 have hdr:=r.deep_le
 refine yf Tryz.func176 rfl Tryz.ntmps176 (Nat.le_of_ble_eq_true rfl) hB ?_
 unfold Tr.bal
 by_cases h1:l.deep > r.deep + 1
 ·rw [if_pos h1]
  cases l with
  | nil => simp [Tr.deep] at h1
  | node lk lx ll lr =>
   have hl0:=hl; obtain ⟨b1, v1, v2, rfl, hb1, hll, hlr⟩:=hl
   have hd1:=ll.deep_le
   have hd2:=lr.deep_le
   simp only [Tr.size_node] at hs hdl
   dsimp only
   by_cases h2:ll.deep ≥ lr.deep
   ·rw [if_pos h2]
    refine ZY ?_;refine ZN ?_;refine z7 (zp L rfl rfl (zk rfl) rfl rfl rfl (fun u H hH hle _ => UT.deep_ret _ hH (UT.TA.le (by assumption) hle))) rfl ?_;refine Za ?_;refine z7 (zp L rfl rfl (zk rfl) rfl rfl rfl (fun u H hH hle _ => UT.deep_ret _ hH (UT.TA.le (by assumption) hle))) rfl ?_;refine ZbI ?_;refine Zb ?_;refine Zai ?_;refine ZeL ?_;refine Zh ?_;refine Zdb ?_;refine Zi ?_;refine Zcx ?_;refine z8 (zp L rfl rfl (zk rfl) rfl rfl rfl (fun u H hH hle _ => UT.deep_ret _ hH (UT.TA.le (by assumption) hle))) rfl ?_;refine Za2 ?_;refine z8 (zp L rfl rfl (zk rfl) rfl rfl rfl (fun u H hH hle _ => UT.deep_ret _ hH (UT.TA.le (by assumption) hle))) rfl ?_;refine ZeX ?_;refine Za1 ?_;refine Zw ?_;refine ZdA ?_;refine Ze0 ?_;refine Zdi ?_;refine Za2 ?_;refine Zb4 ?_;refine Za2 ?_;refine Zh ?_;refine z8 (yw L rfl rfl (zk rfl) rfl rfl rfl UT.TA.mono (fun u H hH hle _ => UT.join_ret _ () _ _ hH (UT.TA.le (by assumption) hle) (UT.TA.le (by assumption) hle) (by first | omega | (simp only [Tr.size_node]; omega)))) rfl ?_;refine z8 (yw L rfl rfl (zk rfl) rfl rfl rfl UT.TA.mono (fun u H hH hle _ v1 hv1 => UT.join_ret _ () _ _ hH (UT.TA.le (by assumption) hle) hv1 (by first | omega | (simp only [Tr.size_node]; omega)))) rfl ?_;refine ZdJ ?_
    refine ye L (rs:=[.tmp 6]) rfl (fun _ _ h => h) Since.refl fun u H hH hle => ?_
    exact fun v hv => hv
   ·rw [if_neg h2]
    cases lr with
    | nil => simp [Tr.deep] at h2
    | node mk mx ml mr =>
     have hlr0:=hlr; obtain ⟨b2, v3, v4, rfl, hb2, hml, hmr⟩:=hlr
     simp only [Tr.size_node] at hs hdl hd2
     refine ZY ?_;refine ZN ?_;refine z7 (zp L rfl rfl (zk rfl) rfl rfl rfl (fun u H hH hle _ => UT.deep_ret _ hH (UT.TA.le (by assumption) hle))) rfl ?_;refine Za ?_;refine z7 (zp L rfl rfl (zk rfl) rfl rfl rfl (fun u H hH hle _ => UT.deep_ret _ hH (UT.TA.le (by assumption) hle))) rfl ?_;refine ZbI ?_;refine Zb ?_;refine Zai ?_;refine ZeL ?_;refine Zh ?_;refine Zdb ?_;refine Zi ?_;refine Zcx ?_;refine z8 (zp L rfl rfl (zk rfl) rfl rfl rfl (fun u H hH hle _ => UT.deep_ret _ hH (UT.TA.le (by assumption) hle))) rfl ?_;refine Za2 ?_;refine z8 (zp L rfl rfl (zk rfl) rfl rfl rfl (fun u H hH hle _ => UT.deep_ret _ hH (UT.TA.le (by assumption) hle))) rfl ?_;refine Zf1 ?_;refine Za1 ?_;refine Zw ?_;refine ZbP ?_;refine zh ?_;refine Zu ?_;refine ZC ?_;refine Zbr ?_;refine Z9 ?_;refine Zce ?_;refine Ze ?_;refine Zew ?_;refine Zdi ?_;refine Zdi ?_;refine Za2 ?_;refine Za2 ?_;refine z8 (yw L rfl rfl (zk rfl) rfl rfl rfl UT.TA.mono (fun u H hH hle _ => UT.join_ret _ () _ _ hH (UT.TA.le (by assumption) hle) (UT.TA.le (by assumption) hle) (by first | omega | (simp only [Tr.size_node]; omega)))) rfl ?_;refine Zb4 ?_;refine Za2 ?_;refine Zh ?_;refine z8 (yw L rfl rfl (zk rfl) rfl rfl rfl UT.TA.mono (fun u H hH hle _ => UT.join_ret _ () _ _ hH (UT.TA.le (by assumption) hle) (UT.TA.le (by assumption) hle) (by first | omega | (simp only [Tr.size_node]; omega)))) rfl ?_;refine z8 (yw L rfl rfl (zk rfl) rfl rfl rfl UT.TA.mono (fun u H hH hle _ v1 hv1 v2 hv2 => UT.join_ret _ () _ _ hH hv1 hv2 (by first | omega | (simp only [Tr.size_node]; omega)))) rfl ?_;refine ZdJ ?_
     refine ye L (rs:=[.tmp 6]) rfl (fun _ _ h => h) Since.refl fun u H hH hle => ?_
     exact fun v hv => hv
 ·rw [if_neg h1]
  by_cases h3:r.deep > l.deep + 1
  ·rw [if_pos h3]
   cases r with
   | nil => simp [Tr.deep] at h3
   | node rk rx rl rr =>
    have hr0:=hr; obtain ⟨b1, v1, v2, rfl, hb1, hrl, hrr⟩:=hr
    have hd1:=rl.deep_le
    have hd2:=rr.deep_le
    simp only [Tr.size_node] at hs hdr
    dsimp only
    by_cases h2:rr.deep ≥ rl.deep
    ·rw [if_pos h2]
     refine ZY ?_;refine ZN ?_;refine z7 (zp L rfl rfl (zk rfl) rfl rfl rfl (fun u H hH hle _ => UT.deep_ret _ hH (UT.TA.le (by assumption) hle))) rfl ?_;refine Za ?_;refine z7 (zp L rfl rfl (zk rfl) rfl rfl rfl (fun u H hH hle _ => UT.deep_ret _ hH (UT.TA.le (by assumption) hle))) rfl ?_;refine ZbI ?_;refine Zb ?_;refine Zai ?_;refine ZeL ?_;refine Zh ?_;refine Zd9 ?_;refine Zcb ?_;refine ZaM ?_;refine Za1 ?_;refine Zw ?_;refine ZbP ?_;refine zh ?_;refine Zu ?_;refine Z7 ?_;refine Zbq ?_;refine Zfn ?_;refine Zh ?_;refine ZbE ?_;refine Zi ?_;refine Zcx ?_;refine z8 (zp L rfl rfl (zk rfl) rfl rfl rfl (fun u H hH hle _ => UT.deep_ret _ hH (UT.TA.le (by assumption) hle))) rfl ?_;refine Za2 ?_;refine z8 (zp L rfl rfl (zk rfl) rfl rfl rfl (fun u H hH hle _ => UT.deep_ret _ hH (UT.TA.le (by assumption) hle))) rfl ?_;refine ZeX ?_;refine Za1 ?_;refine Zw ?_;refine ZdA ?_;refine ZbY ?_;refine Zdi ?_;refine Zb4 ?_;refine Zi ?_;refine Zcx ?_;refine z8 (yw L rfl rfl (zk rfl) rfl rfl rfl UT.TA.mono (fun u H hH hle _ => UT.join_ret _ () _ _ hH (UT.TA.le (by assumption) hle) (UT.TA.le (by assumption) hle) (by first | omega | (simp only [Tr.size_node]; omega)))) rfl ?_;refine Za2 ?_;refine z8 (yw L rfl rfl (zk rfl) rfl rfl rfl UT.TA.mono (fun u H hH hle _ v1 hv1 => UT.join_ret _ () _ _ hH hv1 (UT.TA.le (by assumption) hle) (by first | omega | (simp only [Tr.size_node]; omega)))) rfl ?_;refine ZdJ ?_
     refine ye L (rs:=[.tmp 6]) rfl (fun _ _ h => h) Since.refl fun u H hH hle => ?_
     exact fun v hv => hv
    ·rw [if_neg h2]
     cases rl with
     | nil => simp [Tr.deep] at h2
     | node mk mx ml mr =>
      have hrl0:=hrl; obtain ⟨b2, v3, v4, rfl, hb2, hml, hmr⟩:=hrl
      simp only [Tr.size_node] at hs hdr hd1
      refine ZY ?_;refine ZN ?_;refine z7 (zp L rfl rfl (zk rfl) rfl rfl rfl (fun u H hH hle _ => UT.deep_ret _ hH (UT.TA.le (by assumption) hle))) rfl ?_;refine Za ?_;refine z7 (zp L rfl rfl (zk rfl) rfl rfl rfl (fun u H hH hle _ => UT.deep_ret _ hH (UT.TA.le (by assumption) hle))) rfl ?_;refine ZbI ?_;refine Zb ?_;refine Zai ?_;refine ZeL ?_;refine Zh ?_;refine Zd9 ?_;refine Zcb ?_;refine ZaM ?_;refine Za1 ?_;refine Zw ?_;refine ZbP ?_;refine zh ?_;refine Zu ?_;refine Z7 ?_;refine Zbq ?_;refine Zfn ?_;refine Zh ?_;refine ZbE ?_;refine Zi ?_;refine Zcx ?_;refine z8 (zp L rfl rfl (zk rfl) rfl rfl rfl (fun u H hH hle _ => UT.deep_ret _ hH (UT.TA.le (by assumption) hle))) rfl ?_;refine Za2 ?_;refine z8 (zp L rfl rfl (zk rfl) rfl rfl rfl (fun u H hH hle _ => UT.deep_ret _ hH (UT.TA.le (by assumption) hle))) rfl ?_;refine Zf1 ?_;refine Za1 ?_;refine Zw ?_;refine ZbP ?_;refine zh ?_;refine Zcu ?_;refine ZT ?_;refine Zbr ?_;refine ZcF ?_;refine Zce ?_;refine Ze ?_;refine qg (id:=11) [] mixed (by kernel_rfl) ?_;refine Zdi ?_;refine Zb4 ?_;refine Zi ?_;refine Zcx ?_;refine z8 (yw L rfl rfl (zk rfl) rfl rfl rfl UT.TA.mono (fun u H hH hle _ => UT.join_ret _ () _ _ hH (UT.TA.le (by assumption) hle) (UT.TA.le (by assumption) hle) (by first | omega | (simp only [Tr.size_node]; omega)))) rfl ?_;refine Zdi ?_;refine Za2 ?_;refine Za2 ?_;refine z8 (yw L rfl rfl (zk rfl) rfl rfl rfl UT.TA.mono (fun u H hH hle _ => UT.join_ret _ () _ _ hH (UT.TA.le (by assumption) hle) (UT.TA.le (by assumption) hle) (by first | omega | (simp only [Tr.size_node]; omega)))) rfl ?_;refine z8 (yw L rfl rfl (zk rfl) rfl rfl rfl UT.TA.mono (fun u H hH hle _ v1 hv1 v2 hv2 => UT.join_ret _ () _ _ hH hv1 hv2 (by first | omega | (simp only [Tr.size_node]; omega)))) rfl ?_;refine ZdJ ?_
      refine ye L (rs:=[.tmp 6]) rfl (fun _ _ h => h) Since.refl fun u H hH hle => ?_
      exact fun v hv => hv
  ·rw [if_neg h3]
   refine ZY ?_;refine ZN ?_;refine z7 (zp L rfl rfl (zk rfl) rfl rfl rfl (fun u H hH hle _ => UT.deep_ret _ hH (UT.TA.le (by assumption) hle))) rfl ?_;refine Za ?_;refine z7 (zp L rfl rfl (zk rfl) rfl rfl rfl (fun u H hH hle _ => UT.deep_ret _ hH (UT.TA.le (by assumption) hle))) rfl ?_;refine ZbI ?_;refine Zb ?_;refine Zai ?_;refine ZeL ?_;refine Zh ?_;refine Zd9 ?_;refine Zcb ?_;refine ZaM ?_;refine Za1 ?_;refine Zw ?_;refine ZbP ?_;refine zh ?_;refine Zu ?_;refine Z7 ?_;refine Zbq ?_;refine Zfn ?_;refine Zh ?_;refine Zda ?_;refine Zcb ?_;refine ZaM ?_;refine Za1 ?_;refine Zw ?_;refine ZbP ?_;refine zh ?_;refine Zcu ?_;refine Z4 ?_;refine Zff ?_;refine ZbF ?_;refine zh ?_;refine ZQ ?_;refine ZeJ ?_;refine Zd ?_;refine z7 (yw L rfl rfl (zk rfl) rfl rfl rfl UT.TA.mono (fun u H hH hle _ => UT.join_ret _ () _ _ hH (UT.TA.le (by assumption) hle) (UT.TA.le (by assumption) hle) (by first | omega | (simp only [Tr.size_node]; omega)))) rfl ?_;refine ZaZ ?_
   refine ye L (rs:=[.tmp 6]) rfl (fun _ _ h => h) Since.refl fun u H hH hle => ?_
   exact fun v hv => hv
end Go.V.UT
set_option maxRecDepth 20000
namespace Go.V.UT
open Go.Proofs Go.RowKit Go.V
theorem _root_.Go.V.Zgl {A B:Prop} (h:B) (t:Wr B → A:=by intro h; refine z7 (zg0 rfl rfl rfl rfl (by assumption)) rfl ?_;exact h.h):A:=t ⟨h⟩
theorem _root_.Go.V.Zgm {A B:Prop} (h:B) (t:Wr B → A:=by intro h; refine z7 (zko rfl rfl rfl rfl) rfl ?_;exact h.h):A:=t ⟨h⟩
theorem _root_.Go.V.Ze3 {A B:Prop} (h:B) (t:Wr B → A:=by intro h; refine z8 (zg0 rfl rfl rfl rfl (by assumption)) rfl ?_;exact h.h):A:=t ⟨h⟩
theorem _root_.Go.V.Zdj {A B:Prop} (h:B) (t:Wr B → A:=by intro h; refine zh4 (yl rfl) rfl rfl ?_;exact h.h):A:=t ⟨h⟩
theorem _root_.Go.V.Ze4 {A B:Prop} (h:B) (t:Wr B → A:=by intro h; refine z8 (zko rfl rfl rfl rfl) rfl ?_;exact h.h):A:=t ⟨h⟩
theorem _root_.Go.V.Zfg {A B:Prop} (h:B) (t:Wr B → A:=by intro h; refine qg (id:=13) [] mixed (by kernel_rfl) ?_;exact h.h):A:=t ⟨h⟩
theorem _root_.Go.V.Zdk {A B:Prop} (h:B) (t:Wr B → A:=by intro h; refine Zw ?_;refine zh ?_;exact h.h):A:=t ⟨h⟩
theorem _root_.Go.V.Zf5 {A B:Prop} (h:B) (t:Wr B → A:=by intro h; refine Zfe ?_;refine Zcw ?_;exact h.h):A:=t ⟨h⟩
theorem _root_.Go.V.Zg5 {A B:Prop} (h:B) (t:Wr B → A:=by intro h; refine Zf5 ?_;refine ZfK ?_;exact h.h):A:=t ⟨h⟩
theorem _root_.Go.V.ZdK {A B:Prop} (h:B) (t:Wr B → A:=by intro h; refine Zb6 ?_;refine Zm ?_;exact h.h):A:=t ⟨h⟩
theorem _root_.Go.V.Zee {A B:Prop} (h:B) (t:Wr B → A:=by intro h; refine Ze0 ?_;refine Zbo ?_;exact h.h):A:=t ⟨h⟩
theorem _root_.Go.V.Zef {A B:Prop} (h:B) (t:Wr B → A:=by intro h; refine Zb4 ?_;refine Zg5 ?_;exact h.h):A:=t ⟨h⟩
structure Cmp (cf:Nat) (c:KT → KT → Int):Prop where
 fn:L.fn cf = some ()
 ret:∀ (a b:KT) (u:World) (H:Heap), H.Le (hp u) → Ret Tryz.prog cf [kv a, kv b] u H (fun v _ => v = .int .i64 (c a b))
abbrev mv (cf:Nat) (root:Value):Value:=.agg #[.func (.func cf) #[] #[], root]
attribute [local irreducible] V N X VO Par StepOK Has Ret RetL Src
theorem z1q {cf:Nat} {c:KT → KT → Int} (hc:Cmp cf c) (root:Value) (k:KT) (x:VT):∀ (t:Tr KT VT) {rv:Value} {w:World} {B:Heap}, B.Le (hp w) → TA t rv B → t.size + 1 < 1099511627776 →
  Ret Tryz.prog 164 [mv cf root, rv, .agg (pl k x).toArray] w B (TA (Tr.put c k x t)):=by
 intro t
 induction t with
 | nil =>
  intro rv w B hB hv hs
  obtain rfl:rv = .pointer none:=hv
  have hn:TA .nil (.pointer none) B:=rfl
  have hz:(Tr.nil:Tr KT VT).size = 0:=rfl
  refine yf Tryz.func164 rfl Tryz.ntmps164 (Nat.le_of_ble_eq_true rfl) hB ?_
  refine Zaf ?_;refine ZN ?_;refine Zb8 ?_;refine Zbw ?_;refine ZeJ ?_;refine z7 (yw L rfl rfl (zk rfl) rfl rfl rfl UT.TA.mono (fun u H hH hle _ => UT.join_ret _ () _ _ hH (UT.TA.le (by assumption) hle) (UT.TA.le (by assumption) hle) (by first | omega | (simp only [Tr.size_node]; omega)))) rfl ?_;refine ZaZ ?_
  refine ye L (rs:=[.tmp 6]) rfl (fun _ _ h => h) Since.refl fun u H hH hle => ?_
  exact fun v hv => hv
 | node nk nx l r ihl ihr =>
  intro rv w B hB hv hs
  obtain ⟨b, lv, rv', rfl, hb, hl, hr⟩:=hv
  have hpl:=Tr.size_put c k x l
  have hpr:=Tr.size_put c k x r
  simp only [Tr.size_node] at hs
  refine yf Tryz.func164 rfl Tryz.ntmps164 (Nat.le_of_ble_eq_true rfl) hB ?_
  unfold Tr.put
  by_cases h1:c k nk < 0
  ·rw [if_pos h1]
   refine Zaf ?_;refine ZN ?_;refine Zb8 ?_;refine Zr ?_;refine Zee ?_;refine Za5 ?_;refine Zef ?_;refine z8 (zp L rfl rfl (zk rfl) rfl rfl hc.fn (fun u H hH _ _ => hc.ret _ _ u H hH)) rfl ?_;refine Zw ?_;refine Zai ?_;refine Zu ?_;refine ZT ?_;refine Zbr ?_;refine Zfa ?_;refine Zdi ?_;refine ZbS ?_;refine Za2 ?_;refine Zb4 ?_;refine z8 (yw L rfl rfl (zk rfl) rfl rfl rfl TA.mono (fun u H hH hle _ => ihl hH (hl.le hle) (by omega))) rfl ?_;refine Za2 ?_;refine z8 (yw L rfl rfl (zk rfl) rfl rfl rfl UT.TA.mono (fun u H hH hle _ v1 hv1 => UT.bal_ret _ () _ _ hH hv1 (UT.TA.le (by assumption) hle) (by first | omega | (simp only [Tr.size_node]; omega)))) rfl ?_;refine ZdJ ?_
   refine ye L (rs:=[.tmp 6]) rfl (fun _ _ h => h) Since.refl fun u H hH hle => ?_
   exact fun v hv => hv
  ·rw [if_neg h1]
   by_cases h2:c k nk > 0
   ·rw [if_pos h2]
    refine Zaf ?_;refine ZN ?_;refine Zb8 ?_;refine Zr ?_;refine Zee ?_;refine Za5 ?_;refine Zef ?_;refine z8 (zp L rfl rfl (zk rfl) rfl rfl hc.fn (fun u H hH _ _ => hc.ret _ _ u H hH)) rfl ?_;refine Zw ?_;refine Zai ?_;refine Zu ?_;refine Z4 ?_;refine Zbq ?_;refine ZD ?_;refine ZC ?_;refine Zbr ?_;refine Zfn ?_;refine Zdi ?_;refine Za2 ?_;refine ZbS ?_;refine Za2 ?_;refine Zb4 ?_;refine z8 (yw L rfl rfl (zk rfl) rfl rfl rfl TA.mono (fun u H hH hle _ => ihr hH (hr.le hle) (by omega))) rfl ?_;refine z8 (yw L rfl rfl (zk rfl) rfl rfl rfl UT.TA.mono (fun u H hH hle _ v1 hv1 => UT.bal_ret _ () _ _ hH (UT.TA.le (by assumption) hle) hv1 (by first | omega | (simp only [Tr.size_node]; omega)))) rfl ?_;refine ZdJ ?_
    refine ye L (rs:=[.tmp 6]) rfl (fun _ _ h => h) Since.refl fun u H hH hle => ?_
    exact fun v hv => hv
   ·rw [if_neg h2]
    refine Zaf ?_;refine ZN ?_;refine Zb8 ?_;refine Zr ?_;refine Zee ?_;refine Za5 ?_;refine Zef ?_;refine z8 (zp L rfl rfl (zk rfl) rfl rfl hc.fn (fun u H hH _ _ => hc.ret _ _ u H hH)) rfl ?_;refine Zw ?_;refine Zai ?_;refine Zu ?_;refine Z4 ?_;refine Zbq ?_;refine ZD ?_;refine Z7 ?_;refine Zff ?_;refine ZbF ?_;refine zh ?_;refine ZbY ?_;refine Zg5 ?_;refine z8 (zs1 rfl rfl rfl (by kernel_rfl)) rfl ?_;refine z8 (zq9 L rfl rfl rfl rfl) rfl ?_;refine z8 (yx (cs:=[_, _, _, _, _, _]) rfl rfl z32 rfl rfl) rfl ?_;refine Za2 ?_;refine Za2 ?_;refine z8 (yw L rfl rfl (zk rfl) rfl rfl rfl UT.TA.mono (fun u H hH hle _ => UT.join_ret _ () _ _ hH (UT.TA.le (by assumption) hle) (UT.TA.le (by assumption) hle) (by first | omega | (simp only [Tr.size_node]; omega)))) rfl ?_;refine ZdJ ?_
    refine ye L (rs:=[.tmp 6]) rfl (fun _ _ h => h) Since.refl fun u H hH hle => ?_
    exact fun v hv => hv
abbrev FirstS (y:(KT × VT) × Tr KT VT):Value → Heap → Prop:=TupS [fun v _ => v = .agg (pl y.1.1 y.1.2).toArray, TA y.2]
theorem FirstS.mono {y:(KT × VT) × Tr KT VT}:Kn.mono (.sat (FirstS y)):=TupS.mono fun φ hφ => by
 simp only [List.mem_cons, List.mem_nil_iff, or_false] at hφ
 rcases hφ with rfl | rfl
 ·exact fun _ _ _ h _ => h
 ·exact TA.mono
theorem zpo {φ ψ:Value → Heap → Prop} {v w:Value} {H:Heap} (h1:φ v H) (h2:ψ w H):TupS [φ, ψ] (tup [v, w]) H:=⟨[v, w], rfl, rfl, fun i χ x hi hx => by
 match i with
 | 0 => cases hi; cases hx; exact h1
 | 1 => cases hi; cases hx; exact h2
 | _ + 2 => cases hi⟩
theorem first_ret:∀ (k:KT) (x:VT) (l r:Tr KT VT) {v:Value} {w:World} {B:Heap}, B.Le (hp w) → TA (.node k x l r) v B → l.size + r.size < 1099511627776 →
  Ret Tryz.prog 177 [v] w B (FirstS (Tr.first k x l r)):=by
 intro k x l
 induction l generalizing k x with
 | nil =>
  intro r v w B hB hv hs
  obtain ⟨b, lv, rv, rfl, hb, hl, hr⟩:=hv
  obtain rfl:lv = .pointer none:=hl
  refine yf Tryz.func177 rfl Tryz.ntmps177 (Nat.le_of_ble_eq_true rfl) hB ?_
  refine ZcL ?_;refine ZN ?_;refine Zce ?_;refine Zb8 ?_;refine Z0 ?_;refine ZeL ?_;refine Zdi ?_;refine Za2 ?_;refine Ze1 ?_;refine Zw ?_
  refine ye L (rs:=[.cell 2 158, .tmp 3]) rfl (fun _ _ h => h) Since.refl fun u H hH hle => ?_
  refine Zdj ?_
  exact zpo rfl (TA.le hr hle)
 | node lk lx ll lr ih _ =>
  intro r v w B hB hv hs
  obtain ⟨b, lv, rv, rfl, hb, hl, hr⟩:=hv
  have hl0:=hl
  obtain ⟨b2, v3, v4, rfl, hb2, _, _⟩:=hl
  have hz:=Tr.size_first lk lx ll lr
  simp only [Tr.size_node] at hs
  have hm:=TA.mono (t:=(Tr.first lk lx ll lr).2)
  refine yf Tryz.func177 rfl Tryz.ntmps177 (Nat.le_of_ble_eq_true rfl) hB ?_
  refine ZcL ?_;refine ZN ?_;refine Zce ?_;refine Zb8 ?_;refine Zx ?_;refine Z1 ?_;refine Zce ?_;refine z7 (yw L rfl rfl (zk rfl) rfl rfl rfl FirstS.mono (fun u H hH hle _ => ih lk lx lr hH (TA.le hl0 hle) (by omega))) rfl ?_;refine Zf ?_;refine Zgm ?_;refine Zgl ?_;refine ZX ?_;refine ZdK ?_;refine Zck ?_;refine z8 (zw L (vs:=[_, _, _, _, _, _]) (yl rfl) rfl rfl rfl rfl ⟨_, rfl⟩) rfl ?_;refine Zdi ?_;refine Zah ?_;refine Za2 ?_;refine z8 (yw L rfl rfl (zk rfl) rfl rfl rfl UT.TA.mono (fun u H hH hle _ v1 hv1 => UT.bal_ret _ () _ _ hH hv1 (UT.TA.le (by assumption) hle) (by first | omega | (simp only [Tr.size_node]; omega)))) rfl ?_;refine Ze1 ?_;refine ZdJ ?_
  refine ye L (rs:=[.cell 2 158, .tmp 3]) rfl (fun _ _ h => h) Since.refl fun u H hH hle => ?_
  refine Zdj ?_
  exact fun v hv => zpo rfl hv
abbrev DropS (y:Tr KT VT × Bool):Value → Heap → Prop:=TupS [TA y.1, fun v _ => v = .bool y.2]
theorem DropS.mono {y:Tr KT VT × Bool}:Kn.mono (.sat (DropS y)):=TupS.mono fun φ hφ => by
 simp only [List.mem_cons, List.mem_nil_iff, or_false] at hφ
 rcases hφ with rfl | rfl
 ·exact TA.mono
 ·exact fun _ _ _ h _ => h
theorem zzd {cf:Nat} {c:KT → KT → Int} (hc:Cmp cf c) (root:Value) (k:KT):∀ (t:Tr KT VT) {rv:Value} {w:World} {B:Heap}, B.Le (hp w) → TA t rv B → t.size < 1099511627776 →
  Ret Tryz.prog 163 [mv cf root, rv, kv k] w B (DropS (Tr.drop c k t)):=by
 intro t
 induction t with
 | nil =>
  intro rv w B hB hv hs
  obtain rfl:rv = .pointer none:=hv
  have hn:TA .nil (.pointer none) B:=rfl
  refine yf Tryz.func163 rfl Tryz.ntmps163 (Nat.le_of_ble_eq_true rfl) hB ?_
  refine Zaf ?_;refine ZF ?_;refine ZN ?_;refine Zb8 ?_;refine Zbw ?_;refine Zk ?_
  refine ye L (rs:=[.tmp 6, .tmp 7]) rfl (fun _ _ h => h) Since.refl fun u H hH hle => ?_
  exact zpo rfl rfl
 | node nk nx l r ihl ihr =>
  intro rv w B hB hv hs
  obtain ⟨b, lv, rv', rfl, hb, hl, hr⟩:=hv
  have hpl:=Tr.size_drop c k l
  have hpr:=Tr.size_drop c k r
  simp only [Tr.size_node] at hs
  refine yf Tryz.func163 rfl Tryz.ntmps163 (Nat.le_of_ble_eq_true rfl) hB ?_
  unfold Tr.drop
  by_cases h1:c k nk < 0
  ·rw [if_pos h1]
   have hm:=TA.mono (t:=(Tr.drop c k l).1)
   refine Zaf ?_;refine ZF ?_;refine ZN ?_;refine Zb8 ?_;refine Zr ?_;refine Zee ?_;refine Zef ?_;refine z8 (zp L rfl rfl (zk rfl) rfl rfl hc.fn (fun u H hH _ _ => hc.ret _ _ u H hH)) rfl ?_;refine Zw ?_;refine Zai ?_;refine Zu ?_;refine ZT ?_;refine Zbr ?_;refine Zfa ?_;refine ZbS ?_;refine Za2 ?_;refine Zb4 ?_;refine z8 (yw L rfl rfl (zk rfl) rfl rfl rfl DropS.mono (fun u H hH hle _ => ihl hH (hl.le hle) (by omega))) rfl ?_;refine Zah ?_;refine Ze3 ?_;refine Ze4 ?_;refine Zdh ?_;refine Zdk ?_;refine Zew ?_;refine Zdi ?_;refine Zah ?_;refine Za2 ?_;refine z8 (yw L rfl rfl (zk rfl) rfl rfl rfl UT.TA.mono (fun u H hH hle _ v1 hv1 => UT.bal_ret _ () _ _ hH hv1 (UT.TA.le (by assumption) hle) (by first | omega | (simp only [Tr.size_node]; omega)))) rfl ?_;refine Zh ?_;refine Zdh ?_;refine Zw ?_
   refine ye L (rs:=[.tmp 6, .tmp 7]) rfl (fun _ _ h => h) Since.refl fun u H hH hle => ?_
   exact fun v hv => zpo hv rfl
  ·rw [if_neg h1]
   by_cases h2:c k nk > 0
   ·rw [if_pos h2]
    have hm:=TA.mono (t:=(Tr.drop c k r).1)
    refine Zaf ?_;refine ZF ?_;refine ZN ?_;refine Zb8 ?_;refine Zr ?_;refine Zee ?_;refine Zef ?_;refine z8 (zp L rfl rfl (zk rfl) rfl rfl hc.fn (fun u H hH _ _ => hc.ret _ _ u H hH)) rfl ?_;refine Zw ?_;refine Zai ?_;refine Zu ?_;refine Z4 ?_;refine Zbq ?_;refine Z5 ?_;refine ZC ?_;refine Zbr ?_;refine ZbY ?_;refine ZbS ?_;refine Za2 ?_;refine Zb4 ?_;refine z8 (yw L rfl rfl (zk rfl) rfl rfl rfl DropS.mono (fun u H hH hle _ => ihr hH (hr.le hle) (by omega))) rfl ?_;refine Zah ?_;refine Ze3 ?_;refine Ze4 ?_;refine Zdh ?_;refine Zdk ?_;refine qg (id:=9) [] mixed (by kernel_rfl) ?_;refine Zdi ?_;refine Za2 ?_;refine Zah ?_;refine z8 (yw L rfl rfl (zk rfl) rfl rfl rfl UT.TA.mono (fun u H hH hle _ v1 hv1 => UT.bal_ret _ () _ _ hH (UT.TA.le (by assumption) hle) hv1 (by first | omega | (simp only [Tr.size_node]; omega)))) rfl ?_;refine Zh ?_;refine Zdh ?_;refine Zw ?_
    refine ye L (rs:=[.tmp 6, .tmp 7]) rfl (fun _ _ h => h) Since.refl fun u H hH hle => ?_
    exact fun v hv => zpo hv rfl
   ·rw [if_neg h2]
    cases r with
    | nil =>
     obtain rfl:rv' = .pointer none:=hr
     refine Zaf ?_;refine ZF ?_;refine ZN ?_;refine Zb8 ?_;refine Zr ?_;refine Zee ?_;refine Zef ?_;refine z8 (zp L rfl rfl (zk rfl) rfl rfl hc.fn (fun u H hH _ _ => hc.ret _ _ u H hH)) rfl ?_;refine Zw ?_;refine Zai ?_;refine Zu ?_;refine Z4 ?_;refine Zbq ?_;refine Z5 ?_;refine Z7 ?_;refine Zbq ?_;refine ZcF ?_;refine Zce ?_;refine Zb8 ?_;refine Zbr ?_;refine Zb5 ?_;refine Zce ?_;refine Zk ?_
     refine ye L (rs:=[.tmp 6, .tmp 7]) rfl (fun _ _ h => h) Since.refl fun u H hH hle => ?_
     exact zpo (TA.le hl hle) rfl
    | node rk rx rl rr =>
     have hr0:=hr
     obtain ⟨b2, v3, v4, rfl, hb2, _, _⟩:=hr
     have hz:=Tr.size_first rk rx rl rr
     simp only [Tr.size_node] at hs
     have hm:=TA.mono (t:=(Tr.first rk rx rl rr).2)
     refine Zaf ?_;refine ZF ?_;refine ZN ?_;refine Zb8 ?_;refine Zr ?_;refine Zee ?_;refine Zef ?_;refine z8 (zp L rfl rfl (zk rfl) rfl rfl hc.fn (fun u H hH _ _ => hc.ret _ _ u H hH)) rfl ?_;refine Zw ?_;refine Zai ?_;refine Zu ?_;refine Z4 ?_;refine Zbq ?_;refine Z5 ?_;refine Z7 ?_;refine Zbq ?_;refine ZcF ?_;refine Zce ?_;refine Zb8 ?_;refine Zff ?_;refine ZbF ?_;refine zh ?_;refine ZQ ?_;refine Za ?_;refine Zce ?_;refine z7 (yw L rfl rfl (zk rfl) rfl rfl rfl FirstS.mono (fun u H hH hle _ => first_ret rk rx rl rr hH (TA.le hr0 hle) (by omega))) rfl ?_;refine Zf ?_;refine Zgm ?_;refine Zgl ?_;refine ZX ?_;refine ZdK ?_;refine Zfg ?_;refine z8 (zw L (vs:=[_, _, _, _, _, _]) (yl rfl) rfl rfl rfl rfl ⟨_, rfl⟩) rfl ?_;refine Za2 ?_;refine Zah ?_;refine z8 (yw L rfl rfl (zk rfl) rfl rfl rfl UT.TA.mono (fun u H hH hle _ v1 hv1 => UT.bal_ret _ () _ _ hH (UT.TA.le (by assumption) hle) hv1 (by first | omega | (simp only [Tr.size_node]; omega)))) rfl ?_;refine Zdh ?_;refine Zw ?_
     refine ye L (rs:=[.tmp 6, .tmp 7]) rfl (fun _ _ h => h) Since.refl fun u H hH hle => ?_
     exact fun v hv => zpo hv rfl
end Go.V.UT
set_option maxRecDepth 20000
namespace Go.V.UT
open Go.Proofs Go.RowKit Go.V
theorem _root_.Go.V.Zcy {A B:Prop} (h:B) (t:Wr B → A:=by intro h; refine z7 (zw L (vs:=[_, _]) (zh1 rfl (List.Mem.head _)) rfl rfl rfl rfl ⟨_, rfl⟩) rfl ?_;exact h.h):A:=t ⟨h⟩
theorem _root_.Go.V.ZfM {A B:Prop} (h:B) (t:Wr B → A:=by intro h; refine z7 (z15 rfl rfl rfl rfl) rfl ?_;exact h.h):A:=t ⟨h⟩
theorem _root_.Go.V.Zfp {A B:Prop} (h:B) (t:Wr B → A:=by intro h; refine z7 (qf L (zh1 rfl (List.Mem.head _)) rfl rfl rfl rfl) rfl ?_;exact h.h):A:=t ⟨h⟩
theorem _root_.Go.V.Zfq {A B:Prop} (h:B) (t:Wr B → A:=by intro h; refine zpd L (O1:=[]) rfl rfl rfl rfl rfl rfl rfl rfl rfl ?_;exact h.h):A:=t ⟨h⟩
theorem _root_.Go.V.ZU {A B:Prop} (h:B) (t:Wr B → A:=by intro h; refine Z6 ?_;refine Zc ?_;exact h.h):A:=t ⟨h⟩
theorem _root_.Go.V.Zf6 {A B:Prop} (h:B) (t:Wr B → A:=by intro h; refine ZaB ?_;refine Zai ?_;exact h.h):A:=t ⟨h⟩
theorem _root_.Go.V.Za3 {A B:Prop} (h:B) (t:Wr B → A:=by intro h; refine ZaT ?_;refine yc ?_;exact h.h):A:=t ⟨h⟩
theorem _root_.Go.V.Zbg {A B:Prop} (h:B) (t:Wr B → A:=by intro h; refine Zau ?_;refine Z6 ?_;exact h.h):A:=t ⟨h⟩
theorem _root_.Go.V.Zcf {A B:Prop} (h:B) (t:Wr B → A:=by intro h; refine ZW ?_;refine Zf6 ?_;exact h.h):A:=t ⟨h⟩
theorem _root_.Go.V.Zg6 {A B:Prop} (h:B) (t:Wr B → A:=by intro h; refine Zgm ?_;refine Zb6 ?_;exact h.h):A:=t ⟨h⟩
theorem _root_.Go.V.ZfN {A B:Prop} (h:B) (t:Wr B → A:=by intro h; refine ZcH ?_;refine z7 (zmz rfl rfl rfl rfl z6e rfl rfl) rfl ?_;exact h.h):A:=t ⟨h⟩
theorem _root_.Go.V.Zdl {A B:Prop} (h:B) (t:Wr B → A:=by intro h; refine ZR ?_;refine ZfM ?_;exact h.h):A:=t ⟨h⟩
theorem _root_.Go.V.ZgI {A B:Prop} (h:B) (t:Wr B → A:=by intro h; refine Zf ?_;refine Zgl ?_;exact h.h):A:=t ⟨h⟩
theorem _root_.Go.V.Zdm {A B:Prop} (h:B) (t:Wr B → A:=by intro h; refine ZgI ?_;refine Zg6 ?_;exact h.h):A:=t ⟨h⟩
theorem _root_.Go.V.Zeg {A B:Prop} (h:B) (t:Wr B → A:=by intro h; refine Zt ?_;refine Zf ?_;exact h.h):A:=t ⟨h⟩
def MA (fv:Value) (t:Tr KT VT):Value → Heap → Prop:=fun v H => ∃ p, v = .agg #[fv, .pointer p] ∧ TA t (.pointer p) H
theorem MA.mono {fv:Value} {t:Tr KT VT}:Kn.mono (.sat (MA fv t)):=fun _ _ _ ⟨p, hv, h⟩ hle => ⟨p, hv, h.le hle⟩
attribute [local irreducible] V N X VO Par StepOK Has Ret RetL Src
theorem new_ret (cf:Nat) {w:World} {B:Heap} (hB:B.Le (hp w)):Ret Tryz.prog 138 [.func (.func cf) #[] #[]] w B (fun v _ => v = .agg #[.func (.func cf) #[] #[], .pointer none]):=by
 refine yf Tryz.func138 rfl Tryz.ntmps138 (Nat.le_of_ble_eq_true rfl) hB ?_
 refine ZcL ?_;refine Zm ?_;refine Zae ?_;refine Za ?_;refine z7 (yx (cs:=[_, _]) rfl rfl z7w rfl rfl) rfl ?_;refine Zbg ?_
 refine ye L (rs:=[.cell 2 41]) rfl (fun _ _ h => h) Since.refl fun u H hH hle => ?_
 refine Zdj ?_
 rfl
theorem zp9 {fv root:Value} {t:Tr KT VT} {w:World} {B:Heap} (hB:B.Le (hp w)) (hv:TA t root B):Ret Tryz.prog 75 [.agg #[fv, root]] w B (fun v _ => v = .int .i64 t.size):=by
 refine yf Tryz.func75 rfl Tryz.ntmps75 (Nat.le_of_ble_eq_true rfl) hB ?_
 refine Zb0 ?_;refine Zv ?_;refine z7 (zp L rfl rfl (zk rfl) rfl rfl rfl (fun u H hH hle _ => UT.size_ret _ hH (UT.TA.le (by assumption) hle))) rfl ?_;refine Zb ?_
 refine ye L (rs:=[.tmp 2]) rfl (fun _ _ h => h) Since.refl fun u H hH hle => ?_
 rfl
theorem zym {cf:Nat} {c:KT → KT → Int} (hc:Cmp cf c) {p:Option Addr} (k:KT) (x:VT) {t:Tr KT VT} {w:World} {B:Heap} (hB:B.Le (hp w)) (hv:TA t (.pointer p) B) (hs:t.size + 1 < 1099511627776) :
  Ret Tryz.prog 140 [mv cf (.pointer p), kv k, vv x] w B (MA (.func (.func cf) #[] #[]) (Tr.put c k x t)):=by
 refine yf Tryz.func140 rfl Tryz.ntmps140 (Nat.le_of_ble_eq_true rfl) hB ?_
 refine Zdl ?_;refine ZcC ?_;refine ZcC ?_;refine ZaV ?_;refine ZU ?_;(refine zlh 3 rfl ?_;intro b3 hb3); refine Zae ?_;refine ZaG ?_;refine Zfp ?_;refine z7 (zmz rfl rfl rfl rfl z7x rfl rfl) rfl ?_;refine ZW ?_;refine Zy ?_;refine Zcy ?_;refine ZaG ?_;refine Zfp ?_;refine ZeJ ?_;refine z7 (zw L (vs:=[]) (qo rfl) rfl rfl rfl rfl ⟨_, rfl⟩) rfl ?_;refine z7 (yx (cs:=[_, _, _, _, _, _]) rfl rfl z32 rfl rfl) rfl ?_;refine z7 (yw L rfl rfl (zk rfl) rfl rfl rfl TA.mono (fun u H hH hle _ => z1q hc _ k x t hH (hv.le hle) hs)) rfl ?_;refine zbq 16 rfl ?_;intro p16 H16 hs16 hp16; obtain ⟨q16, rfl⟩:=TA.ptr hp16; refine ZaG ?_;refine Zfq ?_;refine Zm ?_;refine Zt ?_;refine Zcy ?_;refine Zbg ?_
 refine ye L (rs:=[.cell 6 41]) rfl (fun _ _ h => h) hs16 fun u H hH hle => ?_
 refine Zdj ?_
 exact ⟨q16, rfl, hp16.le hle⟩
theorem zv3 {cf:Nat} {c:KT → KT → Int} (hc:Cmp cf c) {p:Option Addr} (k:KT) {t:Tr KT VT} {w:World} {B:Heap} (hB:B.Le (hp w)) (hv:TA t (.pointer p) B) (hs:t.size < 1099511627776) :
  Ret Tryz.prog 139 [mv cf (.pointer p), kv k] w B (MA (.func (.func cf) #[] #[]) (if (Tr.drop c k t).2 = true then (Tr.drop c k t).1 else t)):=by
 have hD:=fun (u:World) (H:Heap) (hH:H.Le (hp u)) (hle:B.Le H) => zzd hc (.pointer p) k t hH (hv.le hle) hs
 rcases hq:Tr.drop c k t with ⟨t', was⟩
 rw [hq] at hD
 have hm:=TA.mono (t:=t')
 cases was
 ·rw [if_neg (by simp)]
  refine yf Tryz.func139 rfl Tryz.ntmps139 (Nat.le_of_ble_eq_true rfl) hB ?_
  refine Zdl ?_;refine ZcC ?_;refine ZaV ?_;refine ZU ?_;(refine zlh 2 rfl ?_;intro b2 hb2); refine Zae ?_;refine Zcy ?_;refine ZaG ?_;refine Zfp ?_;refine ZeJ ?_;refine z7 (yw L rfl rfl (zk rfl) rfl rfl rfl DropS.mono (fun u H hH hle _ => hD u H hH hle)) rfl ?_;refine Zdm ?_;refine ZaF ?_;refine Zx ?_;refine ZV ?_;refine Zcy ?_;refine Zbg ?_
  refine ye L (rs:=[.cell 4 41]) rfl (fun _ _ h => h) Since.refl fun u H hH hle => ?_
  refine Zdj ?_
  exact ⟨p, rfl, hv.le hle⟩
 ·rw [if_pos rfl]
  refine yf Tryz.func139 rfl Tryz.ntmps139 (Nat.le_of_ble_eq_true rfl) hB ?_
  refine Zdl ?_;refine ZcC ?_;refine ZaV ?_;refine ZU ?_;(refine zlh 2 rfl ?_;intro b2 hb2); refine Zae ?_;refine Zcy ?_;refine ZaG ?_;refine Zfp ?_;refine ZeJ ?_;refine z7 (yw L rfl rfl (zk rfl) rfl rfl rfl DropS.mono (fun u H hH hle _ => hD u H hH hle)) rfl ?_;refine Zdm ?_;refine ZaF ?_;refine ZW ?_;refine Zeg ?_;refine zbq 16 rfl ?_;intro p16 H16 hs16 hp16; obtain ⟨q16, rfl⟩:=TA.ptr hp16; refine ZaG ?_;refine Zfq ?_;refine Zm ?_;refine ZV ?_;refine Zcy ?_;refine Zbg ?_
  refine ye L (rs:=[.cell 4 41]) rfl (fun _ _ h => h) hs16 fun u H hH hle => ?_
  refine Zdj ?_
  exact ⟨q16, rfl, hp16.le hle⟩
def z7l:Option VT → List Value
 | some x => [vv x, .bool true]
 | none => [.agg #[], .bool false]
theorem z2i {cf:Nat} {c:KT → KT → Int} (hc:Cmp cf c) (k:KT) {root:Value} {t:Tr KT VT} {w:World} {B:Heap} (hB:B.Le (hp w)) (hv:TA t root B) :
  Ret Tryz.prog 77 [mv cf root, kv k] w B (fun v _ => v = tup (z7l (Tr.get c k t))):=by
 refine yf Tryz.func77 rfl Tryz.ntmps77 (Nat.le_of_ble_eq_true rfl) hB ?_
 refine Zaf ?_;refine ZaV ?_;refine ZS ?_;refine Zv ?_;refine Ze ?_;refine qh ?_
 refine zal (fun s:Tr KT VT × Value => [(3, .sat (At [.string k.1.1.1, .string k.1.1.2, .string k.1.2, .string k.2.1.1, .string k.2.1.2, .string k.2.2] 114 0)), (4, .own (Cell [] 156)), (2, .sat (At [.func (.func cf) #[] #[], root] 41 0)), (6, .is s.2)])
  (fun s => TA s.1 s.2 B ∧ Tr.get c k s.1 = Tr.get c k t) (fun s => s.1.size) (t, root) ⟨hv, rfl⟩ (by repeat (first | exact trivial | refine ⟨rfl, ?_⟩)) ?_
 rintro ⟨s, v⟩ ⟨hs, hg⟩
 dsimp only at hs hg ⊢
 cases s with
 | nil =>
  obtain rfl:v = .pointer none:=hs
  refine ZfN ?_;refine ZdF ?_;refine ZM ?_;refine ZaV ?_;refine Zm ?_;refine Zag ?_;refine z7 (zw L (vs:=[]) (yl rfl) rfl rfl rfl rfl ⟨_, rfl⟩) rfl ?_;refine Za0 ?_
  refine ye L (rs:=[.cell 4 156, .tmp 5]) rfl (fun _ _ h => h) Since.refl fun u H hH hle => ?_
  first | (rw [← hg]; rfl) | (refine zh4 (yl rfl) rfl rfl ?_;rw [← hg]; rfl)
 | node nk nx l r =>
  obtain ⟨b, lv, rv, rfl, hb, hl, hr⟩:=hs
  by_cases h0:c k nk = 0
  ·rw [Tr.get_eq h0] at hg
   refine ZfN ?_;refine Zcf ?_;refine Zee ?_;refine Zef ?_;refine z8 (zp L rfl rfl (zk rfl) rfl rfl hc.fn (fun u H hH _ _ => hc.ret _ _ u H hH)) rfl ?_;refine Zw ?_;refine ZbX ?_;refine ZbZ ?_;refine Z9 ?_;refine Zcd ?_;refine z7 (zsz (by assumption) rfl rfl rfl (by kernel_rfl)) rfl ?_;refine z7 (zq9 L rfl rfl rfl rfl) rfl ?_;refine Za0 ?_
   refine ye L (rs:=[.cell 4 156, .tmp 5]) rfl (fun _ _ h => h) Since.refl fun u H hH hle => ?_
   first | (rw [← hg]; rfl) | (refine zh4 (yl rfl) rfl rfl ?_;rw [← hg]; rfl)
  ·by_cases h1:c k nk < 0
   ·rw [Tr.get_lt h1] at hg
    refine ZfN ?_;refine Zcf ?_;refine Zee ?_;refine Zef ?_;refine z8 (zp L rfl rfl (zk rfl) rfl rfl hc.fn (fun u H hH _ _ => hc.ret _ _ u H hH)) rfl ?_;refine Zw ?_;refine ZbX ?_;refine Zax ?_;refine ZD ?_;refine ZbG ?_;refine Z5 ?_;refine Zce ?_;refine Za3 ?_
    exact yi (x:=(Tr.node nk nx l r, Value.pointer (some ⟨b, 0, none⟩))) (l, lv) ⟨hl, hg⟩ (by simp only [Tr.size_node]; omega) (by repeat (first | exact trivial | refine ⟨rfl, ?_⟩))
   ·rw [Tr.get_gt h0 h1] at hg
    refine ZfN ?_;refine Zcf ?_;refine Zee ?_;refine Zef ?_;refine z8 (zp L rfl rfl (zk rfl) rfl rfl hc.fn (fun u H hH _ _ => hc.ret _ _ u H hH)) rfl ?_;refine Zw ?_;refine ZbX ?_;refine Zax ?_;refine ZD ?_;refine Z4 ?_;refine ZeC ?_;refine Zbz ?_;refine Zce ?_;refine Za3 ?_
    exact yi (x:=(Tr.node nk nx l r, Value.pointer (some ⟨b, 0, none⟩))) (r, rv) ⟨hr, hg⟩ (by simp only [Tr.size_node]; omega) (by repeat (first | exact trivial | refine ⟨rfl, ?_⟩))
end Go.V.UT
set_option maxRecDepth 20000
namespace Go.V.UT
open Go.Proofs Go.RowKit Go.V
theorem _root_.Go.V.Zbh {A B:Prop} (h:B) (t:Wr B → A:=by intro h; refine z7 (zw L (vs:=[_, _, _, _, _, _]) (yl rfl) rfl rfl rfl rfl ⟨_, rfl⟩) rfl ?_;exact h.h):A:=t ⟨h⟩
theorem _root_.Go.V.Zg7 {A B:Prop} (h:B) (t:Wr B → A:=by intro h; refine z8 (zra rfl rfl rfl rfl (decide_eq_true (by omega))) rfl ?_;exact h.h):A:=t ⟨h⟩
theorem _root_.Go.V.ZeN {A B:Prop} (h:B) (t:Wr B → A:=by intro h; refine z8 (zra rfl rfl rfl rfl (decide_eq_false (by omega))) rfl ?_;exact h.h):A:=t ⟨h⟩
theorem _root_.Go.V.Zb9 {A B:Prop} (h:B) (t:Wr B → A:=by intro h; refine Zfd ?_;refine ZaR ?_;exact h.h):A:=t ⟨h⟩
theorem _root_.Go.V.Zeh {A B:Prop} (h:B) (t:Wr B → A:=by intro h; refine Zh ?_;refine ZB ?_;exact h.h):A:=t ⟨h⟩
theorem _root_.Go.V.ZfO {A B:Prop} (h:B) (t:Wr B → A:=by intro h; refine qg (id:=6) [(60, [77])] mixed (by kernel_rfl) ?_;refine Zeh ?_;exact h.h):A:=t ⟨h⟩
theorem _root_.Go.V.Zgn {A B:Prop} (h:B) (t:Wr B → A:=by intro h; refine Zai ?_;refine ZM ?_;exact h.h):A:=t ⟨h⟩
theorem _root_.Go.V.ZfP {A B:Prop} (h:B) (t:Wr B → A:=by intro h; refine ZB ?_;refine z8 (zgy rfl rfl rfl rfl z6e rfl) rfl ?_;exact h.h):A:=t ⟨h⟩
theorem _root_.Go.V.Zei {A B:Prop} (h:B) (t:Wr B → A:=by intro h; refine Zct ?_;refine Zd6 ?_;exact h.h):A:=t ⟨h⟩
def encP (y:KT × VT):List Value:=[.agg (pl y.1 y.2).toArray]
def PairsAt (t:Tr KT VT) (a f e:Int):Value → Heap → Prop:=fun v H => ∃ b1 b2 b3 b4 root, v = .func (.func 154) #[] #[.pointer (some ⟨b1, 0, none⟩), .pointer (some ⟨b2, 0, none⟩), .pointer (some ⟨b3, 0, none⟩), .pointer (some ⟨b4, 0, none⟩)] ∧
 H b1 = some (.cells [root].toArray 39) ∧ H b2 = some (.cells [.int .i64 a].toArray 3) ∧ H b3 = some (.cells [.int .i64 f].toArray 3) ∧ H b4 = some (.cells [.int .i64 e].toArray 3) ∧ TA t root H
theorem PairsAt.mono {t:Tr KT VT} {a f e:Int}:Kn.mono (.sat (PairsAt t a f e)):=fun _ _ _ ⟨b1, b2, b3, b4, root, h0, h1, h2, h3, h4, h5⟩ hle => ⟨b1, b2, b3, b4, root, h0, hle _ _ h1, hle _ _ h2, hle _ _ h3, hle _ _ h4, h5.le hle⟩
attribute [local irreducible] V N X VO Par StepOK Has Ret RetL Src
theorem zkj (t:Tr KT VT) (a f e:Int) {root:Value} {w:World} {B:Heap} (hB:B.Le (hp w)) (hv:TA t root B) :
  Ret Tryz.prog 114 [root, .int .i64 a, .int .i64 f, .int .i64 e] w B (PairsAt t a f e):=by
 obtain ⟨p, rfl⟩:=hv.ptr
 refine yf Tryz.func114 rfl Tryz.ntmps114 (Nat.le_of_ble_eq_true rfl) hB ?_
 refine Zaf ?_;refine ZcC ?_;refine ZcC ?_;refine Ze ?_
 refine zno 4 rfl fun v1 H1 hs1 ⟨b1, e1, h1⟩ => ?_
 subst e1
 refine zno 5 rfl fun v2 H2 hs2 ⟨b2, e2, h2⟩ => ?_
 subst e2
 refine zno 6 rfl fun v3 H3 hs3 ⟨b3, e3, h3⟩ => ?_
 subst e3
 refine zno 7 rfl fun v4 H4 hs4 ⟨b4, e4, h4⟩ => ?_
 subst e4
 refine Zae ?_;refine z7 (zff rfl rfl rfl rfl) rfl ?_;refine Zb ?_
 refine ye L (rs:=[.tmp 8]) rfl (fun _ _ h => h) (hs1.trans (hs2.trans (hs3.trans hs4))) fun u H hH hle => ?_
 exact ⟨b1, b2, b3, b4, _, rfl, hle _ _ (hs4.le _ _ (hs3.le _ _ (hs2.le _ _ h1))), hle _ _ (hs4.le _ _ (hs3.le _ _ h2)), hle _ _ (hs4.le _ _ h3), hle _ _ h4, (((hv.le hs1.le).le hs2.le).le (hs3.le.trans hs4.le)).le hle⟩
theorem zig {l:List (KT × VT)} {x:List Value} {pre:zdw} (h:pre ++ [x] <+: l.map encP):∃ y, x = encP y:=by
 have:x ∈ l.map encP:=h.subset (by simp)
 obtain ⟨y, _, rfl⟩:=List.mem_map.1 this
 exact ⟨y, rfl⟩
abbrev zmd:List Value → List Value
 | [.agg cs] => cs.toList
 | _ => []
set_option maxHeartbeats 2000000 in
set_option maxRecDepth 10000 in
theorem zyw:∀ (t:Tr KT VT) (a f e:Int) {b1 b2 b3 b4:Nat} {root:Value} {w:World} {B:Heap}, 0 ≤ a → a + t.size < 1099511627776 → B.Le (hp w) →
  B b1 = some (.cells [root].toArray 39) → B b2 = some (.cells [.int .i64 a].toArray 3) → B b3 = some (.cells [.int .i64 f].toArray 3) → B b4 = some (.cells [.int .i64 e].toArray 3) → TA t root B →
  z7b Tryz.prog 154 [.pointer (some ⟨b1, 0, none⟩), .pointer (some ⟨b2, 0, none⟩), .pointer (some ⟨b3, 0, none⟩), .pointer (some ⟨b4, 0, none⟩)] w B ((Tr.prs t a f e).map encP):=by
 intro t
 induction t with
 | nil =>
  intro a f e b1 b2 b3 b4 root w B ha hsz hB g1 g2 g3 g4 hv ly J stop C hst hY hJ hC
  obtain rfl:root = .pointer none:=hv
  refine zau 77 (J []) Tryz.func154 rfl Tryz.ntmps154 (Nat.le_of_ble_eq_true rfl) hB hJ hC ?_
  refine ZY ?_;refine ZU ?_;refine ZdT ?_;refine ZfP ?_;refine Ze2 ?_;refine Za1 ?_;refine Zh ?_;refine Zdg ?_;refine ZaM ?_;refine Zb9 ?_
  exact zbm L 77 rfl (fun _ _ h => h) Since.refl rfl rfl
 | node k x l r ihl ihr =>
  intro a f e b1 b2 b3 b4 root w B ha hsz hB g1 g2 g3 g4 hv ly J stop C hst hY hJ hC
  obtain ⟨b, lv, rv, rfl, hb, hl, hr⟩:=hv
  have hsn:(Tr.node k x l r).size = l.size + 1 + r.size:=rfl
  rw [hsn] at hsz
  refine zau 77 (J []) Tryz.func154 rfl Tryz.ntmps154 (Nat.le_of_ble_eq_true rfl) hB hJ hC ?_
  by_cases h1:a + ((Tr.node k x l r).size:Int) ≤ f
  ·have hx:Tr.prs (.node k x l r) a f e = []:=if_pos (.inl h1)
   refine ZY ?_;refine ZU ?_;refine ZdT ?_;refine ZfP ?_;refine Zeh ?_;refine ZB ?_;refine Zcx ?_;refine ZeK ?_;refine ZB ?_;refine Zg7 ?_;refine Za1 ?_;refine Zh ?_;refine Zdg ?_;refine ZaM ?_;refine Zb9 ?_
   exact zbm L 77 rfl (fun _ _ h => h) Since.refl rfl (by rw [hx]; rfl)
  ·by_cases h2:a ≥ e
   ·have hx:Tr.prs (.node k x l r) a f e = []:=if_pos (.inr h2)
    refine ZY ?_;refine ZU ?_;refine ZdT ?_;refine ZfP ?_;refine Zeh ?_;refine ZB ?_;refine Zcx ?_;refine ZeK ?_;refine ZB ?_;refine ZeN ?_;refine Za1 ?_;refine Zeh ?_;refine ZB ?_;refine ZeX ?_;refine Zb9 ?_
    exact zbm L 77 rfl (fun _ _ h => h) Since.refl rfl (by rw [hx]; rfl)
   ·have hx:Tr.prs (.node k x l r) a f e = Tr.prs l a f e ++ ((if a + (l.size:Int) ≥ f ∧ a + (l.size:Int) < e then [(k, x)] else []) ++ Tr.prs r (a + l.size + 1) f e) :=
     if_neg (by rintro (h | h); exact h1 h; exact h2 h)
    rw [hx] at hY ⊢
    simp only [List.map_append] at hY ⊢
    refine ZY ?_;refine ZU ?_;refine ZdT ?_;refine ZfP ?_;refine Zeh ?_;refine ZB ?_;refine Zcx ?_;refine ZeK ?_;refine ZB ?_;refine ZeN ?_;refine Za1 ?_;refine Zeh ?_;refine ZB ?_;refine Zf1 ?_;refine Zei ?_;refine ZeL ?_;refine ZB ?_;refine ZB ?_;refine Zcx ?_;refine z8 (zp L rfl rfl (zk rfl) rfl rfl rfl (fun u H hH hle _ => UT.size_ret _ hH (UT.TA.le (by assumption) hle))) rfl ?_;refine ZeK ?_;refine Zw ?_;refine Zc ?_;refine Ze0 ?_;refine ZB ?_;refine Zcx ?_;refine ZB ?_;refine ZB ?_;refine ZB ?_;refine z8 (yw L rfl rfl (zk rfl) rfl rfl rfl PairsAt.mono (fun u H hH hle _ => zkj l a f e hH (TA.le hl hle))) rfl ?_;refine Zaj ?_;refine qh ?_
    refine zno 5 rfl fun v5 H5 hs5 ⟨b5, e5, g5⟩ => ?_
    subst e5
    refine zno 40 rfl fun v40 H40 hs40 ⟨c1, c2, c3, c4, r1, e40, d1, d2, d3, d4, d5⟩ => ?_
    subst e40
    have hsB:=hs5.trans hs40
    have gg5:=hs40.le _ _ g5
    refine zg6 L (gf:=154) (caps:=[.pointer (some ⟨c1, 0, none⟩), .pointer (some ⟨c2, 0, none⟩), .pointer (some ⟨c3, 0, none⟩), .pointer (some ⟨c4, 0, none⟩)])
     [(1, .pointer (some ⟨b1, 0, none⟩)), (2, .pointer (some ⟨b2, 0, none⟩)), (3, .pointer (some ⟨b3, 0, none⟩)), (4, .pointer (some ⟨b4, 0, none⟩)), (5, .pointer (some ⟨b5, 0, none⟩)), (6, .int .i64 (a + l.size))]
     (fun pre => [(77, (J pre).res)]) (fun pre x => [(77, .own (J pre).res), (7, .own (Cell (zmd x) 158)), (5, .is (.pointer (some ⟨b5, 0, none⟩)))])
     ((Tr.prs l a f e).map encP) stop (fun _ => .ret) rfl rfl rfl ⟨rfl, rfl, rfl, rfl, rfl, rfl, rfl, trivial⟩
     (fun pre p hp => by simp only [List.mem_singleton] at hp; subst hp; exact Nat.le_refl _) hst (fun x hx => by obtain ⟨y, _, rfl⟩:=List.mem_map.1 hx; rfl) (by decide)
     (fun u H hH hle => ihl a f e ha (by omega) hH (hle _ _ d1) (hle _ _ d2) (hle _ _ d3) (hle _ _ d4) (d5.le hle)) ?asg ?bd ?dn ?st
    case asg =>
     intro w1 Ln B' l' D' o pre x' hpre hstp hBB
     obtain ⟨y, rfl⟩:=zig hpre
     refine ZV ?_;refine ZX ?_;refine zi ?_
     exact z27 Since.refl ⟨rfl, rfl, rfl, trivial⟩
    case bd =>
     intro w1 Ln B' l' D' o pre x' hpre hstp hBB
     obtain ⟨y, rfl⟩:=zig hpre
     have q5:=hBB _ _ gg5
     have hpre':=hpre.trans (List.prefix_append ((Tr.prs l a f e).map encP) (((if a + (l.size:Int) ≥ f ∧ a + (l.size:Int) < e then [(k, x)] else [])).map encP ++ (Tr.prs r (a + l.size + 1) f e).map encP))
     cases hb':stop (pre ++ [encP y])
     ·refine Zai ?_;refine Zo ?_;refine Zed ?_;refine Zbh ?_;refine qp (zgk (gs:=77) hY hpre' hstp (congrArg Bool.not hb') rfl rfl rfl rfl rfl) ?_;refine Zs ?_;refine ZaC ?_;refine yc ?_
      exact z28 Since.refl hb' ⟨rfl, trivial⟩
     ·refine Zai ?_;refine Zo ?_;refine Zed ?_;refine Zbh ?_;refine qp (zgk (gs:=77) hY hpre' hstp (congrArg Bool.not hb') rfl rfl rfl rfl rfl) ?_;refine Zs ?_;refine ZW ?_
      exact z0y (zxd (z5m Since.refl hb' rfl ⟨rfl, trivial⟩))
    case st =>
     intro l' D' o hstop
     exact zbm L 77 rfl (fun _ _ h => h) hsB rfl (by rw [zlm _ _ _ hstop hst])
    case dn =>
     intro l' D' o hgo
     have htk:=zmi (stop:=stop) ((Tr.prs l a f e).map encP) [] hgo
     simp only [List.nil_append] at htk
     rw [htk] at hgo ⊢
     have gg1:=hsB.le _ _ g1
     have gg2:=hsB.le _ _ g2
     have gg3:=hsB.le _ _ g3
     have gg4:=hsB.le _ _ g4
     have ggb:=hsB.le _ _ hb
     have ggr:=TA.le hr hsB.le
     refine yc ?_
     refine zj ?_
     refine zxb (fun M:zdw => [(77, .own (J M).res), (1, .is (.pointer (some ⟨b1, 0, none⟩))), (2, .is (.pointer (some ⟨b2, 0, none⟩))), (3, .is (.pointer (some ⟨b3, 0, none⟩))), (4, .is (.pointer (some ⟨b4, 0, none⟩))), (5, .is (.pointer (some ⟨b5, 0, none⟩))), (6, .is (.int .i64 (a + l.size)))])
      (fun M => stop M = false ∧ zcx stop [] M = M ∧ M ++ (Tr.prs r (a + l.size + 1) f e).map encP = (Tr.prs l a f e).map encP ++ (((if a + (l.size:Int) ≥ f ∧ a + (l.size:Int) < e then [(k, x)] else [])).map encP ++ (Tr.prs r (a + l.size + 1) f e).map encP)) ?one ?two
     case one =>
      by_cases hy1:a + (l.size:Int) ≥ f
      ·by_cases hy2:a + (l.size:Int) < e
       ·rw [if_pos ⟨hy1, hy2⟩] at hY ⊢
        have hpre:(Tr.prs l a f e).map encP ++ [encP (k, x)] <+: (Tr.prs l a f e).map encP ++ ([(k, x)].map encP ++ (Tr.prs r (a + l.size + 1) f e).map encP):=⟨(Tr.prs r (a + l.size + 1) f e).map encP, by simp⟩
        cases hb':stop ((Tr.prs l a f e).map encP ++ [encP (k, x)])
        ·refine zh ?_;refine ZfO ?_;refine ZeX ?_;refine Zi ?_;refine ZB ?_;refine ZbE ?_;refine Za1 ?_;refine Zeh ?_;refine ZB ?_;refine Zcc ?_;refine ZfK ?_;refine za2 (zgk (gs:=77) hY hpre hgo (congrArg Bool.not hb') rfl rfl rfl rfl rfl) rfl rfl ?_;refine ZI ?_;refine Zct ?_;refine zq ?_
         refine z26 ((Tr.prs l a f e).map encP ++ [encP (k, x)]) Since.refl ⟨hb', ?_, by simp⟩ ⟨rfl, rfl, rfl, rfl, rfl, rfl, rfl, trivial⟩
         rw [zgh _ _ _ (by rw [htk]; exact hgo), List.nil_append]
         simp only [zcx]
         split <;> rfl
        ·refine zh ?_;refine ZfO ?_;refine ZeX ?_;refine Zi ?_;refine ZB ?_;refine ZbE ?_;refine Za1 ?_;refine Zeh ?_;refine ZB ?_;refine Zcc ?_;refine ZfK ?_;refine za2 (zgk (gs:=77) hY hpre hgo (congrArg Bool.not hb') rfl rfl rfl rfl rfl) rfl rfl ?_;refine ZI ?_;refine Zb9 ?_
         refine zbm L 77 rfl (fun _ _ h => h) hsB rfl ?_
         rw [zgh _ _ _ (by rw [htk]; exact hgo), List.nil_append]
         simp only [List.map_cons, List.map_nil, List.cons_append, zcx]
         rw [if_pos hb']
       ·rw [if_neg (by rintro ⟨_, h⟩; exact hy2 h)]
        refine zh ?_;refine ZfO ?_;refine ZeX ?_;refine Zi ?_;refine ZB ?_;refine Zda ?_;refine Za1 ?_;refine Zfo ?_;refine Zdg ?_;refine ZaM ?_;refine Zct ?_;refine zq ?_
        exact z26 ((Tr.prs l a f e).map encP) Since.refl ⟨hgo, htk, by simp⟩ ⟨rfl, rfl, rfl, rfl, rfl, rfl, rfl, trivial⟩
      ·rw [if_neg (by rintro ⟨h, _⟩; exact hy1 h)]
       refine zh ?_;refine ZfO ?_;refine Zf1 ?_;refine Zh ?_;refine Zdg ?_;refine ZaM ?_;refine Za1 ?_;refine Zfo ?_;refine Zdg ?_;refine ZaM ?_;refine Zct ?_;refine zq ?_
       exact z26 ((Tr.prs l a f e).map encP) Since.refl ⟨hgo, htk, by simp⟩ ⟨rfl, rfl, rfl, rfl, rfl, rfl, rfl, trivial⟩
     case two =>
      rintro M ⟨hM1, hM2, hM3⟩
      rw [← hM3] at hY ⊢
      refine zh ?_;refine Zfn ?_;refine ZB ?_;refine Zcx ?_;refine Zh ?_;refine ZeK ?_;refine ZB ?_;refine ZB ?_;refine z8 (yw L rfl rfl (zk rfl) rfl rfl rfl PairsAt.mono (fun u H hH hle _ => zkj r (a + l.size + 1) f e hH (TA.le ggr hle))) rfl ?_;refine Zaj ?_;refine qh ?_
      refine zno 71 rfl fun v71 H71 hs71 ⟨c1, c2, c3, c4, r1, e71, d1, d2, d3, d4, d5⟩ => ?_
      subst e71
      have qq5:=hs71.le _ _ gg5
      have htot:zcx stop [] (M ++ (Tr.prs r (a + l.size + 1) f e).map encP) = M ++ zcx (fun p => stop (M ++ p)) [] ((Tr.prs r (a + l.size + 1) f e).map encP):=by
       rw [zgh _ _ _ (by rw [hM2]; exact hM1), zju, List.nil_append, List.append_nil]
      refine zg6 L (gf:=154) (caps:=[.pointer (some ⟨c1, 0, none⟩), .pointer (some ⟨c2, 0, none⟩), .pointer (some ⟨c3, 0, none⟩), .pointer (some ⟨c4, 0, none⟩)])
       [(5, .pointer (some ⟨b5, 0, none⟩))]
       (fun pre => [(77, (J (M ++ pre)).res)]) (fun pre x => [(77, .own (J (M ++ pre)).res), (8, .own (Cell (zmd x) 158)), (5, .is (.pointer (some ⟨b5, 0, none⟩)))])
       ((Tr.prs r (a + l.size + 1) f e).map encP) (fun p => stop (M ++ p)) (fun _ => .ret) rfl rfl rfl ⟨by rw [List.append_nil]; rfl, rfl, trivial⟩
       (fun pre p hp => by simp only [List.mem_singleton] at hp; subst hp; exact Nat.le_refl _) (by show stop (M ++ []) = false; rw [List.append_nil]; exact hM1) (fun x hx => by obtain ⟨y, _, rfl⟩:=List.mem_map.1 hx; rfl) (by decide)
       (fun u H hH hle => ihr (a + l.size + 1) f e (by omega) (by omega) hH (hle _ _ d1) (hle _ _ d2) (hle _ _ d3) (hle _ _ d4) (d5.le hle)) ?asg2 ?bd2 ?dn2 ?st2
      case asg2 =>
       intro w1 Ln B' l' D' o pre x' hpre hstp hBB
       obtain ⟨y, rfl⟩:=zig hpre
       refine Z8 ?_;refine ZX ?_;refine zi ?_
       exact z27 Since.refl ⟨rfl, rfl, rfl, trivial⟩
      case bd2 =>
       intro w1 Ln B' l' D' o pre x' hpre hstp hBB
       obtain ⟨y, rfl⟩:=zig hpre
       have q5:=hBB _ _ qq5
       have hpre':(M ++ pre) ++ [encP y] <+: M ++ (Tr.prs r (a + l.size + 1) f e).map encP:=by rw [List.append_assoc]; exact (List.prefix_append_right_inj M).2 hpre
       cases hb':stop ((M ++ pre) ++ [encP y])
       ·refine Zgn ?_;refine Zed ?_;refine Zbh ?_;refine qp (zgk (gs:=77) hY hpre' hstp (congrArg Bool.not hb') rfl rfl rfl rfl rfl) ?_;refine Zs ?_;refine ZaC ?_;refine yc ?_
        exact z28 Since.refl (by rw [← List.append_assoc]; exact hb') ⟨by rw [← List.append_assoc]; rfl, trivial⟩
       ·refine Zgn ?_;refine Zed ?_;refine Zbh ?_;refine qp (zgk (gs:=77) hY hpre' hstp (congrArg Bool.not hb') rfl rfl rfl rfl rfl) ?_;refine Zs ?_;refine ZW ?_
        exact z0y (zxd (z5m Since.refl (by rw [← List.append_assoc]; exact hb') rfl ⟨by rw [← List.append_assoc]; rfl, trivial⟩))
      case st2 =>
       intro l' D' o hstop
       exact zbm L 77 rfl (fun _ _ h => h) (hsB.trans hs71) rfl (by rw [htot])
      case dn2 =>
       intro l' D' o hgo2
       refine yc ?_
       exact zbe L 77 rfl (fun _ _ h => h) (hsB.trans hs71) rfl (by rw [htot])
end Go.V.UT
set_option maxRecDepth 20000
namespace Go.V.UT
open Go.Proofs Go.RowKit Go.V
theorem _root_.Go.V.Zfr {A B:Prop} (h:B) (t:Wr B → A:=by intro h; refine z7 (zyd L rfl rfl rfl rfl rfl rfl rfl) rfl ?_;exact h.h):A:=t ⟨h⟩
abbrev tyP:TypeId:=158
abbrev tyS:TypeId:=154
def flat (l:List (KT × VT)):List Value:=l.flatMap fun y => pl y.1 y.2
abbrev PS (l:List (KT × VT)) (fu:Bool):Value → Heap → Prop:=SlV tyP 6 (flat l) l.length fu
theorem ztt:∀ (pre:zdw) (l:List (KT × VT)), pre <+: l.map encP → ∃ m:List (KT × VT), pre = m.map encP ∧ m.length = pre.length ∧ pre.flatMap zmd = flat m:=by
 intro pre l h
 refine ⟨l.take pre.length, ?_, ?_, ?_⟩
 ·rw [List.map_take]; exact (List.prefix_iff_eq_take.1 h)
 ·rw [List.length_take]
  have:=h.length_le
  simp only [List.length_map] at this
  omega
 ·conv => lhs; rw [List.prefix_iff_eq_take.1 h, ← List.map_take]
  generalize l.take pre.length = m
  induction m with
  | nil => rfl
  | cons y m ih => simp only [List.map_cons, List.flatMap_cons, flat] at ih ⊢; rw [ih]; rfl
theorem zpp (xs:zdw):zcx (fun _ => false) [] xs = xs:=by
 have:=zmi (stop:=fun _ => false) xs [] rfl
 simpa using this
attribute [local irreducible] V N X VO Par StepOK Has Ret RetL Src
theorem zzj (l:List (KT × VT)) (fu:Bool) {v:Value} {w:World} {B:Heap} (hB:B.Le (hp w)) (hv:PS l fu v B):Ret Tryz.prog 112 [v] w B (PS l true):=by
 refine yf Tryz.func112 rfl Tryz.ntmps112 (Nat.le_of_ble_eq_true rfl) hB ?_
 refine zat 0 (PS l fu) rfl SlV.mono hv ?_
 refine ZaD ?_;refine Zf ?_;refine Zq ?_;refine Zq ?_;refine Zfr ?_;refine ZaZ ?_
 refine ye L (rs:=[.tmp 2]) rfl (fun _ _ h => h) Since.refl fun u H hH hle => ?_
 exact fun v hv => hv
set_option maxHeartbeats 1000000 in
theorem zzq (l:List (KT × VT)) (hl:l.length < 1099511627776) {x:Value} {gf:Nat} {caps:List Value} {w:World} {B:Heap} {C:Nat → Prop} (hB:B.Le (hp w)) (hx:(SlR tyP 6 0 []).P x B w C) (hC:∀ k, C k → k < w.heap.size ∧ B k = none)
  (hfn:L.fn gf = some ()) (hit:∀ u H, H.Le (hp u) → B.Le H → z7b Tryz.prog gf caps u H (l.map encP)) :
  RetL Tryz.prog 113 [x, .func (.func gf) #[] caps.toArray] w B C (fun v H _ => PS l false v H):=by
 refine znp 0 (x:=x) (SlR tyP 6 0 []) rfl Tryz.func113 rfl Tryz.ntmps113 (Nat.le_of_ble_eq_true rfl) hB hx hC ?_
 refine zzx 0 13 _ rfl SlR.shape fun y hy => ?_
 obtain ⟨p, c, rfl⟩:=hy
 refine Zdl ?_;refine ZN ?_;refine ZeV ?_
 refine zlh 2 rfl fun b2 hb2 => ?_
 refine ztw 13 [] rfl rfl ?_
 refine zg6 L (gf:=gf) (caps:=caps) [(2, .pointer (some ⟨b2, 0, none⟩))] (fun pre => [(13, z06 b2 tyS (SlR tyP 6 pre.length (pre.flatMap zmd)))])
  (fun pre x => [(13, .own (z06 b2 tyS (SlR tyP 6 pre.length (pre.flatMap zmd)))), (2, .is (.pointer (some ⟨b2, 0, none⟩))), (5, .own (Cell (zmd x) tyP))])
  (l.map encP) (fun _ => false) (fun _ => .ret) rfl rfl hfn ⟨rfl, rfl, trivial⟩
  (fun pre p hp => by simp only [List.mem_singleton] at hp; subst hp; exact Nat.le_refl _) rfl (fun x hx => by obtain ⟨y, _, rfl⟩:=List.mem_map.1 hx; rfl) (by decide) hit ?asg ?bd ?dn ?st
 case asg =>
  intro w1 Ln B' l' D' o pre x' hpre hstp hBB
  obtain ⟨y, rfl⟩:=zig hpre
  refine Zy ?_;refine ZX ?_;refine zi ?_
  exact z27 Since.refl ⟨rfl, rfl, rfl, trivial⟩
 case bd =>
  intro w1 Ln B' l' D' o pre x' hpre hstp hBB
  obtain ⟨y, rfl⟩:=zig hpre
  have hlen:=hpre.length_le
  simp only [List.length_append, List.length_map, List.length_cons, List.length_nil] at hlen
  refine qh ?_
  refine zph 13 _ rfl SlR.shape fun z hz => ?_
  obtain ⟨p, c, rfl⟩:=hz
  refine Zt ?_;refine Zfp ?_;refine zt6 8 13 rfl rfl ?_;refine Zbh ?_;refine Zaa ?_;refine qp (zb9 L rfl rfl rfl (zhq rfl) rfl z42 rfl rfl (by omega) (by omega)) ?_;refine zt5 11 13 _ rfl SlR.shape fun z hz => ?_;obtain ⟨p', c', rfl⟩:=hz; refine Zfq ?_;refine zi ?_;refine yc ?_
  refine ztx 13 [] rfl rfl ?_
  refine z28 Since.refl rfl ⟨?_, trivial⟩
  rw [List.flatMap_append, List.length_append]
  rfl
 case st =>
  intro l' D' o h
  cases h
 case dn =>
  intro l' D' o _
  rw [zpp]
  refine yc ?_
  refine zj ?_
  refine zph 13 _ rfl SlR.shape fun z hz => ?_
  obtain ⟨p, c, rfl⟩:=hz
  refine ZeF ?_;refine Zfp ?_;refine Zb ?_
  refine zzy 4 13 rfl rfl ?_
  refine zci 4 rfl ?_
  refine z5h L (rs:=[.tmp 4]) rfl (fun _ _ h => h) Since.refl fun O' u H hH hle => ?_
  obtain ⟨m, h1, h2, h3⟩:=ztt _ l (List.prefix_refl _)
  have hm:m = l:=by
   have:=List.map_inj_right (f:=encP) (fun a b h => by
    simp only [encP, List.cons.injEq, Value.agg.injEq, and_true] at h
    have h:=congrArg Array.toList h
    simp at h
    first | exact Prod.ext h.1 h.2 | exact Prod.ext h.1 (Prod.ext (Prod.ext h.2.1 h.2.2.1) h.2.2.2) | exact Prod.ext (Prod.ext (Prod.ext h.1 h.2.1) h.2.2.1) h.2.2.2 | exact Prod.ext (Prod.ext (Prod.ext (Prod.ext h.1 h.2.1) h.2.2.1) (Prod.ext (Prod.ext h.2.2.2.1 h.2.2.2.2.1) h.2.2.2.2.2)) rfl) |>.1 h1
   exact this.symm
  subst hm
  rw [h3]
  simp only [List.length_map]
  exact fun v hv => hv
theorem PS.mono {l:List (KT × VT)} {fu:Bool}:Kn.mono (.sat (PS l fu)):=SlV.mono
theorem ztv {t:Tr KT VT} {f e:Int} {x v:Value} {w:World} {B:Heap} {C:Nat → Prop} (hB:B.Le (hp w)) (hx:(SlR tyP 6 0 []).P x B w C) (hC:∀ k, C k → k < w.heap.size ∧ B k = none) (hv:PairsAt t 0 f e v B) (hs:t.size < 1099511627776) :
  RetL Tryz.prog 113 [x, v] w B C (fun v H _ => PS (Tr.prs t 0 f e) false v H):=by
 obtain ⟨b1, b2, b3, b4, root, rfl, h1, h2, h3, h4, h5⟩:=hv
 have hlen:=Tr.prs_length_le t 0 f e
 exact zzq (Tr.prs t 0 f e) (by omega) hB hx hC rfl fun u H hH hle => zyw t 0 f e (Int.le_refl _) (by omega) hH (hle _ _ h1) (hle _ _ h2) (hle _ _ h3) (hle _ _ h4) (h5.le hle)
theorem zu1 (t:Tr KT VT) {a f e:Int}:(Tr.prs t a f e).length ≤ t.size:=Tr.prs_length_le t a f e
def rangeL (t:Tr KT VT) (f e:Int):List (KT × VT):=if max f 0 ≥ min e t.size then [] else Tr.prs t 0 (max f 0) (min e t.size)
set_option maxRecDepth 10000 in
theorem zu0 {fv root:Value} {t:Tr KT VT} (f e:Int) {w:World} {B:Heap} (hB:B.Le (hp w)) (hv:TA t root B) (hs:t.size < 1099511627776) :
  Ret Tryz.prog 74 [.agg #[fv, root], .int .i64 f, .int .i64 e] w B (PS (rangeL t f e) true):=by
 refine yf Tryz.func74 rfl Tryz.ntmps74 (Nat.le_of_ble_eq_true rfl) hB ?_
 unfold rangeL
 by_cases h:max f 0 ≥ min e t.size
 ·rw [if_pos h]
  refine Zb0 ?_;refine Za ?_;refine z7 (zfq rfl rfl rfl rfl rfl) rfl ?_;refine Za ?_;refine Zcj ?_;refine z7 (zp L rfl rfl (zk rfl) rfl rfl rfl (fun u H hH hle _ => zp9 hH (hv.le hle))) rfl ?_;refine z7 (zvl rfl rfl rfl rfl rfl) rfl ?_;refine ZaW ?_;refine Zdc ?_;refine Zat ?_;refine Z0 ?_;refine Zt ?_;refine Zb ?_
  refine ye L (rs:=[.tmp 6]) rfl (fun _ _ h => h) Since.refl fun u H hH hle => ?_
  exact (SlV.nil (e:=tyP))
 ·rw [if_neg h]
  have hlen:=zu1 t (a:=0) (f:=max f 0) (e:=min e t.size)
  have e1:(if (0:Int) > f then 0 else f) = max f 0:=by omega
  have e2:(if (t.size:Int) < e then (t.size:Int) else e) = min e t.size:=by omega
  refine Zb0 ?_;refine Za ?_;refine z7 (zfq rfl rfl rfl rfl (by assumption)) rfl ?_;refine Za ?_;refine Zcj ?_;refine z7 (zp L rfl rfl (zk rfl) rfl rfl rfl (fun u H hH hle _ => zp9 hH (hv.le hle))) rfl ?_;refine z7 (zvl rfl rfl rfl rfl (by assumption)) rfl ?_;refine ZaW ?_;refine Zdc ?_;refine ZA ?_;refine Zx ?_
  obtain ⟨m, hm⟩:∃ m:Nat, min e (t.size:Int) - max f 0 = m:=⟨(min e (t.size:Int) - max f 0).toNat, by omega⟩
  refine qg (id:=4) [(25, [19])] mixed (by kernel_rfl) ?_;refine Zi ?_;refine z8 (yp rfl rfl rfl rfl (zaa (by omega) (by omega))) rfl ?_;refine z8 (zyb L _ rfl rfl rfl z42 rfl rfl (by assumption) (by omega) (by simp only [maxLen]; omega)) rfl ?_;refine Zbo ?_;refine Zi ?_;refine z8 (yw L rfl rfl (zk rfl) rfl rfl rfl PairsAt.mono (fun u H hH hle _ => zkj t 0 (max f 0) (min e t.size) hH (TA.le hv hle))) rfl ?_;refine za2 (zye (q:=19) (cap:=[]) L rfl rfl rfl rfl rfl PS.mono (fun u H C x hH hle hx hC v hv => ztv hH hx hC hv hs)) rfl rfl ?_;refine z8 (yw L rfl rfl (zk rfl) rfl rfl rfl PS.mono (fun u H hH hle _ v hv => zzj _ _ hH hv)) rfl ?_;refine ZdJ ?_
  refine ye L (rs:=[.tmp 6]) rfl (fun _ _ h => h) Since.refl fun u H hH hle => ?_
  exact fun v hv => hv
end Go.V.UT
set_option maxRecDepth 20000
namespace Go.V.UT
open Go.Proofs Go.RowKit Go.V
abbrev MF (cf:Nat) (t:Tr KT VT):Value → Heap → Prop:=MA (.func (.func cf) #[] #[]) t
theorem mput_m {cf:Nat} {c:KT → KT → Int} (hc:Cmp cf c) (k:KT) (x:VT) {t:Tr KT VT} {v:Value} {w:World} {B:Heap} (hB:B.Le (hp w)) (hv:MF cf t v B) (hs:t.size + 1 < 1099511627776) :
  Ret Tryz.prog 140 [v, kv k, vv x] w B (MF cf (Tr.put c k x t)):=by
 obtain ⟨p, rfl, h⟩:=hv
 exact zym hc k x hB h hs
theorem mdrop_m {cf:Nat} {c:KT → KT → Int} (hc:Cmp cf c) (k:KT) {t:Tr KT VT} {v:Value} {w:World} {B:Heap} (hB:B.Le (hp w)) (hv:MF cf t v B) (hs:t.size < 1099511627776) :
  Ret Tryz.prog 139 [v, kv k] w B (MF cf (if (Tr.drop c k t).2 = true then (Tr.drop c k t).1 else t)):=by
 obtain ⟨p, rfl, h⟩:=hv
 exact zv3 hc k hB h hs
theorem len_m {fv:Value} {t:Tr KT VT} {v:Value} {w:World} {B:Heap} (hB:B.Le (hp w)) (hv:MA fv t v B) {n:Nat} (hn:t.size = n):Ret Tryz.prog 75 [v] w B (fun v _ => v = .int .i64 n):=by
 obtain ⟨p, rfl, h⟩:=hv
 subst hn
 exact zp9 hB h
theorem get_m {cf:Nat} {c:KT → KT → Int} (hc:Cmp cf c) (k:KT) {t:Tr KT VT} {v:Value} {w:World} {B:Heap} (hB:B.Le (hp w)) (hv:MF cf t v B) {o:Option VT} (ho:Tr.get c k t = o) :
  Ret Tryz.prog 77 [v, kv k] w B (fun v _ => v = tup (z7l o)):=by
 obtain ⟨p, rfl, h⟩:=hv
 subst ho
 exact z2i hc k hB h
end Go.V.UT
set_option maxRecDepth 20000
namespace Go.V.UT
open Go.Proofs Go.RowKit Go.V
theorem range_m {fv:Value} {t:Tr KT VT} (f e:Int) {v:Value} {w:World} {B:Heap} (hB:B.Le (hp w)) (hv:MA fv t v B) (hs:t.size < 1099511627776) {l:List (KT × VT)} (hl:rangeL t f e = l) :
  Ret Tryz.prog 74 [v, .int .i64 f, .int .i64 e] w B (PS l true):=by
 obtain ⟨p, rfl, h⟩:=hv
 subst hl
 exact zu0 f e hB h hs
end Go.V.UT
set_option maxRecDepth 20000
namespace Go.V.L6
open Go.Proofs Go.RowKit Go.V Go.V.L2 Go.V.L3
theorem _root_.Go.V.Zcz {A B:Prop} (h:B) (t:Wr B → A:=by intro h; refine ZcY ?_;refine ZeJ ?_;exact h.h):A:=t ⟨h⟩
theorem _root_.Go.V.Zbs {A B:Prop} (h:B) (t:Wr B → A:=by intro h; refine ZH ?_;refine Zr ?_;exact h.h):A:=t ⟨h⟩
theorem _root_.Go.V.ZfQ {A B:Prop} (h:B) (t:Wr B → A:=by intro h; refine z7 (yx (cs:=[_, _]) rfl rfl z7v rfl rfl) rfl ?_;refine Zbg ?_;exact h.h):A:=t ⟨h⟩
abbrev fvC:Value:=.func (.func 93) #[] #[]
abbrev fvS:Value:=.func (.func 94) #[] #[]
abbrev zny:TypeId:=45
abbrev chv (x:U) (d:Bool):Value:=.agg #[.string x.1.1.1, .string x.1.1.2, .string x.1.2, .string x.2.1.1, .string x.2.1.2, .string x.2.2, .bool d]
attribute [local irreducible] V N X VO Par StepOK Has Ret RetL RetO Src
theorem zxq {a b:U} {w:World} {B:Heap} (hB:B.Le (hp w)):Ret Tryz.prog 94 [uv a, uv b] w B (fun v _ => v = .int .i64 (zpl a b)):=by
 refine yf Tryz.func94 rfl Tryz.ntmps94 (Nat.le_of_ble_eq_true rfl) hB ?_
 refine Zaf ?_;refine ZcZ ?_;refine Zde ?_;refine Zde ?_;refine z8 (zp L rfl rfl (zk rfl) rfl rfl rfl (fun u H hH _ _ => cmpU_ret hH)) rfl ?_;refine Zde ?_;refine Zde ?_;refine z8 (zp L rfl rfl (zk rfl) rfl rfl rfl (fun u H hH _ _ => zni hH)) rfl ?_;refine Zfm ?_;refine z8 (zp L rfl rfl (zk rfl) rfl rfl rfl (fun u H hH _ _ v hv => zmy hH hv)) rfl ?_;refine Zw ?_
 refine ye L (rs:=[.tmp 4]) rfl (fun _ _ h => h) Since.refl fun u H hH hle => ?_
 rfl
theorem z2q:UT.Cmp 93 zbh:=⟨rfl, fun _ _ _ _ hH => zds hH⟩
theorem z6z:UT.Cmp 94 zpl:=⟨rfl, fun _ _ _ _ hH => zxq hH⟩
def chT (c:U → U → Int) (x:U) (d:Bool) (t:Tr U Unit):Tr U Unit:=if d = true then (if (Tr.drop c x t).2 = true then (Tr.drop c x t).1 else t) else Tr.put c x () t
theorem zmc {cf:Nat} {c:U → U → Int} (hc:UT.Cmp cf c) {f:Value} {p:Option Addr} {t:Tr U Unit} (hf:f = .func (.func cf) #[] #[] ∨ (f = .nilFunc ∧ t = .nil)) (x:U) (d:Bool) {w:World} {B:Heap} (hB:B.Le (hp w)) (ht:UT.TA t (.pointer p) B) (hs:t.size + 1 < 1099511627776) :
  Ret Tryz.prog 92 [.agg #[f, .pointer p], chv x d, .func (.func cf) #[] #[]] w B (UT.MF cf (chT c x d t)):=by
 by_cases h0:t.size = 0
 ·have hn:t = .nil:=by
   cases t with
   | nil => rfl
   | node k y l r => simp only [Tr.size] at h0; omega
  subst hn
  have hz:UT.TA .nil (.pointer none) B:=rfl
  refine yf Tryz.func92 rfl Tryz.ntmps92 (Nat.le_of_ble_eq_true rfl) hB ?_
  unfold chT
  cases d
  ·refine Zdl ?_;refine zqq 3 rfl fun b hb => ?_;refine ZcC ?_;refine ZaV ?_;refine ZU ?_;refine Zae ?_;refine ZaG ?_;refine Zcy ?_;refine z7 (zp L rfl rfl (zk rfl) rfl rfl rfl (fun u H hH hle _ => UT.len_m hH (⟨_, rfl, ht.le hle⟩) h0)) rfl ?_;refine Zbf ?_;refine ZG ?_;refine z7 (zp L rfl rfl (zk rfl) rfl rfl rfl (fun u H hH _ _ => UT.new_ret _ hH)) rfl ?_;refine ZaG ?_;refine Zfq ?_;refine ZU ?_;refine ZcG ?_;refine Zx ?_;refine Zo ?_;refine ZaG ?_;refine Zcy ?_;refine Zcz ?_;refine z7 (yx (cs:=[]) rfl rfl z33 rfl rfl) rfl ?_;refine z7 (yw (φ:=UT.MF cf (Tr.put c x () .nil)) L rfl rfl (zk rfl) rfl rfl rfl UT.MA.mono (fun u H hH hle _ => UT.mput_m hc x () hH (⟨_, rfl, hz.le hle⟩) hs)) rfl ?_;refine zbq 27 rfl ?_;rintro _ H27 hs27 ⟨q27, rfl, hp27⟩; refine ZfQ ?_
   refine ye L (rs:=[.cell 6 43]) rfl (fun _ _ h => h) hs27 fun u H hH hle => ?_
   exact ⟨_, yl rfl, rfl, q27, rfl, hp27.le hle⟩
  ·refine Zdl ?_;refine zqq 3 rfl fun b hb => ?_;refine ZcC ?_;refine ZaV ?_;refine ZU ?_;refine Zae ?_;refine ZaG ?_;refine Zcy ?_;refine z7 (zp L rfl rfl (zk rfl) rfl rfl rfl (fun u H hH hle _ => UT.len_m hH (⟨_, rfl, ht.le hle⟩) h0)) rfl ?_;refine Zbf ?_;refine ZG ?_;refine z7 (zp L rfl rfl (zk rfl) rfl rfl rfl (fun u H hH _ _ => UT.new_ret _ hH)) rfl ?_;refine ZaG ?_;refine Zfq ?_;refine ZU ?_;refine ZcG ?_;refine ZcK ?_;refine ZaG ?_;refine Zcy ?_;refine Zcz ?_;refine z7 (yw (φ:=UT.MF cf (if (Tr.drop c x .nil).2 = true then (Tr.drop c x .nil).1 else .nil)) L rfl rfl (zk rfl) rfl rfl rfl UT.MA.mono (fun u H hH hle _ => UT.mdrop_m hc x hH (⟨_, rfl, hz.le hle⟩) (by omega))) rfl ?_;refine zbq 20 rfl ?_;rintro _ H20 hs20 ⟨q20, rfl, hp20⟩; refine ZfQ ?_
   refine ye L (rs:=[.cell 6 43]) rfl (fun _ _ h => h) hs20 fun u H hH hle => ?_
   exact ⟨_, yl rfl, rfl, q20, rfl, hp20.le hle⟩
 ·obtain rfl:f = .func (.func cf) #[] #[]:=by
   rcases hf with h | ⟨_, h⟩
   ·exact h
   ·subst h; exact absurd rfl h0
  refine yf Tryz.func92 rfl Tryz.ntmps92 (Nat.le_of_ble_eq_true rfl) hB ?_
  unfold chT
  cases d
  ·refine Zdl ?_;refine zqq 3 rfl fun b hb => ?_;refine ZcC ?_;refine ZaV ?_;refine ZU ?_;refine Zae ?_;refine ZaG ?_;refine Zcy ?_;refine z7 (zp L rfl rfl (zk rfl) rfl rfl rfl (fun u H hH hle _ => UT.len_m hH (⟨_, rfl, ht.le hle⟩) rfl)) rfl ?_;refine Zbs ?_;refine ZcG ?_;refine Zx ?_;refine Zo ?_;refine ZaG ?_;refine Zcy ?_;refine Zcz ?_;refine z7 (yx (cs:=[]) rfl rfl z33 rfl rfl) rfl ?_;refine z7 (yw (φ:=UT.MF cf (Tr.put c x () t)) L rfl rfl (zk rfl) rfl rfl rfl UT.MA.mono (fun u H hH hle _ => UT.mput_m hc x () hH (⟨_, rfl, ht.le hle⟩) hs)) rfl ?_;refine zbq 27 rfl ?_;rintro _ H27 hs27 ⟨q27, rfl, hp27⟩; refine ZfQ ?_
   refine ye L (rs:=[.cell 6 43]) rfl (fun _ _ h => h) hs27 fun u H hH hle => ?_
   exact ⟨_, yl rfl, rfl, q27, rfl, hp27.le hle⟩
  ·refine Zdl ?_;refine zqq 3 rfl fun b hb => ?_;refine ZcC ?_;refine ZaV ?_;refine ZU ?_;refine Zae ?_;refine ZaG ?_;refine Zcy ?_;refine z7 (zp L rfl rfl (zk rfl) rfl rfl rfl (fun u H hH hle _ => UT.len_m hH (⟨_, rfl, ht.le hle⟩) rfl)) rfl ?_;refine Zbs ?_;refine ZcG ?_;refine ZcK ?_;refine ZaG ?_;refine Zcy ?_;refine Zcz ?_;refine z7 (yw (φ:=UT.MF cf (if (Tr.drop c x t).2 = true then (Tr.drop c x t).1 else t)) L rfl rfl (zk rfl) rfl rfl rfl UT.MA.mono (fun u H hH hle _ => UT.mdrop_m hc x hH (⟨_, rfl, ht.le hle⟩) (by omega))) rfl ?_;refine zbq 20 rfl ?_;rintro _ H20 hs20 ⟨q20, rfl, hp20⟩; refine ZfQ ?_
   refine ye L (rs:=[.cell 6 43]) rfl (fun _ _ h => h) hs20 fun u H hH hle => ?_
   exact ⟨_, yl rfl, rfl, q20, rfl, hp20.le hle⟩
end Go.V.L6
set_option maxRecDepth 20000
namespace Go.V
open Go.Proofs Go.RowKit
section
variable {P:Program} {F:Fr} {B:Heap} {O:Boxes} {n:Nat} {ops:Array Oper} {κ:Kap} {d:Nat} {ty:TypeId} {pos:String} {aft:Array Edge} {g:Option (Nat × Bool)} {a:Act} {u:World} {H:Heap} {fp:Nat → Nat → Prop} {Q:Exit → Act → World → Prop}
end
end Go.V
set_option maxRecDepth 20000
namespace Go.V.L3
open Go.Proofs Go.RowKit Go.V Go.V.L2
abbrev fv (f:FT):Value:=.agg #[.string f.1.1.1, .string f.1.1.2, .string f.1.2, .string f.2.1.1.1, .string f.2.1.1.2, .string f.2.1.2, .bool f.2.2]
def FZ (f:FT):Prop:=(f.1.1.1.size ≤ 1099511627776 ∧ f.1.1.2.size ≤ 1099511627776 ∧ f.1.2.size ≤ 1099511627776) ∧ f.2.1.1.1.size ≤ 1099511627776 ∧ f.2.1.1.2.size ≤ 1099511627776 ∧ f.2.1.2.size ≤ 1099511627776
instance (f:FT):Decidable (FZ f):=inferInstanceAs (Decidable (_ ∧ _))
attribute [local irreducible] V N X VO Par StepOK Has Ret RetL RetO RetT Src
end Go.V.L3
set_option maxRecDepth 20000
namespace Go.V.L3
open Go.Proofs Go.RowKit Go.V Go.V.L2
attribute [local irreducible] V N X VO Par StepOK Has Ret RetL RetO RetT Src
end Go.V.L3
set_option maxRecDepth 20000
namespace Go.V.L3
open Go.Proofs Go.RowKit Go.V Go.V.L2
attribute [local irreducible] V N X VO Par StepOK Has Ret RetL RetO RetT Src
end Go.V.L3
set_option maxRecDepth 20000
namespace Go.V.L3
open Go.Proofs Go.RowKit Go.V Go.V.L2
theorem LE2.mk {φ:Value → Heap → Prop} {a tv:Value} {H:Heap} (h:φ tv H):TupS [φ, fun v _ => v = a] (.tuple #[tv, a]) H :=
 ⟨[tv, a], rfl, rfl, fun i ψ x hi hx => by
  rcases i with _ | _ | i
  ·simp at hi hx; subst hi hx; exact h
  ·simp at hi hx; subst hi hx; rfl
  ·simp at hi⟩
theorem LE2.mono {φ:Value → Heap → Prop} {a:Value} (h:Kn.mono (.sat φ)):Kn.mono (.sat (TupS [φ, fun v _ => v = a])):=TupS.mono fun ψ hψ => by
 rcases List.mem_cons.1 hψ with rfl | hψ
 ·exact h
 ·rw [List.mem_singleton] at hψ
  subst hψ
  exact fun _ _ _ h _ => h
attribute [local irreducible] V N X VO Par StepOK Has Ret RetL RetO RetT Src
end Go.V.L3
set_option maxRecDepth 20000
namespace Go.V.L6
open Go.Proofs Go.RowKit Go.V Go.V.L2 Go.V.L3
theorem _root_.Go.V.ZeO {A B:Prop} (h:B) (t:Wr B → A:=by intro h; refine z7 (yb L rfl rfl rfl rfl rfl rfl (by assumption) rfl) rfl ?_;exact h.h):A:=t ⟨h⟩
theorem _root_.Go.V.Zej {A B:Prop} (h:B) (t:Wr B → A:=by intro h; refine z8 (zw L (vs:=[_, _, _, _]) (qo rfl) rfl rfl rfl rfl ⟨_, rfl⟩) rfl ?_;exact h.h):A:=t ⟨h⟩
theorem _root_.Go.V.Ze5 {A B:Prop} (h:B) (t:Wr B → A:=by intro h; refine z7 (zw L (vs:=[_, _, _, _]) (qo rfl) rfl rfl rfl rfl ⟨_, rfl⟩) rfl ?_;exact h.h):A:=t ⟨h⟩
theorem _root_.Go.V.Ze6 {A B:Prop} (h:B) (t:Wr B → A:=by intro h; refine z7 (yx (cs:=[_, _, _, _]) rfl rfl z58 rfl rfl) rfl ?_;exact h.h):A:=t ⟨h⟩
theorem _root_.Go.V.ZfR {A B:Prop} (h:B) (t:Wr B → A:=by intro h; refine z8 (zw L (vs:=[_, _, _, _, _, _, _]) (qo rfl) rfl rfl rfl rfl ⟨_, rfl⟩) rfl ?_;exact h.h):A:=t ⟨h⟩
theorem _root_.Go.V.ZfS {A B:Prop} (h:B) (t:Wr B → A:=by intro h; refine Zc ?_;refine Zz ?_;exact h.h):A:=t ⟨h⟩
theorem _root_.Go.V.ZfT {A B:Prop} (h:B) (t:Wr B → A:=by intro h; refine Zbo ?_;refine z8 (zvu rfl rfl rfl rfl bt4 rfl) rfl ?_;exact h.h):A:=t ⟨h⟩
theorem _root_.Go.V.Zek {A B:Prop} (h:B) (t:Wr B → A:=by intro h; refine ZbC ?_;refine Zcz ?_;exact h.h):A:=t ⟨h⟩
def SetV (l:List U):Value → Heap → Prop:=fun v H => ∃ p q t u, TS l t u ∧ UT.TA t (.pointer p) H ∧ UT.TA u (.pointer q) H ∧
 (v = .agg #[fvC, .pointer p, fvS, .pointer q] ∨ (l = [] ∧ p = none ∧ q = none ∧ v = .agg #[.nilFunc, .pointer p, .nilFunc, .pointer q]))
theorem SetV.mono {l:List U}:Kn.mono (.sat (SetV l)):=fun _ _ _ ⟨p, q, t, u, h1, h2, h3, h4⟩ hle => ⟨p, q, t, u, h1, h2.le hle, h3.le hle, h4⟩
theorem SetV.le {l:List U} {v:Value} {H H':Heap} (h:SetV l v H) (hle:H.Le H'):SetV l v H':=SetV.mono _ _ _ h hle
theorem SetV.shape {l:List U} {v:Value} {H:Heap} (h:SetV l v H):∃ f p k q, v = .agg #[f, .pointer p, k, .pointer q] ∧ (zav (.agg #[f, .pointer p, k, .pointer q])).all zbs = true:=by
 obtain ⟨p, q, _, _, _, _, _, h | ⟨_, _, _, h⟩⟩:=h
 ·exact ⟨_, _, _, _, h, rfl⟩
 ·exact ⟨_, _, _, _, h, rfl⟩
abbrev nilSet:Value:=.agg #[.nilFunc, .pointer none, .nilFunc, .pointer none]
theorem SetV.nil {H:Heap}:SetV [] nilSet H:=⟨none, none, .nil, .nil, z3p, rfl, rfl, .inr ⟨rfl, rfl, rfl, rfl⟩⟩
theorem SetV.sst {l:List U} {v:Value} {H:Heap} (h:SetV l v H):Sst zbh l:=let ⟨_, _, _, _, h, _⟩:=h; h.st
attribute [local irreducible] V N X VO Par StepOK Has Ret RetL RetO Src
theorem zd5 {l:List U} {n:Nat} (hn:l.length = n) {v:Value} {w:World} {B:Heap} (hB:B.Le (hp w)) (hv:SetV l v B):Ret Tryz.prog 46 [v] w B (fun v _ => v = .int .i64 n):=by
 subst hn
 obtain ⟨p, q, t, u, hT, ht, hu, rfl | ⟨rfl, rfl, rfl, rfl⟩⟩:=hv
 ·refine yf Tryz.func46 rfl Tryz.ntmps46 (Nat.le_of_ble_eq_true rfl) hB ?_
  refine Zb0 ?_;refine ZcY ?_;refine Zbc ?_;refine z7 (zp L rfl rfl (zk rfl) rfl rfl rfl (fun u H hH hle _ => UT.len_m hH (⟨_, rfl, ht.le hle⟩) hT.size)) rfl ?_;refine Zb ?_
  refine ye L (rs:=[.tmp 2]) rfl (fun _ _ h => h) Since.refl fun u H hH hle => ?_
  rfl
 ·refine yf Tryz.func46 rfl Tryz.ntmps46 (Nat.le_of_ble_eq_true rfl) hB ?_
  refine Zb0 ?_;refine ZcY ?_;refine Zbc ?_;refine z7 (zp L rfl rfl (zk rfl) rfl rfl rfl (fun u H hH hle _ => UT.len_m hH (⟨_, rfl, ht.le hle⟩) hT.size)) rfl ?_;refine Zb ?_
  refine ye L (rs:=[.tmp 2]) rfl (fun _ _ h => h) Since.refl fun u H hH hle => ?_
  rfl
theorem zc3 {l:List U} {x:U} {b:Bool} (hb:decide (x ∈ l) = b) {v:Value} {w:World} {B:Heap} (hB:B.Le (hp w)) (hv:SetV l v B):Ret Tryz.prog 48 [v, uv x] w B (fun v _ => v = .bool b):=by
 have hv0:=hv
 obtain ⟨p, q, t, u, hT, ht, hu, rfl | ⟨rfl, rfl, rfl, rfl⟩⟩:=hv
 ·have hg:=hT.get x
  refine yf Tryz.func48 rfl Tryz.ntmps48 (Nat.le_of_ble_eq_true rfl) hB ?_
  by_cases h0:l.length = 0
  ·have hn:l = []:=List.eq_nil_of_length_eq_zero h0
   subst hn
   have hb':b = false:=by rw [← hb]; simp
   subst hb'
   refine Zdd ?_;refine Ze5 ?_;refine z7 (zp L rfl rfl (zk rfl) rfl rfl rfl (fun u H hH hle _ => zd5 rfl hH (hv0.le hle))) rfl ?_;refine Z3 ?_;refine ZcW ?_
   refine ye L (rs:=[.tmp 4]) rfl (fun _ _ h => h) Since.refl fun u H hH hle => ?_
   rfl
  ·cases b
   ·have hx:x ∉ l:=by simpa using hb
    rw [if_neg hx] at hg
    refine Zdd ?_;refine Ze5 ?_;refine z7 (zp L rfl rfl (zk rfl) rfl rfl rfl (fun u H hH hle _ => zd5 rfl hH (hv0.le hle))) rfl ?_;refine Zax ?_;refine Zt ?_;refine ZcY ?_;refine Zbc ?_;refine ZeJ ?_;refine z7 (zp L rfl rfl (zk rfl) rfl rfl rfl (fun u H hH hle _ => UT.get_m z2q x hH (⟨_, rfl, ht.le hle⟩) hg)) rfl ?_;refine Zaz ?_;refine ZX ?_;refine Ze ?_;refine Zu ?_;refine Zb ?_
    refine ye L (rs:=[.tmp 4]) rfl (fun _ _ h => h) Since.refl fun u H hH hle => ?_
    rfl
   ·have hx:x ∈ l:=by simpa using hb
    rw [if_pos hx] at hg
    refine Zdd ?_;refine Ze5 ?_;refine z7 (zp L rfl rfl (zk rfl) rfl rfl rfl (fun u H hH hle _ => zd5 rfl hH (hv0.le hle))) rfl ?_;refine Zax ?_;refine Zt ?_;refine ZcY ?_;refine Zbc ?_;refine ZeJ ?_;refine z7 (zp L rfl rfl (zk rfl) rfl rfl rfl (fun u H hH hle _ => UT.get_m z2q x hH (⟨_, rfl, ht.le hle⟩) hg)) rfl ?_;refine Zaz ?_;refine ZX ?_;refine Ze ?_;refine Zu ?_;refine Zb ?_
    refine ye L (rs:=[.tmp 4]) rfl (fun _ _ h => h) Since.refl fun u H hH hle => ?_
    rfl
 ·have hb':b = false:=by rw [← hb]; simp
  subst hb'
  refine yf Tryz.func48 rfl Tryz.ntmps48 (Nat.le_of_ble_eq_true rfl) hB ?_
  refine Zdd ?_;refine Ze5 ?_;refine z7 (zp L rfl rfl (zk rfl) rfl rfl rfl (fun u H hH hle _ => zd5 rfl hH (hv0.le hle))) rfl ?_;refine Zfc ?_;refine ZcW ?_
  refine ye L (rs:=[.tmp 4]) rfl (fun _ _ h => h) Since.refl fun u H hH hle => ?_
  rfl
def scs (x:Value × Option Addr × Value × Option Addr):List Value:=[x.1, .pointer x.2.1, x.2.2.1, .pointer x.2.2.2]
abbrev SXp:={ x:Value × Option Addr × Value × Option Addr // (scs x).all zbs = true }
abbrev zun (l:List U) (x:SXp) (H:Heap):Prop:=SetV l (.agg (scs x.1).toArray) H
theorem zdd (l:List U):zg8 (zun l):=fun _ _ _ h hle => SetV.le h hle
theorem zuq {l:List U} (v:Value) (H:Heap) (h:SetV l v H):∃ x:SXp, zun l x H ∧ zav v = scs x.1:=by
 obtain ⟨f, p, k, q, rfl, hp⟩:=h.shape
 exact ⟨⟨(f, p, k, q), hp⟩, h, rfl⟩
abbrev z63 (l:List U) (e:Int):Value → Heap → Prop:=TupS [SetV l, fun v _ => v = .int .i64 e]
theorem mf4 {cf cg:Nat} {t u:Tr U Unit} {v1 v2:Value} {H:Heap} (h1:UT.MF cf t v1 H) (h2:UT.MF cg u v2 H):∃ p q, v1 = .agg #[.func (.func cf) #[] #[], .pointer p] ∧ v2 = .agg #[.func (.func cg) #[] #[], .pointer q] ∧ UT.TA t (.pointer p) H ∧ UT.TA u (.pointer q) H:=by
 obtain ⟨p, e1, h1⟩:=h1
 obtain ⟨q, e2, h2⟩:=h2
 exact ⟨p, q, e1, e2, h1, h2⟩
theorem z55 {l:List U} {t u:Tr U Unit} (h:TS l t u) {x:U} {d:Bool} (hx:decide (x ∈ l) = d) (hc:d = false → l.length < 4096) (he:tE x = 0):TS (zcz l x d).1 (chT zbh x d t) (chT zpl x d u) ∧ (zcz l x d).2 = 0:=by
 unfold zcz chT
 rw [if_pos he]
 cases d
 ·have hx':x ∉ l:=by simpa using hx
  rw [if_neg (by decide), if_neg hx', if_neg (by have:=hc rfl; omega), if_neg (by decide), if_neg (by decide)]
  exact ⟨h.put hx', rfl⟩
 ·have hx':x ∈ l:=by simpa using hx
  rw [if_pos rfl, if_pos rfl, if_pos rfl]
  exact ⟨h.drop hx', rfl⟩
set_option maxHeartbeats 1000000 in
theorem zxm {l m:List U} {x:U} {d:Bool} {e:Int} (hr:zcz l x d = (m, e)) (hl:l.length ≤ 4096) (hz:TZ x) {v:Value} {w:World} {B:Heap} (hB:B.Le (hp w)) (hv:SetV l v B) :
  Ret Tryz.prog 61 [v, chv x d] w B (z63 m e):=by
 obtain ⟨f1, p1, f2, q1, hsh, hpl⟩:=hv.shape
 by_cases he:tE x = 0
 ·obtain ⟨hin, hin0⟩:∃ b, decide (x ∈ l) = b:=⟨_, rfl⟩
  by_cases hd:hin = d
  ·subst hd
   by_cases hfull:hin = false ∧ l.length = 4096
   ·obtain ⟨rfl, hlen⟩:=hfull
    have hw:zcz l x false = ([], 3):=by
     unfold zcz
     rw [if_pos he, if_neg (by decide), if_neg (by simpa using hin0), if_pos (by omega)]
    rw [hw] at hr
    cases hr
    subst hsh
    refine yf Tryz.func61 rfl Tryz.ntmps61 (Nat.le_of_ble_eq_true rfl) hB ?_
    refine Zaf ?_;refine ZaV ?_;refine Zek ?_;refine z7 (zp L rfl rfl (zk rfl) rfl rfl rfl (fun u H hH _ _ => he ▸ ze1 hz hH)) rfl ?_;refine ZaF ?_;refine Zay ?_;refine Zck ?_;refine Zej ?_;refine Za5 ?_;refine Zb4 ?_;refine z8 (zp L rfl rfl (zk rfl) rfl rfl rfl (fun u H hH hle _ => zc3 hin0 hH (hv.le hle))) rfl ?_;refine ZfT ?_;refine ZaI ?_;refine ZaB ?_;refine ZfS ?_;refine Zv ?_;refine Zs ?_;refine Za ?_;refine Ze5 ?_;refine z7 (zp L rfl rfl (zk rfl) rfl rfl rfl (fun u H hH hle _ => zd5 hlen hH (hv.le hle))) rfl ?_;refine Z3 ?_;refine Zg ?_;refine Z0 ?_;refine Zp ?_;refine Ze6 ?_;refine Za0 ?_
    refine ye L (rs:=[.cell 4 45, .tmp 5]) rfl (fun _ _ h => h) Since.refl fun u H hH hle => ?_
    exact ⟨_, yl rfl, rfl, LE2.mk SetV.nil⟩
   ·have hc:hin = false → l.length < 4096:=fun h => by
     rcases Nat.lt_or_ge l.length 4096 with h' | h'
     ·exact h'
     ·exact absurd ⟨h, by omega⟩ hfull
    obtain ⟨p, q, t, u, hT, ht, hu, hv1⟩:=id hv
    have hch:=z55 hT hin0 hc he
    rw [hr] at hch
    obtain ⟨hT', rfl⟩:=hch
    have hts:=hT.size
    have hus:=hT.zu
    have hf1:p1 = p ∧ q1 = q ∧ (f1 = fvC ∨ (f1 = .nilFunc ∧ t = .nil)) ∧ (f2 = fvS ∨ (f2 = .nilFunc ∧ u = .nil)):=by
     rcases hv1 with h | ⟨h0, rfl, rfl, h⟩
     ·rw [hsh] at h; cases h; exact ⟨rfl, rfl, .inl rfl, .inl rfl⟩
     ·rw [hsh] at h
      cases h
      subst h0
      have key:∀ {s:Tr U Unit}, s.size = 0 → s = .nil:=fun {s} hs => by
       cases s with
       | nil => rfl
       | node k y l r => simp only [Tr.size] at hs; omega
      exact ⟨rfl, rfl, .inr ⟨rfl, key hts⟩, .inr ⟨rfl, key hus⟩⟩
    obtain ⟨rfl, rfl, hf1, hf2⟩:=hf1
    subst hsh
    have hchg1:=fun (u1:World) (H:Heap) (hH:H.Le (hp u1)) (hle:B.Le H) => zmc z2q hf1 x hin hH (ht.le hle) (by omega)
    have hchg2:=fun (u1:World) (H:Heap) (hH:H.Le (hp u1)) (hle:B.Le H) => zmc z6z hf2 x hin hH (hu.le hle) (by omega)
    cases hin
    ·have hlen:=hc rfl
     refine yf Tryz.func61 rfl Tryz.ntmps61 (Nat.le_of_ble_eq_true rfl) hB ?_
     refine Zaf ?_;refine ZaV ?_;refine Zek ?_;refine z7 (zp L rfl rfl (zk rfl) rfl rfl rfl (fun u H hH _ _ => he ▸ ze1 hz hH)) rfl ?_;refine ZaF ?_;refine Zay ?_;refine Zck ?_;refine Zej ?_;refine Za5 ?_;refine Zb4 ?_;refine z8 (zp L rfl rfl (zk rfl) rfl rfl rfl (fun u H hH hle _ => zc3 hin0 hH (hv.le hle))) rfl ?_;refine ZfT ?_;refine ZaI ?_;refine ZaB ?_;refine ZfS ?_;refine Zv ?_;refine Zs ?_;refine Za ?_;refine Ze5 ?_;refine z7 (zp L rfl rfl (zk rfl) rfl rfl rfl (fun u H hH hle _ => zd5 rfl hH (hv.le hle))) rfl ?_;refine ZH ?_;refine ZaY ?_;refine ZbY ?_;refine Za5 ?_;refine ZbS ?_;refine ZfR ?_;refine z8 (yw (φ:=UT.MF 93 (chT zbh x false t)) L rfl rfl (zk rfl) rfl rfl rfl UT.MA.mono (fun u H hH hle _ => hchg1 u H hH hle)) rfl ?_;refine Za5 ?_;refine ZbS ?_;refine ZfR ?_;refine z8 (yw (φ:=UT.MF 94 (chT zpl x false u)) L rfl rfl (zk rfl) rfl rfl rfl UT.MA.mono (fun u H hH hle _ => hchg2 u H hH hle)) rfl ?_;refine z8 (zos (ψ:=SetV m) rfl rfl z58 SetV.mono (fun H _ v1 h1 v2 h2 => by obtain ⟨p, q, rfl, rfl, k1, k2⟩:=mf4 h1 h2; exact ⟨_, rfl, p, q, _, _, hT', k1, k2, .inl rfl⟩)) rfl ?_;refine z8 (zkm L (X:=SXp) (fun x => scs x.1) (zun m) (zdd m) zuq (fun x => ⟨rfl, x.2⟩) rfl rfl rfl rfl rfl) rfl ?_;refine Zw ?_
     refine zc9 4 rfl fun x4 H4 hs4 hx4 => ?_
     refine ye L (rs:=[.cell 4 45, .tmp 5]) rfl (fun _ _ h => h) hs4 fun u H hH hle => ?_
     exact ⟨_, yl rfl, rfl, LE2.mk (hx4.le hle)⟩
    ·refine yf Tryz.func61 rfl Tryz.ntmps61 (Nat.le_of_ble_eq_true rfl) hB ?_
     refine Zaf ?_;refine ZaV ?_;refine Zek ?_;refine z7 (zp L rfl rfl (zk rfl) rfl rfl rfl (fun u H hH _ _ => he ▸ ze1 hz hH)) rfl ?_;refine ZaF ?_;refine Zay ?_;refine Zck ?_;refine Zej ?_;refine Za5 ?_;refine Zb4 ?_;refine z8 (zp L rfl rfl (zk rfl) rfl rfl rfl (fun u H hH hle _ => zc3 hin0 hH (hv.le hle))) rfl ?_;refine ZfT ?_;refine ZaI ?_;refine ZaB ?_;refine ZfS ?_;refine Zv ?_;refine Zs ?_;refine ZaS ?_;refine Zx ?_;refine ZbY ?_;refine Za5 ?_;refine ZbS ?_;refine ZfR ?_;refine z8 (yw (φ:=UT.MF 93 (chT zbh x true t)) L rfl rfl (zk rfl) rfl rfl rfl UT.MA.mono (fun u H hH hle _ => hchg1 u H hH hle)) rfl ?_;refine Za5 ?_;refine ZbS ?_;refine ZfR ?_;refine z8 (yw (φ:=UT.MF 94 (chT zpl x true u)) L rfl rfl (zk rfl) rfl rfl rfl UT.MA.mono (fun u H hH hle _ => hchg2 u H hH hle)) rfl ?_;refine z8 (zos (ψ:=SetV m) rfl rfl z58 SetV.mono (fun H _ v1 h1 v2 h2 => by obtain ⟨p, q, rfl, rfl, k1, k2⟩:=mf4 h1 h2; exact ⟨_, rfl, p, q, _, _, hT', k1, k2, .inl rfl⟩)) rfl ?_;refine z8 (zkm L (X:=SXp) (fun x => scs x.1) (zun m) (zdd m) zuq (fun x => ⟨rfl, x.2⟩) rfl rfl rfl rfl rfl) rfl ?_;refine Zw ?_
     refine zc9 4 rfl fun x4 H4 hs4 hx4 => ?_
     refine ye L (rs:=[.cell 4 45, .tmp 5]) rfl (fun _ _ h => h) hs4 fun u H hH hle => ?_
     exact ⟨_, yl rfl, rfl, LE2.mk (hx4.le hle)⟩
  ·have hw:zcz l x d = (l, 0):=by
    unfold zcz
    rw [if_pos he]
    cases d
    ·have:hin = true:=by cases hin; exact absurd rfl hd; rfl
     subst this
     rw [if_neg (by decide), if_pos (by simpa using hin0)]
    ·have:hin = false:=by cases hin; rfl; exact absurd rfl hd
     subst this
     rw [if_pos rfl, zto (by simpa using hin0)]
   rw [hw] at hr
   cases hr
   have hb:(hin == d) = false:=by cases hin <;> cases d <;> first | rfl | exact absurd rfl hd
   subst hsh
   refine yf Tryz.func61 rfl Tryz.ntmps61 (Nat.le_of_ble_eq_true rfl) hB ?_
   have hb2:(!(hin == d)) = true:=by rw [hb]; rfl
   refine Zaf ?_;refine ZaV ?_;refine Zek ?_;refine z7 (zp L rfl rfl (zk rfl) rfl rfl rfl (fun u H hH _ _ => he ▸ ze1 hz hH)) rfl ?_;refine ZaF ?_;refine Zay ?_;refine Zck ?_;refine Zej ?_;refine Za5 ?_;refine Zb4 ?_;refine z8 (zp L rfl rfl (zk rfl) rfl rfl rfl (fun u H hH hle _ => zc3 hin0 hH (hv.le hle))) rfl ?_;refine Zbo ?_;refine z8 (zvu rfl rfl rfl rfl bt4 hb2) rfl ?_;refine ZdW ?_;refine Zo ?_;refine Ze5 ?_;refine ZeO ?_;refine Zb ?_
   refine ye L (rs:=[.cell 4 45, .tmp 5]) rfl (fun _ _ h => h) Since.refl fun u H hH hle => ?_
   exact ⟨_, yl rfl, rfl, LE2.mk (hv.le hle)⟩
 ·have hw:zcz l x d = ([], tE x):=if_neg he
  rw [hw] at hr
  cases hr
  subst hsh
  refine yf Tryz.func61 rfl Tryz.ntmps61 (Nat.le_of_ble_eq_true rfl) hB ?_
  refine Zaf ?_;refine ZaV ?_;refine Zek ?_;refine z7 (zp L rfl rfl (zk rfl) rfl rfl rfl (fun u H hH _ _ => ze1 hz hH)) rfl ?_;refine ZaF ?_;refine ZP ?_;refine Zt ?_;refine Ze6 ?_;refine Za ?_;refine Za0 ?_
  refine ye L (rs:=[.cell 4 45, .tmp 5]) rfl (fun _ _ h => h) Since.refl fun u H hH hle => ?_
  exact ⟨_, yl rfl, rfl, LE2.mk SetV.nil⟩
end Go.V.L6
set_option maxRecDepth 20000
namespace Go.V.L2
open Go.Proofs Go.RowKit Go.V
theorem _root_.Go.V.Zdn {A B:Prop} (h:B) (t:Wr B → A:=by intro h; refine z8 (y9 rfl rfl rfl rfl (decide_eq_false (by omega))) rfl ?_;exact h.h):A:=t ⟨h⟩
theorem _root_.Go.V.Zel {A B:Prop} (h:B) (t:Wr B → A:=by intro h; refine z8 (y9 rfl rfl rfl rfl (decide_eq_true (by omega))) rfl ?_;exact h.h):A:=t ⟨h⟩
theorem _root_.Go.V.Zac {A B:Prop} (h:B) (t:Wr B → A:=by intro h; refine Zd ?_;refine Zd ?_;exact h.h):A:=t ⟨h⟩
theorem _root_.Go.V.Zad {A B:Prop} (h:B) (t:Wr B → A:=by intro h; refine Zg ?_;refine Zd ?_;exact h.h):A:=t ⟨h⟩
theorem _root_.Go.V.ZbK {A B:Prop} (h:B) (t:Wr B → A:=by intro h; refine Zah ?_;refine Zb1 ?_;exact h.h):A:=t ⟨h⟩
theorem _root_.Go.V.Zc0 {A B:Prop} (h:B) (t:Wr B → A:=by intro h; refine Zbn ?_;refine Zdk ?_;exact h.h):A:=t ⟨h⟩
theorem _root_.Go.V.ZcM {A B:Prop} (h:B) (t:Wr B → A:=by intro h; refine Zp ?_;refine Zd ?_;exact h.h):A:=t ⟨h⟩
theorem zhx:∀ (l:List U), (l.flatMap ucs).length = l.length * 6
 | [] => rfl
 | y :: l => by rw [List.flatMap_cons, List.length_append, zhx l, zmh, List.length_cons]; omega
theorem zfy:∀ (l:List U), (l.flatMap ucs).all zbs = true
 | [] => rfl
 | g :: l => by rw [List.flatMap_cons, List.all_append, zfy l]; rfl
theorem zt8 {κ:Kap} {s:Nat} {x y:List U} (h:κ s = some (.own (SlR tyU 6 (x.length + y.length) (x.flatMap ucs ++ y.flatMap ucs)))):κ s = some (.own (SlR tyU 6 (x ++ y).length ((x ++ y).flatMap ucs))):=by
 rw [h, List.flatMap_append, List.length_append]
theorem zk0 {p:U → Bool} {l r:List U} {k:Nat} {t:U} (h:l[k]? = some t) (hr:r = (l.take k).filter p):(l.take (k + 1)).filter p = if p t = true then r ++ [t] else r:=by
 rw [zn1 h, List.filter_append, hr, List.filter_cons, List.filter_nil]
 split <;> simp
attribute [local irreducible] V N X VO Par StepOK Has Ret RetL Src
set_option maxHeartbeats 4000000 in
theorem zur {x y:List U} {fx fy:Bool} (hx:x.length ≤ 100000) (hy:y.length ≤ 100000) (zx:∀ t ∈ x, TZ t) (zy:∀ t ∈ y, TZ t) {vx vy:Value} {w:World} {B:Heap} (hB:B.Le (hp w)) (hvx:US x fx vx B) (hvy:US y fy vy B) :
  Ret Tryz.prog 62 [vx, vy, .bool true, .bool true, .bool true] w B (US (zj1 x y true true true) false):=by
 have lx:=zhx x
 have ly:=zhx y
 have px:=zfy x
 have py:=zfy y
 refine yf Tryz.func62 rfl Tryz.ntmps62 (Nat.le_of_ble_eq_true rfl) hB ?_
 refine zat 0 (US x fx) rfl SlV.mono hvx ?_
 refine zat 1 (US y fy) rfl SlV.mono hvy ?_
 refine ZaD ?_;refine Ze ?_
 refine zd4 11 tyU 6 rfl ?_
 refine Zy ?_;refine Zf ?_;refine z7 (zc7 L rfl rfl rfl (zik rfl) rfl zqe lx px (by omega) (by omega)) rfl ?_;refine Zf ?_;refine qp (zb9 L rfl rfl rfl (zik rfl) rfl zqe ly py (by omega) (by omega)) ?_;refine qp (yq (.inr rfl) rfl rfl rfl rfl) ?_;refine ZU ?_
 refine zci 12 (zt8 rfl) ?_
 have hal:(x ++ y).length ≤ 200000:=by rw [List.length_append]; omega
 have hza:∀ t ∈ x ++ y, TZ t:=fun t ht => (List.mem_append.1 ht).elim (zx t) (zy t)
 unfold zj1
 generalize hall:x ++ y = l at hal hza
 refine Zt ?_;refine ZE ?_
 refine zal (fun s:Nat × List U => [(0, .sat (US x fx)), (1, .sat (US y fy)), (2, .is (.bool true)), (3, .is (.bool true)), (4, .is (.bool true)), (11, .own (SlR tyU 6 s.2.length (s.2.flatMap ucs))), (12, .sat (US l false)), (13, .is (.int .i64 s.1))])
  (fun s => s.1 ≤ l.length ∧ s.2.length ≤ s.1 ∧ s.2 = (l.take s.1).filter (zez x y true true true)) (fun s => l.length - s.1) (0, []) ⟨Nat.zero_le _, Nat.le_refl _, rfl⟩ ⟨rfl, rfl, rfl, rfl, rfl, rfl, rfl, rfl, trivial⟩ ?_
 rintro ⟨i, r⟩ ⟨hi, hrl, hr⟩
 dsimp only at hi hrl hr ⊢
 by_cases hlt:i < l.length
 ·obtain ⟨t, ht⟩:=zae hlt
  have hc:=zfx ht
  have hf:=zk0 ht hr
  by_cases h1:t ∈ x
  ·have e1:(if t ∈ x then 1 else 0:Int) = 1:=if_pos h1
   by_cases h2:t ∈ y
   ·have e2:(if t ∈ y then 1 else 0:Int) = 1:=if_pos h2
    have hp:(zez x y true true true) t = true:=by simp [zez, h1, h2]
    rw [hp, if_pos rfl] at hf
    refine Zdf ?_;refine ZbK ?_;refine z8 (zp L rfl rfl (zk rfl) rfl rfl rfl (fun u H hH _ _ v1 h3 => zbr (l:=x) (by omega) e1 hH h3)) rfl ?_;refine Zel ?_;refine ZbK ?_;refine z8 (zp L rfl rfl (zk rfl) rfl rfl rfl (fun u H hH _ _ v1 h3 => zbr (l:=y) (by omega) e2 hH h3)) rfl ?_;refine Zel ?_;refine Zc0 ?_;refine Zp ?_;refine Z2 ?_;refine Zea ?_;refine Zb3 ?_;refine Zac ?_;refine Zad ?_;refine Zg ?_;refine Zg ?_;refine ZcV ?_;refine Zar ?_;refine Z8 ?_;refine qp (yq (.inl rfl) rfl rfl rfl rfl) ?_;refine ZdI ?_;refine Zcv ?_;refine qp (yq (.inr rfl) rfl rfl rfl rfl) ?_;refine Zaq ?_;refine ZcI ?_
    exact yi (x:=(i, r)) (i + 1, r ++ [t]) ⟨hlt, by dsimp only; rw [List.length_append, List.length_singleton]; omega, hf.symm⟩ (by dsimp only; omega) ⟨rfl, rfl, rfl, rfl, rfl, ze9 rfl, rfl, rfl, trivial⟩
   ·have e2:(if t ∈ y then 1 else 0:Int) = 0:=if_neg h2
    have hp:(zez x y true true true) t = true:=by simp [zez, h1, h2]
    rw [hp, if_pos rfl] at hf
    refine Zdf ?_;refine ZbK ?_;refine z8 (zp L rfl rfl (zk rfl) rfl rfl rfl (fun u H hH _ _ v1 h3 => zbr (l:=x) (by omega) e1 hH h3)) rfl ?_;refine Zel ?_;refine ZbK ?_;refine z8 (zp L rfl rfl (zk rfl) rfl rfl rfl (fun u H hH _ _ v1 h3 => zbr (l:=y) (by omega) e2 hH h3)) rfl ?_;refine Zdn ?_;refine Zc0 ?_;refine Zp ?_;refine Z2 ?_;refine Zs ?_;refine Zad ?_;refine Zg ?_;refine Zfk ?_;refine Zc8 ?_;refine ZcV ?_;refine Zar ?_;refine Z8 ?_;refine qp (yq (.inl rfl) rfl rfl rfl rfl) ?_;refine ZdI ?_;refine Zcv ?_;refine qp (yq (.inr rfl) rfl rfl rfl rfl) ?_;refine Zaq ?_;refine ZcI ?_
    exact yi (x:=(i, r)) (i + 1, r ++ [t]) ⟨hlt, by dsimp only; rw [List.length_append, List.length_singleton]; omega, hf.symm⟩ (by dsimp only; omega) ⟨rfl, rfl, rfl, rfl, rfl, ze9 rfl, rfl, rfl, trivial⟩
  ·have e1:(if t ∈ x then 1 else 0:Int) = 0:=if_neg h1
   by_cases h2:t ∈ y
   ·have e2:(if t ∈ y then 1 else 0:Int) = 1:=if_pos h2
    have hp:(zez x y true true true) t = true:=by simp [zez, h1, h2]
    rw [hp, if_pos rfl] at hf
    refine Zdf ?_;refine ZbK ?_;refine z8 (zp L rfl rfl (zk rfl) rfl rfl rfl (fun u H hH _ _ v1 h3 => zbr (l:=x) (by omega) e1 hH h3)) rfl ?_;refine Zdn ?_;refine ZbK ?_;refine z8 (zp L rfl rfl (zk rfl) rfl rfl rfl (fun u H hH _ _ v1 h3 => zbr (l:=y) (by omega) e2 hH h3)) rfl ?_;refine Zel ?_;refine Zc0 ?_;refine ZcM ?_;refine Zc7 ?_;refine Zg ?_;refine Zb3 ?_;refine Z2 ?_;refine Zc8 ?_;refine Zb3 ?_;refine Zad ?_;refine Zs ?_;refine Zd ?_;refine Zad ?_;refine Zg ?_;refine Zar ?_;refine Z8 ?_;refine qp (yq (.inl rfl) rfl rfl rfl rfl) ?_;refine ZdI ?_;refine Zcv ?_;refine qp (yq (.inr rfl) rfl rfl rfl rfl) ?_;refine Zaq ?_;refine ZcI ?_
    exact yi (x:=(i, r)) (i + 1, r ++ [t]) ⟨hlt, by dsimp only; rw [List.length_append, List.length_singleton]; omega, hf.symm⟩ (by dsimp only; omega) ⟨rfl, rfl, rfl, rfl, rfl, ze9 rfl, rfl, rfl, trivial⟩
   ·have e2:(if t ∈ y then 1 else 0:Int) = 0:=if_neg h2
    have hp:(zez x y true true true) t = false:=by simp [zez, h1, h2]
    rw [hp, if_neg (by decide)] at hf
    refine Zdf ?_;refine ZbK ?_;refine z8 (zp L rfl rfl (zk rfl) rfl rfl rfl (fun u H hH _ _ v1 h3 => zbr (l:=x) (by omega) e1 hH h3)) rfl ?_;refine Zdn ?_;refine ZbK ?_;refine z8 (zp L rfl rfl (zk rfl) rfl rfl rfl (fun u H hH _ _ v1 h3 => zbr (l:=y) (by omega) e2 hH h3)) rfl ?_;refine Zdn ?_;refine Zc0 ?_;refine ZcM ?_;refine Zc7 ?_;refine Zg ?_;refine Zb3 ?_;refine Z2 ?_;refine Zc8 ?_;refine Zb3 ?_;refine Zad ?_;refine Zs ?_;refine Zd ?_;refine Zg ?_;refine Zb3 ?_;refine ZdS ?_;refine ZcI ?_
    exact yi (x:=(i, r)) (i + 1, r) ⟨hlt, by dsimp only; omega, hf.symm⟩ (by dsimp only; omega) ⟨rfl, rfl, rfl, rfl, rfl, rfl, rfl, rfl, trivial⟩
 ·obtain rfl:i = l.length:=by omega
  rw [List.take_length] at hr
  have hzr:∀ t ∈ r, TZ t:=fun t h => hza t (List.mem_filter.1 (by rw [← hr]; exact h)).1
  rw [← hr]
  refine zci 11 rfl ?_
  refine ZbX ?_;refine ZbH ?_;refine ZM ?_;refine Zf ?_;refine z7 (yw L rfl rfl (zk rfl) rfl rfl rfl SlV.mono (fun u H hH _ _ v1 h3 => zkb (by omega) hzr hH h3)) rfl ?_;refine ZaZ ?_
  refine ye L (rs:=[.tmp 10]) rfl (fun _ _ h => h) Since.refl fun u H hH hle => ?_
  exact fun v hv => hv
set_option maxHeartbeats 4000000 in
theorem zus {x y:List U} {fx fy:Bool} (hx:x.length ≤ 100000) (hy:y.length ≤ 100000) (zx:∀ t ∈ x, TZ t) (zy:∀ t ∈ y, TZ t) {vx vy:Value} {w:World} {B:Heap} (hB:B.Le (hp w)) (hvx:US x fx vx B) (hvy:US y fy vy B) :
  Ret Tryz.prog 62 [vx, vy, .bool true, .bool false, .bool false] w B (US (zj1 x y true false false) false):=by
 have lx:=zhx x
 have ly:=zhx y
 have px:=zfy x
 have py:=zfy y
 refine yf Tryz.func62 rfl Tryz.ntmps62 (Nat.le_of_ble_eq_true rfl) hB ?_
 refine zat 0 (US x fx) rfl SlV.mono hvx ?_
 refine zat 1 (US y fy) rfl SlV.mono hvy ?_
 refine ZaD ?_;refine Ze ?_
 refine zd4 11 tyU 6 rfl ?_
 refine Zy ?_;refine Zf ?_;refine z7 (zc7 L rfl rfl rfl (zik rfl) rfl zqe lx px (by omega) (by omega)) rfl ?_;refine Zf ?_;refine qp (zb9 L rfl rfl rfl (zik rfl) rfl zqe ly py (by omega) (by omega)) ?_;refine qp (yq (.inr rfl) rfl rfl rfl rfl) ?_;refine ZU ?_
 refine zci 12 (zt8 rfl) ?_
 have hal:(x ++ y).length ≤ 200000:=by rw [List.length_append]; omega
 have hza:∀ t ∈ x ++ y, TZ t:=fun t ht => (List.mem_append.1 ht).elim (zx t) (zy t)
 unfold zj1
 generalize hall:x ++ y = l at hal hza
 refine Zt ?_;refine ZE ?_
 refine zal (fun s:Nat × List U => [(0, .sat (US x fx)), (1, .sat (US y fy)), (2, .is (.bool true)), (3, .is (.bool false)), (4, .is (.bool false)), (11, .own (SlR tyU 6 s.2.length (s.2.flatMap ucs))), (12, .sat (US l false)), (13, .is (.int .i64 s.1))])
  (fun s => s.1 ≤ l.length ∧ s.2.length ≤ s.1 ∧ s.2 = (l.take s.1).filter (zez x y true false false)) (fun s => l.length - s.1) (0, []) ⟨Nat.zero_le _, Nat.le_refl _, rfl⟩ ⟨rfl, rfl, rfl, rfl, rfl, rfl, rfl, rfl, trivial⟩ ?_
 rintro ⟨i, r⟩ ⟨hi, hrl, hr⟩
 dsimp only at hi hrl hr ⊢
 by_cases hlt:i < l.length
 ·obtain ⟨t, ht⟩:=zae hlt
  have hc:=zfx ht
  have hf:=zk0 ht hr
  by_cases h1:t ∈ x
  ·have e1:(if t ∈ x then 1 else 0:Int) = 1:=if_pos h1
   by_cases h2:t ∈ y
   ·have e2:(if t ∈ y then 1 else 0:Int) = 1:=if_pos h2
    have hp:(zez x y true false false) t = false:=by simp [zez, h1, h2]
    rw [hp, if_neg (by decide)] at hf
    refine Zdf ?_;refine ZbK ?_;refine z8 (zp L rfl rfl (zk rfl) rfl rfl rfl (fun u H hH _ _ v1 h3 => zbr (l:=x) (by omega) e1 hH h3)) rfl ?_;refine Zel ?_;refine ZbK ?_;refine z8 (zp L rfl rfl (zk rfl) rfl rfl rfl (fun u H hH _ _ v1 h3 => zbr (l:=y) (by omega) e2 hH h3)) rfl ?_;refine Zel ?_;refine Zc0 ?_;refine Zp ?_;refine Z2 ?_;refine Zea ?_;refine Zb3 ?_;refine Zac ?_;refine Zad ?_;refine Zg ?_;refine Zad ?_;refine Zs ?_;refine Zb3 ?_;refine Zb3 ?_;refine ZdS ?_;refine ZcI ?_
    exact yi (x:=(i, r)) (i + 1, r) ⟨hlt, by dsimp only; omega, hf.symm⟩ (by dsimp only; omega) ⟨rfl, rfl, rfl, rfl, rfl, rfl, rfl, rfl, trivial⟩
   ·have e2:(if t ∈ y then 1 else 0:Int) = 0:=if_neg h2
    have hp:(zez x y true false false) t = true:=by simp [zez, h1, h2]
    rw [hp, if_pos rfl] at hf
    refine Zdf ?_;refine ZbK ?_;refine z8 (zp L rfl rfl (zk rfl) rfl rfl rfl (fun u H hH _ _ v1 h3 => zbr (l:=x) (by omega) e1 hH h3)) rfl ?_;refine Zel ?_;refine ZbK ?_;refine z8 (zp L rfl rfl (zk rfl) rfl rfl rfl (fun u H hH _ _ v1 h3 => zbr (l:=y) (by omega) e2 hH h3)) rfl ?_;refine Zdn ?_;refine Zc0 ?_;refine Zp ?_;refine Z2 ?_;refine Zs ?_;refine Zad ?_;refine Zg ?_;refine Zfk ?_;refine Zc8 ?_;refine ZcV ?_;refine Zar ?_;refine Z8 ?_;refine qp (yq (.inl rfl) rfl rfl rfl rfl) ?_;refine ZdI ?_;refine Zcv ?_;refine qp (yq (.inr rfl) rfl rfl rfl rfl) ?_;refine Zaq ?_;refine ZcI ?_
    exact yi (x:=(i, r)) (i + 1, r ++ [t]) ⟨hlt, by dsimp only; rw [List.length_append, List.length_singleton]; omega, hf.symm⟩ (by dsimp only; omega) ⟨rfl, rfl, rfl, rfl, rfl, ze9 rfl, rfl, rfl, trivial⟩
  ·have e1:(if t ∈ x then 1 else 0:Int) = 0:=if_neg h1
   by_cases h2:t ∈ y
   ·have e2:(if t ∈ y then 1 else 0:Int) = 1:=if_pos h2
    have hp:(zez x y true false false) t = false:=by simp [zez, h1, h2]
    rw [hp, if_neg (by decide)] at hf
    refine Zdf ?_;refine ZbK ?_;refine z8 (zp L rfl rfl (zk rfl) rfl rfl rfl (fun u H hH _ _ v1 h3 => zbr (l:=x) (by omega) e1 hH h3)) rfl ?_;refine Zdn ?_;refine ZbK ?_;refine z8 (zp L rfl rfl (zk rfl) rfl rfl rfl (fun u H hH _ _ v1 h3 => zbr (l:=y) (by omega) e2 hH h3)) rfl ?_;refine Zel ?_;refine Zc0 ?_;refine ZcM ?_;refine Zc7 ?_;refine Zg ?_;refine Zb3 ?_;refine Z2 ?_;refine Zc8 ?_;refine Zb3 ?_;refine Zad ?_;refine Zs ?_;refine Zd ?_;refine Zad ?_;refine Zg ?_;refine ZdS ?_;refine ZcI ?_
    exact yi (x:=(i, r)) (i + 1, r) ⟨hlt, by dsimp only; omega, hf.symm⟩ (by dsimp only; omega) ⟨rfl, rfl, rfl, rfl, rfl, rfl, rfl, rfl, trivial⟩
   ·have e2:(if t ∈ y then 1 else 0:Int) = 0:=if_neg h2
    have hp:(zez x y true false false) t = false:=by simp [zez, h1, h2]
    rw [hp, if_neg (by decide)] at hf
    refine Zdf ?_;refine ZbK ?_;refine z8 (zp L rfl rfl (zk rfl) rfl rfl rfl (fun u H hH _ _ v1 h3 => zbr (l:=x) (by omega) e1 hH h3)) rfl ?_;refine Zdn ?_;refine ZbK ?_;refine z8 (zp L rfl rfl (zk rfl) rfl rfl rfl (fun u H hH _ _ v1 h3 => zbr (l:=y) (by omega) e2 hH h3)) rfl ?_;refine Zdn ?_;refine Zc0 ?_;refine ZcM ?_;refine Zc7 ?_;refine Zg ?_;refine Zb3 ?_;refine Z2 ?_;refine Zc8 ?_;refine Zb3 ?_;refine Zad ?_;refine Zs ?_;refine Zd ?_;refine Zg ?_;refine Zb3 ?_;refine ZdS ?_;refine ZcI ?_
    exact yi (x:=(i, r)) (i + 1, r) ⟨hlt, by dsimp only; omega, hf.symm⟩ (by dsimp only; omega) ⟨rfl, rfl, rfl, rfl, rfl, rfl, rfl, rfl, trivial⟩
 ·obtain rfl:i = l.length:=by omega
  rw [List.take_length] at hr
  have hzr:∀ t ∈ r, TZ t:=fun t h => hza t (List.mem_filter.1 (by rw [← hr]; exact h)).1
  rw [← hr]
  refine zci 11 rfl ?_
  refine ZbX ?_;refine ZbH ?_;refine ZM ?_;refine Zf ?_;refine z7 (yw L rfl rfl (zk rfl) rfl rfl rfl SlV.mono (fun u H hH _ _ v1 h3 => zkb (by omega) hzr hH h3)) rfl ?_;refine ZaZ ?_
  refine ye L (rs:=[.tmp 10]) rfl (fun _ _ h => h) Since.refl fun u H hH hle => ?_
  exact fun v hv => hv
end Go.V.L2
set_option maxRecDepth 20000
namespace Go.V.L6
open Go.Proofs Go.RowKit Go.V Go.V.L2 Go.V.L3
theorem _root_.Go.V.ZeP {A B:Prop} (h:B) (t:Wr B → A:=by intro h; refine z7 (zh9 L rfl rfl rfl rfl) rfl ?_;exact h.h):A:=t ⟨h⟩
theorem _root_.Go.V.Zgo {A B:Prop} (h:B) (t:Wr B → A:=by intro h; refine z7 (qk L _ rfl rfl rfl rfl rfl rfl rfl (by omega)) rfl ?_;exact h.h):A:=t ⟨h⟩
theorem zwp (N:List (U × Unit)):UT.flat N = (kS N).flatMap ucs:=by
 unfold UT.flat kS
 rw [List.flatMap_map]
 rfl
theorem zsv {t:Tr U Unit} {r k:Nat} (hk:k ≤ t.size):kS (UT.rangeL t (r:Int) (k:Int)) = ((kS t.list).take k).drop r:=by
 unfold UT.rangeL
 have h0:max (r:Int) 0 = (r:Int):=by omega
 have h1:min (k:Int) (t.size:Int) = (k:Int):=by omega
 rw [h0, h1]
 by_cases h:(r:Int) ≥ k
 ·rw [if_pos h, List.drop_eq_nil_of_le (by rw [List.length_take]; omega)]
  rfl
 ·rw [if_neg h, Tr.prs_list]
  have:=zr2 r k t.list 0
  rw [show ((0:Nat):Int) = 0 from rfl] at this
  rw [this, Nat.sub_zero, Nat.sub_zero]
  unfold kS
  rw [List.map_drop, List.map_take]
attribute [local irreducible] V N X VO Par StepOK Has Ret RetL RetO Src
set_option maxHeartbeats 1000000 in
theorem zth {fv:Value} {p:Option Addr} {t:Tr U Unit} {f e:Int} {M:List U} (hM:kS (UT.rangeL t f e) = M) (hs:t.size ≤ 100000) {w:World} {B:Heap} (hB:B.Le (hp w)) (ht:UT.TA t (.pointer p) B) :
  RetO Tryz.prog 45 [.agg #[fv, .pointer p], .int .i64 f, .int .i64 e] w B (SlE tyU 6 M.length (M.flatMap ucs)):=by
 obtain ⟨N, hN⟩:∃ N, UT.rangeL t f e = N:=⟨_, rfl⟩
 rw [hN] at hM
 have hfl:=zwp N
 have hNM:N.length = M.length:=by rw [← hM]; simp
 have hlen:M.length ≤ 100000:=by
  rw [← hNM, ← hN]
  unfold UT.rangeL
  split
  ·exact Nat.zero_le _
  ·exact Nat.le_trans (Tr.prs_length_le _ _ _ _) hs
 have hat:∀ {k:Nat} {g:U}, M[k]? = some g → ((UT.flat N).drop (k * 6)).take 6 = [.string g.1.1.1, .string g.1.1.2, .string g.1.2, .string g.2.1.1, .string g.2.1.2, .string g.2.2]:=fun {k g} h => by
  rw [hfl, hM]; exact zfx h
 clear hM hfl
 refine zea Tryz.func45 rfl Tryz.ntmps45 (Nat.le_of_ble_eq_true rfl) hB ?_
 refine Zb0 ?_;refine Zbc ?_;refine Zd ?_;refine z7 (yw (φ:=UT.PS N true) L rfl rfl (zk rfl) rfl rfl rfl UT.PS.mono (fun u H hH hle _ => UT.range_m _ _ hH (⟨_, rfl, ht.le hle⟩) (by omega) hN)) rfl ?_;refine ZdK ?_;refine Zy ?_;refine Zq ?_;refine z7 (zjb L _ rfl rfl rfl zqe rfl rfl rfl rfl (by omega) (by simp only [maxLen]; omega)) rfl ?_;refine qp (yq (.inr rfl) rfl rfl rfl rfl) ?_;refine ZU ?_;refine Zt ?_;refine ZcD ?_
 have hzl:=zlk (P:=Tryz.prog) (k:=N.length * 6) zqe
 generalize zsL Tryz.prog tyU (N.length * 6) = zs0 at hzl
 rw [hNM] at hzl ⊢
 refine zal (fun s:Nat × List Value => [(7, .sat (UT.PS N true)), (8, .own (SlE tyU 6 M.length ((M.take s.1).flatMap ucs ++ s.2))), (19, .is (.int .i64 M.length)), (20, .is (.int .i64 s.1))])
  (fun s => s.1 ≤ M.length ∧ s.2.length = (M.length - s.1) * 6) (fun s => M.length - s.1) (0, zs0) ⟨Nat.zero_le _, hzl⟩ ⟨rfl, rfl, rfl, rfl, trivial⟩ ?_
 rintro ⟨k, zs⟩ ⟨hk, hz⟩
 dsimp only at hk hz ⊢
 by_cases hlt:k < M.length
 ·obtain ⟨g, hg⟩:=zae hlt
  have hc:=hat hg
  have hlN:k < N.length:=by omega
  have ht1:M.take (k + 1) = M.take k ++ [g]:=by rw [List.take_add_one, hg]; rfl
  have hr:List.take (0 + k * 6) ((M.take k).flatMap ucs ++ zs) ++ (ucs g ++ List.drop (0 + k * 6 + 6) ((M.take k).flatMap ucs ++ zs)) = (M.take (k + 1)).flatMap ucs ++ zs.drop 6:=by
   rw [ht1, Nat.zero_add]
   exact z3u zmh (M.take k) k M.length zs g (by rw [List.length_take]; omega) hz hlt
  have hlen':((M.take (k + 1)).flatMap ucs ++ zs.drop 6).length = M.length * 6:=by
   rw [List.length_append, zhx, List.length_take, List.length_drop, hz]; omega
  refine z5k 8 (by omega) rfl fun b hb => ?_
  have hle1:0 + k * 6 + 6 ≤ ((M.take k).flatMap ucs ++ zs).length:=by rw [hb.1]; omega
  refine Zg3 ?_;refine Zb ?_;refine Zby ?_;refine Zbe ?_;refine ZeP ?_;refine ZdH ?_;refine Zgo ?_;refine zpd L (O1:=[]) (cs':=(M.take (k + 1)).flatMap ucs ++ zs.drop 6) rfl rfl rfl rfl rfl rfl (Nat.ble_eq_true_of_le hle1) rfl hr ?_;refine Zaq ?_
  refine zzu (s:=6) 8 [] rfl rfl hlen' hb.2 ?_
  refine Zp ?_;refine Zci ?_
  exact yi (x:=(k, zs)) (k + 1, zs.drop 6) ⟨hlt, by dsimp only; rw [List.length_drop, hz]; omega⟩ (by dsimp only; omega) ⟨rfl, rfl, rfl, rfl, trivial⟩
 ·obtain rfl:k = M.length:=by omega
  have hzn:zs = []:=List.eq_nil_of_length_eq_zero (by rw [hz]; omega)
  rw [hzn, List.append_nil, List.take_length]
  refine ZeF ?_;refine Zbb ?_;refine Z8 ?_;refine qp (yq (.inl rfl) rfl rfl rfl rfl) ?_;refine qp (yq (.inr rfl) rfl rfl rfl rfl) ?_;refine Z6 ?_
  exact ziz rfl (fun _ _ h => h) Since.refl rfl
end Go.V.L6
set_option maxRecDepth 20000
namespace Go.V.L6
open Go.Proofs Go.RowKit Go.V Go.V.L2 Go.V.L3
attribute [local irreducible] V N X VO Par StepOK Has Ret RetL RetO Src
theorem SetV.trees {l:List U} {v:Value} {B:Heap} (hv:SetV l v B):∃ f p k q t u, v = .agg #[f, .pointer p, k, .pointer q] ∧ TS l t u ∧ UT.TA t (.pointer p) B ∧ UT.TA u (.pointer q) B:=by
 obtain ⟨p, q, t, u, hT, ht, hu, rfl | ⟨rfl, rfl, rfl, rfl⟩⟩:=hv
 ·exact ⟨_, _, _, _, t, u, rfl, hT, ht, hu⟩
 ·exact ⟨_, _, _, _, t, u, rfl, hT, ht, hu⟩
theorem z3s {l:List U} (hl:l.length ≤ 100000) {v:Value} {w:World} {B:Heap} (hB:B.Le (hp w)) (hv:SetV l v B):RetO Tryz.prog 14 [v] w B (SlE tyU 6 l.length (l.flatMap ucs)):=by
 obtain ⟨f, p, k, q, t, u, rfl, hT, ht, hu⟩:=hv.trees
 have hts:=hT.size
 have hr:kS (UT.rangeL t 0 (l.length:Int)) = l:=by
  have:=zsv (t:=t) (r:=0) (k:=l.length) (by omega)
  rw [show ((0:Nat):Int) = 0 from rfl] at this
  rw [this, hT.kt, List.drop_zero, List.take_length]
 refine zea Tryz.func14 rfl Tryz.ntmps14 (Nat.le_of_ble_eq_true rfl) hB ?_
 refine ZY ?_;refine Ze ?_;refine qg (id:=1) [(2, [7])] mixed (by kernel_rfl) ?_;refine Za5 ?_;refine ZbS ?_;refine Zej ?_;refine z8 (zp L rfl rfl (zk rfl) rfl rfl rfl (fun u H hH hle _ => zd5 rfl hH (hv.le hle))) rfl ?_;refine z8 (zdu L rfl rfl (zk rfl) rfl rfl rfl (fun u H hH hle _ => zth hr (by omega) hH (ht.le hle))) rfl ?_;refine za2 (yq (.inr rfl) rfl rfl rfl rfl) rfl rfl ?_;refine Zaj ?_
 exact ziz rfl (fun _ _ h => h) Since.refl rfl
end Go.V.L6
set_option maxRecDepth 20000
namespace Go.V.L6
open Go.Proofs Go.RowKit Go.V Go.V.L2 Go.V.L3
attribute [local irreducible] V N X VO Par StepOK Has Ret RetL RetO RetT Src
end Go.V.L6
set_option maxRecDepth 20000
namespace Go.V.L6
open Go.Proofs Go.RowKit Go.V Go.V.L2
attribute [local irreducible] V N X VO Par StepOK Has Ret RetL RetO Src
end Go.V.L6
set_option maxRecDepth 20000
namespace Go.V.L6
open Go.Proofs Go.RowKit Go.V Go.V.L2 Go.V.L3
theorem LE2.out {φ:Value → Heap → Prop} {a v:Value} {H:Heap} (h:TupS [φ, fun v _ => v = a] v H):∃ tv, v = .tuple #[tv, a] ∧ φ tv H:=by
 obtain ⟨vs, rfl, hl, h⟩:=h
 match vs, hl with
 | [x, y], _ =>
  have h1:=h 0 _ x rfl rfl
  have h2:=h 1 _ y rfl rfl
  subst h2
  exact ⟨x, rfl, h1⟩
def WithP (l:List U) (e:Int) (r:Value) (H:Heap):Prop:=∃ tv, r = .tuple #[tv, .int .i64 e] ∧ SetV l tv H
theorem WithP.mono {l:List U} {e:Int}:Kn.mono (.sat (WithP l e)):=fun _ _ _ ⟨tv, h1, h2⟩ hle => ⟨tv, h1, h2.le hle⟩
theorem zf3 {l:List U} (hl:l.length ≤ 100000) {v:Value} {w:World} {B:Heap} (hB:B.Le (hp w)) (hv:SetV l v B):Ret Tryz.prog 14 [v] w B (US l true):=(z3s hl hB hv).toRet zeu
theorem znt {l m:List U} {x:U} {d:Bool} {e:Int} (hr:zcz l x d = (m, e)) (hl:l.length ≤ 4096) (hz:TZ x) {v:Value} {w:World} {B:Heap} (hB:B.Le (hp w)) (hv:SetV l v B) :
  Ret Tryz.prog 61 [v, chv x d] w B (WithP m e):=(zxm hr hl hz hB hv).mono fun _ _ _ h => LE2.out h
attribute [local irreducible] V N X VO Par StepOK Has Ret RetL RetO RetT Src
abbrev z74:Nat:=97
theorem zws {a b:List U} {fa fb:Bool} (hla:a.length ≤ 1000000) (hlb:b.length ≤ 1000000) {r:Bool} (hr:decide (a = b) = r) {va vb:Value} {w:World} {B:Heap} (hB:B.Le (hp w)) (ha:US a fa va B) (hb:US b fb vb B) :
  Ret Tryz.prog z74 [va, vb] w B (fun v _ => v = .bool r):=by
 subst hr
 refine yf Tryz.func97 rfl Tryz.ntmps97 (Nat.le_of_ble_eq_true rfl) hB ?_
 refine zat 0 (US a fa) rfl SlV.mono ha ?_
 refine zat 1 (US b fb) rfl SlV.mono hb ?_
 by_cases hl:a.length = b.length
 ·refine ZdY ?_;refine Zay ?_;refine Zt ?_;refine ZcD ?_
  refine zal (fun k:Nat => [(0, .sat (US a fa)), (1, .sat (US b fb)), (12, .is (.int .i64 a.length)), (13, .is (.int .i64 k))]) (fun k => k ≤ a.length ∧ a.take k = b.take k) (fun k => a.length - k) 0 ⟨Nat.zero_le _, rfl⟩ ⟨rfl, rfl, rfl, rfl, trivial⟩ ?_
  rintro k ⟨hk, he⟩
  by_cases hlt:k < a.length
  ·obtain ⟨x, hx⟩:=zae hlt
   obtain ⟨y, hy⟩:=zae (show k < b.length by omega)
   have hcx:=zfx hx
   have hcy:=zfx hy
   by_cases hxy:x = y
   ·have hq:=eqU (decide_eq_true hxy)
    refine Zd7 ?_;refine Zew ?_;refine Zb1 ?_;refine Zb1 ?_;refine ZfI ?_;refine ZaI ?_;refine ZbF ?_;refine Z8 ?_;refine Zci ?_
    exact yi (x:=k) (k + 1) ⟨hlt, by rw [zn1 hx, zn1 hy, he, hxy]⟩ (by omega) ⟨rfl, rfl, rfl, rfl, trivial⟩
   ·have hq:=eqU (decide_eq_false hxy)
    have hab:a ≠ b:=fun e => hxy (by rw [e, hy] at hx; exact (Option.some.inj hx).symm)
    rw [decide_eq_false hab]
    refine Zd7 ?_;refine Zew ?_;refine Zb1 ?_;refine Zb1 ?_;refine ZfI ?_;refine ZdW ?_;refine ZcU ?_
    refine ye L (rs:=[.tmp 4]) rfl (fun _ _ h => h) Since.refl fun u H hH hle => ?_
    rfl
  ·obtain rfl:k = a.length:=by omega
   have hab:a = b:=by rw [List.take_length, hl, List.take_length] at he; exact he
   rw [decide_eq_true hab]
   refine ZeF ?_;refine Zbb ?_;refine ZM ?_;refine Zb ?_
   refine ye L (rs:=[.tmp 4]) rfl (fun _ _ h => h) Since.refl fun u H hH hle => ?_
   rfl
 ·have hab:a ≠ b:=fun e => hl (by rw [e])
  rw [decide_eq_false hab]
  refine ZdY ?_;refine ZP ?_;refine Zy ?_;refine Zb ?_
  refine ye L (rs:=[.tmp 4]) rfl (fun _ _ h => h) Since.refl fun u H hH hle => ?_
  rfl
theorem zum {a b:List U} (hla:a.length ≤ 100000) (hlb:b.length ≤ 100000) {r:Bool} (hr:decide (a = b) = r) {va vb:Value} {w:World} {B:Heap} (hB:B.Le (hp w)) (ha:SetV a va B) (hb:SetV b vb B) :
  Ret Tryz.prog 67 [va, vb] w B (fun v _ => v = .bool r):=by
 obtain ⟨f1, p1, f2, q1, hsh, hpl⟩:=ha.shape
 subst hsh
 obtain ⟨f3, p3, f4, q3, hsh, hpl3⟩:=hb.shape
 subst hsh
 refine yf Tryz.func67 rfl Tryz.ntmps67 (Nat.le_of_ble_eq_true rfl) hB ?_
 refine Zaf ?_;refine ZS ?_;refine Ze ?_;refine ZeL ?_;refine Zh ?_;refine Zej ?_;refine z8 (yw (φ:=US a true) L rfl rfl (zk rfl) rfl rfl rfl SlV.mono (fun u H hH hle _ => zf3 hla hH (ha.le hle))) rfl ?_;refine Zh ?_;refine Zej ?_;refine z8 (yw (φ:=US b true) L rfl rfl (zk rfl) rfl rfl rfl SlV.mono (fun u H hH hle _ => zf3 hlb hH (hb.le hle))) rfl ?_;refine z8 (zp L rfl rfl (zk rfl) rfl rfl rfl (fun u H hH _ _ v1 h1 v2 h2 => zws (by omega) (by omega) hr hH h1 h2)) rfl ?_;refine Zw ?_
 refine ye L (rs:=[.tmp 4]) rfl (fun _ _ h => h) Since.refl fun u H hH hle => ?_
 rfl
end Go.V.L6
set_option maxRecDepth 20000
namespace Go.V.L3
open Go.Proofs Go.RowKit Go.V Go.V.L2
attribute [local irreducible] V N X VO Par StepOK Has Ret RetL RetO RetT Src
end Go.V.L3
set_option maxRecDepth 20000
namespace Go.V.L3
open Go.Proofs Go.RowKit Go.V Go.V.L2
attribute [local irreducible] V N X VO Par StepOK Has Ret RetL RetO RetT Src
end Go.V.L3
set_option maxRecDepth 20000
namespace Go.V.L6
open Go.Proofs Go.RowKit Go.V Go.V.L2 Go.V.L3
theorem _root_.Go.V.ZcN {A B:Prop} (h:B) (t:Wr B → A:=by intro h; refine ZY ?_;refine ZF ?_;exact h.h):A:=t ⟨h⟩
abbrev R6 (l:List U) (e:Int):Value → Heap → Prop:=TupS [US l false, fun v _ => v = .int .i64 e]
theorem zxz {l:List U} (hs:Sst zbh l) (x:U):zj1 l [x] true false false = l.filter fun z => decide (z ≠ x):=by
 refine zex cmpT_ord (zf1 cmpT_ord Sst.nil) (hs.sublist List.filter_sublist) fun z => ?_
 unfold zj1 zj0
 rw [zf8, List.mem_filter, List.mem_filter]
 unfold zez
 simp only [List.mem_append, List.mem_singleton, List.not_mem_nil, false_or, Bool.and_true, Bool.and_false, Bool.or_false, Bool.and_eq_true, decide_eq_true_eq, Bool.not_eq_true', decide_eq_false_iff_not, ne_eq]
 constructor
 ·rintro ⟨_, h1, h2⟩; exact ⟨h1, h2⟩
 ·rintro ⟨h1, h2⟩; exact ⟨.inl h1, h1, h2⟩
theorem z1k {l:List U} (hs:Sst zbh l) {x:U} (hx:x ∉ l):zj1 l [x] true true true = zhv zbh x l:=by
 refine zex cmpT_ord (zf1 cmpT_ord Sst.nil) (zfb cmpT_ord hs hx) fun z => ?_
 unfold zj1 zj0
 rw [zf8, List.mem_filter, zd7]
 unfold zez
 simp only [List.mem_append, List.mem_singleton, List.not_mem_nil, false_or, Bool.and_true, Bool.or_eq_true, Bool.and_eq_true, decide_eq_true_eq, Bool.not_eq_true', decide_eq_false_iff_not]
 constructor
 ·rintro ⟨h, _⟩; exact h.symm
 ·rintro (rfl | h)
  ·exact ⟨.inr rfl, .inr ⟨hx, rfl⟩⟩
  ·refine ⟨.inl h, .inl (.inl ⟨h, fun e => ?_⟩)⟩
   subst e; exact hx h
theorem zqw (t:U):tE t = 0 ∨ tE t = 6:=by
 unfold tE
 split
 ·exact zn2 _ _ _
 ·rename_i h; exact .inr ((zjm _).resolve_left h)
theorem zjp {l:List U} {x z:U} {d:Bool} (h:z ∈ (zcz l x d).1):z ∈ l ∨ z = x:=by
 unfold zcz at h
 split at h
 ·split at h
  ·exact .inl (List.mem_filter.1 h).1
  ·split at h
   ·exact .inl h
   ·split at h
    ·cases h
    ·exact (zd7.1 h).symm
 ·cases h
attribute [local irreducible] V N X VO Par StepOK Has Ret RetL RetO RetT Src
set_option maxHeartbeats 1000000 in
theorem zj7 {l m:List U} {x:U} {d fu:Bool} {e:Int} (hr:zcz l x d = (m, e)) (hs:Sst zbh l) (hl:l.length ≤ 90000) (hz:TZ x) (zl:∀ t ∈ l, TZ t) {v:Value} {w:World} {B:Heap} (hB:B.Le (hp w)) (hv:US l fu v B) :
  Ret Tryz.prog 127 [v, chv x d] w B (R6 m e):=by
 have z1:∀ t ∈ [x], TZ t:=fun t ht => by rw [List.mem_singleton] at ht; subst ht; exact hz
 have zx1:([x]:List U).length ≤ 100000:=show 1 ≤ 100000 by decide
 have key:∀ {a b c:Bool} (u:World) (H:Heap) (v1 v2:Value), H.Le (hp u) → US l fu v1 H → SlB (ucs x) tyU 1 v2 H → (a = true ∧ b = false ∧ c = false ∨ a = true ∧ b = true ∧ c = true) → Ret Tryz.prog 62 [v1, v2, .bool a, .bool b, .bool c] u H (US (zj1 l [x] a b c) false):=by
  rintro a b c u H v1 v2 hH h1 h2 (⟨rfl, rfl, rfl⟩ | ⟨rfl, rfl, rfl⟩)
  ·exact zus (y:=[x]) (by omega) zx1 zl z1 hH h1 (h2.toV rfl)
  ·exact zur (y:=[x]) (by omega) zx1 zl z1 hH h1 (h2.toV rfl)
 refine yf Tryz.func127 rfl Tryz.ntmps127 (Nat.le_of_ble_eq_true rfl) hB ?_
 refine zat 0 (US l fu) rfl SlV.mono hv ?_
 unfold zcz at hr
 by_cases he:tE x = 0
 ·rw [if_pos he] at hr
  cases d
  ·rw [if_neg (by decide)] at hr
   by_cases hx:x ∈ l
   ·rw [if_pos hx] at hr
    cases hr
    have hin:(if x ∈ l then 1 else 0:Int) = 1:=if_pos hx
    refine ZcN ?_;refine Zek ?_;refine z7 (zp L rfl rfl (zk rfl) rfl rfl rfl (fun u H hH _ _ => he ▸ zef hz hH)) rfl ?_;refine Zay ?_;refine ZcG ?_;refine Zr ?_;refine Zo ?_;refine Zf ?_;refine Zcz ?_;refine z7 (zp L rfl rfl (zk rfl) rfl rfl rfl (fun u H hH _ _ v1 h1 => zbr (by omega) hin hH h1)) rfl ?_;refine ZbZ ?_;refine Zz ?_;refine Zf ?_;refine Zb6 ?_;refine Zb ?_
    refine ye L (rs:=[.tmp 4, .tmp 5]) rfl (fun _ _ h => h) Since.refl fun u H hH hle => ?_
    exact fun v hv => LE2.mk hv.nofu
   ·rw [if_neg hx] at hr
    have hin:(if x ∈ l then 1 else 0:Int) = 0:=if_neg hx
    by_cases hf:l.length ≥ 4096
    ·rw [if_pos hf] at hr
     cases hr
     refine ZcN ?_;refine Zek ?_;refine z7 (zp L rfl rfl (zk rfl) rfl rfl rfl (fun u H hH _ _ => he ▸ zef hz hH)) rfl ?_;refine Zay ?_;refine ZcG ?_;refine Zr ?_;refine Zo ?_;refine Zf ?_;refine Zcz ?_;refine z7 (zp L rfl rfl (zk rfl) rfl rfl rfl (fun u H hH _ _ v1 h1 => zbr (by omega) hin hH h1)) rfl ?_;refine Zbs ?_;refine Zp ?_;refine Zq ?_;refine Zat ?_;refine Z0 ?_;refine Z8 ?_;refine Zk ?_
     refine ye L (rs:=[.tmp 4, .tmp 5]) rfl (fun _ _ h => h) Since.refl fun u H hH hle => ?_
     exact LE2.mk SlV.nil
    ·rw [if_neg hf] at hr
     cases hr
     rw [← z1k hs hx]
     refine ZcN ?_;refine Zek ?_;refine z7 (zp L rfl rfl (zk rfl) rfl rfl rfl (fun u H hH _ _ => he ▸ zef hz hH)) rfl ?_;refine Zay ?_;refine ZcG ?_;refine Zr ?_;refine Zo ?_;refine Zf ?_;refine Zcz ?_;refine z7 (zp L rfl rfl (zk rfl) rfl rfl rfl (fun u H hH _ _ v1 h1 => zbr (by omega) hin hH h1)) rfl ?_;refine Zbs ?_;refine Zp ?_;refine Zq ?_;refine ZA ?_;refine Zx ?_;refine ZM ?_;refine Zf ?_;refine Zcz ?_;refine Zaa ?_;refine z7 (yw (φ:=US (zj1 l [x] true true true) false) L rfl rfl (zk rfl) rfl rfl rfl SlV.mono (fun u H hH _ _ v1 h1 v2 h2 => key u H v1 v2 hH h1 h2 (.inr ⟨rfl, rfl, rfl⟩))) rfl ?_;refine Zb6 ?_;refine Zb ?_
     refine ye L (rs:=[.tmp 4, .tmp 5]) rfl (fun _ _ h => h) Since.refl fun u H hH hle => ?_
     exact fun v hv => LE2.mk hv
  ·rw [if_pos rfl] at hr
   cases hr
   rw [← zxz hs x]
   refine ZcN ?_;refine Zek ?_;refine z7 (zp L rfl rfl (zk rfl) rfl rfl rfl (fun u H hH _ _ => he ▸ zef hz hH)) rfl ?_;refine Zay ?_;refine ZcG ?_;refine ZcK ?_;refine Zf ?_;refine Zcz ?_;refine Zaa ?_;refine z7 (yw (φ:=US (zj1 l [x] true false false) false) L rfl rfl (zk rfl) rfl rfl rfl SlV.mono (fun u H hH _ _ v1 h1 v2 h2 => key u H v1 v2 hH h1 h2 (.inl ⟨rfl, rfl, rfl⟩))) rfl ?_;refine Zb6 ?_;refine Zb ?_
   refine ye L (rs:=[.tmp 4, .tmp 5]) rfl (fun _ _ h => h) Since.refl fun u H hH hle => ?_
   exact fun v hv => LE2.mk hv
 ·have h6:=(zqw x).resolve_left he
  rw [if_neg he, h6] at hr
  cases hr
  refine ZcN ?_;refine Zek ?_;refine z7 (zp L rfl rfl (zk rfl) rfl rfl rfl (fun u H hH _ _ => h6 ▸ zef hz hH)) rfl ?_;refine ZP ?_;refine Zy ?_;refine Zk ?_
  refine ye L (rs:=[.tmp 4, .tmp 5]) rfl (fun _ _ h => h) Since.refl fun u H hH hle => ?_
  exact LE2.mk SlV.nil
end Go.V.L6
set_option maxRecDepth 20000
namespace Go.V.L3
open Go.Proofs Go.RowKit Go.V Go.V.L2
attribute [local irreducible] V N X VO Par StepOK Has Ret RetL RetO RetT Src
end Go.V.L3
set_option maxRecDepth 20000
namespace Go.V.L3
open Go.Proofs Go.RowKit Go.V Go.V.L2
attribute [local irreducible] V N X VO Par StepOK Has Ret RetL RetO RetT Src
end Go.V.L3
set_option maxRecDepth 20000
namespace Go.V.L3
open Go.Proofs Go.RowKit Go.V Go.V.L2
abbrev tyI:TypeId:=3
attribute [local irreducible] V N X VO Par StepOK Has Ret RetL RetO RetT Src
end Go.V.L3
set_option maxRecDepth 20000
namespace Go.V.L3
open Go.Proofs Go.RowKit Go.V Go.V.L2
attribute [local irreducible] V N X VO Par StepOK Has Ret RetL RetO RetT Src
end Go.V.L3
set_option maxRecDepth 20000
namespace Go.V
open Go.Proofs Go.RowKit
def zjy (n:Nat):ByteArray:=match n % 3 with
 | 0 => ⟨#[100, 111, 99]⟩
 | 1 => ⟨#[102, 111, 108, 100, 101, 114]⟩
 | _ => ⟨#[103, 114, 111, 117, 112]⟩
def idS (n:Nat):ByteArray:=match n % 5 with
 | 0 => ⟨#[97]⟩
 | 1 => ⟨#[98]⟩
 | 2 => ⟨#[99, 49]⟩
 | 3 => ⟨#[100]⟩
 | _ => ⟨#[114, 111, 111, 116]⟩
def z1o (n:Nat):ByteArray:=match n % 4 with
 | 0 => ⟨#[118, 105, 101, 119, 101, 114]⟩
 | 1 => ⟨#[101, 100, 105, 116, 111, 114]⟩
 | 2 => ⟨#[109, 101, 109, 98, 101, 114]⟩
 | _ => ⟨#[112, 97, 114, 101, 110, 116]⟩
theorem ze3 (n:Nat):chk (zjy n) = 0 ∧ (zjy n).size ≤ 16:=by
 unfold zjy
 split <;> decide +kernel
theorem zl7 (n:Nat):chk (idS n) = 0 ∧ (idS n).size ≤ 16:=by
 unfold idS
 split <;> decide +kernel
theorem zmt (n:Nat):chk (z1o n) = 0 ∧ (z1o n).size ≤ 16:=by
 unfold z1o
 split <;> decide +kernel
def znf (n:Nat):(ByteArray × ByteArray) × ByteArray:=((zjy n, idS (n / 3)), z1o (n / 15))
theorem zy3 (n:Nat):zda [(znf n).1.1, (znf n).1.2, (znf n).2] = 0:=by
 simp only [zda, znf, (ze3 _).1, (zl7 _).1, (zmt _).1, if_pos]
theorem ztk (n:Nat):(znf n).1.1.size ≤ 16 ∧ (znf n).1.2.size ≤ 16 ∧ (znf n).2.size ≤ 16:=⟨(ze3 _).2, (zl7 _).2, (zmt _).2⟩
end Go.V
set_option maxRecDepth 20000
namespace Go.V
open Go.Proofs Go.RowKit
theorem _root_.Go.V.Zg8 {A B:Prop} (h:B) (t:Wr B → A:=by intro h; refine z7 (z0j rfl rfl rfl rfl (by omega) (by assumption)) rfl ?_;exact h.h):A:=t ⟨h⟩
theorem _root_.Go.V.ZgJ {A B:Prop} (h:B) (t:Wr B → A:=by intro h; refine ZaD ?_;refine Zaa ?_;exact h.h):A:=t ⟨h⟩
theorem _root_.Go.V.ZgK {A B:Prop} (h:B) (t:Wr B → A:=by intro h; refine ZgJ ?_;refine Za ?_;exact h.h):A:=t ⟨h⟩
theorem _root_.Go.V.Zfs {A B:Prop} (h:B) (t:Wr B → A:=by intro h; refine ZgK ?_;refine Zg8 ?_;exact h.h):A:=t ⟨h⟩
theorem _root_.Go.V.Zdo {A B:Prop} (h:B) (t:Wr B → A:=by intro h; refine Zg4 ?_;refine Zb ?_;exact h.h):A:=t ⟨h⟩
theorem _root_.Go.V.Zgp {A B:Prop} (h:B) (t:Wr B → A:=by intro h; refine Zfs ?_;refine z7 (zeb L 0 rfl rfl rfl rfl rfl rfl rfl (by omega)) rfl ?_;exact h.h):A:=t ⟨h⟩
theorem _root_.Go.V.Zgq {A B:Prop} (h:B) (t:Wr B → A:=by intro h; refine Zfs ?_;refine z7 (zeb L 1 rfl rfl rfl rfl rfl rfl rfl (by omega)) rfl ?_;exact h.h):A:=t ⟨h⟩
theorem _root_.Go.V.Zgr {A B:Prop} (h:B) (t:Wr B → A:=by intro h; refine Zfs ?_;refine z7 (zeb L 2 rfl rfl rfl rfl rfl rfl rfl (by omega)) rfl ?_;exact h.h):A:=t ⟨h⟩
attribute [local irreducible] V N X VO Par StepOK Has Ret RetL Src
theorem zn3 (n:Nat) {w:World} {B:Heap} (hB:B.Le (hp w)):Ret Tryz.prog 145 [.int .i64 n] w B (fun v _ => v = .string (zjy n)):=by
 unfold zjy
 have e:Int.tmod (n:Int) 3 = ((n % 3:Nat):Int):=rfl
 refine yf Tryz.func145 rfl Tryz.ntmps145 (Nat.le_of_ble_eq_true rfl) hB ?_
 have hlt:=Nat.mod_lt n (show 0 < 3 by decide)
 rcases (by omega:n % 3 = 0 ∨ n % 3 = 1 ∨ n % 3 = 2) with h | h | h
 ·have e0:Int.tmod (n:Int) 3 = 0:=by rw [e, h]; rfl
  rw [h]
  refine Zgp ?_;refine Zdo ?_
  refine ye L (rs:=[.tmp 2]) rfl (fun _ _ h => h) Since.refl fun u H hH hle => ?_
  rfl
 ·have e0:Int.tmod (n:Int) 3 = 1:=by rw [e, h]; rfl
  rw [h]
  refine Zgq ?_;refine Zdo ?_
  refine ye L (rs:=[.tmp 2]) rfl (fun _ _ h => h) Since.refl fun u H hH hle => ?_
  rfl
 ·have e0:Int.tmod (n:Int) 3 = 2:=by rw [e, h]; rfl
  rw [h]
  refine Zgr ?_;refine Zdo ?_
  refine ye L (rs:=[.tmp 2]) rfl (fun _ _ h => h) Since.refl fun u H hH hle => ?_
  rfl
theorem z0o (n:Nat) {w:World} {B:Heap} (hB:B.Le (hp w)):Ret Tryz.prog 146 [.int .i64 n] w B (fun v _ => v = .string (idS n)):=by
 unfold idS
 have e:Int.tmod (n:Int) 5 = ((n % 5:Nat):Int):=rfl
 refine yf Tryz.func146 rfl Tryz.ntmps146 (Nat.le_of_ble_eq_true rfl) hB ?_
 have hlt:=Nat.mod_lt n (show 0 < 5 by decide)
 rcases (by omega:n % 5 = 0 ∨ n % 5 = 1 ∨ n % 5 = 2 ∨ n % 5 = 3 ∨ n % 5 = 4) with h | h | h | h | h
 ·have e0:Int.tmod (n:Int) 5 = 0:=by rw [e, h]; rfl
  rw [h]
  refine Zgp ?_;refine Zdo ?_
  refine ye L (rs:=[.tmp 2]) rfl (fun _ _ h => h) Since.refl fun u H hH hle => ?_
  rfl
 ·have e0:Int.tmod (n:Int) 5 = 1:=by rw [e, h]; rfl
  rw [h]
  refine Zgq ?_;refine Zdo ?_
  refine ye L (rs:=[.tmp 2]) rfl (fun _ _ h => h) Since.refl fun u H hH hle => ?_
  rfl
 ·have e0:Int.tmod (n:Int) 5 = 2:=by rw [e, h]; rfl
  rw [h]
  refine Zgr ?_;refine Zdo ?_
  refine ye L (rs:=[.tmp 2]) rfl (fun _ _ h => h) Since.refl fun u H hH hle => ?_
  rfl
 ·have e0:Int.tmod (n:Int) 5 = 3:=by rw [e, h]; rfl
  rw [h]
  refine Zfs ?_;refine z7 (zeb L 3 rfl rfl rfl rfl rfl rfl rfl (by omega)) rfl ?_;refine Zdo ?_
  refine ye L (rs:=[.tmp 2]) rfl (fun _ _ h => h) Since.refl fun u H hH hle => ?_
  rfl
 ·have e0:Int.tmod (n:Int) 5 = 4:=by rw [e, h]; rfl
  rw [h]
  refine Zfs ?_;refine z7 (zeb L 4 rfl rfl rfl rfl rfl rfl rfl (by omega)) rfl ?_;refine Zdo ?_
  refine ye L (rs:=[.tmp 2]) rfl (fun _ _ h => h) Since.refl fun u H hH hle => ?_
  rfl
theorem zuu (n:Nat) {w:World} {B:Heap} (hB:B.Le (hp w)):Ret Tryz.prog 147 [.int .i64 n] w B (fun v _ => v = .string (z1o n)):=by
 unfold z1o
 have e:Int.tmod (n:Int) 4 = ((n % 4:Nat):Int):=rfl
 refine yf Tryz.func147 rfl Tryz.ntmps147 (Nat.le_of_ble_eq_true rfl) hB ?_
 have hlt:=Nat.mod_lt n (show 0 < 4 by decide)
 rcases (by omega:n % 4 = 0 ∨ n % 4 = 1 ∨ n % 4 = 2 ∨ n % 4 = 3) with h | h | h | h
 ·have e0:Int.tmod (n:Int) 4 = 0:=by rw [e, h]; rfl
  rw [h]
  refine Zgp ?_;refine Zdo ?_
  refine ye L (rs:=[.tmp 2]) rfl (fun _ _ h => h) Since.refl fun u H hH hle => ?_
  rfl
 ·have e0:Int.tmod (n:Int) 4 = 1:=by rw [e, h]; rfl
  rw [h]
  refine Zgq ?_;refine Zdo ?_
  refine ye L (rs:=[.tmp 2]) rfl (fun _ _ h => h) Since.refl fun u H hH hle => ?_
  rfl
 ·have e0:Int.tmod (n:Int) 4 = 2:=by rw [e, h]; rfl
  rw [h]
  refine Zgr ?_;refine Zdo ?_
  refine ye L (rs:=[.tmp 2]) rfl (fun _ _ h => h) Since.refl fun u H hH hle => ?_
  rfl
 ·have e0:Int.tmod (n:Int) 4 = 3:=by rw [e, h]; rfl
  rw [h]
  refine Zfs ?_;refine z7 (zeb L 3 rfl rfl rfl rfl rfl rfl rfl (by omega)) rfl ?_;refine Zdo ?_
  refine ye L (rs:=[.tmp 2]) rfl (fun _ _ h => h) Since.refl fun u H hH hle => ?_
  rfl
end Go.V
set_option maxRecDepth 20000
namespace Go.V.L2
open Go.Proofs Go.RowKit Go.V
theorem _root_.Go.V.Za7 {A B:Prop} (h:B) (t:Wr B → A:=by intro h; refine z7 (yp rfl rfl rfl rfl (by assumption)) rfl ?_;exact h.h):A:=t ⟨h⟩
theorem _root_.Go.V.Zc1 {A B:Prop} (h:B) (t:Wr B → A:=by intro h; refine z7 (z38 rfl rfl rfl rfl (by omega) (by assumption)) rfl ?_;exact h.h):A:=t ⟨h⟩
theorem _root_.Go.V.ZfU {A B:Prop} (h:B) (t:Wr B → A:=by intro h; refine z8 (z0j rfl rfl rfl rfl (by omega) (by assumption)) rfl ?_;exact h.h):A:=t ⟨h⟩
theorem _root_.Go.V.Zdp {A B:Prop} (h:B) (t:Wr B → A:=by intro h; refine ZY ?_;refine ZaV ?_;exact h.h):A:=t ⟨h⟩
theorem _root_.Go.V.ZgL {A B:Prop} (h:B) (t:Wr B → A:=by intro h; refine ZeH ?_;refine ZX ?_;exact h.h):A:=t ⟨h⟩
theorem _root_.Go.V.Zg9 {A B:Prop} (h:B) (t:Wr B → A:=by intro h; refine ZgL ?_;refine ZU ?_;exact h.h):A:=t ⟨h⟩
def z1f (s:Nat):zzz:=((zjy s, idS (s / 3)), if 15 ≤ s then z1o (s / 15 - 1) else ⟨#[]⟩)
def zvb (a b:Nat):U:=(znf (a % 60), z1f (b % 75))
def tl (ps:List (Nat × Nat)):List U:=(ps.take 20).map fun p => zvb p.1 p.2
theorem zui (s:Nat):(z1f s).1.1.size ≤ 16 ∧ (z1f s).1.2.size ≤ 16 ∧ (z1f s).2.size ≤ 16:=by
 refine ⟨(ze3 _).2, (zl7 _).2, ?_⟩
 unfold z1f
 dsimp only
 split
 ·exact (zmt _).2
 ·decide
theorem zva (a b:Nat):TZ (zvb a b):=by
 have h1:=ztk (a % 60)
 have h2:=zui (b % 75)
 unfold TZ zvb
 dsimp only
 refine ⟨⟨?_, ?_, ?_⟩, ?_, ?_, ?_⟩ <;> omega
theorem z13 (a b:Nat):tE (zvb a b) = 0:=by
 unfold tE zvb
 dsimp only
 rw [if_pos (zy3 _)]
 unfold z1f zgu
 dsimp only
 by_cases h:15 ≤ b % 75
 ·rw [if_pos h]
  split
  ·simp only [zda, (ze3 _).1, (zl7 _).1, if_pos]
  ·simp only [zda, (ze3 _).1, (zl7 _).1, (zmt _).1, if_pos]
 ·rw [if_neg h, if_pos rfl]
  simp only [zda, (ze3 _).1, (zl7 _).1, if_pos]
attribute [local irreducible] V N X VO Par StepOK Has Ret RetL Src
set_option maxHeartbeats 1000000 in
theorem zon (a b:Nat) (ha:a ≤ 255) (hb:b ≤ 255) {w:World} {B:Heap} (hB:B.Le (hp w)):Ret Tryz.prog 98 [.agg #[.int .u8 a, .int .u8 b]] w B (fun v _ => v = uv (zvb a b)):=by
 have e60:Int.tmod (a:Int) 60 = ((a % 60:Nat):Int):=rfl
 have e75:Int.tmod (b:Int) 75 = ((b % 75:Nat):Int):=rfl
 have hlt:=Nat.mod_lt a (show 0 < 60 by decide)
 have hlt2:=Nat.mod_lt b (show 0 < 75 by decide)
 unfold zvb
 generalize a % 60 = m at e60 hlt
 generalize b % 75 = s at e75 hlt2
 have q1:(m:Int).tdiv 3 = ((m / 3:Nat):Int):=rfl
 have q2:(m:Int).tdiv 15 = ((m / 15:Nat):Int):=rfl
 have q3:(s:Int).tdiv 3 = ((s / 3:Nat):Int):=rfl
 have q4:(s:Int).tdiv 15 = ((s / 15:Nat):Int):=rfl
 have d1:IntKind.i64.wrap ((m:Int).tdiv 3) = ((m / 3:Nat):Int):=zaa (by omega) (by omega)
 have d2:IntKind.i64.wrap ((m:Int).tdiv 15) = ((m / 15:Nat):Int):=zaa (by omega) (by omega)
 have d3:IntKind.i64.wrap ((s:Int).tdiv 3) = ((s / 3:Nat):Int):=zaa (by omega) (by omega)
 have d4:IntKind.i64.wrap ((s:Int).tdiv 15) = ((s / 15:Nat):Int):=zaa (by omega) (by omega)
 unfold znf z1f
 refine yf Tryz.func98 rfl Tryz.ntmps98 (Nat.le_of_ble_eq_true rfl) hB ?_
 refine Zdp ?_;refine Zm ?_;refine ZdT ?_;refine z8 (zgz L _ rfl rfl rfl rfl z5f rfl rfl (by first | omega | decide)) rfl ?_;refine Zev ?_;refine ZfU ?_;refine z8 (zax rfl rfl rfl zze.1 zze.2 (zaa (by omega) (by omega))) rfl ?_;refine z8 (zgz L _ rfl rfl rfl rfl z5f rfl rfl (by first | omega | decide)) rfl ?_;refine Zev ?_;refine ZfU ?_;refine z8 (zax rfl rfl rfl zze.1 zze.2 (zaa (by omega) (by omega))) rfl ?_;refine Zc0 ?_;refine ZG ?_;refine z7 (zp L rfl rfl (zk rfl) rfl rfl rfl (fun u H hH _ _ => zn3 _ hH)) rfl ?_;refine Za ?_;refine Zc1 ?_;refine z7 (zp L rfl rfl (zk rfl) rfl rfl rfl (fun u H hH _ _ => z0o _ hH)) rfl ?_;refine Zf3 ?_;refine Za ?_;refine Zc1 ?_;refine z7 (zp L rfl rfl (zk rfl) rfl rfl rfl (fun u H hH _ _ => zuu _ hH)) rfl ?_;refine z7 (yx (cs:=[_, _, _]) rfl rfl z36 rfl rfl) rfl ?_;refine Za ?_;refine z7 (zp L rfl rfl (zk rfl) rfl rfl rfl (fun u H hH _ _ => zn3 _ hH)) rfl ?_;refine Za ?_;refine Zc1 ?_;refine z7 (zp L rfl rfl (zk rfl) rfl rfl rfl (fun u H hH _ _ => z0o _ hH)) rfl ?_;refine Zf3 ?_;refine z7 (yx (cs:=[_, _, _]) rfl rfl z35 rfl rfl) rfl ?_;refine Zg9 ?_
 by_cases h:15 ≤ s
 ·rw [if_pos h]
  have hs1:IntKind.i64.wrap (((s / 15:Nat):Int) - 1) = ((s / 15 - 1:Nat):Int):=(zaa (by omega) (by omega)).trans (by omega)
  refine zlh 5 rfl fun b5 hb5 => ?_
  refine Z1 ?_;refine ZaK ?_;refine Zu ?_;refine Zc1 ?_;refine Za7 ?_;refine z7 (zp L rfl rfl (zk rfl) rfl rfl rfl (fun u H hH _ _ => zuu _ hH)) rfl ?_;refine ZaG ?_;refine ZaG ?_;refine Zfq ?_;refine Zm ?_;refine Zo ?_;refine z7 (zw L (vs:=[_, _, _, _, _, _]) (zh1 rfl (List.Mem.head _)) rfl rfl rfl rfl ⟨_, rfl⟩) rfl ?_;refine Zbg ?_
  refine ye L (rs:=[.cell 2 114]) rfl (fun _ _ h => h) Since.refl fun u H hH hle => ?_
  refine Zdj ?_
  rfl
 ·rw [if_neg h]
  refine Z1 ?_;refine ZA ?_;refine Zx ?_;refine Zo ?_;refine Zbh ?_;refine Zbg ?_
  refine ye L (rs:=[.cell 2 114]) rfl (fun _ _ h => h) Since.refl fun u H hH hle => ?_
  refine Zdj ?_
  rfl
end Go.V.L2
set_option maxRecDepth 20000
namespace Go.V
open Go.Proofs Go.RowKit
section
variable {P:Program} {F:Fr} {B:Heap} {O:Boxes} {n:Nat} {ops:Array Oper} {κ:Kap} {d:Nat} {ty:TypeId} {pos:String} {aft:Array Edge} {g:Option (Nat × Bool)}
theorem z0l {t t':TypeId} {x y:Operand} {k:IntKind} {p q r:Int} (hn:Nat.blt d n = true) (hg:gK ops κ ⟨some d, .binOp .and t x y t', ty, pos, aft, g⟩ = some true) (hx:evK κ x = some (.int k p)) (hy:evK κ y = some (.int k q)) (hb:bits .and k p q = r) :
  StepOK P F B n ops O κ ⟨some d, .binOp .and t x y t', ty, pos, aft, g⟩ d (.is (.int k r)):=zcm hn hg hx hy fun u => by subst hb; simp [eqGuard_and, binOp_and, intBits_and]
end
end Go.V
set_option maxRecDepth 20000
namespace Go.V.L3
open Go.Proofs Go.RowKit Go.V Go.V.L2
attribute [local irreducible] V N X VO Par StepOK Has Ret RetL RetO RetT Src
end Go.V.L3
set_option maxRecDepth 20000
namespace Go.V.L3
open Go.Proofs Go.RowKit Go.V Go.V.L2
attribute [local irreducible] V N X VO Par StepOK Has Ret RetL RetO RetT Src
end Go.V.L3
set_option maxRecDepth 20000
namespace Go.V.L3
open Go.Proofs Go.RowKit Go.V Go.V.L2
attribute [local irreducible] V N X VO Par StepOK Has Ret RetL RetO RetT Src
end Go.V.L3
set_option maxRecDepth 20000
namespace Go.V.L3
open Go.Proofs Go.RowKit Go.V Go.V.L2
abbrev tS:U:=(((⟨#[97]⟩, ⟨#[121]⟩), ⟨#[115]⟩), ((⟨#[117]⟩, ⟨#[97]⟩), ⟨#[]⟩))
attribute [local irreducible] V N X VO Par StepOK Has Ret RetL RetO RetT Src
end Go.V.L3
set_option maxRecDepth 20000
namespace Go.V.L6
open Go.Proofs Go.RowKit Go.V Go.V.L2 Go.V.L3
abbrev d0:U:=(((⟨#[100, 111, 99]⟩, ⟨#[97]⟩), ⟨#[118, 105, 101, 119, 101, 114]⟩), ((⟨#[117, 115, 101, 114]⟩, ⟨#[120]⟩), ⟨#[]⟩))
abbrev d1:U:=(((⟨#[100, 111, 99]⟩, ⟨#[97]⟩), ⟨#[118, 105, 101, 119, 101, 114]⟩), ((⟨#[103, 114, 111, 117, 112]⟩, ⟨#[103]⟩), ⟨#[109, 101, 109, 98, 101, 114]⟩))
abbrev d2:U:=(((⟨#[100, 111, 99]⟩, ⟨#[98]⟩), ⟨#[118, 105, 101, 119, 101, 114]⟩), ((⟨#[117, 115, 101, 114]⟩, ⟨#[120]⟩), ⟨#[]⟩))
def tzB (t:U):Bool:=decide (t.1.1.1.size ≤ 1000) && decide (t.1.1.2.size ≤ 1000) && decide (t.1.2.size ≤ 1000) && decide (t.2.1.1.size ≤ 1000) && decide (t.2.1.2.size ≤ 1000) && decide (t.2.2.size ≤ 1000)
theorem zz8 {t:U} (h:tzB t = true):TZ t:=by
 unfold tzB at h
 simp only [Bool.and_eq_true, decide_eq_true_eq] at h
 unfold TZ; omega
attribute [local irreducible] V N X VO Par StepOK Has Ret RetL RetO RetT Src
end Go.V.L6
set_option maxRecDepth 20000
namespace Go.V.L6
open Go.Proofs Go.RowKit Go.V Go.V.L2 Go.V.L3
theorem _root_.Go.V.Zft {A B:Prop} (h:B) (t:Wr B → A:=by intro h; refine z8 (zgz L _ rfl rfl rfl rfl z62 rfl rfl (by first | omega | decide)) rfl ?_;exact h.h):A:=t ⟨h⟩
abbrev ty3:TypeId:=148
abbrev C3:=Nat × Nat × Nat
def qcs (p:C3):List Value:=[.int .u8 p.1, .int .u8 p.2.1, .int .u8 p.2.2]
theorem z1p (p:C3):(qcs p).length = 3:=rfl
abbrev PS3 (cs:List C3) (fu:Bool):Value → Heap → Prop:=SlV ty3 3 (cs.flatMap qcs) cs.length fu
theorem z3y {cs:List C3} {j:Nat} {a b c:Nat} (h:cs[j]? = some (a, b, c)):((cs.flatMap qcs).drop (j * 3)).take 3 = [.int .u8 a, .int .u8 b, .int .u8 c]:=zc8 z1p cs j _ h
def drB (c:Nat):Bool:=decide (c % 2 = 1)
structure SOK (l:List U):Prop where
 sst:Sst zbh l
 tz:∀ t ∈ l, TZ t
 ok:∀ t ∈ l, tE t = 0
theorem zxn {l:List U} (h:SOK l) {x:U} (hz:TZ x) (hx:tE x = 0) (d:Bool) (hl:l.length < 4096):SOK (zcz l x d).1 ∧ (zcz l x d).2 = 0 ∧ (zcz l x d).1.length ≤ l.length + 1:=by
 refine ⟨⟨znu h.sst x d, fun t ht => ?_, fun t ht => ?_⟩, ?_⟩
 ·rcases zjp ht with ht | rfl
  ·exact h.tz t ht
  ·exact hz
 ·rcases zjp ht with ht | rfl
  ·exact h.ok t ht
  ·exact hx
 ·unfold zcz
  rw [if_pos hx]
  split
  ·exact ⟨rfl, Nat.le_succ_of_le (List.length_filter_le _ _)⟩
  ·split
   ·exact ⟨rfl, Nat.le_succ _⟩
   ·rw [if_neg (by omega), zcp]; exact ⟨rfl, Nat.le_refl _⟩
attribute [local irreducible] V N X VO Par StepOK Has Ret RetL RetO RetT Src
theorem z3w (c:Nat):Int.tmod (c:Int) 2 = ((c % 2:Nat):Int):=rfl
theorem zzk {a b c:Nat} {x:U} {d:Bool} (hx:zvb a b = x) (hd:drB c = d) (ha:a ≤ 255) (hb:b ≤ 255) (hc:c ≤ 255) {w:World} {B:Heap} (hB:B.Le (hp w)):Ret Tryz.prog 68 [.agg #[.int .u8 a, .int .u8 b, .int .u8 c]] w B (fun v _ => v = chv x d):=by
 subst hx hd
 have hr:=z3w c
 refine yf Tryz.func68 rfl Tryz.ntmps68 (Nat.le_of_ble_eq_true rfl) hB ?_
 by_cases h1:c % 2 = 1
 ·have e1:drB c = true:=decide_eq_true h1
  rw [e1]
  refine Zdp ?_;refine Zm ?_;refine ZdT ?_;refine Zft ?_;refine Zev ?_;refine Zft ?_;refine Zev ?_;refine z8 (yx (cs:=[_, _]) rfl rfl z31 rfl rfl) rfl ?_;refine z8 (zp L rfl rfl (zk rfl) rfl rfl rfl (fun u H hH _ _ => zon a b ha hb hH)) rfl ?_;refine Zft ?_;refine Zev ?_;refine ZfU ?_;refine Zel ?_;refine z8 (yx (cs:=[_, _, _, _, _, _, _]) rfl rfl z1r rfl rfl) rfl ?_;refine Ze1 ?_;refine Zaj ?_
  refine ye L (rs:=[.cell 2 120]) rfl (fun _ _ h => h) Since.refl fun u H hH hle => ?_
  refine Zdj ?_
  rfl
 ·have e1:drB c = false:=decide_eq_false h1
  rw [e1]
  refine Zdp ?_;refine Zm ?_;refine ZdT ?_;refine Zft ?_;refine Zev ?_;refine Zft ?_;refine Zev ?_;refine z8 (yx (cs:=[_, _]) rfl rfl z31 rfl rfl) rfl ?_;refine z8 (zp L rfl rfl (zk rfl) rfl rfl rfl (fun u H hH _ _ => zon a b ha hb hH)) rfl ?_;refine Zft ?_;refine Zev ?_;refine ZfU ?_;refine Zdn ?_;refine z8 (yx (cs:=[_, _, _, _, _, _, _]) rfl rfl z1r rfl rfl) rfl ?_;refine Ze1 ?_;refine Zaj ?_
  refine ye L (rs:=[.cell 2 120]) rfl (fun _ _ h => h) Since.refl fun u H hH hle => ?_
  refine Zdj ?_
  rfl
end Go.V.L6
set_option maxRecDepth 20000
namespace Go.V.L6
open Go.Proofs Go.RowKit Go.V Go.V.L2 Go.V.L3
end Go.V.L6
set_option maxRecDepth 20000
namespace Go.V.L2
open Go.Proofs Go.RowKit Go.V
def TM (t:U):Prop:=(t.1.1.1.size ≤ 9223372036854775807 ∧ t.1.1.2.size ≤ 9223372036854775807 ∧ t.1.2.size ≤ 9223372036854775807) ∧ t.2.1.1.size ≤ 9223372036854775807 ∧ t.2.1.2.size ≤ 9223372036854775807 ∧ t.2.2.size ≤ 9223372036854775807
attribute [local irreducible] V N X VO Par StepOK Has Ret RetL Src
end Go.V.L2
