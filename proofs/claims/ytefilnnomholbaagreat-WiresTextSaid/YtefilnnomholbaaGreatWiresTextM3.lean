/- Texts on the way to WiresText, part 3: one behind another. -/
import Derived.Test.YtefilnnomholbaaGreatWiresTextM2
import Derived.Sort.AssemblyPlain
import Derived.Lib.AppendZeros
import Derived.Laws.RangeString
import Derived.Laws.Runes
import Derived.Scope
import Derived.Laws.Bits64b
import Derived.Lib.AppendZerosOnto
import Derived.Lib.Overlaps
import Derived.Laws.Externs
import Derived.Laws.IdiomRangeMap
import Derived.Lib.Builder
import Derived.Lib.AppendStr
import Derived.Lib.UnsafeStr
set_option linter.unusedVariables false
set_option linter.unusedSimpArgs false
set_option maxRecDepth 20000
namespace Go.V
open Go.RowKit
def zab (b:Nat) (cs:List Value) (ty:TypeId):GR where
 P _ u C:=u.heap[b]? = some (.cells cs.toArray ty) ∧ ∀ k, C k ↔ k = b
 st:=fun ⟨h1, h2⟩ _ _ _ hk => ⟨(hk b ((h2 b).2 rfl)).trans h1, h2⟩
theorem zae (b:Nat) (cs:List Value) (ty:TypeId):(zab b cs ty).res = zaj b cs ty:=rfl
def zbd (P:Program) (f:FuncId) (args:List Value) (w:World) (B:Heap) (C:Nat → Prop) (r:GR):Prop :=
 RetL P f args w B C fun _ H u => ∃ C', r.P H u C' ∧ ∀ k, C' k → (C k ∨ w.heap.size ≤ k) ∧ k < u.heap.size ∧ H k = none
section
variable {P:Program} {F:Fr} {B:Heap} {O:Boxes} {n:Nat} {ops:Array Oper} {κ:Kap} {d:Nat} {ty:TypeId} {pos:String} {aft:Array Edge} {g:Option (Nat × Bool)} {Q:Exit → Act → World → Prop}
theorem zan (L:Tabs P) (q:Nat) (r':GR) {r:GR} {f:Nat} {args:Array Operand} {at_:Array TypeId} {cap:List Value} {fo:Operand}
  (hn:Nat.blt d n = true) (hg:gK ops κ ⟨some d, .call { callee:=.value fo, args:=args, argTypes:=at_ }, ty, pos, aft, g⟩ = some true)
  (hf:evK κ fo = some (.func (.func f) #[] cap.toArray)) (hfn:L.fn f = some ()) (hq:κ q = some (.own r.res))
  (h:∀ u H C, H.Le (hp u) → B.Le H → r.P H u C → (∀ k, C k → k < u.heap.size ∧ H k = none) → Args κ H args.toList [] (fun vs => zbd P f (vs ++ cap) u H C r')) :
  zcm P F B n ops O κ ⟨some d, .call { callee:=.value fo, args:=args, argTypes:=at_ }, ty, pos, aft, g⟩ q (.own r'.res) d zdx:=by
 rintro κ' a u hlk hks ⟨H, fp, hh⟩
 unfold After
 rw [if_pos (zah hh hlk hg)]
 have hk':κ' q = some (.own r.res):=hks.trans hq
 obtain ⟨hown, hM⟩:=hh.slot q _ hk'
 have e2:=hh.env hlk
 have hfe:a.eval fo = .func (.func f) #[] cap.toArray:=e2.is_ fo _ (by simp [Op.operands, Call.operands]) hf
 have hc:=Args.use e2 args.toList [] (fun x hx => by simp [Op.operands, Call.operands] at hx ⊢; exact .inr hx) (h u H (fp q) hh.sub hh.base hown fun k hk => ⟨(hM k hk).1, (hM k hk).2.1⟩)
 simp only [List.reverse_nil, List.nil_append] at hc
 rw [zc8 L rfl hfe hfn]
 simp only [Upon]
 refine Calls.mono hc fun e' u' hp => ?_
 obtain ⟨v, rfl, H', g', C', hv, hC'⟩:=hp
 have h2:=hh.usePut (d:=q) (a':=a) (r':=r'.res) hk' g' rfl rfl (fun _ _ => rfl) hv hC'
 rw [zbv] at h2
 exact ⟨v, rfl, H', _, h2.put (k:=zdx) (zn hn) (fun _ _ _ h _ => h) trivial⟩
theorem zxh (L:Tabs P) {fn:Func} {B0:Heap} (hrs:fn.results = #[]) (hQ:∀ a u, bodyPostM Fence.wide 0 P fn (zff F.w0 B0 F.L fun _ _ _ => True) .normal a u → Q .normal a u) (hs:Since F B0 B) (hm:zxm F.ds = true:=by rfl):N F B n O κ Q :=
 z0s hQ hs (hm:=hm) fun O' a u H fp _ hh => by
  obtain ⟨vs, h1, _⟩:=zbp L hh (rs:=[]) hrs (K:=fun _ => True) trivial
  exact ⟨_, h1, trivial⟩
theorem zgw {x c y:Code} {T:Type} (Fk:T → List (Nat × Kn)) (I:T → Prop) (Ob:T → Boxes) (hy:∀ t, I t → V P F B n (Ob t) (ofL (Fk t)) y Q)
  (h:V P F B n O κ x (Exit.then (fun a u => c.wpIn (FW F.r) 0 P (Exit.then (fun a u => ∃ t, I t ∧ Has F B (Ob t) n (ofL (Fk t)) a u) Q) a u) (Exit.then (fun a u => ∃ t, I t ∧ Has F B (Ob t) n (ofL (Fk t)) a u) Q))) :
  V P F B n O κ x (Exit.then (fun a u => c.wpIn (FW F.r) 0 P (Exit.then (fun a u => y.wpIn (FW F.r) 0 P Q a u) Q) a u) (Exit.then (fun a u => y.wpIn (FW F.r) 0 P Q a u) Q)):=fun a u hh => by
 have key:∀ e a u, Exit.then (fun a u => ∃ t, I t ∧ Has F B (Ob t) n (ofL (Fk t)) a u) Q e a u → Exit.then (fun a u => y.wpIn (FW F.r) 0 P Q a u) Q e a u:=fun e a u he => by
  cases e <;> first | exact he | (obtain ⟨t, hI, hh⟩:=he; exact hy t hI a u hh)
 refine Go.wpIn_mono (h a u hh) fun e a u he => ?_
 cases e <;> first | exact Go.wpIn_mono he key | exact he
theorem HasH.setSat {t:Nat} {φ:Value → Heap → Prop} {H:Heap} {fp:Nat → Nat → Prop} {a:Act} {u:World} (hm:Kn.mono (.sat φ)) (h:HasH F B O n κ a u H fp) (hφ:φ (a.eval (.tmp t)) H):HasH F B O n (upd κ t (.sat φ)) a u H fp :=
 ⟨h.size, h.defers, h.nodup, h.marks, h.lent, h.keep, h.sub, h.base, h.fresh, h.boxes, h.apart, fun s k hs => by
  by_cases hst:s = t
  ·subst hst; rw [zak] at hs; cases hs; exact hφ
  ·rw [zad _ _ hst] at hs; exact h.slot s k hs, fun s r r1 r2 hsr h1 h2 => by
  have key:∀ x r, upd κ t (.sat φ) x = some (.own r) → κ x = some (.own r):=fun x r hx => by
   by_cases hxd:x = t
   ·subst hxd; rw [zak] at hx; cases hx
   ·rw [zad _ _ hxd] at hx; exact hx
  exact h.owns s r r1 r2 hsr (key _ _ h1) (key _ _ h2), fun s k hs => by
  by_cases hst:s = t
  ·subst hst; rw [zak] at hs; cases hs; exact hm
  ·rw [zad _ _ hst] at hs; exact h.mono s k hs⟩
def SlG (e:TypeId) (s n:Nat) (xs:List Value):Res where
 P x H u C:=(n = 0 ∧ xs = [] ∧ SlV e s [] 0 true x H ∧ ∀ k, ¬ C k) ∨ (SlR e s n xs).P x H u C
 st:=fun h hle hs ho hk => by
  rcases h with ⟨h1, h2, h3, h4⟩ | h
  ·exact .inl ⟨h1, h2, h3.le hle, h4⟩
  ·exact .inr ((SlR e s n xs).st h hle hs ho hk)
theorem Has.toG {t:Nat} {e:TypeId} {s:Nat} {a:Act} {u:World} (hk:κ t = some (.sat (SlV e s [] 0 true))) (h:Has F B O n κ a u):Has F B O n (upd κ t (.own (SlG e s 0 []))) a u:=by
 obtain ⟨H, fp, h⟩:=h
 exact ⟨H, _, h.putR (C:=noL) (a':=a) rfl rfl (fun _ _ => rfl) (.inl ⟨rfl, rfl, h.slot t _ hk, fun _ h => h⟩) (fun k hk => hk.elim) (fun _ _ _ _ _ _ hk => hk.elim)⟩
theorem z52 (t:Nat) {e:TypeId} {s:Nat} {c:Code} (hk:κ t = some (.sat (SlV e s [] 0 true))) (h:V P F B n O (upd κ t (.own (SlG e s 0 []))) c Q):V P F B n O κ c Q:=fun a u hh => h a u (hh.toG hk)
theorem Has.pubG {t:Nat} {e:TypeId} {s m:Nat} {xs:List Value} {a:Act} {u:World} (hk:κ t = some (.own (SlG e s m xs))) (h:Has F B O n κ a u):Has F B O n (upd κ t (.sat (SlV e s xs m false))) a u:=by
 obtain ⟨H, fp, h⟩:=h
 obtain ⟨hv, hM⟩:=h.slot t _ hk
 rcases hv with ⟨rfl, rfl, h3, _⟩ | hv
 ·exact ⟨H, fp, h.setSat SlV.mono h3.nofu⟩
 ·have h2:=h.putR (d:=t) (r:=SlR e s m xs) (C:=fp t) (a':=a) rfl rfl (fun _ _ => rfl) hv hM (fun t' r' hne hk' k hf hc => h.owns t' t _ _ hne hk' hk k hf hc)
  have h3:=Has.pubR (t:=t) (zak _ _ _) ⟨H, _, h2⟩
  rwa [zbv] at h3
theorem z4v (t:Nat) {e:TypeId} {s m:Nat} {xs:List Value} {c:Code} (hk:κ t = some (.own (SlG e s m xs))) (h:V P F B n O (upd κ t (.sat (SlV e s xs m false))) c Q):V P F B n O κ c Q:=fun a u hh => h a u (hh.pubG hk)
theorem zlu (L:Tabs P) {q:Nat} {t e:TypeId} {y:Operand} {s by_ nn m:Nat} {xs news:List Value} (hm:0 < m) (hn:Nat.blt d n = true) (hg:gK ops κ ⟨some d, .call ⟨.builtin .append, #[.tmp q, y], #[t, t]⟩, ty, pos, aft, g⟩ = some true)
  (hq:κ q = some (.own (SlG e s nn xs))) (hy:Apd F B O κ y m news) (ht:L.sl t = some e) (he:elI P e = some (s, by_)) (hl:news.length = m * s) (h1:news.all zdj = true) (hb:(nn + m) * by_ ≤ 140737488355328) (h63:nn + m ≤ 9223372036854775807) :
  zcm P F B n ops O κ ⟨some d, .call ⟨.builtin .append, #[.tmp q, y], #[t, t]⟩, ty, pos, aft, g⟩ q zdx d (.own (SlG e s (nn + m) (xs ++ news))):=by
 rintro κ' a u hlk hks ⟨H, fp, hh⟩
 unfold After
 rw [if_pos (zah hh hlk hg)]
 have en:=hh.env hlk
 obtain ⟨i, z, hi, hz, hs1, hs2, hs3, hs4⟩:=zeg he
 have hk':κ' q = some (.own (SlG e s nn xs)):=hks.trans hq
 obtain ⟨hown, hM⟩:=hh.slot q _ hk'
 have hyv:=hy _ a u H fp (by simp [Op.operands, Call.operands]) en
 have h1':∀ v ∈ news, v.oneCell' = true:=fun v hv => zj6 (List.all_eq_true.1 h1 v hv)
 have hap:∃ x' u' C', (Builtin.append_ #[t, t] ty #[a.eval (.tmp q), a.eval y]).run P u = .ok x' u' ∧ (SlR e s (nn + m) (xs ++ news)).P x' H u' C' ∧ Grow (fp q) u H u' H ∧ ∀ k, C' k → (fp q k ∨ u.heap.size ≤ k) ∧ k < u'.heap.size ∧ H k = none:=by
  rcases hown with ⟨rfl, rfl, h3, hC⟩ | hown
  ·have hxx:a.eval (.tmp q) = .slice none 0 0 ∨ ∃ a0, a.eval (.tmp q) = .slice (some a0) 0 0:=by
    obtain ⟨hl3, ⟨_, p0, hx⟩ | ⟨b, off, cap, cs, ty0, fr, hx, hb1, _, hcp, hfu⟩⟩:=h3
    ·cases p0 with
     | none => exact .inl hx
     | some a0 => exact .inr ⟨a0, hx⟩
    ·obtain rfl:=hfu rfl
     exact .inr ⟨_, hx⟩
   rcases hxx with hx | ⟨a0, hx⟩
   ·refine zq5 u (Tabs.sl_spec ht) hi hz hs1 hs2 hs3 hs4 hh.sub ⟨by simp, .inl ⟨rfl, hx, hC⟩⟩ (fun k hk => ⟨(hM k hk).1, (hM k hk).2.1⟩) hyv hl h1' h63 hb
   ·rcases hyv with ⟨rfl, _⟩ | ⟨ad, c, hye, hnews⟩
    ·omega
    ·subst hs1 hs2
     have hr:=run_append_grow (P:=P) u t ty e i z (Tabs.sl_spec ht) hi hz a0 0 0 [] (by simp) (fun j v hj => by simp at hj) ad m c news hl hnews (by omega) (by omega) (growslice_fits (by omega) hb)
     rw [hx, hye]
     have hmx:0 + m ≤ maxLen:=by simp only [maxLen]; omega
     have hge:=grownCap_ge u (0 + m) 0 e
     refine ⟨_, _, fun k => k = u.heap.size, hr, ⟨by simpa using hl, .inr ⟨u.heap.size, _, (Builtin.zeroCells z.cells (grownCap u (0 + m) 0 e - (0 + m))).toList, rfl, ?_, hge, grownCap_le_maxLen u (0 + m) 0 e hmx, ?_, fun _ => Iff.rfl⟩⟩, ⟨⟨rfl, rfl, rfl, by simp, fun k hk _ => zbz u.drew _ hk, Nat.le_succ _⟩, fun k v hv => by
      have:=hh.sub.size hv
      show (u.drew.alloc _).heap[k]? = some v
      rw [zbz u.drew _ this]; exact hh.sub k v hv, Heap.Le.refl _, fun _ _ _ => rfl⟩, fun k hk => by
      subst hk
      exact ⟨.inr (Nat.le_refl _), by simp, za8 hh.sub (Nat.le_refl _)⟩⟩
     ·rw [show u.heap.size = u.drew.heap.size from rfl, heap_alloc_new]
      congr 2
      apply Array.ext'
      simp
     ·rw [List.nil_append, List.length_append, hl, Array.length_toList, size_zeroCells, hs3, ← Nat.add_mul]
      congr 1
      omega
  ·exact zq5 u (Tabs.sl_spec ht) hi hz hs1 hs2 hs3 hs4 hh.sub hown (fun k hk => ⟨(hM k hk).1, (hM k hk).2.1⟩) hyv hl h1' h63 hb
 obtain ⟨x', u', C', hr, hown', hgr, hC'⟩:=hap
 have hrun:(execOp a.eval ⟨some d, .call ⟨.builtin .append, #[.tmp q, y], #[t, t]⟩, ty, pos, aft, g⟩).run P u = .ok (.value x') u':=by
  simp only [execOp, resolve, invoke, builtin, Sem.run_bind, Sem.run_pure, Result.andThen_ok, List.map_toArray, List.map_cons, List.map_nil, hr]
 rw [hrun]
 simp only [Upon]
 exact ⟨H, _, hh.usePut hk' hgr (by simp [Act.put]) rfl (fun t ht => zat ht) (by rw [zax (by rw [hh.size]; exact zn hn)]; exact .inr hown') hC'⟩
end
end Go.V
set_option maxRecDepth 20000
namespace Go.V
open Go.Proofs Go.RowKit
def RetX (P:Program) (f:FuncId) (args:List Value) (w:World) (B:Heap) (C:Nat → Prop) (r:GR) (v:Value):Prop :=
 RetL P f args w B C fun x H u => x = v ∧ ∃ C', r.P H u C' ∧ ∀ k, C' k → (C k ∨ w.heap.size ≤ k) ∧ k < u.heap.size ∧ H k = none
section
variable {P:Program} {F:Fr} {B:Heap} {O:Boxes} {n:Nat} {ops:Array Oper} {κ:Kap} {d:Nat} {ty:TypeId} {pos:String} {aft:Array Edge} {g:Option (Nat × Bool)} {Q:Exit → Act → World → Prop}
theorem yd (L:Tabs P) (q:Nat) (r':GR) (v:Value) {r:GR} {f:Nat} {args:Array Operand} {at_:Array TypeId} {cap:List Value} {fo:Operand}
  (hn:Nat.blt d n = true) (hg:gK ops κ ⟨some d, .call { callee:=.value fo, args:=args, argTypes:=at_ }, ty, pos, aft, g⟩ = some true)
  (hf:evK κ fo = some (.func (.func f) #[] cap.toArray)) (hfn:L.fn f = some ()) (hq:κ q = some (.own r.res))
  (h:∀ u H C, H.Le (hp u) → B.Le H → r.P H u C → (∀ k, C k → k < u.heap.size ∧ H k = none) → Args κ H args.toList [] (fun vs => RetX P f (vs ++ cap) u H C r' v)) :
  zcm P F B n ops O κ ⟨some d, .call { callee:=.value fo, args:=args, argTypes:=at_ }, ty, pos, aft, g⟩ q (.own r'.res) d (.is v):=by
 rintro κ' a u hlk hks ⟨H, fp, hh⟩
 unfold After
 rw [if_pos (zah hh hlk hg)]
 have hk':κ' q = some (.own r.res):=hks.trans hq
 obtain ⟨hown, hM⟩:=hh.slot q _ hk'
 have e2:=hh.env hlk
 have hfe:a.eval fo = .func (.func f) #[] cap.toArray:=e2.is_ fo _ (by simp [Op.operands, Call.operands]) hf
 have hc:=Args.use e2 args.toList [] (fun x hx => by simp [Op.operands, Call.operands] at hx ⊢; exact .inr hx) (h u H (fp q) hh.sub hh.base hown fun k hk => ⟨(hM k hk).1, (hM k hk).2.1⟩)
 simp only [List.reverse_nil, List.nil_append] at hc
 rw [zc8 L rfl hfe hfn]
 simp only [Upon]
 refine Calls.mono hc fun e' u' hp => ?_
 obtain ⟨x, rfl, H', g', hx, C', hv, hC'⟩:=hp
 have h2:=hh.usePut (d:=q) (a':=a) (r':=r'.res) hk' g' rfl rfl (fun _ _ => rfl) hv hC'
 rw [zbv] at h2
 exact ⟨x, rfl, H', _, h2.put (k:=.is v) (zn hn) trivial hx⟩
theorem za2 (L:Tabs P) {fn:Func} {B0:Heap} (gs:Nat) {r r':GR} {rs:List ResultVar} {v:Value} (hrs:fn.results = rs.toArray)
  (hQ:∀ a u, bodyPostM Fence.wide 0 P fn (zff F.w0 B0 F.L fun x H u => x = v ∧ ∃ C', r'.P H u C' ∧ ∀ k, C' k → (F.L k ∨ F.w0.heap.size ≤ k) ∧ k < u.heap.size ∧ H k = none) .ret a u → Q .ret a u) (hs:Since F B0 B) (hk:κ gs = some (.own r.res)) (e:r = r')
  (h:∀ H, znv L F B O κ H rs [] (fun vs => tup vs = v)) (hd:F.ds = []:=by rfl):V P F B n O κ .ret Q:=fun a u hh => by
 obtain ⟨H, fp, hH⟩:=hh
 refine wpIn_ret (hQ a u ?_)
 have h0:=hH.defers
 rw [hd] at h0
 show LeavesInM _ _ _ _ _ _ a.defers _ _
 rw [h0]
 subst e
 obtain ⟨vs, h1, h2⟩:=zbp L hH hrs (h H)
 obtain ⟨C', h3, h4⟩:=HasH.ghost hk hH
 exact ⟨_, h1, _, rfl, H, ⟨hH.keep, hH.sub, hs.le.trans hH.base, fun k hk hl => (hH.fresh k hk hl).trans (hs.fresh k hk hl)⟩, h2, C', h3, h4⟩
theorem zrr {t t':TypeId} {x y:Operand} {k k2:IntKind} {p q r:Int} (hn:Nat.blt d n = true) (hg:gK ops κ ⟨some d, .binOp .shl t x y t', ty, pos, aft, g⟩ = some true) (hx:evK κ x = some (.int k p)) (hy:evK κ y = some (.int k2 q)) (h0:0 ≤ q) (hb:k.wrap (p * 2 ^ min q.toNat k.bits) = r) :
  StepOK P F B n ops O κ ⟨some d, .binOp .shl t x y t', ty, pos, aft, g⟩ d (.is (.int k r)):=zb0 hn hg hx hy fun u => by subst hb; simp [eqGuard_shl, binOp_shl, Op.shift, Int.not_lt.2 h0]
theorem zvj {t t':TypeId} {x y:Operand} {k:IntKind} {p q r:Int} (hn:Nat.blt d n = true) (hg:gK ops κ ⟨some d, .binOp .xor t x y t', ty, pos, aft, g⟩ = some true) (hx:evK κ x = some (.int k p)) (hy:evK κ y = some (.int k q)) (hb:bits .xor k p q = r) :
  StepOK P F B n ops O κ ⟨some d, .binOp .xor t x y t', ty, pos, aft, g⟩ d (.is (.int k r)):=zb0 hn hg hx hy fun u => by subst hb; simp [eqGuard_xor, binOp_xor, intBits_xor]
theorem zhl {id:Nat} {x y:Code} {R:Exit → Act → World → Prop} (hm:z4z P F B n R y Q) (h:V P F B n O κ x (Exit.inBlock id R)):V P F B n O κ x (Exit.inBlock id (Exit.then (fun a u => y.wpIn (FW F.r) 0 P Q a u) Q)):=fun a u hh => by
 have key:∀ e a u, R e a u → Exit.then (fun a u => y.wpIn (FW F.r) 0 P Q a u) Q e a u:=fun e a u he => by
  cases e <;> first | exact hm.1 a u he | exact hm.2 _ a u (by intro h; cases h) he
 refine Go.wpIn_mono (h a u hh) fun e a u he => ?_
 cases e with
 | exit j =>
  simp only [Exit.inBlock] at he ⊢
  split at he
  ·rename_i h; rw [if_pos h]; exact key _ _ _ he
  ·rename_i h; rw [if_neg h]; exact key _ _ _ he
 | _ => exact key _ _ _ he
end
def uC (d:Array Int):List Value:=d.toList.map (Value.int .u64)
theorem zjm (d:Array Int):(uC d).length = d.size:=by simp [uC]
theorem zz6 {d:Array Int} {j:Nat} (h:j < d.size):(uC d)[j]? = some (.int .u64 d[j]!):=by
 unfold uC
 rw [List.getElem?_map, Array.getElem?_toList, Array.getElem?_eq_getElem h, getElem!_pos d j h]
 rfl
theorem zcp {d:Array Int} {rest:List Value} {j:Nat} (h:j < d.size) (off:Nat) (ho:off = 0 + j * 1):∃ r, (uC d ++ rest).drop off = .int .u64 d[j]! :: r:=by
 subst ho
 rw [Nat.zero_add, Nat.mul_one]
 have hl:j < (uC d ++ rest).length:=by rw [List.length_append, zjm]; omega
 refine ⟨(uC d ++ rest).drop (j + 1), ?_⟩
 rw [List.drop_eq_getElem_cons hl]
 congr 1
 have:=zz6 h
 rw [← List.getElem?_append_left (l₂:=rest) (by rw [zjm]; exact h), List.getElem?_eq_getElem hl] at this
 exact Option.some.inj this
theorem zb6 {d:Array Int} {rest:List Value} {j:Nat} (z:Int) (h:j < d.size) (off:Nat) (ho:off = 0 + j * 1):(uC d ++ rest).take off ++ ([.int .u64 z] ++ (uC d ++ rest).drop (off + 1)) = uC (d.setIfInBounds j z) ++ rest:=by
 subst ho
 rw [Nat.zero_add, Nat.mul_one]
 have h1:uC (d.setIfInBounds j z) = (uC d).set j (.int .u64 z):=by
  unfold uC
  rw [Array.toList_setIfInBounds, List.map_set]
 rw [h1, List.take_append_of_le_length (by rw [zjm]; omega), List.drop_append_of_le_length (by rw [zjm]; omega), List.set_eq_take_append_cons_drop, if_pos (by rw [zjm]; exact h)]
 simp
theorem zb7 {d:Array Int} {rest:List Value} {j:Nat} (h:j < d.size) (off:Nat) (ho:off = 0 + j * 1):Nat.ble (off + 1) (uC d ++ rest).length = true:=Nat.ble_eq_true_of_le (by rw [List.length_append, zjm]; omega)
theorem zcz (d:Array Int) (i j:Nat):(d.setIfInBounds i d[j]!).setIfInBounds j d[i]! = Go.Sort.swp d i j:=rfl
theorem zbj (d:Array Int) (i j:Nat):(Go.Sort.swp d i j).size = d.size:=by unfold Go.Sort.swp; rw [Array.size_setIfInBounds, Array.size_setIfInBounds]
end Go.V
set_option maxRecDepth 20000
namespace Go.V
open Go.RowKit
section
variable {P:Program} {F:Fr} {B:Heap} {O:Boxes} {n:Nat} {ops:Array Oper} {κ:Kap} {d:Nat} {ty:TypeId} {pos:String} {aft:Array Edge} {g:Option (Nat × Bool)} {a:Act} {u:World} {Q:Exit → Act → World → Prop}
end
end Go.V
set_option maxRecDepth 20000
namespace Go.V
open Go.RowKit
section
variable {P:Program} {F:Fr} {B:Heap} {O:Boxes} {n:Nat} {ops:Array Oper} {κ:Kap} {d:Nat} {ty:TypeId} {pos:String} {aft:Array Edge} {g:Option (Nat × Bool)} {Q:Exit → Act → World → Prop}
end
end Go.V
set_option maxRecDepth 20000
namespace Go.V
open Go.Proofs Go.RowKit
section
variable {P:Program} {F:Fr} {B:Heap} {O:Boxes} {n:Nat} {ops:Array Oper} {κ:Kap} {d:Nat} {ty:TypeId} {pos:String} {aft:Array Edge} {g:Option (Nat × Bool)} {Q:Exit → Act → World → Prop}
end
end Go.V
set_option maxRecDepth 20000
namespace Go.V
open Go.RowKit
section
variable {P:Program} {F:Fr} {B:Heap} {O:Boxes} {n:Nat} {ops:Array Oper} {κ:Kap} {d:Nat} {ty:TypeId} {pos:String} {aft:Array Edge} {g:Option (Nat × Bool)}
theorem zku {u:World} {H:Heap} {b:Nat} {L:Nat → Prop} {o:Obj} (hs:H.Le (hp u)) (hL:L b) (hH:H b = none):Grow L u H (u.putObj b o) H :=
 ⟨⟨rfl, rfl, rfl, Nat.le_of_eq World.putObj_size.symm, fun k _ hk => World.putObj_heap_other (fun e => hk (e ▸ hL)), Nat.le_refl _⟩, fun k x hx => by
  have:k ≠ b:=fun e => by subst e; rw [hH] at hx; cases hx
  show (u.putObj b o).heap[k]? = some x
  rw [World.putObj_heap_other this]; exact hs k x hx, Heap.Le.refl _, fun _ _ _ => rfl⟩
end
section
variable {P:Program} {b:Frame} {a:Act} {k:List Item} {cs:List Frame} {w:World}
end
section
variable {P:Program} {F:Fr} {B:Heap} {O:Boxes} {n:Nat} {κ:Kap} {Q:Exit → Act → World → Prop}
end
end Go.V
set_option maxRecDepth 20000
namespace Go.V
open Go.RowKit
section
variable {P:Program}
end
section
variable {K V:Type} [DecidableEq K]
def ze8 (k:K):List (K × V) → Nat → Option (Nat × V)
 | [], _ => none
 | p :: l, i => if k = p.1 then some (i, p.2) else ze8 k l (i + 1)
def zhq (k:K) (l:List (K × V)):Option V:=(ze8 k l 0).map (·.2)
def ztl (k:K) (v:V):List (K × V) → List (K × V)
 | [] => [(k, v)]
 | p :: l => if k = p.1 then (p.1, v) :: l else p :: ztl k v l
theorem zkl (k:K):∀ (l:List (K × V)) (i:Nat), ze8 k l (i + 1) = (ze8 k l i).map fun p => (p.1 + 1, p.2)
 | [], _ => rfl
 | p :: l, i => by
  unfold ze8
  split
  ·rfl
  ·exact zkl k l (i + 1)
theorem zdy (k:K) (p:K × V) (l:List (K × V)):zhq k (p :: l) = if k = p.1 then some p.2 else zhq k l:=by
 unfold zhq
 rw [ze8]
 split
 ·rfl
 ·rw [zkl, Option.map_map]; rfl
theorem zr0 (k k':K) (v:V):∀ l:List (K × V), zhq k (ztl k' v l) = if k = k' then some v else zhq k l
 | [] => by rw [ztl, zdy]
 | p :: l => by
  rw [ztl]
  split
  ·rename_i h
   rw [zdy, zdy]
   by_cases h1:k = p.1
   ·rw [if_pos h1, if_pos (h1.trans h.symm)]
   ·rw [if_neg h1, if_neg (fun e => h1 (e.trans h))]
    rw [if_neg h1]
  ·rename_i h
   rw [zdy, zdy, zr0 k k' v l]
   by_cases h1:k = p.1
   ·rw [if_pos h1, if_neg (fun e => h (e.symm.trans h1)), if_pos h1]
   ·rw [if_neg h1, if_neg h1]
theorem zkm {k:K}:∀ {l:List (K × V)} {i j:Nat} {x:V}, ze8 k l i = some (j, x) → ∃ n, j = i + n ∧ l[n]? = some (k, x)
 | [], _, _, _, h => by cases h
 | p :: l, i, j, x, h => by
  unfold ze8 at h
  split at h
  ·rename_i hk
   cases h
   exact ⟨0, rfl, by subst hk; rfl⟩
  ·obtain ⟨n, hn, hx⟩:=zkm h
   exact ⟨n + 1, by omega, hx⟩
theorem zkj {k:K} {v:V}:∀ {l:List (K × V)} {i:Nat}, ze8 k l i = none → ztl k v l = l ++ [(k, v)]
 | [], _, _ => rfl
 | p :: l, i, h => by
  unfold ze8 at h
  split at h
  ·cases h
  ·rename_i hk
   rw [ztl, if_neg hk, zkj h]; rfl
end
section
variable {P:Program} {K V:Type} [DecidableEq K] {kc:K → List Value} {vc:V → Value} {l:List (K × V)} {t kt et:TypeId} {ls:List Nat}
end
section
variable {P:Program} {F:Fr} {B:Heap} {O:Boxes} {n:Nat} {ops:Array Oper} {κ:Kap} {d:Nat} {ty:TypeId} {pos:String} {aft:Array Edge} {g:Option (Nat × Bool)} {a:Act} {u:World} {H:Heap} {os:List Oper} {Q:Exit → Act → World → Prop} {ex:Exs}
variable {K Y:Type} [DecidableEq K] {kc:K → List Value} {vc:Y → Value} {l:List (K × Y)}
end
end Go.V
set_option maxRecDepth 20000
namespace Go.V
open Go.Proofs Go.RowKit
theorem zoc {α:Type} {l:List α} {i:Nat} {x:α} (h:l[i]? = some x):l.take (i + 1) = l.take i ++ [x]:=by
 rw [List.take_add_one, h]; rfl
section
variable {P:Program} {F:Fr} {B:Heap} {O:Boxes} {n:Nat} {ops:Array Oper} {κ:Kap} {d:Nat} {ty:TypeId} {pos:String} {aft:Array Edge} {g:Option (Nat × Bool)} {os:List Oper} {Q:Exit → Act → World → Prop}
theorem Has.relE {t q:Nat} {b m:Nat} {e:TypeId} {s:Nat} {xs:List Value} {a:Act} {u:World} (hk:κ q = some (.own (zaj b xs e))) (ht:κ t = some (.is (.slice (some ⟨b, 0, none⟩) m m))) (hl:xs.length = m * s) (hm:m ≤ maxLen) (hh:Has F B O n κ a u):Has F B O n (upd (upd κ q zdx) t (.own (SlE e s m xs))) a u:=by
 obtain ⟨H, fp, hh⟩:=hh
 obtain ⟨⟨hb, hC⟩, hM⟩:=hh.slot q _ hk
 have hx:a.eval (.tmp t) = .slice (some ⟨b, 0, none⟩) m m:=hh.slot t _ ht
 exact ⟨H, _, hh.usePut (d:=t) (a':=a) (r':=SlE e s m xs) (C:=fp q) hk ⟨Keep.refl _ _, hh.sub, Heap.Le.refl _, fun _ _ _ => rfl⟩ rfl rfl (fun _ _ => rfl) ⟨hl, .inr ⟨b, hx, hb, hm, hC⟩⟩ fun k hk => ⟨.inl hk, (hM k hk).1, (hM k hk).2.1⟩⟩
theorem z4u (t q:Nat) {b m:Nat} {e:TypeId} {s:Nat} {xs:List Value} {c:Code} (hk:κ q = some (.own (zaj b xs e))) (ht:κ t = some (.is (.slice (some ⟨b, 0, none⟩) m m))) (hl:xs.length = m * s) (hm:m ≤ maxLen)
  (h:V P F B n O (upd (upd κ q zdx) t (.own (SlE e s m xs))) c Q):V P F B n O κ c Q:=fun a u hh => h a u (hh.relE hk ht hl hm)
theorem StepOK.seeV {o:Oper} {v:Value} {e:TypeId} {s m:Nat} {xs:List Value} {fu:Bool} (h:StepOK P F B n ops O κ o d (.is v)) (hv:SlV e s xs m fu v B):StepOK P F B n ops O κ o d (.sat (SlV e s xs m fu)):=fun κ' a u hl hh =>
 After.mono (fun a' u' hh' => by
  have h2:=hh'.seen (t:=d) (SlV e s xs m fu) (zak _ _ _) SlV.mono hv
  rwa [zbv] at h2) (h κ' a u hl hh)
theorem Has.pubH {q b:Nat} {cs:List Value} {t':TypeId} {a:Act} {u:World} (hk:κ q = some (.own (zaj b cs t'))) (hh:Has F B O n κ a u):∃ H, Since F B H ∧ B b = none ∧ H b = some (.cells cs.toArray t') ∧ Has F H O n (upd κ q zdx) a u:=by
 obtain ⟨H, fp, hh⟩:=hh
 obtain ⟨⟨hb, hC⟩, hM⟩:=hh.slot q _ hk
 have hbm:=hM b ((hC b).2 rfl)
 obtain ⟨H', h'⟩:=hh.pub (φ:=fun _ H => H b = some (.cells cs.toArray t')) hk hb ((hC b).2 rfl) (fun _ _ _ h hle => hle _ _ h) fun H' _ hb' => hb'
 have hx:H' b = some (.cells cs.toArray t'):=h'.slot q _ (zak _ _ _)
 refine ⟨H', h'.isSince, ?_, hx, H', fp, ?_⟩
 ·cases hB:B b with
  | none => rfl
  | some z => have:=hh.base _ _ hB; rw [hbm.2.1] at this; cases this
 ·have h2:=(h'.rebase).setSat (t:=q) (φ:=fun _ _ => True) (fun _ _ _ _ _ => trivial) trivial
  rwa [zbv] at h2
theorem zgl (q:Nat) {b:Nat} {cs:List Value} {t':TypeId} {c:Code} (hk:κ q = some (.own (zaj b cs t'))) (h:∀ H, Since F B H → B b = none → H b = some (.cells cs.toArray t') → V P F H n O (upd κ q zdx) c Q):V P F B n O κ c Q:=fun a u hh =>
 let ⟨H, h1, h2, h3, h4⟩:=hh.pubH hk; h H h1 h2 h3 a u h4
end
section
variable {P:Program} {F:Fr} {B:Heap} {O:Boxes} {n:Nat} {ops:Array Oper} {κ:Kap} {d:Nat} {ty:TypeId} {pos:String} {aft:Array Edge} {g:Option (Nat × Bool)} {K Y:Type} [DecidableEq K] {kc:K → List Value} {vc:Y → Value} {l:List (K × Y)}
end
end Go.V
set_option maxRecDepth 20000
namespace Go.V
open Go.Proofs Go.RowKit
section
variable {P:Program} {F:Fr} {B:Heap} {O:Boxes} {n:Nat} {ops:Array Oper} {κ:Kap} {d:Nat} {ty:TypeId} {pos:String} {aft:Array Edge} {g:Option (Nat × Bool)} {os:List Oper} {Q:Exit → Act → World → Prop}
end
end Go.V
set_option maxRecDepth 20000
namespace Go.V
open Go.Proofs Go.RowKit
section
variable {P:Program} {F:Fr} {B:Heap} {O:Boxes} {n:Nat} {ops:Array Oper} {κ:Kap} {d:Nat} {ty:TypeId} {pos:String} {aft:Array Edge} {g:Option (Nat × Bool)} {os:List Oper} {Q:Exit → Act → World → Prop}
end
theorem Has.nilAt {F:Fr} {B:Heap} {O:Boxes} {n:Nat} {κ:Kap} (g:Nat) (e:TypeId) (s:Nat) {a:Act} {u:World} (hh:Has F B O n κ a u):Has F B O n (upd κ g (.own (AtV (.slice none 0 0) (SlR e s 0 [])))) a u:=by
 obtain ⟨H, fp, hh⟩:=hh
 exact ⟨H, _, hh.putR (C:=noL) (a':=a) rfl rfl (fun _ _ => rfl) ⟨by simp, .inl ⟨rfl, rfl, fun _ h => h⟩⟩ (fun _ h => h.elim) fun _ _ _ _ _ _ h => h⟩
theorem zh8 {P:Program} {F:Fr} {B:Heap} {O:Boxes} {n:Nat} {κ:Kap} {Q:Exit → Act → World → Prop} (g:Nat) (e:TypeId) (s:Nat) {c:Code} (h:V P F B n O (upd κ g (.own (AtV (.slice none 0 0) (SlR e s 0 [])))) c Q):V P F B n O κ c Q:=fun a u hh => h a u (hh.nilAt g e s)
end Go.V
set_option maxRecDepth 20000
namespace Go.V
open Go.RowKit
def zho (r1 r2:Res):Res where
 P v H u C:=∃ C1 C2:Nat → Prop, r1.P v H u C1 ∧ r2.P v H u C2 ∧ (∀ k, C k ↔ C1 k ∨ C2 k) ∧ ∀ k, C1 k → ¬ C2 k
 st:=fun ⟨C1, C2, h1, h2, h3, h4⟩ hle hs ho hk => ⟨C1, C2, r1.st h1 hle hs ho fun k hc => hk k ((h3 k).2 (.inl hc)), r2.st h2 hle hs ho fun k hc => hk k ((h3 k).2 (.inr hc)), h3, h4⟩
def zf3 (r1 r2:GR):GR where
 P H u C:=∃ C1 C2:Nat → Prop, r1.P H u C1 ∧ r2.P H u C2 ∧ (∀ k, C k ↔ C1 k ∨ C2 k) ∧ ∀ k, C1 k → ¬ C2 k
 st:=fun ⟨C1, C2, h1, h2, h3, h4⟩ hle hs ho hk => ⟨C1, C2, r1.st h1 hle hs ho fun k hc => hk k ((h3 k).2 (.inl hc)), r2.st h2 hle hs ho fun k hc => hk k ((h3 k).2 (.inr hc)), h3, h4⟩
theorem zd1 (r1 r2:GR):(zf3 r1 r2).res = zho r1.res r2.res:=rfl
def GEx {X:Type} (r:X → GR) (φ:X → Heap → Prop) (hφ:zhn φ):GR where
 P H u C:=∃ x, φ x H ∧ (r x).P H u C
 st:=fun ⟨x, h1, h2⟩ hle hs hon hk => ⟨x, hφ _ _ _ h1 hle, (r x).st h2 hle hs hon hk⟩
section
variable {P:Program} {F:Fr} {B:Heap} {O:Boxes} {n:Nat} {ops:Array Oper} {κ:Kap} {d:Nat} {ty:TypeId} {pos:String} {aft:Array Edge} {g:Option (Nat × Bool)} {Q:Exit → Act → World → Prop} {a:Act} {u:World} {os:List Oper}
theorem Has.part {q g1:Nat} {r1 r2:Res} (hne:q ≠ g1) (hg1:∀ v v' H u C, r2.P v H u C → r2.P v' H u C) (hk:κ q = some (.own (zho r1 r2))) (h:Has F B O n κ a u):Has F B O n (upd (upd κ q (.own r1)) g1 (.own r2)) a u:=by
 obtain ⟨H, fp, hh⟩:=h
 obtain ⟨⟨C1, C2, h1, h2, h3, h4⟩, hM⟩:=hh.slot q _ hk
 have e2:=hh.putR (d:=q) (r:=r1) (C:=C1) (a':=a) rfl rfl (fun _ _ => rfl) h1 (fun k hk' => hM k ((h3 k).2 (.inl hk'))) (fun t r' hne' hk' k hf hc => hh.owns t q _ _ hne' hk' hk k hf ((h3 k).2 (.inl hc)))
 have e3:=e2.putR (d:=g1) (r:=r2) (C:=C2) (a':=a) rfl rfl (fun _ _ => rfl) (hg1 _ _ _ _ _ h2) (fun k hk' => hM k ((h3 k).2 (.inr hk'))) (fun t r' hne' hk' k hf hc => by
  by_cases e:t = q
  ·subst e; rw [zhc] at hf; exact h4 k hf hc
  ·rw [zey _ _ e] at hf
   rw [zad _ _ e] at hk'
   exact hh.owns t q _ _ e hk' hk k hf ((h3 k).2 (.inr hc)))
 exact ⟨H, _, e3⟩
theorem Has.join2 {q g1:Nat} {r1 r2:Res} (hne:q ≠ g1) (hg1:∀ v v' H u C, r2.P v H u C → r2.P v' H u C) (hk:κ q = some (.own r1)) (hk1:κ g1 = some (.own r2)) (h:Has F B O n κ a u):Has F B O n (upd (upd κ g1 zdx) q (.own (zho r1 r2))) a u:=by
 obtain ⟨H, fp, hh⟩:=h
 obtain ⟨h1, hM⟩:=hh.slot q _ hk
 obtain ⟨h2, hM1⟩:=hh.slot g1 _ hk1
 have e1:=hh.drop1 g1
 have hkq:upd κ g1 zdx q = some (.own r1):=by rw [zad _ _ hne]; exact hk
 have e2:=e1.putR (d:=q) (r:=zho r1 r2) (C:=fun k => fp q k ∨ fp g1 k) (a':=a) rfl rfl (fun _ _ => rfl) ⟨fp q, fp g1, h1, hg1 _ _ _ _ _ h2, fun _ => Iff.rfl, hh.owns q g1 _ _ hne hk hk1⟩
  (fun k hk' => hk'.elim (hM k) (hM1 k)) (fun t r' hne' hk' k hf hc => by
   by_cases e:t = g1
   ·subst e; rw [zak] at hk'; cases hk'
   ·rw [zad _ _ e] at hk'
    rcases hc with hc | hc
    ·exact hh.owns t q _ _ hne' hk' hk k hf hc
    ·exact hh.owns t g1 _ _ e hk' hk1 k hf hc)
 exact ⟨H, _, e2⟩
theorem zdk (q g1:Nat) {r1 r2:Res} {c:Code} (hk:κ q = some (.own (zho r1 r2))) (hg1:∀ v v' H u C, r2.P v H u C → r2.P v' H u C) (h:V P F B n O (upd (upd κ q (.own r1)) g1 (.own r2)) c Q) (hne:q ≠ g1:=by decide):V P F B n O κ c Q:=fun a u hh => h a u (hh.part hne hg1 hk)
theorem zcw (q g1:Nat) {r1 r2:Res} {c:Code} (hk:κ q = some (.own r1)) (hk1:κ g1 = some (.own r2)) (hg1:∀ v v' H u C, r2.P v H u C → r2.P v' H u C) (h:V P F B n O (upd (upd κ g1 zdx) q (.own (zho r1 r2))) c Q) (hne:q ≠ g1:=by decide):V P F B n O κ c Q:=fun a u hh => h a u (hh.join2 hne hg1 hk hk1)
theorem zk9 (q g1:Nat) {r1 r2:Res} (hk:κ q = some (.own r1)) (hk1:κ g1 = some (.own r2)) (hg1:∀ v v' H u C, r2.P v H u C → r2.P v' H u C) (h:N F B n O (upd (upd κ g1 zdx) q (.own (zho r1 r2))) Q) (hne:q ≠ g1:=by decide):N F B n O κ Q:=fun a u hh => h a u (hh.join2 hne hg1 hk hk1)
theorem zuf (q g1:Nat) {r1 r2:Res} (hk:κ q = some (.own (zho r1 r2))) (hg1:∀ v v' H u C, r2.P v H u C → r2.P v' H u C) (h:VO P F B n O ops (upd (upd κ q (.own r1)) g1 (.own r2)) os Q) (hne:q ≠ g1:=by decide):VO P F B n O ops κ os Q:=fun a u hh => h a u (hh.part hne hg1 hk)
theorem ziw (q g1:Nat) {r1 r2:Res} (hk:κ q = some (.own r1)) (hk1:κ g1 = some (.own r2)) (hg1:∀ v v' H u C, r2.P v H u C → r2.P v' H u C) (h:VO P F B n O ops (upd (upd κ g1 zdx) q (.own (zho r1 r2))) os Q) (hne:q ≠ g1:=by decide):VO P F B n O ops κ os Q:=fun a u hh => h a u (hh.join2 hne hg1 hk hk1)
theorem zaq (r:GR):∀ (v v':Value) H u C, r.res.P v H u C → r.res.P v' H u C:=fun _ _ _ _ _ h => h
theorem zf9 (b:Nat) (cs:List Value) (ty:TypeId):∀ (v v':Value) H u C, (zaj b cs ty).P v H u C → (zaj b cs ty).P v' H u C:=fun _ _ _ _ _ h => h
theorem zxb (x:Value) (r:Res):∀ (v v':Value) H u C, (AtV x r).P v H u C → (AtV x r).P v' H u C:=fun _ _ _ _ _ h => h
theorem Has.turnO {t:Nat} {r r':Res} (hk:κ t = some (.own r)) (hr:∀ v H u C, B.Le H → r.P v H u C → r'.P v H u C) (h:Has F B O n κ a u):Has F B O n (upd κ t (.own r')) a u:=by
 obtain ⟨H, fp, h⟩:=h
 exact ⟨H, fp, h.turnR hk (hr _ _ _ _ h.base (h.slot t _ hk).1)⟩
theorem z2n (t:Nat) {r:Res} (r':Res) {c:Code} (hk:κ t = some (.own r)) (hr:∀ v H u C, B.Le H → r.P v H u C → r'.P v H u C) (h:V P F B n O (upd κ t (.own r')) c Q):V P F B n O κ c Q:=fun a u hh => h a u (hh.turnO hk hr)
theorem z2r (t:Nat) {r:Res} (r':Res) (hk:κ t = some (.own r)) (hr:∀ v H u C, B.Le H → r.P v H u C → r'.P v H u C) (h:N F B n O (upd κ t (.own r')) Q):N F B n O κ Q:=fun a u hh => h a u (hh.turnO hk hr)
def RetY (P:Program) (f:FuncId) (args:List Value) (w:World) (B:Heap) (C:Nat → Prop) (r:GR) (φ:Value → Heap → Prop):Prop :=
 RetL P f args w B C fun x H u => φ x H ∧ ∃ C', r.P H u C' ∧ ∀ k, C' k → (C k ∨ w.heap.size ≤ k) ∧ k < u.heap.size ∧ H k = none
theorem RetY.mono {f:FuncId} {args:List Value} {w:World} {C:Nat → Prop} {r:GR} {φ ψ:Value → Heap → Prop} (h:RetY P f args w B C r φ) (hi:∀ v H, B.Le H → φ v H → ψ v H):RetY P f args w B C r ψ:=RetL.mono h fun v H u hg hp => ⟨hi v H hg.le hp.1, hp.2⟩
theorem RetX.toY {f:FuncId} {args:List Value} {w:World} {C:Nat → Prop} {r:GR} {v:Value} (h:RetX P f args w B C r v):RetY P f args w B C r (fun x _ => x = v):=RetL.mono h fun _ _ _ _ hp => hp
theorem zo6 (L:Tabs P) (q:Nat) (r':GR) (φ:Value → Heap → Prop) {r:GR} {f:Nat} {args:Array Operand} {at_:Array TypeId} {cap:List Value} {fo:Operand}
  (hn:Nat.blt d n = true) (hg:gK ops κ ⟨some d, .call { callee:=.value fo, args:=args, argTypes:=at_ }, ty, pos, aft, g⟩ = some true)
  (hf:evK κ fo = some (.func (.func f) #[] cap.toArray)) (hfn:L.fn f = some ()) (hq:κ q = some (.own r.res)) (hm:Kn.mono (.sat φ))
  (h:∀ u H C, H.Le (hp u) → B.Le H → r.P H u C → (∀ k, C k → k < u.heap.size ∧ H k = none) → Args κ H args.toList [] (fun vs => RetY P f (vs ++ cap) u H C r' φ)) :
  zcm P F B n ops O κ ⟨some d, .call { callee:=.value fo, args:=args, argTypes:=at_ }, ty, pos, aft, g⟩ q (.own r'.res) d (.sat φ):=by
 rintro κ' a u hlk hks ⟨H, fp, hh⟩
 unfold After
 rw [if_pos (zah hh hlk hg)]
 have hk':κ' q = some (.own r.res):=hks.trans hq
 obtain ⟨hown, hM⟩:=hh.slot q _ hk'
 have e2:=hh.env hlk
 have hfe:a.eval fo = .func (.func f) #[] cap.toArray:=e2.is_ fo _ (by simp [Op.operands, Call.operands]) hf
 have hc:=Args.use e2 args.toList [] (fun x hx => by simp [Op.operands, Call.operands] at hx ⊢; exact .inr hx) (h u H (fp q) hh.sub hh.base hown fun k hk => ⟨(hM k hk).1, (hM k hk).2.1⟩)
 simp only [List.reverse_nil, List.nil_append] at hc
 rw [zc8 L rfl hfe hfn]
 simp only [Upon]
 refine Calls.mono hc fun e' u' hp => ?_
 obtain ⟨x, rfl, H', g', hx, C', hv, hC'⟩:=hp
 have h2:=hh.usePut (d:=q) (a':=a) (r':=r'.res) hk' g' rfl rfl (fun _ _ => rfl) hv hC'
 rw [zbv] at h2
 exact ⟨x, rfl, H', _, h2.put (k:=.sat φ) (zn hn) hm hx⟩
theorem zmd (L:Tabs P) {fn:Func} {B0:Heap} (gs:Nat) {r r':GR} {rs:List ResultVar} {φ:Value → Heap → Prop} (hrs:fn.results = rs.toArray)
  (hQ:∀ a u, bodyPostM Fence.wide 0 P fn (zff F.w0 B0 F.L fun x H u => φ x H ∧ ∃ C', r'.P H u C' ∧ ∀ k, C' k → (F.L k ∨ F.w0.heap.size ≤ k) ∧ k < u.heap.size ∧ H k = none) .ret a u → Q .ret a u) (hs:Since F B0 B) (hk:κ gs = some (.own r.res)) (e:r = r')
  (h:∀ H, B.Le H → znv L F B O κ H rs [] (fun vs => φ (tup vs) H)) (hd:F.ds = []:=by rfl):V P F B n O κ .ret Q:=fun a u hh => by
 obtain ⟨H, fp, hH⟩:=hh
 refine wpIn_ret (hQ a u ?_)
 have h0:=hH.defers
 rw [hd] at h0
 show LeavesInM _ _ _ _ _ _ a.defers _ _
 rw [h0]
 subst e
 obtain ⟨vs, h1, h2⟩:=zbp L hH hrs (h H hH.base)
 obtain ⟨C', h3, h4⟩:=HasH.ghost hk hH
 exact ⟨_, h1, _, rfl, H, ⟨hH.keep, hH.sub, hs.le.trans hH.base, fun k hk hl => (hH.fresh k hk hl).trans (hs.fresh k hk hl)⟩, h2, C', h3, h4⟩
end
end Go.V
set_option maxRecDepth 20000
namespace Go.V
open Go.Proofs Go.RowKit
theorem zzi:∀ (a b:List UInt8), Lib.compareBytes a b = -1 ∨ Lib.compareBytes a b = 0 ∨ Lib.compareBytes a b = 1
 | [], [] => .inr (.inl rfl)
 | [], _ :: _ => .inl rfl
 | _ :: _, [] => .inr (.inr rfl)
 | a :: xs, b :: bs => by
  unfold Lib.compareBytes
  split
  ·exact .inl rfl
  ·split
   ·exact .inr (.inr rfl)
   ·exact zzi xs bs
theorem zw9:∀ (a:List UInt8), Lib.compareBytes a a = 0
 | [] => rfl
 | a :: xs => by
  unfold Lib.compareBytes
  rw [if_neg (UInt8.lt_irrefl a), if_neg (UInt8.lt_irrefl a)]
  exact zw9 xs
theorem z4l:∀ (a b:List UInt8), Lib.compareBytes a b = 0 → a = b
 | [], [], _ => rfl
 | [], _ :: _, h => by cases h
 | _ :: _, [], h => by cases h
 | a :: xs, b :: bs, h => by
  unfold Lib.compareBytes at h
  split at h
  ·cases h
  ·split at h
   ·cases h
   ·rename_i h1 h2
    have:a = b:=UInt8.le_antisymm (UInt8.not_lt.1 h2) (UInt8.not_lt.1 h1)
    rw [this, z4l xs bs h]
theorem zxa:∀ (a b:List UInt8), Lib.compareBytes b a = - Lib.compareBytes a b
 | [], [] => rfl
 | [], _ :: _ => rfl
 | _ :: _, [] => rfl
 | a :: xs, b :: bs => by
  unfold Lib.compareBytes
  by_cases h1:a < b
  ·simp [h1, UInt8.lt_asymm h1]
  ·by_cases h2:b < a
   ·simp [h1, h2]
   ·simp [h1, h2]; exact zxa xs bs
theorem zsi:∀ (a b c:List UInt8), Lib.compareBytes a b ≤ 0 → Lib.compareBytes b c ≤ 0 → Lib.compareBytes a c ≤ 0
 | [], _, [], _, _ => Int.le_refl _
 | [], _, _ :: _, _, _ => by unfold Lib.compareBytes; decide
 | _ :: _, [], _, h, _ => by unfold Lib.compareBytes at h; exact absurd h (by decide)
 | _ :: _, _ :: _, [], _, h => by unfold Lib.compareBytes at h; exact absurd h (by decide)
 | a :: xs, b :: bs, c :: cs, h1, h2 => by
  unfold Lib.compareBytes at h1 h2 ⊢
  by_cases ab:a < b
  ·by_cases bc:b < c
   ·rw [if_pos (UInt8.lt_trans ab bc)]; decide
   ·rw [if_neg bc] at h2
    by_cases cb:c < b
    ·rw [if_pos cb] at h2; exact absurd h2 (by decide)
    ·have:b = c:=UInt8.le_antisymm (UInt8.not_lt.1 cb) (UInt8.not_lt.1 bc)
     subst this; rw [if_pos ab]; decide
  ·rw [if_neg ab] at h1
   by_cases ba:b < a
   ·rw [if_pos ba] at h1; exact absurd h1 (by decide)
   ·have:a = b:=UInt8.le_antisymm (UInt8.not_lt.1 ba) (UInt8.not_lt.1 ab)
    subst this
    rw [if_neg ab] at h1
    by_cases ac:a < c
    ·rw [if_pos ac]; decide
    ·rw [if_neg ac] at h2 ⊢
     by_cases ca:c < a
     ·rw [if_pos ca] at h2; exact absurd h2 (by decide)
     ·rw [if_neg ca] at h2 ⊢
      exact zsi xs bs cs h1 h2
structure Ord3 {α:Type} (c:α → α → Int):Prop where
 refl:∀ a, c a a = 0
 eq:∀ a b, c a b = 0 → a = b
 anti:∀ a b, c b a = - c a b
 trans:∀ a b d, c a b ≤ 0 → c b d ≤ 0 → c a d ≤ 0
theorem z4q {a b:ByteArray} (h:a.data.toList = b.data.toList):a = b:=by
 obtain ⟨⟨x⟩⟩:=a; obtain ⟨⟨y⟩⟩:=b; simp at h; subst h; rfl
theorem cmpB_ord:Ord3 z0m:=⟨fun a => zw9 _, fun a b h => z4q (z4l _ _ h), fun a b => zxa _ _, fun a b d h1 h2 => zsi _ _ _ h1 h2⟩
def z0j {α β:Type} (c:α → α → Int) (e:β → β → Int) (x y:α × β):Int:=orL [c x.1 y.1, e x.2 y.2]
theorem z3q (x y:Int):orL [x, y] = if x = 0 then y else x:=by
 simp only [orL]
 by_cases hx:x = 0
 ·rw [if_pos hx, if_pos hx]; split <;> simp_all
 ·rw [if_neg hx, if_neg hx]
theorem Ord3.lt_of {α:Type} {c:α → α → Int} (h:Ord3 c) {a b d:α} (h1:c a b ≤ 0) (h2:c b d ≤ 0) (h3:c a d = 0):c a b = 0 ∧ c b d = 0:=by
 obtain rfl:=h.eq _ _ h3
 have:=h.anti a b
 constructor <;> omega
theorem Ord3.lex {α β:Type} {c:α → α → Int} {e:β → β → Int} (hc:Ord3 c) (he:Ord3 e):Ord3 (z0j c e):=by
 refine ⟨fun a => ?_, fun a b h => ?_, fun a b => ?_, fun a b d h1 h2 => ?_⟩
 ·unfold z0j; rw [z3q, hc.refl, if_pos rfl, he.refl]
 ·unfold z0j at h
  rw [z3q] at h
  by_cases h0:c a.1 b.1 = 0
  ·rw [if_pos h0] at h
   exact Prod.ext (hc.eq _ _ h0) (he.eq _ _ h)
  ·rw [if_neg h0] at h; exact absurd h h0
 ·unfold z0j
  rw [z3q, z3q, hc.anti a.1 b.1, he.anti a.2 b.2]
  by_cases h0:c a.1 b.1 = 0
  ·rw [if_pos h0, if_pos (by omega)]
  ·rw [if_neg h0, if_neg (by omega)]
 ·unfold z0j at h1 h2 ⊢
  rw [z3q] at h1 h2 ⊢
  have l1:c a.1 b.1 ≤ 0:=by split at h1 <;> omega
  have l2:c b.1 d.1 ≤ 0:=by split at h2 <;> omega
  have l3:=hc.trans _ _ _ l1 l2
  by_cases h0:c a.1 d.1 = 0
  ·obtain ⟨e1, e2⟩:=hc.lt_of l1 l2 h0
   rw [if_pos e1] at h1
   rw [if_pos e2] at h2
   rw [if_pos h0]
   exact he.trans _ _ _ h1 h2
  ·rw [if_neg h0]; exact l3
abbrev z0q:=(ByteArray × ByteArray) × ByteArray
def z5v:z0q → z0q → Int:=z0j (z0j z0m z0m) z0m
theorem cmp3_ord:Ord3 z5v:=(cmpB_ord.lex cmpB_ord).lex cmpB_ord
attribute [local irreducible] V N X VO Par StepOK Has Ret RetL Src
end Go.V
set_option maxRecDepth 20000
namespace Go.V
open Go.Proofs Go.RowKit
section
variable {α:Type} {c:α → α → Int}
theorem Ord3.irr (h:Ord3 c) (a:α):¬ c a a < 0:=by rw [h.refl]; decide
theorem Ord3.asym (h:Ord3 c) {a b:α} (h1:c a b < 0):¬ c b a < 0:=by have:=h.anti a b; omega
theorem Ord3.tr (h:Ord3 c) {a b d:α} (h1:c a b < 0) (h2:c b d < 0):c a d < 0:=by
 have h3:=h.trans a b d (by omega) (by omega)
 by_cases h4:c a d = 0
 ·have:=h.lt_of (a:=a) (b:=b) (d:=d) (by omega) (by omega) h4; omega
 ·omega
theorem Ord3.ne (h:Ord3 c) {a b:α} (h1:c a b < 0):a ≠ b:=fun e => by subst e; exact h.irr a h1
theorem Ord3.tri (h:Ord3 c) {a b:α} (h1:¬ c a b < 0) (h2:a ≠ b):c b a < 0:=by
 have:=h.anti a b
 have h3:c a b ≠ 0:=fun e => h2 (h.eq _ _ e)
 omega
def Sst (c:α → α → Int) (l:List α):Prop:=l.Pairwise fun x y => c x y < 0
theorem Sst.nil:Sst c []:=List.Pairwise.nil
theorem Sst.nodup (h:Ord3 c) {l:List α} (hs:Sst c l):l.Nodup:=hs.imp fun h1 => h.ne h1
theorem zqf (h:Ord3 c):∀ {l m:List α}, Sst c l → Sst c m → (∀ z, z ∈ l ↔ z ∈ m) → l = m
 | [], [], _, _, _ => rfl
 | [], y :: m, _, _, e => by have:=(e y).2 (List.mem_cons_self ..); cases this
 | y :: l, [], _, _, e => by have:=(e y).1 (List.mem_cons_self ..); cases this
 | y :: l, x :: m, hl, hm, e => by
  have h1:=List.pairwise_cons.1 hl
  have h2:=List.pairwise_cons.1 hm
  have exy:y = x:=by
   rcases List.mem_cons.1 ((e y).1 (List.mem_cons_self ..)) with e1 | e1
   ·exact e1
   ·rcases List.mem_cons.1 ((e x).2 (List.mem_cons_self ..)) with e2 | e2
    ·exact e2.symm
    ·exact absurd (h1.1 x e2) (h.asym (h2.1 y e1))
  subst exy
  congr 1
  refine zqf h h1.2 h2.2 fun z => ?_
  constructor
  ·intro hz
   rcases List.mem_cons.1 ((e z).1 (List.mem_cons_of_mem _ hz)) with e1 | e1
   ·subst e1; exact absurd (h1.1 _ hz) (h.irr _)
   ·exact e1
  ·intro hz
   rcases List.mem_cons.1 ((e z).2 (List.mem_cons_of_mem _ hz)) with e1 | e1
   ·subst e1; exact absurd (h2.1 _ hz) (h.irr _)
   ·exact e1
def zph (c:α → α → Int) (t:α):List α → List α
 | [] => [t]
 | y :: l => if c t y < 0 then t :: y :: l else y :: zph c t l
theorem zg7 {t z:α}:∀ {l:List α}, z ∈ zph c t l ↔ z = t ∨ z ∈ l
 | [] => by simp [zph]
 | y :: l => by
  simp only [zph]
  split
  ·simp
  ·rw [List.mem_cons, zg7, List.mem_cons]
   constructor
   ·rintro (e | e | e)
    ·exact .inr (.inl e)
    ·exact .inl e
    ·exact .inr (.inr e)
   ·rintro (e | e | e)
    ·exact .inr (.inl e)
    ·exact .inl e
    ·exact .inr (.inr e)
theorem zd0 (t:α):∀ (l:List α), (zph c t l).length = l.length + 1
 | [] => rfl
 | y :: l => by
  simp only [zph]
  split
  ·rfl
  ·simp only [List.length_cons, zd0 t l]
theorem zi1 (h:Ord3 c) {t:α}:∀ {l:List α}, Sst c l → t ∉ l → Sst c (zph c t l)
 | [], _, _ => List.pairwise_singleton ..
 | y :: l, hs, ht => by
  have h1:=List.pairwise_cons.1 hs
  simp only [zph]
  split
  ·rename_i hlt
   refine List.pairwise_cons.2 ⟨fun z hz => ?_, hs⟩
   rcases List.mem_cons.1 hz with rfl | hz
   ·exact hlt
   ·exact h.tr hlt (h1.1 z hz)
  ·rename_i hlt
   refine List.pairwise_cons.2 ⟨fun z hz => ?_, zi1 h h1.2 fun e => ht (List.mem_cons_of_mem _ e)⟩
   rcases zg7.1 hz with rfl | hz
   ·exact h.tri hlt fun e => ht (by rw [e]; exact List.mem_cons_self ..)
   ·exact h1.1 z hz
def zed (c:α → α → Int) (f:Bool → Bool → Bool):Nat → List α → List α → List α
 | 0, _, _ => []
 | n + 1, [], [] => []
 | n + 1, a :: l, [] => (if f true false = true then [a] else []) ++ zed c f n l []
 | n + 1, [], b :: m => (if f false true = true then [b] else []) ++ zed c f n [] m
 | n + 1, a :: l, b :: m =>
  if c a b < 0 then (if f true false = true then [a] else []) ++ zed c f n l (b :: m)
  else if c a b > 0 then (if f false true = true then [b] else []) ++ zed c f n (a :: l) m
  else (if f true true = true then [a] else []) ++ zed c f n l m
variable [DecidableEq α]
def zlb (c:α → α → Int):List α → List α → List α
 | out, [] => out
 | out, t :: r => zlb c (if t ∈ out then out else zph c t out) r
theorem zju (h:Ord3 c):∀ {l out:List α}, Sst c out → Sst c (zlb c out l)
 | [], _, hs => hs
 | t :: r, out, hs => by
  simp only [zlb]
  refine zju h ?_
  split
  ·exact hs
  ·rename_i ht; exact zi1 h hs ht
theorem zkn {z:α}:∀ {l out:List α}, z ∈ zlb c out l ↔ z ∈ out ∨ z ∈ l
 | [], _ => by simp [zlb]
 | t :: r, out => by
  simp only [zlb]
  rw [zkn]
  split
  ·rename_i ht
   constructor
   ·rintro (e | e)
    ·exact .inl e
    ·exact .inr (List.mem_cons_of_mem _ e)
   ·rintro (e | e)
    ·exact .inl e
    ·rcases List.mem_cons.1 e with rfl | e
     ·exact .inl ht
     ·exact .inr e
  ·rw [zg7, List.mem_cons]
   constructor
   ·rintro ((e | e) | e)
    ·exact .inr (.inl e)
    ·exact .inl e
    ·exact .inr (.inr e)
   ·rintro (e | e | e)
    ·exact .inl (.inr e)
    ·exact .inl (.inl e)
    ·exact .inr e
theorem zie:∀ (l out:List α), (zlb c out l).length ≤ out.length + l.length
 | [], _ => Nat.le_refl _
 | t :: r, out => by
  have:=zie r (if t ∈ out then out else zph c t out)
  simp only [zlb]
  refine Nat.le_trans this ?_
  split
  ·simp only [List.length_cons]; omega
  ·rw [zd0]; simp only [List.length_cons]; omega
end
end Go.V
set_option maxRecDepth 20000
namespace Go.V.L2
open Go.Proofs Go.RowKit Go.V
abbrev U:=z0q × z0q
def ucs (t:U):List Value:=[.string t.1.1.1, .string t.1.1.2, .string t.1.2, .string t.2.1.1, .string t.2.1.2, .string t.2.2]
theorem zml (t:U):(ucs t).length = 6:=rfl
def zbs:U → U → Int:=z0j z5v z5v
theorem cmpT_ord:Ord3 zbs:=cmp3_ord.lex cmp3_ord
theorem z6r {t v:U}:(t.1.1.1 = v.1.1.1 ∧ t.1.1.2 = v.1.1.2 ∧ t.1.2 = v.1.2 ∧ t.2.1.1 = v.2.1.1 ∧ t.2.1.2 = v.2.1.2 ∧ t.2.2 = v.2.2) ↔ t = v :=
 ⟨fun ⟨a, b, c, d, e, f⟩ => Prod.ext (Prod.ext (Prod.ext a b) c) (Prod.ext (Prod.ext d e) f), fun e => by subst e; exact ⟨rfl, rfl, rfl, rfl, rfl, rfl⟩⟩
instance memU (t:U) (l:List U):Decidable (t ∈ l):=decidable_of_iff (l.any (fun x => decide (x = t)) = true) (by simp)
def tE (t:U):Int:=if zcf [t.1.1.1, t.1.1.2, t.1.2] = 0 then zgf t.2.1.1 t.2.1.2 t.2.2 else zcf [t.1.1.1, t.1.1.2, t.1.2]
abbrev sAt:ByteArray:=⟨#[64]⟩
def tT (t:U):ByteArray:=zdh t.1.1.1 t.1.1.2 t.1.2 ++ sAt ++ zen t.2.1.1 t.2.1.2 t.2.2
def TZ (t:U):Prop:=(t.1.1.1.size ≤ 1099511627776 ∧ t.1.1.2.size ≤ 1099511627776 ∧ t.1.2.size ≤ 1099511627776) ∧ t.2.1.1.size ≤ 1099511627776 ∧ t.2.1.2.size ≤ 1099511627776 ∧ t.2.2.size ≤ 1099511627776
instance (t:U):Decidable (TZ t):=inferInstanceAs (Decidable (_ ∧ _))
theorem zmp {α:Type} {c:α → α → Int} (h:Ord3 c):∀ {l:List α}, Sst c l ↔ ∀ (j:Nat) (a b:α), l[j]? = some a → l[j + 1]? = some b → c a b < 0
 | [] => ⟨fun _ j a b h1 _ => by simp at h1, fun _ => Sst.nil⟩
 | [x] => ⟨fun _ j a b _ h2 => by simp at h2, fun _ => List.pairwise_singleton ..⟩
 | x :: y :: l => by
  constructor
  ·intro hs j a b h1 h2
   have hp:=List.pairwise_cons.1 hs
   cases j with
   | zero => simp at h1 h2; subst h1 h2; exact hp.1 _ (List.mem_cons_self ..)
   | succ j => exact (zmp h).1 hp.2 j a b (by simpa using h1) (by simpa using h2)
  ·intro hj
   have hl:Sst c (y :: l):=(zmp h).2 fun j a b h1 h2 => hj (j + 1) a b (by simpa using h1) (by simpa using h2)
   have hxy:c x y < 0:=hj 0 x y rfl rfl
   refine List.pairwise_cons.2 ⟨fun z hz => ?_, hl⟩
   rcases List.mem_cons.1 hz with rfl | hz
   ·exact hxy
   ·exact h.tr hxy ((List.pairwise_cons.1 hl).1 z hz)
instance {α:Type} (c:α → α → Int) (l:List α):Decidable (Sst c l):=inferInstanceAs (Decidable (l.Pairwise _))
def isB (l:List U):Bool:=decide (Sst zbs l)
theorem z4c {l:List U} {j:Nat} {a b:U} (h1:l[j]? = some a) (h2:l[j + 1]? = some b) (h:¬ zbs a b < 0):isB l = false:=decide_eq_false fun hs => h ((zmp cmpT_ord).1 hs j a b h1 h2)
theorem z10 {l:List U} (h:∀ j a b, l[j]? = some a → l[j + 1]? = some b → zbs a b < 0):isB l = true:=decide_eq_true ((zmp cmpT_ord).2 h)
def ptA (s:ByteArray):U × Int :=
 if (zcy s 64).2.2 = true ∧ zp0 (zcy s 64).2.1 64 = false then
  (if (pgA (zcy s 64).1).2.2.2 = 0 then
   (if (psA (zcy s 64).2.1).2.2.2 = 0 then
    (((((pgA (zcy s 64).1).1, (pgA (zcy s 64).1).2.1), (pgA (zcy s 64).1).2.2.1), (((psA (zcy s 64).2.1).1, (psA (zcy s 64).2.1).2.1), (psA (zcy s 64).2.1).2.2.1)), 0)
   else ((((⟨#[]⟩, ⟨#[]⟩), ⟨#[]⟩), ((⟨#[]⟩, ⟨#[]⟩), ⟨#[]⟩)), (psA (zcy s 64).2.1).2.2.2))
  else ((((⟨#[]⟩, ⟨#[]⟩), ⟨#[]⟩), ((⟨#[]⟩, ⟨#[]⟩), ⟨#[]⟩)), (pgA (zcy s 64).1).2.2.2))
 else ((((⟨#[]⟩, ⟨#[]⟩), ⟨#[]⟩), ((⟨#[]⟩, ⟨#[]⟩), ⟨#[]⟩)), 5)
end Go.V.L2
set_option maxRecDepth 20000
namespace Go.V
open Go.Proofs Go.RowKit
section
variable {P:Program} {F:Fr} {B:Heap} {O:Boxes} {n:Nat} {ops:Array Oper} {κ:Kap} {d:Nat} {ty:TypeId} {pos:String} {aft:Array Edge} {g:Option (Nat × Bool)} {a:Act} {u:World} {H:Heap} {fp:Nat → Nat → Prop} {Q:Exit → Act → World → Prop}
end
end Go.V
set_option maxRecDepth 20000
namespace Go.V
open Go.Proofs Go.RowKit
section
variable {P:Program} {F:Fr} {B:Heap} {O:Boxes} {n:Nat} {ops:Array Oper} {κ:Kap} {d:Nat} {ty:TypeId} {pos:String} {aft:Array Edge} {g:Option (Nat × Bool)}
theorem zvw {t t':TypeId} {x y:Operand} {k:IntKind} {p q r:Int} (hn:Nat.blt d n = true) (hg:gK ops κ ⟨some d, .binOp .and t x y t', ty, pos, aft, g⟩ = some true) (hx:evK κ x = some (.int k p)) (hy:evK κ y = some (.int k q)) (hb:bits .and k p q = r) :
  StepOK P F B n ops O κ ⟨some d, .binOp .and t x y t', ty, pos, aft, g⟩ d (.is (.int k r)):=zb0 hn hg hx hy fun u => by subst hb; simp [eqGuard_and, binOp_and, intBits_and]
end
end Go.V
set_option maxRecDepth 20000
namespace Go.V
open Go.Proofs Go.RowKit
section
variable {P:Program} {F:Fr} {B:Heap} {O:Boxes} {n:Nat} {ops:Array Oper} {κ:Kap} {d:Nat} {ty:TypeId} {pos:String} {aft:Array Edge} {g:Option (Nat × Bool)}
theorem z5p {t t':TypeId} {x y:Operand} {k:IntKind} {p q r:Int} (hn:Nat.blt d n = true) (hg:gK ops κ ⟨some d, .binOp .or t x y t', ty, pos, aft, g⟩ = some true) (hx:evK κ x = some (.int k p)) (hy:evK κ y = some (.int k q)) (hb:bits .or k p q = r) :
  StepOK P F B n ops O κ ⟨some d, .binOp .or t x y t', ty, pos, aft, g⟩ d (.is (.int k r)):=zb0 hn hg hx hy fun u => by subst hb; simp [eqGuard_or, binOp_or, intBits_or]
end
theorem z2m {m:Nat} (h:m ≤ 255):bits .and .u8 m 127 = ((m % 128:Nat):Int):=by
 have:∀ x:Fin 256, bits .and .u8 (x.val:Int) 127 = ((x.val % 128:Nat):Int):=by decide +kernel
 exact this ⟨m, by omega⟩
theorem z0d {a b i:Nat} (ha:a < 2 ^ i):a ||| (b * 2 ^ i) = a + b * 2 ^ i:=by
 rw [Nat.or_comm, ← Nat.shiftLeft_eq, ← Nat.shiftLeft_add_eq_or_of_lt ha]
 omega
end Go.V
set_option maxRecDepth 20000
namespace Go.V
open Go.Proofs Go.RowKit
section
variable {α:Type} [DecidableEq α]
def dd:List α → List α
 | [] => []
 | [x] => [x]
 | x :: y :: l => if x = y then dd (y :: l) else x :: dd (y :: l)
variable {c:α → α → Int}
end
theorem zil {α:Type} {l:List α} {i:Nat} {a:α} (h:l[i]? = some a):l[i]'(get_lt h) = a:=by
 have h1:=h
 rw [List.getElem?_eq_getElem (get_lt h)] at h1
 exact Option.some.inj h1
section
variable {α:Type} {c:α → α → Int}
def z0c (c:α → α → Int) (t:α) (l:List α):Nat:=(l.takeWhile fun x => decide (c x t < 0)).length
theorem zvd (h:Ord3 c) {t:α}:∀ {l:List α} {i:Nat}, Sst c l → (∀ (j:Nat) (x:α), j < i → l[j]? = some x → c x t < 0) → (∀ (j:Nat) (x:α), i ≤ j → l[j]? = some x → ¬ c x t < 0) → i ≤ l.length → z0c c t l = i
 | [], i, _, _, _, hi => by simp at hi; subst hi; rfl
 | x :: l, 0, _, _, h2, _ => by
  unfold z0c
  rw [List.takeWhile_cons, if_neg (by simpa using h2 0 x (Nat.le_refl _) rfl)]
  rfl
 | x :: l, i + 1, hs, h1, h2, hi => by
  have ih:=zvd h (t:=t) (l:=l) (i:=i) (List.pairwise_cons.1 hs).2 (fun j y hj hy => h1 (j + 1) y (by omega) (by simpa using hy)) (fun j y hj hy => h2 (j + 1) y (by omega) (by simpa using hy)) (by simpa using hi)
  unfold z0c at ih ⊢
  rw [List.takeWhile_cons, if_pos (by simpa using h1 0 x (Nat.succ_pos _) rfl), List.length_cons, ih]
theorem zll (h:Ord3 c) {l:List α} (hs:Sst c l) {i j:Nat} {x y t:α} (hi:l[i]? = some x) (hj:l[j]? = some y) (hij:j ≤ i) (hx:c x t < 0):c y t < 0:=by
 rcases Nat.lt_or_ge j i with hlt | hge
 ·have h1:=List.pairwise_iff_getElem.1 hs j i (get_lt hj) (get_lt hi) hlt
  rw [zil hj, zil hi] at h1
  exact h.tr h1 hx
 ·have:i = j:=by omega
  subst this
  rw [hi] at hj; cases hj; exact hx
theorem z33 (h:Ord3 c) {t:α} {l:List α} (hs:Sst c l) {i:Nat} (h1:∀ (j:Nat) (x:α), j < i → l[j]? = some x → c x t < 0) {x:α} (hx:l[i]? = some x) (h2:∀ (j:Nat) (y:α), i ≤ j → l[j]? = some y → ¬ c y t < 0):t ∈ l ↔ c x t = 0:=by
 constructor
 ·intro ht
  obtain ⟨j, hj⟩:=List.getElem?_of_mem ht
  rcases Nat.lt_trichotomy j i with hlt | he | hgt
  ·exact absurd (h1 j t hlt hj) (h.irr t)
  ·subst he; rw [hx] at hj; cases hj; exact h.refl t
  ·have h3:=List.pairwise_iff_getElem.1 hs i j (get_lt hx) (get_lt hj) hgt
   rw [zil hj, zil hx] at h3
   exact absurd h3 (h2 i x (Nat.le_refl _) hx)
 ·intro e
  have:=h.eq _ _ e
  subst this
  exact List.mem_of_getElem? hx
theorem zqv (h:Ord3 c) {t:α} {l:List α} (h1:∀ (j:Nat) (x:α), j < l.length → l[j]? = some x → c x t < 0):t ∉ l:=fun ht => by
 obtain ⟨j, hj⟩:=List.getElem?_of_mem ht
 exact absurd (h1 j t (get_lt hj) hj) (h.irr t)
end
end Go.V
set_option maxRecDepth 20000
namespace Go.V.L10
open Go.Proofs Go.RowKit Go.V
def cP (a b:Int):Int:=if a < b then -1 else if b < a then 1 else 0
theorem zhi:Ord3 cP:=⟨fun a => by unfold cP; simp, fun a b h => by unfold cP at h; split at h <;> (try split at h) <;> omega, fun a b => by unfold cP; split <;> (try split) <;> (try split) <;> omega, fun a b d h1 h2 => by
 unfold cP at h1 h2 ⊢
 split at h1 <;> (try split at h1) <;> split at h2 <;> (try split at h2) <;> split <;> (try split) <;> omega⟩
theorem z4m {a b:Int}:cP a b < 0 ↔ a < b:=by unfold cP; split <;> (try split) <;> omega
def zfj (L:List Int):List Int:=zlb cP [] L
theorem zv7 {L:List Int} {z:Int}:z ∈ zfj L ↔ z ∈ L:=by unfold zfj; rw [zkn]; simp
theorem zoj (L:List Int):Sst cP (zfj L):=zju zhi Sst.nil
theorem zpj (L:List Int):(zfj L).length ≤ L.length:=by have:=zie (c:=cP) L []; simpa [zfj] using this
def zdc (L:List Int):List (Int × Int):=(zfj L).map fun r => (r, (L.count r:Int))
theorem zg3 (L:List Int):(zdc L).length = (zfj L).length:=by unfold zdc; simp
theorem zoy {L:List Int} {i:Nat} {r:Int} (h:(zfj L)[i]? = some r):(zdc L)[i]? = some (r, (L.count r:Int)):=by unfold zdc; rw [List.getElem?_map, h]; rfl
section
variable {α:Type} {c:α → α → Int}
theorem zvc (h:Ord3 c) {t:α}:∀ {l:List α}, Sst c l → t ∈ l → l[z0c c t l]? = some t
 | [], _, hm => (by cases hm)
 | y :: l, hs, hm => by
  unfold z0c
  rw [List.takeWhile_cons]
  have h1:=List.pairwise_cons.1 hs
  by_cases hc:c y t < 0
  ·rcases List.mem_cons.1 hm with e | hm
   ·subst e; exact absurd hc (h.irr _)
   ·rw [if_pos (by simpa using hc), List.length_cons, List.getElem?_cons_succ]
    exact zvc h h1.2 hm
  ·rw [if_neg (by simpa using hc)]
   rcases List.mem_cons.1 hm with e | hm
   ·subst e; rfl
   ·exact absurd (h1.1 t hm) hc
theorem map_erase {β:Type} (f:α → β) (l:List α) (i:Nat):(l.map f).eraseIdx i = (l.eraseIdx i).map f:=by
 rw [List.eraseIdx_eq_take_drop_succ, List.eraseIdx_eq_take_drop_succ, List.map_append, List.map_take, List.map_drop]
end
end Go.V.L10
set_option maxRecDepth 20000
namespace Go.V.L4
open Go.V
structure Rd where
 at_:Nat
 bad:Nat
 err:Int
def Rd.fail (R:Rd) (a:Nat) (e:Int):Rd:=if R.err = 0 then ⟨R.at_, a, e⟩ else R
def z3x (bs:List Nat):Nat → Nat → Nat → Rd → Nat × Rd
 | 0, _, acc, R => (acc, R)
 | f + 1, i, acc, R => match bs[R.at_]? with
  | none => (0, R.fail bs.length 17)
  | some b => if i = 9 ∧ b ≠ 1 ∨ 0 < i ∧ b = 0 then (0, R.fail R.at_ 5) else
   if b < 128 then (acc + b % 128 * 128 ^ i, ⟨R.at_ + 1, R.bad, R.err⟩) else z3x bs f (i + 1) (acc + b % 128 * 128 ^ i) ⟨R.at_ + 1, R.bad, R.err⟩
def zxj (bs:List Nat) (R:Rd):Nat × Rd:=z3x bs 10 0 0 R
def zsw (bs:List Nat) (lim:Nat) (e:Int) (R:Rd):Nat × Rd:=if lim < (zxj bs R).1 then ((zxj bs R).1, (zxj bs R).2.fail R.at_ e) else zxj bs R
def zz5 {α:Type} (f:Rd → α × Rd) (z:α) (R:Rd):α × Rd:=if R.err ≠ 0 then (z, R) else if (f R).2.err ≠ 0 then (z, ⟨R.at_, (f R).2.bad, (f R).2.err⟩) else f R
def zv2 (bs:List Nat):Rd → Nat × Rd:=zz5 (zxj bs) 0
def z36 (bs:List Nat) (lim:Nat) (R:Rd):Int × Rd:=(IntKind.i64.wrap ((zsw bs lim 3 R).1:Nat), (zsw bs lim 3 R).2)
def zgu (bs:List Nat) (lim:Nat):Rd → Int × Rd:=zz5 (z36 bs lim) 0
theorem zqn (i:Nat):128 ^ i = 2 ^ (7 * i):=by rw [Nat.pow_mul]
theorem zsq {acc b i:Nat} (h:acc < 128 ^ i):acc + b % 128 * 128 ^ i < 128 ^ (i + 1):=by
 rw [Nat.pow_succ]
 have h1:b % 128 ≤ 127:=by omega
 have h2:b % 128 * 128 ^ i ≤ 127 * 128 ^ i:=Nat.mul_le_mul_right _ h1
 omega
end Go.V.L4
set_option maxRecDepth 20000
namespace Go.V
open Go.RowKit
section
variable {P:Program} {F:Fr} {B:Heap} {O:Boxes} {n:Nat} {ops:Array Oper} {κ:Kap} {d:Nat} {ty:TypeId} {pos:String} {aft:Array Edge} {g:Option (Nat × Bool)} {a:Act} {u:World} {H:Heap} {fp:Nat → Nat → Prop} {os:List Oper} {Q:Exit → Act → World → Prop} {ex:Exs}
end
end Go.V
set_option maxRecDepth 20000
namespace Go.V.L4
open Go.Proofs Go.RowKit Go.V
theorem _root_.Go.V.ZbY {A B:Prop} (h:B) (t:Wr B → A:=by intro h; refine z8 (q0 L rfl rfl rfl rfl) rfl ?_;exact h.h):A:=t ⟨h⟩
theorem _root_.Go.V.Zz {A B:Prop} (h:B) (t:Wr B → A:=by intro h; refine z7 (qo rfl rfl rfl rfl (by assumption)) rfl ?_;exact h.h):A:=t ⟨h⟩
theorem _root_.Go.V.ZaR {A B:Prop} (h:B) (t:Wr B → A:=by intro h; refine z7 (q0 L rfl rfl rfl rfl) rfl ?_;exact h.h):A:=t ⟨h⟩
theorem _root_.Go.V.Zem {A B:Prop} (h:B) (t:Wr B → A:=by intro h; refine z8 (qu rfl rfl rfl) rfl ?_;exact h.h):A:=t ⟨h⟩
theorem _root_.Go.V.Zfz {A B:Prop} (h:B) (t:Wr B → A:=by intro h; refine z7 (qu rfl rfl rfl) rfl ?_;exact h.h):A:=t ⟨h⟩
theorem _root_.Go.V.ZfM {A B:Prop} (h:B) (t:Wr B → A:=by intro h; refine y7 (zy L (q:=900) rfl rfl rfl rfl rfl rfl) ?_;exact h.h):A:=t ⟨h⟩
theorem _root_.Go.V.ZeB {A B:Prop} (h:B) (t:Wr B → A:=by intro h; refine z7 (zvp rfl rfl rfl rfl (zaa (by omega) (by omega))) rfl ?_;exact h.h):A:=t ⟨h⟩
theorem _root_.Go.V.Zen {A B:Prop} (h:B) (t:Wr B → A:=by intro h; refine qf (zy L (q:=900) rfl rfl rfl rfl rfl rfl) rfl rfl ?_;exact h.h):A:=t ⟨h⟩
theorem _root_.Go.V.Zc7 {A B:Prop} (h:B) (t:Wr B → A:=by intro h; refine z8 (y6 L _ rfl rfl rfl rfl rfl rfl rfl (by first | omega | decide) (by assumption)) rfl ?_;exact h.h):A:=t ⟨h⟩
theorem _root_.Go.V.ZF {A B:Prop} (h:B) (t:Wr B → A:=by intro h; refine zh (id:=11) ?_;exact h.h):A:=t ⟨h⟩
theorem _root_.Go.V.Zay {A B:Prop} (h:B) (t:Wr B → A:=by intro h; refine zh (id:=10) ?_;exact h.h):A:=t ⟨h⟩
theorem _root_.Go.V.Zaz {A B:Prop} (h:B) (t:Wr B → A:=by intro h; refine zh (id:=14) ?_;exact h.h):A:=t ⟨h⟩
theorem _root_.Go.V.Z4 {A B:Prop} (h:B) (t:Wr B → A:=by intro h; refine zh (id:=12) ?_;exact h.h):A:=t ⟨h⟩
theorem _root_.Go.V.ZbB {A B:Prop} (h:B) (t:Wr B → A:=by intro h; refine zh (id:=13) ?_;exact h.h):A:=t ⟨h⟩
theorem _root_.Go.V.ZaS {A B:Prop} (h:B) (t:Wr B → A:=by intro h; refine zh (id:=16) ?_;exact h.h):A:=t ⟨h⟩
theorem _root_.Go.V.ZT {A B:Prop} (h:B) (t:Wr B → A:=by intro h; refine zh (id:=15) ?_;exact h.h):A:=t ⟨h⟩
theorem _root_.Go.V.Zd3 {A B:Prop} (h:B) (t:Wr B → A:=by intro h; refine z8 (yg rfl rfl rfl rfl (decide_eq_false (by omega))) rfl ?_;exact h.h):A:=t ⟨h⟩
theorem _root_.Go.V.Zeo {A B:Prop} (h:B) (t:Wr B → A:=by intro h; refine q6 (id:=5) [(200012, [900]), (200016, [900])] mixed (by kernel_rfl) ?_;exact h.h):A:=t ⟨h⟩
theorem _root_.Go.V.ZeC {A B:Prop} (h:B) (t:Wr B → A:=by intro h; refine q6 (id:=8) [(200029, [900]), (200033, [900])] mixed (by kernel_rfl) ?_;exact h.h):A:=t ⟨h⟩
theorem _root_.Go.V.Zgb {A B:Prop} (h:B) (t:Wr B → A:=by intro h; refine z8 (zvr L rfl rfl rfl rfl) rfl ?_;exact h.h):A:=t ⟨h⟩
theorem _root_.Go.V.Zd4 {A B:Prop} (h:B) (t:Wr B → A:=by intro h; refine z7 (zvr L rfl rfl rfl rfl) rfl ?_;exact h.h):A:=t ⟨h⟩
theorem _root_.Go.V.ZeD {A B:Prop} (h:B) (t:Wr B → A:=by intro h; refine z8 (zo4 L rfl rfl rfl rfl rfl) rfl ?_;exact h.h):A:=t ⟨h⟩
theorem _root_.Go.V.ZeU {A B:Prop} (h:B) (t:Wr B → A:=by intro h; refine z7 (zvw rfl rfl rfl rfl (by assumption)) rfl ?_;exact h.h):A:=t ⟨h⟩
theorem _root_.Go.V.Zfm {A B:Prop} (h:B) (t:Wr B → A:=by intro h; refine z7 (zrr rfl rfl rfl rfl (by omega) (by assumption)) rfl ?_;exact h.h):A:=t ⟨h⟩
theorem _root_.Go.V.ZeV {A B:Prop} (h:B) (t:Wr B → A:=by intro h; refine z7 (z5p rfl rfl rfl rfl (by assumption)) rfl ?_;exact h.h):A:=t ⟨h⟩
theorem _root_.Go.V.Zfn {A B:Prop} (h:B) (t:Wr B → A:=by intro h; refine Zem ?_;refine ZbY ?_;exact h.h):A:=t ⟨h⟩
theorem _root_.Go.V.ZcX {A B:Prop} (h:B) (t:Wr B → A:=by intro h; refine Zg ?_;refine Zfn ?_;exact h.h):A:=t ⟨h⟩
theorem _root_.Go.V.Zar {A B:Prop} (h:B) (t:Wr B → A:=by intro h; refine Zfz ?_;refine ZaR ?_;exact h.h):A:=t ⟨h⟩
theorem _root_.Go.V.Zbz {A B:Prop} (h:B) (t:Wr B → A:=by intro h; refine Zcq ?_;refine Zfg ?_;exact h.h):A:=t ⟨h⟩
theorem _root_.Go.V.Z0 {A B:Prop} (h:B) (t:Wr B → A:=by intro h; refine Zar ?_;refine ZfM ?_;exact h.h):A:=t ⟨h⟩
theorem _root_.Go.V.ZbC {A B:Prop} (h:B) (t:Wr B → A:=by intro h; refine ZY ?_;refine Z8 ?_;exact h.h):A:=t ⟨h⟩
theorem _root_.Go.V.ZbD {A B:Prop} (h:B) (t:Wr B → A:=by intro h; refine Zcq ?_;refine ZeN ?_;exact h.h):A:=t ⟨h⟩
theorem _root_.Go.V.ZaE {A B:Prop} (h:B) (t:Wr B → A:=by intro h; refine ZcX ?_;refine Zen ?_;exact h.h):A:=t ⟨h⟩
theorem _root_.Go.V.Za0 {A B:Prop} (h:B) (t:Wr B → A:=by intro h; refine Zaj ?_;refine Za ?_;exact h.h):A:=t ⟨h⟩
theorem _root_.Go.V.Zct {A B:Prop} (h:B) (t:Wr B → A:=by intro h; refine Zaz ?_;refine Za ?_;exact h.h):A:=t ⟨h⟩
theorem _root_.Go.V.ZdX {A B:Prop} (h:B) (t:Wr B → A:=by intro h; refine Zao ?_;refine ZaK ?_;exact h.h):A:=t ⟨h⟩
theorem _root_.Go.V.ZbE {A B:Prop} (h:B) (t:Wr B → A:=by intro h; refine ZG ?_;refine Za ?_;exact h.h):A:=t ⟨h⟩
theorem _root_.Go.V.ZbF {A B:Prop} (h:B) (t:Wr B → A:=by intro h; refine ZaS ?_;refine Za ?_;exact h.h):A:=t ⟨h⟩
theorem _root_.Go.V.ZbZ {A B:Prop} (h:B) (t:Wr B → A:=by intro h; refine Zbz ?_;refine ZeO ?_;exact h.h):A:=t ⟨h⟩
theorem _root_.Go.V.Zca {A B:Prop} (h:B) (t:Wr B → A:=by intro h; refine zj ?_;refine ZQ ?_;exact h.h):A:=t ⟨h⟩
theorem _root_.Go.V.Zc8 {A B:Prop} (h:B) (t:Wr B → A:=by intro h; refine Zay ?_;refine Zb ?_;exact h.h):A:=t ⟨h⟩
theorem _root_.Go.V.ZcY {A B:Prop} (h:B) (t:Wr B → A:=by intro h; refine ZaE ?_;refine Zgb ?_;exact h.h):A:=t ⟨h⟩
theorem _root_.Go.V.ZcZ {A B:Prop} (h:B) (t:Wr B → A:=by intro h; refine ZdX ?_;refine zj ?_;exact h.h):A:=t ⟨h⟩
abbrev zgx:TypeId:=256
abbrev za0 (b:Nat):Value:=.pointer (some ⟨b, 0, none⟩)
abbrev zt7:TypeId:=5
abbrev BsV (bs:List Nat) (fu:Bool):Value → Heap → Prop:=SlV zt7 1 (bs.map fun b:Nat => Value.int .u8 (b:Int)) bs.length fu
abbrev rdC (sv:Value) (R:Rd):List Value:=[sv, .int .i64 R.at_, .int .i64 R.bad, .int .i64 R.err]
abbrev GRd (rb:Nat) (sv:Value) (R:Rd):GR:=zab rb (rdC sv R) zgx
theorem z5w {bs:List Nat} {i:Nat} {b:Nat} (h:bs[i]? = some b):((bs.map fun b:Nat => Value.int .u8 (b:Int)).drop (i * 1)).take 1 = [.int .u8 (b:Int)]:=by
 rw [Nat.mul_one, List.drop_eq_getElem_cons (by rw [List.length_map]; exact get_lt h), List.take_succ_cons, List.take_zero, List.getElem_map]
 congr 2
 rw [zil h]
theorem _root_.Go.V.StepOKR.seeV {P:Program} {F:Fr} {B:Heap} {n d q:Nat} {ops:Array Oper} {O:Boxes} {κ:Kap} {o:Oper} {v:Value} {e:TypeId} {s m:Nat} {xs:List Value} {fu:Bool} (h:StepOKR P F B n ops O κ o q d (.is v)) (hv:SlV e s xs m fu v B):StepOKR P F B n ops O κ o q d (.sat (SlV e s xs m fu)):=fun κ' a u hl hq hh =>
 After.mono (fun a' u' hh' => by
  have h2:=hh'.seen (t:=d) (SlV e s xs m fu) (zak _ _ _) SlV.mono hv
  rwa [zbv] at h2) (h κ' a u hl hq hh)
attribute [local irreducible] V N X VO Par StepOK Has Ret RetL RetO RetT zbd RetX RetY Src
theorem zje {rb:Nat} {sv:Value} {R:Rd} {a:Nat} {e:Int} {w:World} {B:Heap} {C:Nat → Prop} (hB:B.Le (hp w)) (hr:(GRd rb sv R).P B w C) (hC:∀ k, C k → k < w.heap.size ∧ B k = none) :
  zbd Tryz.prog 210 [za0 rb, .int .i64 a, .int .i64 e] w B C (GRd rb sv (R.fail a e)):=by
 unfold zbd
 refine zag 900 (GRd rb sv R) Tryz.func210 rfl Tryz.ntmps210 (Nat.le_of_ble_eq_true rfl) hB hr hC ?_
 rw [zae]
 obtain ⟨at_, bad, err⟩:=R
 by_cases h0:err = 0
 ·subst h0
  refine ZbE ?_;refine Z0 ?_;refine z7 (yg rfl rfl rfl rfl rfl) rfl ?_;refine Z8 ?_;refine Z6 ?_;refine Zah ?_;refine Zar ?_;refine zal (qz L (q:=900) (cs':=[sv, .int .i64 at_, .int .i64 a, .int .i64 0]) rfl rfl rfl rfl rfl rfl rfl rfl rfl) ?_;refine Zar ?_;refine zal (qz L (q:=900) (cs':=[sv, .int .i64 at_, .int .i64 a, .int .i64 e]) rfl rfl rfl rfl rfl rfl rfl rfl rfl) ?_;refine zk ?_
  exact zau L 900 (r:=zab rb _ zgx) rfl (fun _ _ h => h) Since.refl rfl rfl
 ·have hf:(⟨at_, bad, err⟩:Rd).fail a e = ⟨at_, bad, err⟩:=if_neg h0
  refine ZbE ?_;refine Z0 ?_;refine ZR ?_;refine Zab ?_
  exact zau L 900 (r:=zab rb _ zgx) rfl (fun _ _ h => h) Since.refl rfl (by rw [hf])
theorem zcd {rb:Nat} {sv:Value} {R:Rd} {f:Bool} (hf:decide (R.err ≠ 0) = f) {w:World} {B:Heap} {C:Nat → Prop} (hB:B.Le (hp w)) (hr:(GRd rb sv R).P B w C) (hC:∀ k, C k → k < w.heap.size ∧ B k = none) :
  RetX Tryz.prog 209 [za0 rb] w B C (GRd rb sv R) (.bool f):=by
 subst hf
 unfold RetX
 refine zag 900 (GRd rb sv R) Tryz.func209 rfl Tryz.ntmps209 (Nat.le_of_ble_eq_true rfl) hB hr hC ?_
 rw [zae]
 obtain ⟨at_, bad, err⟩:=R
 refine Zbl ?_;refine z7 (zcl rfl rfl rfl rfl zyt rfl) rfl ?_;refine Zb ?_;refine Z0 ?_;refine z7 (y8 rfl rfl rfl rfl rfl) rfl ?_;refine Zf ?_;refine Zc ?_
 exact za2 L 900 (r:=zab rb _ zgx) (rs:=[.tmp 2]) rfl (fun _ _ h => h) Since.refl rfl rfl (fun _ => rfl)
theorem zlv {rb:Nat} {bs:List Nat} {fu:Bool} {sv:Value} {R:Rd} (hb:∀ b ∈ bs, b ≤ 255) (hl:bs.length ≤ 1099511627776) (hat:R.at_ ≤ bs.length) {w:World} {B:Heap} {C:Nat → Prop} (hB:B.Le (hp w)) (hs:BsV bs fu sv B) (hr:(GRd rb sv R).P B w C) (hC:∀ k, C k → k < w.heap.size ∧ B k = none) :
  RetX Tryz.prog 142 [za0 rb] w B C (GRd rb sv (zxj bs R).2) (.int .u64 ((zxj bs R).1:Nat)):=by
 obtain ⟨p, c, rfl⟩:=zce hs
 unfold RetX
 refine zag 900 (GRd rb _ R) Tryz.func142 rfl Tryz.ntmps142 (Nat.le_of_ble_eq_true rfl) hB hr hC ?_
 rw [zae]
 obtain ⟨z, hz⟩:∃ z, zxj bs R = z:=⟨_, rfl⟩
 rw [hz]
 refine Zaq ?_;refine Zi ?_;refine Z1 ?_;refine ZbL ?_
 refine zam (fun x:Nat × Nat × Rd => [(0, .is (za0 rb)), (3, .is (.int .u64 x.2.1)), (6, .is (.int .i64 x.1)), (900, .own (zaj rb (rdC (.slice p bs.length c) x.2.2) zgx))]) (fun x => x.1 ≤ 10 ∧ x.2.1 < 128 ^ x.1 ∧ x.2.2.at_ ≤ bs.length ∧ z3x bs (10 - x.1) x.1 x.2.1 x.2.2 = z) (fun x => 10 - x.1) (0, 0, R) ⟨Nat.zero_le _, by show (0:Nat) < 128 ^ 0; decide, hat, hz⟩ ⟨rfl, rfl, rfl, rfl, trivial⟩ ?_
 rintro ⟨i, acc, ⟨at_, bad, err⟩⟩ ⟨hi, hacc, ha, hn⟩
 dsimp only [rdC] at hi hacc ha hn ⊢
 by_cases hlt:i < 10
 ·obtain ⟨f, hf⟩:∃ f, 10 - i = f + 1:=⟨9 - i, by omega⟩
  rw [hf] at hn
  unfold z3x at hn
  cases hg:bs[at_]? with
  | none =>
   have hal:at_ = bs.length:=by have:=List.getElem?_eq_none_iff.1 hg; omega
   subst hal
   dsimp only at hn
   rw [hg] at hn
   subst hn
   refine Zdz ?_;refine Zk ?_;refine Zi ?_;refine Zeo ?_;refine ZaE ?_;refine ZcY ?_;refine z8 (yg rfl rfl rfl rfl (decide_eq_true (by omega))) rfl ?_;refine ZbD ?_;refine Zca ?_;refine Zb ?_;refine Z0 ?_;refine Zd4 ?_;refine qg (zan L 900 (GRd rb (.slice p bs.length c) ((⟨bs.length, bad, err⟩:Rd).fail bs.length 17)) (r:=GRd rb (.slice p bs.length c) ⟨bs.length, bad, err⟩) rfl rfl rfl rfl rfl (fun u H C2 hH _ hr2 hC2 => zje hH hr2 hC2)) ?_;refine Zj ?_;refine ZL ?_;refine Zc ?_
   exact za2 L 900 (r:=zab rb _ zgx) (rs:=[.tmp 2]) rfl (fun _ _ h => h) Since.refl rfl rfl (fun _ => rfl)
  | some b =>
   have hb255:b ≤ 255:=hb b (List.mem_of_getElem? hg)
   have hcr:=z5w hg
   have hlt2:=get_lt hg
   dsimp only at hn
   rw [hg] at hn
   dsimp only at hn
   by_cases hbad:i = 9 ∧ b ≠ 1 ∨ 0 < i ∧ b = 0
   ·rw [if_pos hbad] at hn
    subst hn
    by_cases h9:i = 9 ∧ b ≠ 1
    ·obtain ⟨h9, h91⟩:=h9
     refine Zdz ?_;refine Zk ?_;refine Zi ?_;refine Zeo ?_;refine ZaE ?_;refine ZcY ?_;refine Zd3 ?_;refine ZbZ ?_;refine ZeC ?_;refine ZcX ?_;refine qf (StepOKR.seeV (zy L (q:=900) rfl rfl rfl rfl rfl rfl) hs) rfl rfl ?_;refine ZaE ?_;refine Zc7 ?_;refine ZeD ?_;refine ZcZ ?_;refine Za0 ?_;refine Z9 ?_;refine Zb ?_;refine Zbv ?_;refine Zf ?_;refine ZbO ?_;refine Zbs ?_;refine Zbt ?_;refine Zc8 ?_;refine Z0 ?_;refine qg (zan L 900 (GRd rb (.slice p bs.length c) ((⟨at_, bad, err⟩:Rd).fail at_ 5)) (r:=GRd rb (.slice p bs.length c) ⟨at_, bad, err⟩) rfl rfl rfl rfl rfl (fun u H C2 hH _ hr2 hC2 => zje hH hr2 hC2)) ?_;refine Zj ?_;refine ZF ?_;refine Zc ?_
     exact za2 L 900 (r:=zab rb _ zgx) (rs:=[.tmp 2]) rfl (fun _ _ h => h) Since.refl rfl rfl (fun _ => rfl)
    ·have h10:0 < i ∧ b = 0:=by omega
     obtain ⟨h10, h0b⟩:=h10
     by_cases h9:i = 9
     ·exfalso; omega
     ·refine Zdz ?_;refine Zk ?_;refine Zi ?_;refine Zeo ?_;refine ZaE ?_;refine ZcY ?_;refine Zd3 ?_;refine ZbZ ?_;refine ZeC ?_;refine ZcX ?_;refine qf (StepOKR.seeV (zy L (q:=900) rfl rfl rfl rfl rfl rfl) hs) rfl rfl ?_;refine ZaE ?_;refine Zc7 ?_;refine ZeD ?_;refine ZcZ ?_;refine Za0 ?_;refine ZR ?_;refine Zc6 ?_;refine Zby ?_;refine Zb ?_;refine Z9 ?_;refine Zf ?_;refine Zbt ?_;refine Zc8 ?_;refine Z0 ?_;refine qg (zan L 900 (GRd rb (.slice p bs.length c) ((⟨at_, bad, err⟩:Rd).fail at_ 5)) (r:=GRd rb (.slice p bs.length c) ⟨at_, bad, err⟩) rfl rfl rfl rfl rfl (fun u H C2 hH _ hr2 hC2 => zje hH hr2 hC2)) ?_;refine Zj ?_;refine ZF ?_;refine Zc ?_
      exact za2 L 900 (r:=zab rb _ zgx) (rs:=[.tmp 2]) rfl (fun _ _ h => h) Since.refl rfl rfl (fun _ => rfl)
   ·rw [if_neg hbad] at hn
    have hw1:IntKind.i64.wrap ((at_:Int) + 1) = ((at_ + 1:Nat):Int):=zaa (by omega) (by omega)
    have hand:=z2m hb255
    have hcv:IntKind.u64.wrap ((b % 128:Nat):Int) = ((b % 128:Nat):Int):=wrap_u64 (by omega) (by omega)
    have hpw:128 ^ i ≤ 128 ^ 9:=Nat.pow_le_pow_right (by decide) (by omega)
    have hnx:acc + b % 128 * 128 ^ i < 2 ^ 64:=by
     by_cases h9:i = 9
     ·have hb1:b = 1:=by omega
      subst h9; subst hb1
      have:(128:Nat) ^ 9 = 9223372036854775808:=by decide
      omega
     ·have h1:=zsq (b:=b) hacc
      have h2:128 ^ (i + 1) ≤ 128 ^ 9:=Nat.pow_le_pow_right (by decide) (by omega)
      have:(128:Nat) ^ 9 = 9223372036854775808:=by decide
      omega
    have hsh:IntKind.u64.wrap (((b % 128:Nat):Int) * 2 ^ min (7 * (i:Int)).toNat IntKind.u64.bits) = ((b % 128 * 128 ^ i:Nat):Int):=by
     have e1:min (7 * (i:Int)).toNat IntKind.u64.bits = 7 * i:=by
      show min (7 * (i:Int)).toNat 64 = 7 * i
      omega
     rw [e1, show ((b % 128:Nat):Int) * 2 ^ (7 * i) = ((b % 128 * 128 ^ i:Nat):Int) by rw [zqn]; push_cast; rfl]
     exact wrap_u64 (by omega) (by omega)
    have hor:bits .or .u64 (acc:Int) ((b % 128 * 128 ^ i:Nat):Int) = ((acc + b % 128 * 128 ^ i:Nat):Int):=by
     rw [bits_or_u64_nat _ _ (by omega) (by omega)]
     congr 1
     have:=z0d (a:=acc) (b:=b % 128) (i:=7 * i) (by rw [← zqn]; exact hacc)
     rwa [← zqn] at this
    have hwk:IntKind.i64.wrap ((i:Int) + 1) = ((i + 1:Nat):Int):=zaa (by omega) (by omega)
    have hnl:=zsq (b:=b) hacc
    generalize b % 128 * 128 ^ i = sh at hn hsh hor hnx hnl
    by_cases hlast:b < 128
    ·rw [if_pos hlast] at hn
     subst hn
     by_cases h9:i = 9
     ·have hb1:b = 1:=by omega
      subst hb1
      refine Zdz ?_;refine Zk ?_;refine Zi ?_;refine Zeo ?_;refine ZaE ?_;refine ZcY ?_;refine Zd3 ?_;refine ZbZ ?_;refine ZeC ?_;refine ZcX ?_;refine qf (StepOKR.seeV (zy L (q:=900) rfl rfl rfl rfl rfl rfl) hs) rfl rfl ?_;refine ZaE ?_;refine Zc7 ?_;refine ZeD ?_;refine ZcZ ?_;refine Za0 ?_;refine Z9 ?_;refine Zb ?_;refine ZA ?_;refine Zf ?_;refine Zby ?_;refine Zb ?_;refine ZR ?_;refine Zf ?_;refine Za7 ?_;refine Z4 ?_;refine Za ?_;refine Z0 ?_;refine Zz ?_;refine Zar ?_;refine zal (qz L (q:=900) (cs':=[.slice p bs.length c, .int .i64 (at_ + 1:Nat), .int .i64 bad, .int .i64 err]) rfl rfl rfl rfl rfl rfl rfl rfl rfl) ?_;refine Zj ?_;refine ZbB ?_;refine Zb ?_;refine ZeU ?_;refine z7 (zaw rfl rfl rfl zfh.1 zfh.2 (wrap_u64 (by omega) (by omega))) rfl ?_;refine Za ?_;refine ZeB ?_;refine Zfm ?_;refine ZeV ?_;refine Zd ?_;refine Zct ?_;refine ZbC ?_;refine yj ?_;refine zf1 rfl ?_;refine ZeP ?_;refine ZbK ?_;refine ZbF ?_;refine Zc ?_
      exact za2 L 900 (r:=zab rb _ zgx) (rs:=[.tmp 2]) rfl (fun _ _ h => h) Since.refl rfl rfl (fun _ => rfl)
     ·by_cases h0:0 < i
      ·have hb0:b ≠ 0:=by omega
       refine Zdz ?_;refine Zk ?_;refine Zi ?_;refine Zeo ?_;refine ZaE ?_;refine ZcY ?_;refine Zd3 ?_;refine ZbZ ?_;refine ZeC ?_;refine ZcX ?_;refine qf (StepOKR.seeV (zy L (q:=900) rfl rfl rfl rfl rfl rfl) hs) rfl rfl ?_;refine ZaE ?_;refine Zc7 ?_;refine ZeD ?_;refine ZcZ ?_;refine Za0 ?_;refine ZR ?_;refine Zc6 ?_;refine Zby ?_;refine Zb ?_;refine ZR ?_;refine Zf ?_;refine Za7 ?_;refine Z4 ?_;refine Za ?_;refine Z0 ?_;refine Zz ?_;refine Zar ?_;refine zal (qz L (q:=900) (cs':=[.slice p bs.length c, .int .i64 (at_ + 1:Nat), .int .i64 bad, .int .i64 err]) rfl rfl rfl rfl rfl rfl rfl rfl rfl) ?_;refine Zj ?_;refine ZbB ?_;refine Zb ?_;refine ZeU ?_;refine z7 (zaw rfl rfl rfl zfh.1 zfh.2 (wrap_u64 (by omega) (by omega))) rfl ?_;refine Za ?_;refine ZeB ?_;refine Zfm ?_;refine ZeV ?_;refine Zd ?_;refine Zct ?_;refine ZbC ?_;refine yj ?_;refine zf1 rfl ?_;refine ZeP ?_;refine ZbK ?_;refine ZbF ?_;refine Zc ?_
       exact za2 L 900 (r:=zab rb _ zgx) (rs:=[.tmp 2]) rfl (fun _ _ h => h) Since.refl rfl rfl (fun _ => rfl)
      ·refine Zdz ?_;refine Zk ?_;refine Zi ?_;refine Zeo ?_;refine ZaE ?_;refine ZcY ?_;refine Zd3 ?_;refine ZbZ ?_;refine ZeC ?_;refine ZcX ?_;refine qf (StepOKR.seeV (zy L (q:=900) rfl rfl rfl rfl rfl rfl) hs) rfl rfl ?_;refine ZaE ?_;refine Zc7 ?_;refine ZeD ?_;refine ZcZ ?_;refine Za0 ?_;refine ZR ?_;refine Zc6 ?_;refine Zb ?_;refine Z3 ?_;refine Zc6 ?_;refine Za7 ?_;refine Z4 ?_;refine Za ?_;refine Z0 ?_;refine Zz ?_;refine Zar ?_;refine zal (qz L (q:=900) (cs':=[.slice p bs.length c, .int .i64 (at_ + 1:Nat), .int .i64 bad, .int .i64 err]) rfl rfl rfl rfl rfl rfl rfl rfl rfl) ?_;refine Zj ?_;refine ZbB ?_;refine Zb ?_;refine ZeU ?_;refine z7 (zaw rfl rfl rfl zfh.1 zfh.2 (wrap_u64 (by omega) (by omega))) rfl ?_;refine Za ?_;refine ZeB ?_;refine Zfm ?_;refine ZeV ?_;refine Zd ?_;refine Zct ?_;refine ZbC ?_;refine yj ?_;refine zf1 rfl ?_;refine ZeP ?_;refine ZbK ?_;refine ZbF ?_;refine Zc ?_
       exact za2 L 900 (r:=zab rb _ zgx) (rs:=[.tmp 2]) rfl (fun _ _ h => h) Since.refl rfl rfl (fun _ => rfl)
    ·rw [if_neg hlast] at hn
     have h9:i ≠ 9:=by omega
     have hf9:f = 10 - (i + 1):=by omega
     rw [hf9] at hn
     by_cases h0:0 < i
     ·have hb0:b ≠ 0:=by omega
      refine Zdz ?_;refine Zk ?_;refine Zi ?_;refine Zeo ?_;refine ZaE ?_;refine ZcY ?_;refine Zd3 ?_;refine ZbZ ?_;refine ZeC ?_;refine ZcX ?_;refine qf (StepOKR.seeV (zy L (q:=900) rfl rfl rfl rfl rfl rfl) hs) rfl rfl ?_;refine ZaE ?_;refine Zc7 ?_;refine ZeD ?_;refine ZcZ ?_;refine Za0 ?_;refine ZR ?_;refine Zc6 ?_;refine Zby ?_;refine Zb ?_;refine ZR ?_;refine Zf ?_;refine Za7 ?_;refine Z4 ?_;refine Za ?_;refine Z0 ?_;refine Zz ?_;refine Zar ?_;refine zal (qz L (q:=900) (cs':=[.slice p bs.length c, .int .i64 (at_ + 1:Nat), .int .i64 bad, .int .i64 err]) rfl rfl rfl rfl rfl rfl rfl rfl rfl) ?_;refine Zj ?_;refine ZbB ?_;refine Zb ?_;refine ZeU ?_;refine z7 (zaw rfl rfl rfl zfh.1 zfh.2 (wrap_u64 (by omega) (by omega))) rfl ?_;refine Za ?_;refine ZeB ?_;refine Zfm ?_;refine ZeV ?_;refine Zd ?_;refine Zct ?_;refine ZI ?_;refine ZaO ?_;refine ZT ?_;refine Zz ?_;refine Zdr ?_
      exact y9 (x:=(i, acc, ⟨at_, bad, err⟩)) (i + 1, acc + sh, ⟨at_ + 1, bad, err⟩) ⟨hlt, hnl, hlt2, hn⟩ (by dsimp only; omega) ⟨rfl, rfl, rfl, rfl, trivial⟩
     ·refine Zdz ?_;refine Zk ?_;refine Zi ?_;refine Zeo ?_;refine ZaE ?_;refine ZcY ?_;refine Zd3 ?_;refine ZbZ ?_;refine ZeC ?_;refine ZcX ?_;refine qf (StepOKR.seeV (zy L (q:=900) rfl rfl rfl rfl rfl rfl) hs) rfl rfl ?_;refine ZaE ?_;refine Zc7 ?_;refine ZeD ?_;refine ZcZ ?_;refine Za0 ?_;refine ZR ?_;refine Zc6 ?_;refine Zb ?_;refine Z3 ?_;refine Zc6 ?_;refine Za7 ?_;refine Z4 ?_;refine Za ?_;refine Z0 ?_;refine Zz ?_;refine Zar ?_;refine zal (qz L (q:=900) (cs':=[.slice p bs.length c, .int .i64 (at_ + 1:Nat), .int .i64 bad, .int .i64 err]) rfl rfl rfl rfl rfl rfl rfl rfl rfl) ?_;refine Zj ?_;refine ZbB ?_;refine Zb ?_;refine ZeU ?_;refine z7 (zaw rfl rfl rfl zfh.1 zfh.2 (wrap_u64 (by omega) (by omega))) rfl ?_;refine Za ?_;refine ZeB ?_;refine Zfm ?_;refine ZeV ?_;refine Zd ?_;refine Zct ?_;refine ZI ?_;refine ZaO ?_;refine ZT ?_;refine Zz ?_;refine Zdr ?_
      exact y9 (x:=(i, acc, ⟨at_, bad, err⟩)) (i + 1, acc + sh, ⟨at_ + 1, bad, err⟩) ⟨hlt, hnl, hlt2, hn⟩ (by dsimp only; omega) ⟨rfl, rfl, rfl, rfl, trivial⟩
 ·have hf:10 - i = 0:=by omega
  rw [hf] at hn
  unfold z3x at hn
  subst hn
  refine ZfL ?_;refine ZaC ?_;refine ZbF ?_;refine Zc ?_
  exact za2 L 900 (r:=zab rb _ zgx) (rs:=[.tmp 2]) rfl (fun _ _ h => h) Since.refl rfl rfl (fun _ => rfl)
end Go.V.L4
set_option maxRecDepth 20000
namespace Go.V.L11
open Go.Proofs Go.RowKit Go.V Go.V.L2 Go.V.L4
theorem _root_.Go.V.Zc9 {A B:Prop} (h:B) (t:Wr B → A:=by intro h; refine z8 (qo rfl rfl rfl rfl (zaa (by omega) (by omega))) rfl ?_;exact h.h):A:=t ⟨h⟩
theorem _root_.Go.V.Zda {A B:Prop} (h:B) (t:Wr B → A:=by intro h; refine y7 (zy L (q:=78) rfl rfl rfl rfl rfl rfl) ?_;exact h.h):A:=t ⟨h⟩
theorem _root_.Go.V.Zf0 {A B:Prop} (h:B) (t:Wr B → A:=by intro h; refine qf (zy L (q:=78) rfl rfl rfl rfl rfl rfl) rfl rfl ?_;exact h.h):A:=t ⟨h⟩
theorem _root_.Go.V.Zd5 {A B:Prop} (h:B) (t:Wr B → A:=by intro h; refine zx ?_;refine zm ?_;exact h.h):A:=t ⟨h⟩
theorem _root_.Go.V.ZfN {A B:Prop} (h:B) (t:Wr B → A:=by intro h; refine Zd5 ?_;refine ZM ?_;exact h.h):A:=t ⟨h⟩
theorem _root_.Go.V.ZcA {A B:Prop} (h:B) (t:Wr B → A:=by intro h; refine Z8 ?_;refine ZfN ?_;exact h.h):A:=t ⟨h⟩
theorem _root_.Go.V.Zb0 {A B:Prop} (h:B) (t:Wr B → A:=by intro h; refine Zdq ?_;refine Zfy ?_;exact h.h):A:=t ⟨h⟩
abbrev zn2:Nat:=9
abbrev zb8 (l:List ByteArray):zbm:=l.map fun x => [Value.string x]
theorem z4d {c:UInt8}:∀ {l:List UInt8}, c ∉ l → Lib.indexByte l c = -1
 | [], _ => rfl
 | x :: l, h => by
  rw [List.mem_cons, not_or] at h
  unfold Lib.indexByte
  rw [if_neg (by simpa using Ne.symm h.1), z4d h.2]
  rfl
theorem z0k {c:UInt8} {q:List UInt8}:∀ {p:List UInt8}, c ∉ p → Lib.indexByte (p ++ c :: q) c = (p.length:Int)
 | [], _ => by
  show Lib.indexByte (c :: q) c = 0
  unfold Lib.indexByte
  rw [if_pos (by simp)]
 | x :: p, h => by
  rw [List.mem_cons, not_or] at h
  show Lib.indexByte (x :: (p ++ c :: q)) c = _
  unfold Lib.indexByte
  rw [if_neg (by simpa using Ne.symm h.1), z0k h.2, if_neg (by simp)]
  rfl
attribute [local irreducible] V N X VO Par StepOK Has Ret RetL RetO RetT zbd RetX RetY Src
theorem zhb {s:ByteArray} {k:Int} (hk:Lib.indexByte s.data.toList 10 = k) {w:World} {B:Heap} (hB:B.Le (hp w)) :
  Ret Tryz.prog 258 [.string s, .int .u8 10] w B (fun v _ => v = .int .i64 k):=by
 subst hk
 exact Ret.of_same hB (Tryz.strings_IndexByte s 10 w)
theorem zsg {s r:ByteArray} {f:Bool} (hs:s.size ≤ 9223372036854775807) (h:Lib.hasSuffix s.data.toList [10] = f) (hr:(⟨(Lib.trimSuffix s.data.toList [10]).toArray⟩:ByteArray) = r) {w:World} {B:Heap} (hB:B.Le (hp w)) :
  Ret Tryz.prog 130 [.string s, .string ⟨#[10]⟩] w B (fun v _ => v = .tuple #[.string r, .bool f]):=by
 subst h hr
 exact Ret.of_same hB (Tryz.strings_CutSuffix s ⟨#[10]⟩ w hs)
theorem zlh {stop:zbm → Bool} {x:List Value} {xs pre:zbm} (h:stop (pre ++ [x]) = false):za5 stop pre (x :: xs) = za5 stop (pre ++ [x]) xs:=by
 simp only [za5]
 rw [if_neg (by rw [h]; decide)]
theorem zob {stop:zbm → Bool} {x:List Value} {xs pre:zbm} (h:stop (pre ++ [x]) = true):za5 stop pre (x :: xs) = pre ++ [x]:=by
 simp only [za5]
 rw [if_pos h]
theorem zye {r:ByteArray} (h:r ≠ ⟨#[]⟩):0 < r.size:=by
 rcases Nat.eq_zero_or_pos r.size with h0 | h0
 ·exfalso
  apply h
  apply zbr
  have:=za9 r
  rw [h0] at this
  exact List.eq_nil_of_length_eq_zero this
 ·exact h0
set_option maxHeartbeats 1000000 in
theorem zyd {s:ByteArray} (hs:s.size ≤ 1099511627776) {b:Nat} {w:World} {B:Heap} (hB:B.Le (hp w)):z42 Tryz.prog 257 [za0 b] (zab b [.string s] zn2) w B (zb8 (zd5 s)):=by
 intro ly J stop C Cg hst hY hJ hC hg hCg hd
 refine zag 77 (zf3 (J []) (zab b [.string s] zn2)) Tryz.func257 rfl Tryz.ntmps257 (Nat.le_of_ble_eq_true rfl) hB ⟨C, Cg, hJ, hg, fun _ => Iff.rfl, hd⟩ (fun k hk => hk.elim (hC k) (hCg k)) ?_
 rw [zd1]
 refine zdk 77 78 rfl (fun _ _ _ _ _ h => h) ?_
 rw [zae]
 refine qe ?_
 refine zam (fun x:List ByteArray × ByteArray => [(0, .is (.func (.yield ly) #[] #[])), (1, .is (za0 b)), (77, .own (J (zb8 x.1)).res), (78, .own (zaj b [.string x.2] zn2))])
  (fun x => zb8 x.1 ++ zb8 (zd5 x.2) = zb8 (zd5 s) ∧ za5 stop [] (zb8 (zd5 s)) = za5 stop (zb8 x.1) (zb8 (zd5 x.2)) ∧ stop (zb8 x.1) = false ∧ x.2.size ≤ s.size) (fun x => x.2.size) ([], s) ⟨rfl, rfl, hst, Nat.le_refl _⟩ ⟨rfl, rfl, rfl, rfl, trivial⟩ ?_
 rintro ⟨pre, r⟩ ⟨h1, h2, h3, h4⟩
 dsimp only at h1 h2 h3 h4 ⊢
 by_cases hr:r = ⟨#[]⟩
 ·subst hr
  have h0:(⟨#[]⟩:ByteArray).size = 0:=rfl
  rw [zne] at h2
  refine zj ?_;refine ZG ?_;refine Zda ?_;refine Zaf ?_;refine Z3 ?_;refine Zb0 ?_
  refine zau (r:=J (zb8 pre)) (r':=J (za5 stop [] (zb8 (zd5 s)))) L 77 rfl (fun _ _ h => h) Since.refl rfl (by rw [h2]; rfl)
 ·have hp0:=zye hr
  rcases zhy r 10 with hn | ⟨a, c, hac, hn⟩
  ·have e1:=z1x hn hr
   rw [e1] at h1 h2
   have hi:=z4d hn
   have hpre:zb8 pre ++ [[Value.string r]] <+: zb8 (zd5 s):=by rw [← h1]; exact List.prefix_rfl
   cases hb':stop (zb8 pre ++ [[Value.string r]])
   ·refine zj ?_;refine ZG ?_;refine Zda ?_;refine Zaf ?_;refine ZP ?_;refine ZcA ?_;refine Z6 ?_;refine Zdy ?_;refine Zda ?_;refine z7 (zq L rfl rfl (zn rfl) rfl rfl rfl (fun u H hH _ _ => zhb hi hH)) rfl ?_;refine Zd ?_;refine Zm ?_;refine ZE ?_;refine Zdq ?_;refine Z2 ?_;refine Zda ?_;refine Zu ?_;refine zal (qz L (q:=78) (cs':=[.string ⟨#[]⟩]) rfl rfl rfl rfl rfl rfl rfl rfl rfl) ?_;refine Zj ?_;refine ZQ ?_;refine Zb ?_;refine qg (zcj (gs:=77) hY hpre h3 (congrArg Bool.not hb') rfl rfl rfl rfl rfl) ?_;refine Zr ?_;refine Zab ?_;refine qy ?_
    refine y9 (x:=(pre, r)) (pre ++ [r], ⟨#[]⟩) ⟨?_, ?_, ?_, Nat.zero_le _⟩ hp0 ⟨rfl, rfl, ?_, rfl, trivial⟩
    ·rw [zne, ← h1]; simp [zb8]
    ·rw [h2, zne]
     show za5 stop (zb8 pre) [[Value.string r]] = za5 stop (zb8 (pre ++ [r])) []
     rw [zlh hb']; simp [zb8]
    ·have:zb8 (pre ++ [r]) = zb8 pre ++ [[Value.string r]]:=by simp [zb8]
     rw [this]; exact hb'
    ·have:zb8 (pre ++ [r]) = zb8 pre ++ [[Value.string r]]:=by simp [zb8]
     dsimp only
     rw [this]; rfl
   ·refine zj ?_;refine ZG ?_;refine Zda ?_;refine Zaf ?_;refine ZP ?_;refine ZcA ?_;refine Z6 ?_;refine Zdy ?_;refine Zda ?_;refine z7 (zq L rfl rfl (zn rfl) rfl rfl rfl (fun u H hH _ _ => zhb hi hH)) rfl ?_;refine Zd ?_;refine Zm ?_;refine ZE ?_;refine Zdq ?_;refine Z2 ?_;refine Zda ?_;refine Zu ?_;refine zal (qz L (q:=78) (cs':=[.string ⟨#[]⟩]) rfl rfl rfl rfl rfl rfl rfl rfl rfl) ?_;refine Zj ?_;refine ZQ ?_;refine Zb ?_;refine qg (zcj (gs:=77) hY hpre h3 (congrArg Bool.not hb') rfl rfl rfl rfl rfl) ?_;refine Zr ?_;refine Z8 ?_
    exact za4 L 77 rfl (fun _ _ h => h) Since.refl rfl (by rw [h2]; show _ = J (za5 stop (zb8 pre) [[Value.string r]]); rw [zob hb'])
  ·have e1:zd5 r = (a ++ sNl) :: zd5 c:=by rw [hac]; exact zr4 hn
   have hra:r.size = a.size + 1 + c.size:=by rw [hac, ByteArray.size_append, ByteArray.size_append]; rfl
   have hi:Lib.indexByte r.data.toList 10 = (a.size:Int):=by
    rw [hac, zas, zas, List.append_assoc]
    show Lib.indexByte (a.data.toList ++ 10 :: c.data.toList) 10 = _
    rw [z0k hn, za9]
   have x1:r.extract 0 (a.size + 1) = a ++ sNl:=by
    have:=zfd ⟨#[]⟩ (a ++ sNl) c 0 (a.size + 1) rfl (by rw [ByteArray.size_append]; show _ = 0 + (a.size + 1); omega)
    rw [hac]
    rw [show (a ++ ⟨#[10]⟩ ++ c:ByteArray) = ⟨#[]⟩ ++ (a ++ sNl) ++ c from zbr (by simp [zas])]
    exact this
   have x2:r.extract (a.size + 1) r.size = c:=by
    have:=zfd (a ++ sNl) c ⟨#[]⟩ (a.size + 1) r.size (by rw [ByteArray.size_append]; rfl) (by rw [ByteArray.size_append]; exact hra)
    rw [show (a ++ sNl ++ c ++ ⟨#[]⟩:ByteArray) = r from zbr (by rw [hac]; simp [zas])] at this
    exact this
   rw [e1] at h1 h2
   have hpre:zb8 pre ++ [[Value.string (a ++ sNl)]] <+: zb8 (zd5 s):=by
    rw [← h1]
    exact ⟨zb8 (zd5 c), by simp [zb8]⟩
   cases hb':stop (zb8 pre ++ [[Value.string (a ++ sNl)]])
   ·refine zj ?_;refine ZG ?_;refine Zda ?_;refine Zaf ?_;refine ZP ?_;refine ZcA ?_;refine Z6 ?_;refine Zdy ?_;refine Zda ?_;refine z7 (zq L rfl rfl (zn rfl) rfl rfl rfl (fun u H hH _ _ => zhb hi hH)) rfl ?_;refine Zd ?_;refine Zm ?_;refine Zax ?_;refine q6 (id:=4) [(200012, [78]), (200016, [78]), (100001, [78])] mixed (by kernel_rfl) ?_;refine Zf0 ?_;refine Zg ?_;refine Zc9 ?_;refine z8 (za1 L (kl:=.i64) (pl:=0) 0 (a.size + 1) rfl rfl rfl rfl rfl ⟨rfl, by omega⟩ (by omega) (by omega) x1) rfl ?_;refine Zf0 ?_;refine Zg ?_;refine Zc9 ?_;refine z8 (za1 L (kh:=.i64) (ph:=0) (a.size + 1) _ rfl rfl rfl rfl ⟨rfl, by omega⟩ rfl (by omega) (by omega) x2) rfl ?_;refine Zao ?_;refine ym (qz L (q:=78) (cs':=[.string c]) rfl rfl rfl rfl rfl rfl rfl rfl rfl) rfl ?_;refine ZaK ?_;refine ZQ ?_;refine Zb ?_;refine qg (zcj (gs:=77) hY hpre h3 (congrArg Bool.not hb') rfl rfl rfl rfl rfl) ?_;refine Zr ?_;refine Zab ?_;refine qy ?_
    have e3:zb8 (pre ++ [a ++ sNl]) = zb8 pre ++ [[Value.string (a ++ sNl)]]:=by simp [zb8]
    refine y9 (x:=(pre, r)) (pre ++ [a ++ sNl], c) ⟨?_, ?_, ?_, ?_⟩ ?_ ⟨rfl, rfl, ?_, rfl, trivial⟩
    ·rw [← h1]; simp [zb8]
    ·rw [h2]
     show za5 stop (zb8 pre) ([Value.string (a ++ sNl)] :: zb8 (zd5 c)) = _
     rw [zlh hb', e3]
    ·rw [e3]; exact hb'
    ·dsimp only; omega
    ·dsimp only; omega
    ·dsimp only
     rw [e3]; rfl
   ·refine zj ?_;refine ZG ?_;refine Zda ?_;refine Zaf ?_;refine ZP ?_;refine ZcA ?_;refine Z6 ?_;refine Zdy ?_;refine Zda ?_;refine z7 (zq L rfl rfl (zn rfl) rfl rfl rfl (fun u H hH _ _ => zhb hi hH)) rfl ?_;refine Zd ?_;refine Zm ?_;refine Zax ?_;refine q6 (id:=4) [(200012, [78]), (200016, [78]), (100001, [78])] mixed (by kernel_rfl) ?_;refine Zf0 ?_;refine Zg ?_;refine Zc9 ?_;refine z8 (za1 L (kl:=.i64) (pl:=0) 0 (a.size + 1) rfl rfl rfl rfl rfl ⟨rfl, by omega⟩ (by omega) (by omega) x1) rfl ?_;refine Zf0 ?_;refine Zg ?_;refine Zc9 ?_;refine z8 (za1 L (kh:=.i64) (ph:=0) (a.size + 1) _ rfl rfl rfl rfl ⟨rfl, by omega⟩ rfl (by omega) (by omega) x2) rfl ?_;refine Zao ?_;refine ym (qz L (q:=78) (cs':=[.string c]) rfl rfl rfl rfl rfl rfl rfl rfl rfl) rfl ?_;refine ZaK ?_;refine ZQ ?_;refine Zb ?_;refine qg (zcj (gs:=77) hY hpre h3 (congrArg Bool.not hb') rfl rfl rfl rfl rfl) ?_;refine Zr ?_;refine Z8 ?_
    exact za4 L 77 rfl (fun _ _ h => h) Since.refl rfl (by rw [h2]; show _ = J (za5 stop (zb8 pre) ([Value.string (a ++ sNl)] :: zb8 (zd5 c))); rw [zob hb'])
end Go.V.L11
set_option maxRecDepth 20000
namespace Go.V
open Go.RowKit
def SlX (e:TypeId) (s cap n:Nat) (xs:List Value):Res where
 P x _ u C:=xs.length = n * s ∧ ∃ b rest, x = .slice (some ⟨b, 0, none⟩) n cap ∧ u.heap[b]? = some (.cells (xs ++ rest).toArray e) ∧ n ≤ cap ∧ cap ≤ maxLen ∧ (xs ++ rest).length = cap * s ∧ ∀ k, C k ↔ k = b
 st:=fun ⟨hl, b, rest, h1, h2, h3, h4, h5, h6⟩ _ _ _ hk => ⟨hl, b, rest, h1, (hk b ((h6 b).2 rfl)).trans h2, h3, h4, h5, h6⟩
section
variable {P:Program} {F:Fr} {B:Heap} {O:Boxes} {n:Nat} {ops:Array Oper} {κ:Kap} {d:Nat} {ty:TypeId} {pos:String} {aft:Array Edge} {g:Option (Nat × Bool)} {Q:Exit → Act → World → Prop}
theorem zvq (L:Tabs P) {t e:TypeId} {x y:Operand} {kl kc:IntKind} {s by_:Nat} (c:Nat) {p:Int} (hn:Nat.blt d n = true) (hg:gK ops κ ⟨some d, .makeSlice t x y, ty, pos, aft, g⟩ = some true) (ht:L.sl t = some e) (he:elI P e = some (s, by_))
  (hx:evK κ x = some (.int kl 0)) (hy:evK κ y = some (.int kc p)) (hp:p = c) (hb:by_ * c ≤ 281474976710656) (hc:c ≤ maxLen):StepOK P F B n ops O κ ⟨some d, .makeSlice t x y, ty, pos, aft, g⟩ d (.own (SlX e s c 0 [])):=by
 rintro κ' a u hl ⟨H, fp, hh⟩
 unfold After
 rw [if_pos (zah hh hl hg)]
 have en:=hh.env hl
 obtain ⟨i, z, hi, hz, hs1, hs2, hs3, hs4⟩:=zeg he
 have h1:=en.is_ x _ (by simp [Op.operands]) hx
 have h2:=en.is_ y _ (by simp [Op.operands]) hy
 subst hp
 have hb':(i.bytes:Int) * (c:Int) ≤ 281474976710656:=by
  have h:((by_ * c:Nat):Int) ≤ 281474976710656:=by omega
  rw [hs2]; rwa [Int.natCast_mul] at h
 have h63:(c:Int) ≤ 9223372036854775807:=by simp [maxLen] at hc; omega
 have hr:=run_make (P:=P) u t e i z (Tabs.sl_spec ht) hi hz kl kc 0 c (Int.le_refl _) (by omega) hb' h63
 simp only [Int.toNat_zero, Int.toNat_natCast] at hr
 have hrun:(execOp a.eval ⟨some d, .makeSlice t x y, ty, pos, aft, g⟩).run P u = .ok (.value (.slice (some ⟨u.heap.size, 0, none⟩) 0 c)) (u.alloc (.cells (madeCells z.cells (c * i.size)) e)):=by
  simp only [execOp, h1, h2, Sem.run_bind, hr, Result.andThen_ok]; rfl
 rw [hrun]
 simp only [Upon]
 have hg2:=hh.grow (Grow.hid hh.sub (.cells (madeCells z.cells (c * i.size)) e))
 refine ⟨H, _, hg2.putR (C:=fun k => k = u.heap.size) (by simp [Act.put]) rfl (fun t ht => zat ht) ⟨by simp, u.heap.size, (madeCells z.cells (c * i.size)).toList, zax (by rw [hh.size]; exact zn hn), by rw [zao]; simp, Nat.zero_le _, hc, by simp [size_madeCells, hs1], fun _ => Iff.rfl⟩ (fun k hk => ?_) fun t r' _ ht k hf hk => ?_⟩
 ·subst hk
  exact ⟨zac (zao u _), za8 hh.sub (Nat.le_refl _), .inl hh.keep.size, fun y hy e => by have:=zac (hh.boxes y hy).1; omega⟩
 ·have:=((hh.slot t _ ht).2 k hf).1
  omega
theorem zzs (t q:Nat) {e:TypeId} {s cap m:Nat} {xs:List Value} {c:Code} (hk:κ t = some (.own (SlX e s cap m xs)))
  (h:∀ b rest, xs.length = m * s → m ≤ cap → cap ≤ maxLen → (xs ++ rest).length = cap * s → V P F B n O (upd (upd (upd κ t zdx) q (.own (zaj b (xs ++ rest) e))) t (.is (.slice (some ⟨b, 0, none⟩) m cap))) c Q):V P F B n O κ c Q:=fun a u hh => by
 obtain ⟨H, fp, hh⟩:=hh
 obtain ⟨⟨hl, b, rest, hv, hb, h3, h4, h5, hC⟩, hM⟩:=hh.slot t _ hk
 have h2:=hh.usePut (d:=q) (a':=a) (r':=zaj b (xs ++ rest) e) (C:=fp t) hk ⟨Keep.refl _ _, hh.sub, Heap.Le.refl _, fun _ _ _ => rfl⟩ rfl rfl (fun _ _ => rfl) ⟨hb, hC⟩ fun k hk => ⟨.inl hk, (hM k hk).1, (hM k hk).2.1⟩
 have h3':=h2.name t
 rw [hv] at h3'
 exact h b rest hl h3 h4 h5 a u ⟨H, _, h3'⟩
theorem zqu (L:Tabs P) {q b nn cap m:Nat} {x y:Operand} {t e:TypeId} {s by_:Nat} {cur news cur':List Value} (hn:Nat.blt d n = true) (hg:gK ops κ ⟨some d, .call ⟨.builtin .append, #[x, y], #[t, t]⟩, ty, pos, aft, g⟩ = some true)
  (hx:evK κ x = some (.slice (some ⟨b, 0, none⟩) nn cap)) (hq:κ q = some (.own (zaj b cur e))) (hy:Apd F B O κ y m news) (ht:L.sl t = some e) (he:elI P e = some (s, by_)) (hm:0 < m) (hnl:news.length = m * s) (hroom:nn + m ≤ cap) (hcl:nn * s + m * s ≤ cur.length) (h1:news.all zdj = true)
  (hr:cur.take (nn * s) ++ (news ++ cur.drop (nn * s + m * s)) = cur') :
  zcm P F B n ops O κ ⟨some d, .call ⟨.builtin .append, #[x, y], #[t, t]⟩, ty, pos, aft, g⟩ q (.own (zaj b cur' e)) d (.is (.slice (some ⟨b, 0, none⟩) (nn + m) cap)):=by
 rintro κ' a u hlk hks ⟨H, fp, hh⟩
 unfold After
 rw [if_pos (zah hh hlk hg)]
 have en:=hh.env hlk
 have hk':κ' q = some (.own (zaj b cur e)):=hks.trans hq
 have hxe:=en.is_ x _ (by simp [Op.operands, Call.operands]) hx
 obtain ⟨⟨hb, hC⟩, hM⟩:=hh.slot q _ hk'
 obtain ⟨i, z, hi, hz, hs1, hs2, hs3, hs4⟩:=zeg he
 subst hs1
 rcases hy _ a u H fp (by simp [Op.operands, Call.operands]) en with ⟨h0, _⟩ | ⟨ad, c', hye, hcy⟩
 ·omega
 have hrun0:=run_append_room (P:=P) u t ty e i (Tabs.sl_spec ht) hi b nn cap cur.toArray hb ad m c' news hnl hcy (fun v hv => zj6 (List.all_eq_true.1 h1 v hv)) hroom (by rw [hnl]; simpa using hcl)
 rw [hnl] at hrun0
 simp only [List.append_assoc] at hrun0
 rw [hr] at hrun0
 have hrun:(execOp a.eval ⟨some d, .call ⟨.builtin .append, #[x, y], #[t, t]⟩, ty, pos, aft, g⟩).run P u = .ok (.value (.slice (some ⟨b, 0, none⟩) (nn + m) cap)) (u.setRow b cur'.toArray):=by
  simp only [execOp, resolve, invoke, builtin, Sem.run_bind, Sem.run_pure, Result.andThen_ok, List.map_toArray, List.map_cons, List.map_nil, hxe, hye, hrun0]
 rw [hrun]
 simp only [Upon]
 have hbm:=hM b ((hC b).2 rfl)
 have h2:=hh.usePut (d:=q) (a':=a) (r':=zaj b cur' e) (C:=fun k => k = b) hk' (zc5 hh.sub hb ((hC b).2 rfl) hbm.2.1 _) rfl rfl (fun _ _ => rfl) ⟨setRow_heap u b cur.toArray cur'.toArray e (0, 0) hb, fun _ => Iff.rfl⟩ (fun k hk => by
  subst hk; exact ⟨.inl ((hC k).2 rfl), by rw [setRow_size]; exact hbm.1, hbm.2.1⟩)
 rw [zbv] at h2
 exact ⟨H, _, h2.put (k:=.is _) (zn hn) trivial rfl⟩
end
end Go.V
set_option maxRecDepth 20000
namespace Go.V
open Go.RowKit
section
variable {P:Program} {F:Fr} {B:Heap} {O:Boxes} {n:Nat} {ops:Array Oper} {κ:Kap} {d:Nat} {ty:TypeId} {pos:String} {aft:Array Edge} {g:Option (Nat × Bool)} {Q:Exit → Act → World → Prop}
theorem zxq {κ:Kap} {q:Nat} {k:Kn} (h:κ q = some k):upd κ q k = κ:=by
 funext t
 by_cases e:t = q
 ·subst e; rw [zak]; exact h.symm
 ·rw [zad _ _ e]
theorem zg5 (L:Tabs P) (q:Nat) (φ:Value → Heap → Prop) {r:GR} {f:Nat} {args:Array Operand} {at_:Array TypeId} {cap:List Value} {fo:Operand}
  (hn:Nat.blt d n = true) (hg:gK ops κ ⟨some d, .call { callee:=.value fo, args:=args, argTypes:=at_ }, ty, pos, aft, g⟩ = some true)
  (hf:evK κ fo = some (.func (.func f) #[] cap.toArray)) (hfn:L.fn f = some ()) (hq:κ q = some (.own r.res)) (hm:Kn.mono (.sat φ))
  (h:∀ u H C, H.Le (hp u) → B.Le H → r.P H u C → (∀ k, C k → k < u.heap.size ∧ H k = none) → Args κ H args.toList [] (fun vs => RetY P f (vs ++ cap) u H C r φ)) :
  StepOKR P F B n ops O κ ⟨some d, .call { callee:=.value fo, args:=args, argTypes:=at_ }, ty, pos, aft, g⟩ q d (.sat φ):=by
 rintro κ' a u hlk hks ⟨H, fp, hh⟩
 unfold After
 rw [if_pos (zah hh hlk hg)]
 have hk':κ' q = some (.own r.res):=hks.trans hq
 obtain ⟨hown, hM⟩:=hh.slot q _ hk'
 have e2:=hh.env hlk
 have hfe:a.eval fo = .func (.func f) #[] cap.toArray:=e2.is_ fo _ (by simp [Op.operands, Call.operands]) hf
 have hc:=Args.use e2 args.toList [] (fun x hx => by simp [Op.operands, Call.operands] at hx ⊢; exact .inr hx) (h u H (fp q) hh.sub hh.base hown fun k hk => ⟨(hM k hk).1, (hM k hk).2.1⟩)
 simp only [List.reverse_nil, List.nil_append] at hc
 rw [zc8 L rfl hfe hfn]
 simp only [Upon]
 refine Calls.mono hc fun e' u' hp => ?_
 obtain ⟨x, rfl, H', g', hx, C', hv, hC'⟩:=hp
 have h2:=hh.usePut (d:=q) (a':=a) (r':=r.res) hk' g' rfl rfl (fun _ _ => rfl) hv hC'
 rw [zbv, zxq hk'] at h2
 exact ⟨x, rfl, H', _, h2.put (k:=.sat φ) (zn hn) hm hx⟩
end
theorem RetT.pubY {P:Program} {f:FuncId} {args:List Value} {w:World} {B:Heap} {C:Nat → Prop} {r:GR} {r1:Res} {φ:Value → Heap → Prop} (h:RetT P f args w B C (zho r1 r.res)) (hl:z56 r1 φ):RetY P f args w B C r φ :=
 Calls.mono h fun _ u ⟨v, he, H, g, C', ⟨C1, C2, h1, h2, h3, h4⟩, h5⟩ => by
  have hs:=zha (u:=u) (C:=C1) g.sub
  have hle:=znh (u:=u) fun k hk => (h5 k ((h3 k).2 (.inl hk))).2.2
  refine ⟨v, he, joinH H u C1, ⟨g.keep, hs, fun k x hx => hle _ _ (g.le _ _ hx), fun k hk hn => (zdz fun hc => ?_).trans (g.fresh k hk hn)⟩, hl _ _ _ _ h1, C2, r.st h2 hle hs (On.refl u) (fun _ _ => rfl), fun k hk => ⟨(h5 k ((h3 k).2 (.inr hk))).1, (h5 k ((h3 k).2 (.inr hk))).2.1, (zdz fun hc => h4 k hc hk).trans (h5 k ((h3 k).2 (.inr hk))).2.2⟩⟩
  rcases (h5 k ((h3 k).2 (.inl hc))).1 with h6 | h6
  ·exact hn h6
  ·omega
theorem RetY.ex {P:Program} {f:FuncId} {args:List Value} {w:World} {B:Heap} {C:Nat → Prop} {X:Type} {r:X → GR} {φ:X → Heap → Prop} {hφ:zhn φ} {ψ:Value → Heap → Prop} (hr:(GEx r φ hφ).P B w C) (h:∀ x, φ x B → (r x).P B w C → RetY P f args w B C (r x) ψ):RetY P f args w B C (GEx r φ hφ) ψ:=by
 obtain ⟨x, h1, h2⟩:=hr
 exact RetL.mono (h x h1 h2) fun v H u hg ⟨h3, C', h4, h5⟩ => ⟨h3, C', ⟨x, hφ _ _ _ h1 hg.le, h4⟩, h5⟩
end Go.V
set_option maxRecDepth 20000
namespace Go.V
open Go.RowKit
def MiE {V:Type} (kd:IntKind) (vc:V → Value) (l:List (Int × V)) (es:List MapEntry):Prop:=es.map (fun e => (e.key, e.val)) = l.map fun p => (Value.int kd p.1, vc p.2)
section
variable {P:Program} {V:Type} {kd:IntKind} {vc:V → Value} {l:List (Int × V)} {t kt et:TypeId}
theorem zrz {p:Int × V} {l:List (Int × V)} {es:List MapEntry} (h:MiE kd vc (p :: l) es):∃ e r, es = e :: r ∧ e.key = .int kd p.1 ∧ e.val = vc p.2 ∧ MiE kd vc l r:=by
 unfold MiE at h
 cases es with
 | nil => simp at h
 | cons e r =>
  simp at h
  exact ⟨e, r, rfl, h.1.1, h.1.2, h.2⟩
theorem zpk (k:Int):∀ (l:List (Int × V)) (es:List MapEntry) (i:Nat), MiE kd vc l es → Instr.findNow (.int kd) (.int kd k) es i = some ((ze8 k l i).map fun p => (p.1, vc p.2))
 | [], es, i, h => by
  have:es = []:=by simpa [MiE] using h
  subst this; rfl
 | p :: l, es, i, h => by
  obtain ⟨e, r, rfl, h1, h2, h3⟩:=zrz h
  rw [Instr.findNow, ze8, h1]
  simp only [Instr.sameNow, if_true]
  by_cases hkp:k = p.1
  ·rw [if_pos hkp, beq_iff_eq.2 hkp, h2]; rfl
  ·rw [if_neg hkp, beq_false_of_ne hkp]
   exact zpk k l r (i + 1) h3
theorem zif (hk:P.underlying kt = some (.int kd)) (k:Int) (w:World) (l:List (Int × V)) (es:List MapEntry) (h:MiE kd vc l es) :
  (Instr.findKey kt (.int kd k) es).run P w = .ok ((ze8 k l 0).map fun p => (p.1, vc p.2)) w:=by
 unfold Instr.findKey
 simp only [Sem.run_bind, run_underlying hk, Result.andThen_ok, zpk k l es 0 h, Sem.run_pure]
theorem ze4 (hk:P.underlying kt = some (.int kd)) (k:Int) (em:Bool) (w:World):(Instr.checkKey em 10000 kt (.int kd k)).run P w = .ok () w:=by
 rw [Instr.checkKey]
 simp only [Sem.run_bind, run_underlying hk, Result.andThen_ok]
 rfl
theorem zpa (k:Int) (v:V):∀ (l:List (Int × V)) (es:List MapEntry) (i j:Nat) (x:V), MiE kd vc l es → ze8 k l i = some (j, x) →
  MiE kd vc (ztl k v l) (es.modify (j - i) fun e => { e with key:=.int kd k, val:=vc v })
 | [], _, _, _, _, _, h => by cases h
 | p :: l, es, i, j, x, he, h => by
  obtain ⟨e, r, rfl, h1, h2, h3⟩:=zrz he
  unfold ze8 at h
  rw [ztl]
  split at h
  ·rename_i hk
   cases h
   rw [if_pos hk, Nat.sub_self]
   unfold MiE at h3 ⊢
   subst hk
   simpa using h3
  ·rename_i hk
   rw [if_neg hk]
   obtain ⟨n, hn, _⟩:=zkm h
   have ih:=zpa k v l r (i + 1) j x h3 h
   have e1:j - i = (j - (i + 1)) + 1:=by omega
   rw [e1]
   unfold MiE at ih ⊢
   simp [h1, h2]
   exact ih
end
section
variable {P:Program} {F:Fr} {B:Heap} {O:Boxes} {n:Nat} {ops:Array Oper} {κ:Kap} {d:Nat} {ty:TypeId} {pos:String} {aft:Array Edge} {g:Option (Nat × Bool)} {a:Act} {u:World} {H:Heap} {os:List Oper} {Q:Exit → Act → World → Prop} {ex:Exs}
variable {Y:Type} {kd:IntKind} {vc:Y → Value} {l:List (Int × Y)}
end
end Go.V
set_option maxRecDepth 20000
namespace Go.V
open Go.RowKit
section
variable {V:Type}
end
structure Brn (es:List MapEntry) (ck:Nat):Prop where
 lt:∀ e ∈ es, e.born < ck
 nd:(es.map (·.born)).Nodup
theorem z2i:Brn [] 0:=⟨fun _ h => (by cases h), List.nodup_nil⟩
theorem Brn.push {es:List MapEntry} {ck:Nat} (h:Brn es ck) (e:MapEntry) (he:e.born = ck):Brn (es ++ [e]) (ck + 1):=⟨fun x hx => by
 rcases List.mem_append.1 hx with hx | hx
 ·exact Nat.lt_succ_of_lt (h.lt x hx)
 ·rw [List.mem_singleton.1 hx, he]; exact Nat.lt_succ_self _, by
 rw [List.map_append, List.nodup_append]
 refine ⟨h.nd, List.pairwise_singleton _ _, fun a ha b hb => ?_⟩
 obtain ⟨x, hx, rfl⟩:=List.mem_map.1 ha
 have:=h.lt x hx
 simp only [List.map_cons, List.map_nil, List.mem_singleton] at hb
 omega⟩
theorem Brn.modify {es:List MapEntry} {ck:Nat} (h:Brn es ck) (j:Nat) (f:MapEntry → MapEntry) (hf:∀ e, (f e).born = e.born):Brn (es.modify j f) ck:=by
 have e1:(es.modify j f).map (·.born) = es.map (·.born):=by
  apply List.ext_getElem?
  intro i
  rw [List.getElem?_map, List.getElem?_map, List.getElem?_modify]
  cases es[i]? with
  | none => rfl
  | some e =>
   simp only [Option.map_some]
   split <;> simp [hf]
 refine ⟨fun e he => ?_, by rw [e1]; exact h.nd⟩
 have h2:e.born ∈ es.map (·.born):=by rw [← e1]; exact List.mem_map_of_mem he
 obtain ⟨x, hx, hb⟩:=List.mem_map.1 h2
 rw [← hb]; exact h.lt x hx
section
variable {P:Program} {V:Type} {kd:IntKind} {vc:V → Value} {l:List (Int × V)} {t kt et:TypeId}
theorem zou (ht:P.underlying t = some (.map kt et)) (hk:P.underlying kt = some (.int kd)) {b:Nat} {es:Array MapEntry} {ck:Nat} {u:World} (hb:u.heap[b]? = some (.map es ck)) (he:MiE kd vc l es.toList) (k:Int) {z:Value}
  (hz:(zeroValue et).run P u = .ok z u):(Instr.lookup t (.map (some b)) (.int kd k) true).run P u = .ok (.tuple #[(zhq k l).elim z vc, .bool (zhq k l).isSome]) u:=by
 unfold Instr.lookup
 have hf:=zif hk k u l es.toList he
 simp only [Sem.run_bind, run_underlying ht, Result.andThen_ok, MapKept.run_getObj_map hb, Sem.run_pure, ze4 hk k, hf]
 unfold zhq
 cases ze8 k l 0 with
 | none => simp [hz]
 | some p => simp
theorem zlc (ht:P.underlying t = some (.map kt et)) (hk:P.underlying kt = some (.int kd)) {b:Nat} {es:Array MapEntry} {ck:Nat} {u:World} (hb:u.heap[b]? = some (.map es ck)) (he:MiE kd vc l es.toList) (hn:Brn es.toList ck) (k:Int) (v:V) :
  ∃ es' ck', (Instr.mapUpdate t (.map (some b)) (.int kd k) (vc v)).run P u = .ok () (u.putObj b (.map es' ck')) ∧ MiE kd vc (ztl k v l) es'.toList ∧ Brn es'.toList ck':=by
 have hf:=zif hk k u l es.toList he
 cases hm:ze8 k l 0 with
 | none =>
  refine ⟨es.push { key:=.int kd k, val:=vc v, born:=ck }, ck + 1, ?_, ?_, by simpa using hn.push _ rfl⟩
  ·unfold Instr.mapUpdate
   rw [hm] at hf
   simp only [Sem.run_bind, run_underlying ht, Result.andThen_ok, MapKept.run_getObj_map hb, Sem.run_pure, ze4 hk k, hf, Option.map_none]
   simp [setObj, Sem.run, hb, World.putObj, Result.andThen]
  ·rw [zkj hm]
   unfold MiE at he ⊢
   simp [he]
 | some q =>
  obtain ⟨j, x⟩:=q
  refine ⟨es.modify j fun e => { e with key:=.int kd k, val:=vc v }, ck, ?_, ?_, by rw [Array.toList_modify]; exact hn.modify j _ fun _ => rfl⟩
  ·obtain ⟨n, hn2, hx⟩:=zkm hm
   have hn':j = n:=by omega
   subst hn'
   have hkey:((es[j]?).map (·.key)).getD (.int kd k) = .int kd k:=by
    have h2:=congrArg (·[j]?) he
    simp only [List.getElem?_map, hx, Option.map_some] at h2
    rw [← Array.getElem?_toList]
    cases hz:es.toList[j]? with
    | none => rfl
    | some e =>
     rw [hz] at h2
     simp at h2
     simpa using h2.1
   unfold Instr.mapUpdate
   rw [hm] at hf
   simp only [Sem.run_bind, run_underlying ht, Result.andThen_ok, MapKept.run_getObj_map hb, Sem.run_pure, ze4 hk k, hf, Option.map_some, hkey]
   unfold Instr.keyThatStays
   rw [if_pos (by simp [Instr.sameBits])]
   simp [setObj, Sem.run, hb, World.putObj, Result.andThen]
  ·have:=zpa k v l es.toList 0 j x he hm
   simpa using this
theorem map_erase {α β:Type} (f:α → β):∀ (l:List α) (j:Nat), (l.eraseIdx j).map f = (l.map f).eraseIdx j
 | [], _ => rfl
 | _ :: _, 0 => rfl
 | x :: l, j + 1 => by simp [map_erase f l j]
theorem zv5 {es:List MapEntry} (h:MiE kd vc l es) (j:Nat):MiE kd vc (l.eraseIdx j) (es.eraseIdx j):=by
 unfold MiE at *
 rw [map_erase, map_erase, h]
theorem zot {u:World} {m i:Nat} {es:Array MapEntry} {ck since last:Nat} {seen:Array Nat} {ty:TypeId} (hm:u.heap[m]? = some (.map es ck)) (hi:u.heap[i]? = some (.mapIter (some m) since seen last)) (hold:∀ x ∈ es.toList, x.born < since) (hsc:since ≤ last) :
  ((leftOf es seen).size = 0 ∧ (Instr.next (.pointer (some ⟨i, 0, none⟩)) false ty).run P u = .ok (.tuple #[.bool false]) u) ∨
  ∃ (j:Nat) (e:MapEntry), (leftOf es seen)[j]? = some e ∧ ∃ u1:World, (u1 = u ∨ u1 = u.drew) ∧ (Instr.next (.pointer (some ⟨i, 0, none⟩)) false ty).run P u = .ok (.tuple #[.bool true, e.key, e.val]) (u1.putObj i (.mapIter (some m) since (seen.push e.born) ck)):=by
 simp only [Instr.next, getObj, Sem.run_bind, Sem.run, hi, hm, Result.andThen, next_test_false seen es since last hold hsc, Bool.false_eq_true, if_false]
 unfold leftOf
 have hmem:∀ x ∈ (Array.filter (fun e => !seen.contains e.born) es).toList, x.born < since:=fun x hx => hold x (by simp at hx ⊢; exact hx.1)
 generalize Array.filter (fun e => !seen.contains e.born) es = L at hmem ⊢
 have e1:L.filter (fun x => decide (x.born < since)) = L:=Array.filter_eq_self.2 (fun x hx => by simpa using hmem x (by simpa using hx))
 have e2:L.filter (fun x => decide (x.born ≥ since)) = #[]:=by
  rw [Array.filter_eq_empty_iff]
  intro x hx
  have:=hmem x (by simpa using hx)
  simp
  omega
 simp only [e1, e2, Array.append_empty]
 by_cases h0:L.size = 0
 ·left
  have:L = #[]:=Array.eq_empty_of_size_eq_zero h0
  subst this
  refine ⟨rfl, ?_⟩
  simp [choose, Sem.run, Question.forced]
 ·right
  have hne:L.isEmpty = false:=by simp [Array.isEmpty, h0]
  simp only [hne, Bool.false_eq_true, if_false, Array.empty_append, Array.size_map]
  have hch:∃ (j:Nat) (w1:World), j < L.size ∧ (w1 = u ∨ w1 = u.drew) ∧ (choose (Question.mapNext L.size)).run P u = .ok j w1:=by
   by_cases hf:L.size ≤ 1
   ·exact ⟨0, u, by omega, .inl rfl, by simp [choose, Sem.run, Question.forced, hf]⟩
   ·exact ⟨_, u.drew, Nat.mod_lt _ (by omega), .inr rfl, by
     simp only [choose, Sem.run, Question.forced, decide_eq_true_eq, hf, if_false, Question.cut]
     rfl⟩
  obtain ⟨j, w1, hj, hal, hrun⟩:=hch
  refine ⟨j, L[j], by simp [hj], w1, hal, ?_⟩
  have hi1:w1.heap[i]? = some (.mapIter (some m) since seen last):=by rcases hal with rfl | rfl <;> exact hi
  simp only [hrun, Array.getElem?_map, Array.getElem?_eq_getElem hj, Option.map_some, Sem.run_bind, Result.andThen]
  simp [setObj, Sem.run, hi1, World.putObj]
end
def z57 {V:Type} (b:Nat) (kd:IntKind) (vc:V → Value) (l:List (Int × V)):GR where
 P _ u C:=(∃ es ck, u.heap[b]? = some (.map es ck) ∧ MiE kd vc l es.toList ∧ Brn es.toList ck) ∧ ∀ k, C k ↔ k = b
 st:=fun ⟨⟨es, ck, hb, he⟩, hC⟩ _ _ _ hk => ⟨⟨es, ck, (hk b ((hC b).2 rfl)).trans hb, he⟩, hC⟩
abbrev zp2 {V:Type} (b:Nat) (kd:IntKind) (vc:V → Value) (l:List (Int × V)):Res:=(z57 b kd vc l).res
def zz2 {V:Type} (kd:IntKind) (vc:V → Value) (l:List (Int × V)):Res where
 P x _ u C:=∃ b, x = .map (some b) ∧ (∃ es ck, u.heap[b]? = some (.map es ck) ∧ MiE kd vc l es.toList ∧ Brn es.toList ck) ∧ ∀ k, C k ↔ k = b
 st:=fun ⟨b, hx, ⟨es, ck, hb, he⟩, hC⟩ _ _ _ hk => ⟨b, hx, ⟨es, ck, (hk b ((hC b).2 rfl)).trans hb, he⟩, hC⟩
def zzy {V:Type} (m:Nat) (kd:IntKind) (vc:V → Value) (l left:List (Int × V)):Res where
 P x _ u C:=∃ i es ck since seen last, x = .pointer (some ⟨i, 0, none⟩) ∧ i ≠ m ∧ u.heap[m]? = some (.map es ck) ∧ MiE kd vc l es.toList ∧ Brn es.toList ck ∧ u.heap[i]? = some (.mapIter (some m) since seen last) ∧
  (∀ e ∈ es.toList, e.born < since) ∧ since ≤ last ∧ since ≤ ck ∧ MiE kd vc left (leftOf es seen).toList ∧ ∀ k, C k ↔ k = m ∨ k = i
 st:=fun ⟨i, es, ck, since, seen, last, h1, h2, h3, h4, h5, h6, h7, h8, h9, h10, hC⟩ _ _ _ hk => ⟨i, es, ck, since, seen, last, h1, h2, (hk m ((hC m).2 (.inl rfl))).trans h3, h4, h5, (hk i ((hC i).2 (.inr rfl))).trans h6, h7, h8, h9, h10, hC⟩
section
variable {P:Program} {F:Fr} {B:Heap} {O:Boxes} {n:Nat} {ops:Array Oper} {κ:Kap} {d:Nat} {ty:TypeId} {pos:String} {aft:Array Edge} {g:Option (Nat × Bool)} {a:Act} {u:World} {H:Heap} {os:List Oper} {Q:Exit → Act → World → Prop}
variable {Y:Type} {kd:IntKind} {vc:Y → Value} {l left:List (Int × Y)}
theorem Has.holdMb {t q:Nat} (hk:κ t = some (.own (zz2 kd vc l))) (h:Has F B O n κ a u):∃ b, Has F B O n (upd (upd (upd κ t zdx) q (.own (zp2 b kd vc l))) t (.is (.map (some b)))) a u:=by
 obtain ⟨H, fp, h⟩:=h
 obtain ⟨⟨b, hv, hb, hC⟩, hM⟩:=h.slot t _ hk
 have h2:=h.usePut (d:=q) (a':=a) (r':=zp2 b kd vc l) (C:=fp t) hk ⟨Keep.refl _ _, h.sub, Heap.Le.refl _, fun _ _ _ => rfl⟩ rfl rfl (fun _ _ => rfl) ⟨hb, hC⟩ fun k hk => ⟨.inl hk, (hM k hk).1, (hM k hk).2.1⟩
 have h3:=h2.name t
 rw [hv] at h3
 exact ⟨b, H, _, h3⟩
theorem z47 (t q:Nat) {c:Code} (hk:κ t = some (.own (zz2 kd vc l))) (h:∀ b, V P F B n O (upd (upd (upd κ t zdx) q (.own (zp2 b kd vc l))) t (.is (.map (some b)))) c Q):V P F B n O κ c Q:=fun a u hh => let ⟨b, h'⟩:=hh.holdMb (q:=q) hk; h b a u h'
theorem zug (t q:Nat) (hk:κ t = some (.own (zz2 kd vc l))) (h:∀ b, VO P F B n O ops (upd (upd (upd κ t zdx) q (.own (zp2 b kd vc l))) t (.is (.map (some b)))) os Q):VO P F B n O ops κ os Q:=fun a u hh => let ⟨b, h'⟩:=hh.holdMb (q:=q) hk; h b a u h'
theorem zqr (kd:IntKind) (vc:Y → Value) {t:TypeId} {hint:Option Operand} (hn:Nat.blt d n = true) (hg:gK ops κ ⟨some d, .makeMap t none, ty, pos, aft, g⟩ = some true) :
  StepOK P F B n ops O κ ⟨some d, .makeMap t none, ty, pos, aft, g⟩ d (.own (zz2 kd vc [])):=by
 rintro κ' a u hl ⟨H, fp, hh⟩
 have hn:d < n:=by simpa using hn
 unfold After
 rw [if_pos (zah hh hl hg)]
 have hrun:(execOp a.eval ⟨some d, .makeMap t none, ty, pos, aft, g⟩).run P u = .ok (.value (.map (some u.heap.size))) (u.alloc (.map #[] 0)):=by
  simp [execOp, Instr.makeMap]
 rw [hrun]
 simp only [Upon]
 have hg2:=hh.grow (Grow.hid hh.sub (.map #[] 0))
 refine ⟨H, _, hg2.putR (C:=fun k => k = u.heap.size) (by simp [Act.put]) rfl (fun t ht => zat ht) ⟨u.heap.size, zax (by rw [hh.size]; exact hn), ⟨_, _, zao _ _, rfl, z2i⟩, fun _ => Iff.rfl⟩ (fun k hk => ?_) fun t r' _ ht k hf hk => ?_⟩
 ·subst hk
  exact ⟨zac (zao u _), za8 hh.sub (Nat.le_refl _), .inl hh.keep.size, fun y hy e => by have:=zac (hh.boxes y hy).1; omega⟩
 ·have:=((hh.slot t _ ht).2 k hf).1
  omega
theorem zf6 {x y:Operand} {q b:Nat} {t kt et:TypeId} (k:Int) {r z:Value} {f:Bool} (ht:P.underlying t = some (.map kt et)) (hkt:P.underlying kt = some (.int kd)) (hz:∀ w, (zeroValue et).run P w = .ok z w)
  (hx:evK κ x = some (.map (some b))) (hq:κ q = some (.own (zp2 b kd vc l))) (hy:evK κ y = some (.int kd k)) (hn:Nat.blt d n = true) (hg:gK ops κ ⟨some d, .lookup t x y true, ty, pos, aft, g⟩ = some true)
  (hr:(zhq k l).elim z vc = r) (hf:(zhq k l).isSome = f) :
  StepOKR P F B n ops O κ ⟨some d, .lookup t x y true, ty, pos, aft, g⟩ q d (.is (.tuple #[r, .bool f])):=by
 rintro κ' a u hlk hqk ⟨H, fp, hh⟩
 subst hr hf
 unfold After
 rw [if_pos (zah hh hlk hg)]
 have e:=hh.env hlk
 have h1:=e.is_ x _ (by simp [Op.operands]) hx
 have h2:=e.is_ y _ (by simp [Op.operands]) hy
 obtain ⟨⟨⟨es, ck, hb, he, _⟩, hC⟩, hM⟩:=hh.slot q _ (hqk.trans hq)
 have hrun:(execOp a.eval ⟨some d, .lookup t x y true, ty, pos, aft, g⟩).run P u = .ok (.value (.tuple #[(zhq k l).elim z vc, .bool (zhq k l).isSome])) u:=by
  simp only [execOp, h1, h2, Sem.run_bind, zou ht hkt hb he k (hz u), Result.andThen_ok]
  rfl
 rw [hrun]
 simp only [Upon]
 exact ⟨H, fp, hh.put (k:=.is _) (zn hn) trivial rfl⟩
theorem HasH.turnMap {q b:Nat} {fp:Nat → Nat → Prop} {es:Array MapEntry} {ck:Nat} {l':List (Int × Y)} (hh:HasH F B O n κ a u H fp) (hq:κ q = some (.own (zp2 b kd vc l))) (he:MiE kd vc l' es.toList) (hb:Brn es.toList ck) :
  HasH F B O n (upd κ q (.own (zp2 b kd vc l'))) a (u.putObj b (.map es ck)) H (fpu fp q fun k => k = b):=by
 obtain ⟨⟨_, hC⟩, hM⟩:=hh.slot q _ hq
 have hbm:=hM b ((hC b).2 rfl)
 have:=hh.usePut (d:=q) (a':=a) (r':=zp2 b kd vc l') (C:=fun k => k = b) hq (zku hh.sub ((hC b).2 rfl) hbm.2.1) rfl rfl (fun _ _ => rfl) ⟨⟨es, ck, World.putObj_heap_same hbm.1, he, hb⟩, fun _ => Iff.rfl⟩ (fun k hk => by
  subst hk; exact ⟨.inl ((hC k).2 rfl), by rw [World.putObj_size]; exact hbm.1, hbm.2.1⟩)
 rw [zbv] at this
 exact this
theorem z1q {x:Operand} {q b:Nat} {t kt et:TypeId} {m:Nat} (ht:P.underlying t = some (.map kt et)) (hx:evK κ x = some (.map (some b))) (hq:κ q = some (.own (zp2 b kd vc l))) (hn:Nat.blt d n = true)
  (hg:gK ops κ ⟨some d, .call ⟨.builtin .len, #[x], #[t]⟩, ty, pos, aft, g⟩ = some true) (hm:l.length = m) :
  StepOKR P F B n ops O κ ⟨some d, .call ⟨.builtin .len, #[x], #[t]⟩, ty, pos, aft, g⟩ q d (.is (.int .i64 m)):=by
 rintro κ' a u hlk hqk ⟨H, fp, hh⟩
 subst hm
 unfold After
 rw [if_pos (zah hh hlk hg)]
 have e:=hh.env hlk
 have h1:=e.is_ x _ (by simp [Op.operands, Call.operands]) hx
 obtain ⟨⟨⟨es, ck, hb, he, _⟩, hC⟩, hM⟩:=hh.slot q _ (hqk.trans hq)
 have hsz:es.size = l.length:=by have:=congrArg List.length he; simpa using this
 have hrun:(execOp a.eval ⟨some d, .call ⟨.builtin .len, #[x], #[t]⟩, ty, pos, aft, g⟩).run P u = .ok (.value (.int .i64 l.length)) u:=by
  simp [execOp, resolve, h1, invoke, builtin, Builtin.len_, run_underlying ht, MapKept.run_getObj_map hb, goInt, hsz]
 rw [hrun]
 simp only [Upon]
 exact ⟨H, fp, hh.put (k:=.is _) (zn hn) trivial rfl⟩
theorem zvn {x:Operand} {q b:Nat} {t kt et:TypeId} (ht:P.underlying t = some (.map kt et)) (hx:evK κ x = some (.map (some b))) (hq:κ q = some (.own (zp2 b kd vc l))) (hn:Nat.blt d n = true)
  (hg:gK ops κ ⟨some d, .range t x, ty, pos, aft, g⟩ = some true) :
  zcm P F B n ops O κ ⟨some d, .range t x, ty, pos, aft, g⟩ q zdx d (.own (zzy b kd vc l l)):=by
 rintro κ' a u hlk hqk ⟨H, fp, hh⟩
 have hn:d < n:=by simpa using hn
 unfold After
 rw [if_pos (zah hh hlk hg)]
 have e:=hh.env hlk
 have h1:=e.is_ x _ (by simp [Op.operands]) hx
 have hqs:=hqk.trans hq
 obtain ⟨⟨⟨es, ck, hb, he, hbn⟩, hC⟩, hM⟩:=hh.slot q _ hqs
 have hrun:(execOp a.eval ⟨some d, .range t x, ty, pos, aft, g⟩).run P u = .ok (.value (.pointer (some ⟨u.heap.size, 0, none⟩))) (u.alloc (.mapIter (some b) ck #[] ck)):=by
  simp only [execOp, h1, Sem.run_bind, run_range_map u t kt et b es ck ht hb, Result.andThen_ok]
  rfl
 rw [hrun]
 simp only [Upon]
 have hbm:=hM b ((hC b).2 rfl)
 have hg2:Grow (fp q) u H (u.alloc (.mapIter (some b) ck #[] ck)) H:=⟨(Grow.hid hh.sub (.mapIter (some b) ck #[] ck)).keep.weak (fun k _ h => h.elim), (Grow.hid hh.sub _).sub, Heap.Le.refl _, fun _ _ _ => rfl⟩
 have hlo:leftOf es #[] = es:=by unfold leftOf; simp
 have:=hh.usePut (d:=d) (a':=a.put (some d) (.pointer (some ⟨u.heap.size, 0, none⟩))) (r':=zzy b kd vc l l) (C:=fun k => k = b ∨ k = u.heap.size) hqs hg2 (by simp [Act.put]) rfl (fun t ht => zat ht)
  ⟨u.heap.size, es, ck, ck, #[], ck, zax (by rw [hh.size]; exact hn), by omega, by rw [heap_alloc_old u _ hbm.1]; exact hb, he, hbn, heap_alloc_new u _, hbn.lt, Nat.le_refl _, Nat.le_refl _, by rw [hlo]; exact he, fun _ => Iff.rfl⟩
  (fun k hk => by
   have hsz:(u.alloc (.mapIter (some b) ck #[] ck)).heap.size = u.heap.size + 1:=by show (u.heap.push _).size = _; simp
   rcases hk with rfl | rfl
   ·exact ⟨.inl ((hC _).2 rfl), by omega, hbm.2.1⟩
   ·exact ⟨.inr (Nat.le_refl _), by omega, za8 hh.sub (Nat.le_refl _)⟩)
 exact ⟨H, _, this⟩
theorem zvo {q m:Nat} {w:Bool} (hw:w = false) (hq:κ q = some (.own (zzy m kd vc l left))) (hl:left = []) (hn:Nat.blt d n = true) (hg:gK ops κ ⟨some d, .next (.tmp q) w, ty, pos, aft, g⟩ = some true) :
  StepOK P F B n ops O κ ⟨some d, .next (.tmp q) w, ty, pos, aft, g⟩ d (.is (.tuple #[.bool false])) :=
 zar rfl (zn hn) hg trivial fun a u H fp e => by
  subst hw hl
  obtain ⟨⟨i, es, ck, since, seen, last, h1, h2, h3, h4, h5, h6, h7, h8, h9, h10, hC⟩, hM⟩:=e.own_ q _ (by simp [Op.operands]) hq
  have hz:(leftOf es seen).size = 0:=by have:=congrArg List.length h10; simpa using this
  refine ⟨_, ?_, rfl⟩
  rcases zot (P:=P) (ty:=ty) h3 h6 h7 h8 with ⟨_, hr⟩ | ⟨j, e2, he2, _⟩
  ·simp only [execOp, h1, Sem.run_bind, hr, Result.andThen_ok]
   rfl
  ·rw [Array.getElem?_eq_none (by omega)] at he2; cases he2
theorem zto {es:Array MapEntry} {ck j:Nat} {seen:Array Nat} {e:MapEntry} (hb:Brn es.toList ck) (he:(leftOf es seen)[j]? = some e):(leftOf es (seen.push e.born)).toList = (leftOf es seen).toList.eraseIdx j:=by
 have e1:(leftOf es (seen.push e.born)).toList = (leftOf es seen).toList.filter fun x => !(x.born == e.born):=by
  unfold leftOf
  rw [Array.toList_filter, Array.toList_filter, List.filter_filter]
  apply List.filter_congr
  intro x _
  rw [contains_push]
  cases seen.contains x.born <;> cases (x.born == e.born) <;> rfl
 have hnd:((leftOf es seen).toList.map (·.born)).Nodup:=by
  unfold leftOf
  rw [Array.toList_filter]
  exact hb.nd.sublist (List.filter_sublist.map _)
 rw [← Array.getElem?_toList] at he
 rw [e1]
 generalize (leftOf es seen).toList = L at hnd he
 clear e1
 induction L generalizing j with
 | nil => cases he
 | cons x L ih =>
  rw [List.map_cons, List.nodup_cons] at hnd
  cases j with
  | zero =>
   cases he
   have h0:L.filter (fun x => !(x.born == e.born)) = L:=List.filter_eq_self.2 fun y hy => by
    have:y.born ≠ e.born:=fun h => hnd.1 (h ▸ List.mem_map_of_mem hy)
    simpa using this
   simp [h0]
  | succ j =>
   have he':L[j]? = some e:=by simpa using he
   have hne:x.born ≠ e.born:=fun h => hnd.1 (h ▸ List.mem_map_of_mem (List.mem_of_getElem? he'))
   have:(!(x.born == e.born)) = true:=by simpa using hne
   rw [List.filter_cons_of_pos (by simpa using hne), ih hnd.2 he']
   rfl
theorem z32 {es:List MapEntry} {j:Nat} {e:MapEntry} (h:MiE kd vc left es) (he:es[j]? = some e):∃ p, left[j]? = some p ∧ e.key = .int kd p.1 ∧ e.val = vc p.2:=by
 have h2:=congrArg (·[j]?) h
 simp only [List.getElem?_map, he, Option.map_some] at h2
 cases hp:left[j]? with
 | none => rw [hp] at h2; cases h2
 | some p =>
  rw [hp] at h2
  simp at h2
  exact ⟨p, rfl, h2.1, h2.2⟩
theorem Has.endM {t q m:Nat} (hne:t ≠ q) (hk:κ t = some (.own (zzy m kd vc l left))) (h:Has F B O n κ a u):Has F B O n (upd (upd κ t zdx) q (.own (zp2 m kd vc l))) a u:=by
 obtain ⟨H, fp, hh⟩:=h
 obtain ⟨⟨i, es, ck, since, seen, last, h1, h2, h3, h4, h5, h6, h7, h8, h9, h10, hC⟩, hM⟩:=hh.slot t _ hk
 have:=hh.usePut (d:=q) (a':=a) (r':=zp2 m kd vc l) (C:=fun k => k = m) hk ⟨Keep.refl _ _, hh.sub, Heap.Le.refl _, fun _ _ _ => rfl⟩ rfl rfl (fun _ _ => rfl) ⟨⟨es, ck, h3, h4, h5⟩, fun _ => Iff.rfl⟩
  (fun k hk' => by subst hk'; have:=(hC k).2 (.inl rfl); exact ⟨.inl this, (hM k this).1, (hM k this).2.1⟩)
 exact ⟨H, _, this⟩
theorem z4x (t q:Nat) {m:Nat} {c:Code} (hk:κ t = some (.own (zzy m kd vc l left))) (h:V P F B n O (upd (upd κ t zdx) q (.own (zp2 m kd vc l))) c Q) (hne:t ≠ q:=by decide):V P F B n O κ c Q:=fun a u hh => h a u (hh.endM hne hk)
end
end Go.V
set_option maxRecDepth 20000
namespace Go.V
open Go.RowKit
def z49 {V:Type} (m:Nat) (kd:IntKind) (vc:V → Value) (l left:List (Int × V)) (p:Int × V):Res where
 P x _ u C:=∃ (i:Nat) (es:Array MapEntry) (ck since:Nat) (seen:Array Nat) (e:MapEntry), x = .pointer (some ⟨i, 0, none⟩) ∧ i ≠ m ∧ u.heap[m]? = some (.map es ck) ∧ MiE kd vc l es.toList ∧ Brn es.toList ck ∧ u.heap[i]? = some (.mapIter (some m) since (seen.push e.born) ck) ∧
  (∀ e ∈ es.toList, e.born < since) ∧ since ≤ ck ∧ MiE kd vc left (leftOf es (seen.push e.born)).toList ∧ e ∈ es.toList ∧ e.key = .int kd p.1 ∧ e.val = vc p.2 ∧ ∀ k, C k ↔ k = m ∨ k = i
 st:=fun ⟨i, es, ck, since, seen, e, h1, h2, h3, h4, h5, h6, h7, h8, h9, h10, h11, h12, hC⟩ _ _ _ hk => ⟨i, es, ck, since, seen, e, h1, h2, (hk m ((hC m).2 (.inl rfl))).trans h3, h4, h5, (hk i ((hC i).2 (.inr rfl))).trans h6, h7, h8, h9, h10, h11, h12, hC⟩
theorem z3g {V:Type} {m:Nat} {kd:IntKind} {vc:V → Value} {l left:List (Int × V)} {p:Int × V} {B:Heap}:∀ v H u C, B.Le H → (z49 m kd vc l left p).P v H u C → (zzy m kd vc l left).P v H u C :=
 fun _ _ _ _ _ ⟨i, es, ck, since, seen, e, h1, h2, h3, h4, h5, h6, h7, h8, h9, _, _, _, hC⟩ => ⟨i, es, ck, since, seen.push e.born, ck, h1, h2, h3, h4, h5, h6, h7, h8, h8, h9, hC⟩
theorem zyy {es:Array MapEntry} {seen:Array Nat} {j:Nat} {e:MapEntry} (h:(leftOf es seen)[j]? = some e):e ∈ es.toList:=by
 have h1:e ∈ leftOf es seen:=Array.mem_of_getElem? h
 unfold leftOf at h1
 rw [Array.mem_filter] at h1
 exact Array.mem_toList_iff.2 h1.1
theorem zwv {es:List MapEntry} (hn:(es.map (·.born)).Nodup) {e:MapEntry} (he:e ∈ es):es.find? (fun x => x.born == e.born) = some e:=by
 induction es with
 | nil => cases he
 | cons x es ih =>
  rw [List.map_cons, List.nodup_cons] at hn
  rw [List.find?_cons]
  rcases List.mem_cons.1 he with h | h
  ·subst h; simp
  ·have hne:x.born ≠ e.born:=fun h2 => hn.1 (h2 ▸ List.mem_map_of_mem (f:=(·.born)) h)
   have:(x.born == e.born) = false:=by simpa using hne
   rw [this]
   exact ih hn.2 h
section
variable {P:Program} {F:Fr} {B:Heap} {O:Boxes} {n:Nat} {ops:Array Oper} {κ:Kap} {d:Nat} {ty:TypeId} {pos:String} {aft:Array Edge} {g:Option (Nat × Bool)} {a:Act} {u:World} {H:Heap} {os:List Oper} {Q:Exit → Act → World → Prop}
variable {Y:Type} {kd:IntKind} {vc:Y → Value} {l left:List (Int × Y)}
theorem zxo {q m d:Nat} {o:Oper} (ho:o = ⟨some d, .next (.tmp q) false, ty, pos, aft, g⟩) (hq:κ q = some (.own (zzy m kd vc l left))) (hl:left ≠ []) (hn:Nat.blt d n = true) (hdq:Nat.beq q d = false) (hg:gK ops κ o = some true)
  (h:∀ (j:Nat) (p:Int × Y), left[j]? = some p → VO P F B n O ops (upd (upd κ q (.own (z49 m kd vc l (left.eraseIdx j) p))) d (.is (.tuple #[.bool true, .int kd p.1, vc p.2]))) os Q):VO P F B n O ops κ (o :: os) Q:=fun a u hh => by
 subst ho
 obtain ⟨H, fp, hh⟩:=hh
 obtain ⟨⟨i, es, ck, since, seen, last, h1, h2, h3, h4, h5, h6, h7, h8, h9, h10, hC⟩, hM⟩:=hh.slot q _ hq
 show After P ops _ _ a u
 unfold After
 rw [if_pos (zah hh (fun _ _ => rfl) hg)]
 rcases zot (P:=P) (ty:=ty) h3 h6 h7 h8 with ⟨hz, _⟩ | ⟨j, e, he, u1, hu1, hr⟩
 ·exfalso
  have:=congrArg List.length h10
  simp [hz] at this
  exact hl (List.eq_nil_of_length_eq_zero this.symm)
 ·have hrun:(execOp a.eval ⟨some d, .next (.tmp q) false, ty, pos, aft, g⟩).run P u = .ok (.value (.tuple #[.bool true, e.key, e.val])) (u1.putObj i (.mapIter (some m) since (seen.push e.born) ck)):=by
   simp only [execOp, h1, Sem.run_bind, hr, Result.andThen_ok]
   rfl
  rw [hrun]
  simp only [Upon]
  obtain ⟨p, hp, hk1, hv1⟩:=z32 h10 (by rw [Array.getElem?_toList]; exact he)
  rw [hk1, hv1]
  have him:=hM i ((hC i).2 (.inr rfl))
  have hsub:H.Le (Go.V.hp u1):=by rcases hu1 with rfl | rfl <;> exact hh.sub
  have hgr:Grow (fp q) u H (u1.putObj i (.mapIter (some m) since (seen.push e.born) ck)) H:=by
   have g1:=zku (u:=u1) (L:=fp q) (o:=.mapIter (some m) since (seen.push e.born) ck) hsub ((hC i).2 (.inr rfl)) him.2.1
   rcases hu1 with rfl | rfl
   ·exact g1
   ·exact ⟨⟨g1.keep.os, g1.keep.tape, g1.keep.output, g1.keep.size, g1.keep.block, Nat.le_trans (Nat.le_succ _) g1.keep.dr⟩, g1.sub, g1.le, g1.fresh⟩
  have hmm:u1.heap[m]? = some (.map es ck):=by rcases hu1 with rfl | rfl <;> exact h3
  have hsz:i < u1.heap.size:=by rcases hu1 with rfl | rfl <;> exact him.1
  have h5':=hh.usePut (d:=q) (a':=a) (r':=z49 m kd vc l (left.eraseIdx j) p) (C:=fun k => k = m ∨ k = i) hq hgr rfl rfl (fun _ _ => rfl)
   ⟨i, es, ck, since, seen, e, h1, h2, by rw [World.putObj_heap_other (Ne.symm h2)]; exact hmm, h4, h5, World.putObj_heap_same hsz, h7, h9, by rw [zto h5 he]; exact zv5 h10 j, zyy he, hk1, hv1, fun _ => Iff.rfl⟩
   (fun k hk => by
    have hkC:fp q k:=(hC k).2 hk
    refine ⟨.inl hkC, ?_, (hM k hkC).2.1⟩
    rw [World.putObj_size]
    rcases hu1 with rfl | rfl <;> exact (hM k hkC).1)
  rw [zbv] at h5'
  exact h j p hp _ _ ⟨H, _, h5'.put (k:=.is _) (zn hn) trivial rfl⟩
theorem zvs {q m:Nat} {p:Int × Y} (hq:κ q = some (.own (z49 m kd vc l left p))) (hn:Nat.blt d n = true) (hg:gK ops κ ⟨some d, .entry (.tmp q), ty, pos, aft, g⟩ = some true) :
  StepOK P F B n ops O κ ⟨some d, .entry (.tmp q), ty, pos, aft, g⟩ d (.is (.tuple #[.int kd p.1, vc p.2])) :=
 zar rfl (zn hn) hg trivial fun a u H fp e => by
  obtain ⟨⟨i, es, ck, since, seen, x, h1, h2, h3, h4, h5, h6, h7, h8, h9, h10, h11, h12, hC⟩, hM⟩:=e.own_ q _ (by simp [Op.operands]) hq
  refine ⟨_, ?_, rfl⟩
  have hf:=zwv h5.nd h10
  have hf2:es.find? (fun y => y.born == x.born) = some x:=by rw [← Array.find?_toList]; exact hf
  simp only [execOp, h1, Instr.entry, getObj, Sem.run_bind, Sem.run, h6, Result.andThen, Array.back?_push, h3, bne_self_eq_false, Bool.false_eq_true, if_false, hf2, h11, h12]
  rfl
theorem ztg {x y z:Operand} {q b:Nat} {t kt et:TypeId} (k:Int) (v:Y) {zv:Value} {l':List (Int × Y)} (ht:P.underlying t = some (.map kt et)) (hkt:P.underlying kt = some (.int kd))
  (hx:evK κ x = some (.map (some b))) (hq:κ q = some (.own (zp2 b kd vc l))) (hy:evK κ y = some (.int kd k)) (hz:evK κ z = some zv) (hzv:vc v = zv) (hg:gK ops κ ⟨none, .insert t x y z, ty, pos, aft, g⟩ = some true)
  (hl':ztl k v l = l') :
  znu P F B n ops O κ ⟨none, .insert t x y z, ty, pos, aft, g⟩ q (.own (zp2 b kd vc l')):=by
 rintro κ' a u hlk hqk ⟨H, fp, hh⟩
 subst hl' hzv
 unfold After
 rw [if_pos (zah hh hlk hg)]
 have e:=hh.env hlk
 have h1:=e.is_ x _ (by simp [Op.operands]) hx
 have h2:=e.is_ y _ (by simp [Op.operands]) hy
 have h3:=e.is_ z _ (by simp [Op.operands]) hz
 have hqs:=hqk.trans hq
 obtain ⟨⟨⟨es, ck, hb, he, hbn⟩, hC⟩, hM⟩:=hh.slot q _ hqs
 obtain ⟨es', ck', hr, he', hb'⟩:=zlc ht hkt hb he hbn k v
 have hrun:(execOp a.eval ⟨none, .insert t x y z, ty, pos, aft, g⟩).run P u = .ok .skip (u.putObj b (.map es' ck')):=by
  simp only [execOp, h1, h2, h3, Sem.run_bind, hr, Result.andThen_ok]
  rfl
 rw [hrun]
 simp only [Upon, Act.put]
 exact ⟨H, _, hh.turnMap hqs he' hb'⟩
end
end Go.V
set_option maxRecDepth 20000
namespace Go.V
open Go.RowKit
def zzz {X:Type} (vf:X → Value) (g:X → GR):Res where
 P v H u C:=∃ x, v = vf x ∧ (g x).P H u C
 st:=fun ⟨x, h1, h2⟩ a b c d => ⟨x, h1, (g x).st h2 a b c d⟩
section
variable {P:Program} {F:Fr} {B:Heap} {O:Boxes} {n:Nat} {ops:Array Oper} {κ:Kap} {d:Nat} {ty:TypeId} {pos:String} {aft:Array Edge} {g:Option (Nat × Bool)} {Q:Exit → Act → World → Prop} {a:Act} {u:World} {os:List Oper}
theorem Has.holdRf {X:Type} {t q:Nat} {vf:X → Value} {gg:X → GR} (hk:κ t = some (.own (zzz vf gg))) (h:Has F B O n κ a u):∃ x, Has F B O n (upd (upd (upd κ t zdx) q (.own (gg x).res)) t (.is (vf x))) a u:=by
 obtain ⟨H, fp, h⟩:=h
 obtain ⟨⟨x, hv, hx⟩, hM⟩:=h.slot t _ hk
 have h2:=h.usePut (d:=q) (a':=a) (r':=(gg x).res) (C:=fp t) hk ⟨Keep.refl _ _, h.sub, Heap.Le.refl _, fun _ _ _ => rfl⟩ rfl rfl (fun _ _ => rfl) hx fun k hk => ⟨.inl hk, (hM k hk).1, (hM k hk).2.1⟩
 have h3:=h2.name t
 rw [hv] at h3
 exact ⟨x, H, _, h3⟩
theorem zzt (t q:Nat) {X:Type} {vf:X → Value} {gg:X → GR} {c:Code} (hk:κ t = some (.own (zzz vf gg))) (h:∀ x, V P F B n O (upd (upd (upd κ t zdx) q (.own (gg x).res)) t (.is (vf x))) c Q):V P F B n O κ c Q:=fun a u hh => let ⟨x, h'⟩:=hh.holdRf (q:=q) hk; h x a u h'
theorem zfl (t q:Nat) {X:Type} {vf:X → Value} {gg:X → GR} (hk:κ t = some (.own (zzz vf gg))) (h:∀ x, VO P F B n O ops (upd (upd (upd κ t zdx) q (.own (gg x).res)) t (.is (vf x))) os Q):VO P F B n O ops κ os Q:=fun a u hh => let ⟨x, h'⟩:=hh.holdRf (q:=q) hk; h x a u h'
theorem Has.packRf {X:Type} {t q:Nat} {vf:X → Value} {gg:X → GR} (x:X) (hk:κ q = some (.own (gg x).res)) (ht:κ t = some (.is (vf x))) (h:Has F B O n κ a u):Has F B O n (upd (upd κ q zdx) t (.own (zzz vf gg))) a u:=by
 obtain ⟨H, fp, h⟩:=h
 obtain ⟨hx, hM⟩:=h.slot q _ hk
 have hv:a.eval (.tmp t) = vf x:=h.slot t _ ht
 exact ⟨H, _, h.usePut (d:=t) (a':=a) (r':=zzz vf gg) (C:=fp q) hk ⟨Keep.refl _ _, h.sub, Heap.Le.refl _, fun _ _ _ => rfl⟩ rfl rfl (fun _ _ => rfl) ⟨x, hv, hx⟩ fun k hk => ⟨.inl hk, (hM k hk).1, (hM k hk).2.1⟩⟩
theorem zzr (t q:Nat) {X:Type} (vf:X → Value) (gg:X → GR) {c:Code} (x:X) (hk:κ q = some (.own (gg x).res)) (ht:κ t = some (.is (vf x))) (h:V P F B n O (upd (upd κ q zdx) t (.own (zzz vf gg))) c Q):V P F B n O κ c Q:=fun a u hh => h a u (hh.packRf x hk ht)
theorem zxf (L:Tabs P) {fn:Func} {B0:Heap} (gs:Nat) {r0:GR} {r:Res} {rs:List ResultVar} {v:Value} (hrs:fn.results = rs.toArray)
  (hQ:∀ a u, bodyPostM Fence.wide 0 P fn (zff F.w0 B0 F.L (z5b F.w0 r)) .ret a u → Q .ret a u) (hs:Since F B0 B) (hk:κ gs = some (.own r0.res))
  (h:∀ H, znv L F B O κ H rs [] (fun vs => tup vs = v)) (hr:∀ H u C, B.Le H → H.Le (hp u) → r0.P H u C → r.P v H u C) (hL:F.L = noL:=by rfl) (hd:F.ds = []:=by rfl):V P F B n O κ .ret Q:=fun a u hh => by
 obtain ⟨H, fp, hH⟩:=hh
 refine wpIn_ret (hQ a u ?_)
 have h0:=hH.defers
 rw [hd] at h0
 show LeavesInM _ _ _ _ _ _ a.defers _ _
 rw [h0]
 obtain ⟨vs, h1, h2⟩:=zbp L hH hrs (h H)
 obtain ⟨hown, hM⟩:=hH.slot gs _ hk
 refine ⟨_, h1, _, rfl, H, ⟨hH.keep, hH.sub, hs.le.trans hH.base, fun k hk hl => (hH.fresh k hk hl).trans (hs.fresh k hk hl)⟩, fp gs, ?_, fun k hk => ?_⟩
 ·rw [h2]
  exact hr H u (fp gs) hH.base hH.sub hown
 ·obtain ⟨g1, g2, g3, _⟩:=hM k hk
  refine ⟨?_, g1, g2⟩
  rcases g3 with g3 | g3
  ·exact g3
  ·have g3':F.L k:=g3
   rw [hL] at g3'; exact g3'.elim
variable {Y:Type} {kd:IntKind} {vc:Y → Value} {l:List (Int × Y)}
end
end Go.V
set_option maxRecDepth 20000
namespace Go.V.L11
open Go.Proofs Go.RowKit Go.V Go.V.L2 Go.V.L4
theorem _root_.Go.V.Zd6 {A B:Prop} (h:B) (t:Wr B → A:=by intro h; refine z7 (z1r rfl rfl rfl rfl) rfl ?_;exact h.h):A:=t ⟨h⟩
theorem _root_.Go.V.Zb1 {A B:Prop} (h:B) (t:Wr B → A:=by intro h; refine z7 (zqs rfl rfl rfl rfl) rfl ?_;exact h.h):A:=t ⟨h⟩
theorem _root_.Go.V.ZaF {A B:Prop} (h:B) (t:Wr B → A:=by intro h; refine ZG ?_;refine Zd6 ?_;exact h.h):A:=t ⟨h⟩
theorem _root_.Go.V.Zdb {A B:Prop} (h:B) (t:Wr B → A:=by intro h; refine Zab ?_;refine zm ?_;exact h.h):A:=t ⟨h⟩
def zda:Nat → zbm → zbm
 | _, [] => []
 | n, x :: xs => (Value.int .i64 (n:Int) :: x) :: zda (n + 1) xs
theorem zi7:∀ {a b:zbm} {n:Nat}, zda n (a ++ b) = zda n a ++ zda (n + a.length) b
 | [], b, n => rfl
 | x :: a, b, n => by
  show _ :: zda (n + 1) (a ++ b) = _
  rw [zi7, List.length_cons, show n + 1 + a.length = n + (a.length + 1) by omega]
  rfl
theorem zkh (a:zbm) (x:List Value):zda 1 (a ++ [x]) = zda 1 a ++ [Value.int .i64 ((a.length + 1:Nat):Int) :: x]:=by
 rw [zi7, Nat.add_comm 1]; rfl
theorem zjr (stop:zbm → Bool):∀ (xs pre:zbm), zda 1 (za5 (fun p => stop (zda 1 p)) pre xs) = za5 stop (zda 1 pre) (zda (1 + pre.length) xs)
 | [], pre => rfl
 | x :: xs, pre => by
  have e:zda 1 (pre ++ [x]) = zda 1 pre ++ [Value.int .i64 ((1 + pre.length:Nat):Int) :: x]:=by rw [zi7]; rfl
  show zda 1 (if stop (zda 1 (pre ++ [x])) = true then _ else _) = (if stop (zda 1 pre ++ [Value.int .i64 ((1 + pre.length:Nat):Int) :: x]) = true then _ else _)
  rw [← e]
  split
  ·rfl
  ·rw [zjr stop xs (pre ++ [x]), List.length_append]; rfl
theorem zwx {l:List ByteArray} {pre:zbm} {x:List Value} (h:pre ++ [x] <+: zb8 l):∃ y, x = [Value.string y]:=by
 have:x ∈ zb8 l:=h.subset (by simp)
 obtain ⟨y, _, e⟩:=List.mem_map.1 this
 exact ⟨y, e.symm⟩
theorem znd:∀ {l acc:List UInt8}, (zt8 acc l).length ≤ l.length + (if acc = [] then 0 else 1)
 | [], acc => by
  show (if acc = [] then ([]:List (List UInt8)) else [acc]).length ≤ _
  split <;> simp
 | c :: l, acc => by
  show (if c = 10 then (acc ++ [c]) :: zt8 [] l else zt8 (acc ++ [c]) l).length ≤ _
  split
  ·have:=znd (l:=l) (acc:=[])
   rw [if_pos rfl] at this
   simp only [List.length_cons]
   split <;> omega
  ·have:=znd (l:=l) (acc:=acc ++ [c])
   rw [if_neg (by simp)] at this
   simp only [List.length_cons]
   split <;> omega
theorem zg9 (s:ByteArray):(zd5 s).length ≤ s.size:=by
 unfold zd5
 rw [List.length_map]
 have:=znd (l:=s.data.toList) (acc:=[])
 rw [if_pos rfl, za9] at this
 exact this
def cnS (stop:zbm → Bool) (pre:zbm):Int:=if stop (zda 1 pre) = true then (pre.length:Int) else ((pre.length + 1:Nat):Int)
theorem zw3 {stop:zbm → Bool} {pre:zbm} (h:stop (zda 1 pre) = false):cnS stop pre = ((pre.length + 1:Nat):Int):=if_neg (by rw [h]; decide)
theorem zze {stop:zbm → Bool} {pre:zbm} (h:stop (zda 1 pre) = true):cnS stop pre = (pre.length:Int):=if_pos h
attribute [local irreducible] V N X VO Par StepOK Has Ret RetL RetO RetT zbd RetX RetY Src
theorem zs8 {s:ByteArray} {w:World} {B:Heap} (hB:B.Le (hp w)) :
  RetO Tryz.prog 199 [.string s] w B (zzz (fun b:Nat => .func (.func 257) #[] #[za0 b]) fun b => zab b [.string s] zn2):=by
 refine zcx Tryz.func199 rfl Tryz.ntmps199 (Nat.le_of_ble_eq_true rfl) hB ?_
 refine ZaF ?_;refine Zd ?_
 refine za3 1 900 rfl fun b => ?_
 refine Z6 ?_;refine Zb1 ?_;refine Zc ?_
 exact zxf L 900 (r0:=zab b [.string s] zn2) (v:=.func (.func 257) #[] #[za0 b]) (rs:=[.tmp 2]) rfl (fun _ _ h => h) Since.refl rfl (fun _ => rfl) (fun H u C hle _ hr => ⟨b, rfl, hr⟩)
set_option maxHeartbeats 1000000 in
theorem zko {s:ByteArray} (hs:s.size ≤ 1099511627776) {sb:Nat} {w:World} {B:Heap} (hB:B.Le (hp w)) (hb:B sb = some (.cells #[.string s] zn2)):z5c Tryz.prog 198 [za0 sb] w B (zda 1 (zb8 (zd5 s))):=by
 intro ly J stop C hst hY hJ hC
 refine zag 77 (J []) Tryz.func198 rfl Tryz.ntmps198 (Nat.le_of_ble_eq_true rfl) hB hJ hC ?_
 refine ZaF ?_;refine Zj ?_
 refine za3 2 81 rfl fun yb => ?_
 refine zgl 81 rfl fun H1 hs1 _ hyb => ?_
 refine Z6 ?_;refine Zbi ?_;refine Zj ?_
 refine za3 3 79 rfl fun nb => ?_
 have hb1:=hs1.le _ _ hb
 refine ZU ?_;refine z7 (q7 L (qt rfl hb1) rfl rfl rfl rfl) rfl ?_;refine z7 (zck L rfl rfl (zn rfl) rfl rfl rfl (fun u H hH _ _ => zs8 hH)) rfl ?_;refine ZbL ?_
 refine zzt 6 80 rfl fun b => ?_
 refine zpv L 80 (gr:=zab b [.string s] zn2) (gf:=257) (caps:=[za0 b]) [(2, za0 yb), (3, za0 nb)]
  (fun pre => [(77, (J (zda 1 pre)).res), (79, zaj nb [.int .i64 (cnS stop pre)] 3)])
  (fun pre x => [(77, .own (J (zda 1 pre)).res), (79, .own (zaj nb [.int .i64 ((pre.length + 1:Nat):Int)] 3)), (2, .is (za0 yb)), (3, .is (za0 nb)), (4, .is (x.headD undef))])
  (zb8 (zd5 s)) (fun p => stop (zda 1 p)) (fun _ => .ret) rfl rfl rfl rfl
  (fun pre p hp => by simp only [List.mem_cons, List.mem_singleton, List.not_mem_nil, or_false] at hp; rcases hp with rfl | rfl <;> exact Nat.ne_of_beq_eq_false rfl) ⟨rfl, by rw [zw3 hst]; rfl, rfl, rfl, trivial⟩
  (fun pre p hp => by simp only [List.mem_cons, List.mem_singleton, List.not_mem_nil, or_false] at hp; rcases hp with rfl | rfl <;> exact Nat.le_of_ble_eq_true rfl) hst (fun x hx => by obtain ⟨y, _, rfl⟩:=List.mem_map.1 hx; rfl) (by decide)
  (fun u H hH hle => zyd hs hH) ?asg ?bd ?dn ?st
 case asg =>
  intro w1 Ln B' l' D' o pre x' hpre hstp hBB
  obtain ⟨y, rfl⟩:=zwx hpre
  refine Zx ?_;refine ZX ?_
  exact zt4 Since.refl ⟨rfl, by rw [← zw3 hstp]; rfl, rfl, rfl, rfl, trivial⟩
 case bd =>
  intro w1 Ln B' l' D' o pre x' hpre hstp hBB
  have hlen:=hpre.length_le
  obtain ⟨y, rfl⟩:=zwx hpre
  have hll:=zg9 s
  simp only [List.length_append, List.length_map, List.length_cons, List.length_nil] at hlen
  have hyb2:=hBB _ _ hyb
  have hpre':zda 1 pre ++ [[Value.int .i64 ((pre.length + 1:Nat):Int), Value.string y]] <+: zda 1 (zb8 (zd5 s)):=by
   obtain ⟨t, ht⟩:=hpre
   rw [← ht, zi7, zkh]
   exact List.prefix_append _ _
  have hwk:IntKind.i64.wrap (((pre.length + 1:Nat):Int) + 1) = ((pre.length + 1 + 1:Nat):Int):=zaa (by omega) (by omega)
  have e3:zda 1 (pre ++ [[Value.string y]]) = zda 1 pre ++ [[Value.int .i64 ((pre.length + 1:Nat):Int), Value.string y]]:=zkh _ _
  have hpl:(pre ++ [[Value.string y]]).length = pre.length + 1:=by simp
  cases hb':stop (zda 1 pre ++ [[Value.int .i64 ((pre.length + 1:Nat):Int), Value.string y]])
  ·refine qe ?_;refine Ze ?_;refine Zv ?_;refine z7 (q7 L (qt rfl hyb2) rfl rfl rfl rfl) rfl ?_;refine y7 (zy L (q:=79) rfl rfl rfl rfl rfl rfl) ?_;refine Za ?_;refine qg (zcj (gs:=77) hY hpre' hstp (congrArg Bool.not hb') rfl rfl rfl rfl rfl) ?_;refine Zr ?_;refine Zdb ?_;refine Z2 ?_;refine y7 (zy L (q:=79) rfl rfl rfl rfl rfl rfl) ?_;refine Zz ?_;refine zal (qz L (q:=79) (cs':=[.int .i64 ((pre.length + 1 + 1:Nat):Int)]) rfl rfl rfl rfl rfl rfl rfl rfl rfl) ?_;refine zk ?_;refine qy ?_
   exact zt5 Since.refl (by rw [e3]; exact hb') ⟨by rw [e3]; rfl, by rw [zw3 (by rw [e3]; exact hb'), hpl]; rfl, trivial⟩
  ·refine qe ?_;refine Ze ?_;refine Zv ?_;refine z7 (q7 L (qt rfl hyb2) rfl rfl rfl rfl) rfl ?_;refine y7 (zy L (q:=79) rfl rfl rfl rfl rfl rfl) ?_;refine Za ?_;refine qg (zcj (gs:=77) hY hpre' hstp (congrArg Bool.not hb') rfl rfl rfl rfl rfl) ?_;refine Zr ?_;refine Z8 ?_
   exact zhj (zk8 (zfe (znw Since.refl (by rw [e3]; exact hb') rfl ⟨by rw [e3]; rfl, by rw [zze (by rw [e3]; exact hb'), hpl]; rfl, trivial⟩)))
 case st =>
  intro l' D' o hstop
  exact za4 L 77 rfl (fun _ _ h => h) hs1 rfl (by rw [zjr]; rfl)
 case dn =>
  intro l' D' o hgo
  exact zau L 77 rfl (fun _ _ h => h) hs1 rfl (by rw [zjr]; rfl)
def LinAt (s:ByteArray) (v:Value) (H:Heap):Prop:=∃ b, v = .func (.func 198) #[] #[za0 b] ∧ H b = some (.cells #[.string s] zn2)
theorem LinAt.mono {s:ByteArray}:Kn.mono (.sat (LinAt s)):=fun _ _ _ ⟨b, h1, h2⟩ hle => ⟨b, h1, hle _ _ h2⟩
theorem zpd {s:ByteArray} {w:World} {B:Heap} (hB:B.Le (hp w)):Ret Tryz.prog 129 [.string s] w B (LinAt s):=by
 refine qw Tryz.func129 rfl Tryz.ntmps129 (Nat.le_of_ble_eq_true rfl) hB ?_
 refine ZaF ?_;refine Zd ?_
 refine za3 1 900 rfl fun b => ?_
 refine zgl 900 rfl fun H1 hs1 _ hyb => ?_
 refine Z6 ?_;refine Zb1 ?_;refine Zc ?_
 refine qv L (rs:=[.tmp 2]) rfl (fun _ _ h => h) hs1 fun u H hH hle => ?_
 exact ⟨b, rfl, hle _ _ hyb⟩
end Go.V.L11
set_option maxRecDepth 20000
namespace Go.V.L11
open Go.Proofs Go.RowKit Go.V Go.V.L2 Go.V.L4
def zhs (p:zbm):List ByteArray:=p.map fun x => match x with
 | [_, .string y] => y
 | _ => ⟨#[]⟩
theorem zaz:∀ {ls:List ByteArray} {n:Nat}, zhs (zda n (zb8 ls)) = ls
 | [], _ => rfl
 | x :: ls, n => by
  show x :: zhs (zda (n + 1) (zb8 ls)) = _
  rw [zaz]
theorem zy9 (a b:List ByteArray):zb8 (a ++ b) = zb8 a ++ zb8 b:=List.map_append ..
theorem zg6 (ls:List ByteArray) (y:ByteArray):zda 1 (zb8 (ls ++ [y])) = zda 1 (zb8 ls) ++ [[Value.int .i64 ((ls.length + 1:Nat):Int), Value.string y]]:=by
 rw [zy9]
 have:=zkh (zb8 ls) [Value.string y]
 rw [List.length_map] at this
 exact this
theorem zvx:∀ {L:List ByteArray} {n:Nat} {p:zbm}, p <+: zda n (zb8 L) → ∃ ls, p = zda n (zb8 ls) ∧ ls <+: L
 | [], n, p, h => ⟨[], List.prefix_nil.1 h, List.prefix_rfl⟩
 | x :: L, n, [], h => ⟨[], rfl, List.nil_prefix⟩
 | x :: L, n, q :: p, h => by
  have h':q :: p <+: [Value.int .i64 (n:Int), Value.string x] :: zda (n + 1) (zb8 L):=h
  rw [List.cons_prefix_cons] at h'
  obtain ⟨rfl, h2⟩:=h'
  obtain ⟨ls, rfl, h3⟩:=zvx h2
  exact ⟨x :: ls, rfl, List.cons_prefix_cons.2 ⟨rfl, h3⟩⟩
theorem zlw {L:List ByteArray} {pre:zbm} {x:List Value} (h:pre ++ [x] <+: zda 1 (zb8 L)):∃ ls y, pre = zda 1 (zb8 ls) ∧ x = [Value.int .i64 ((ls.length + 1:Nat):Int), Value.string y] ∧ ls ++ [y] <+: L:=by
 obtain ⟨ls, e, hp⟩:=zvx h
 rcases List.eq_nil_or_concat ls with rfl | ⟨ls', y, rfl⟩
 ·exact absurd e (by simp [zb8, zda])
 ·rw [List.concat_eq_append] at e hp
  rw [zg6] at e
  obtain ⟨h1, h2⟩:=List.append_inj' e rfl
  exact ⟨ls', y, h1, by simpa using h2, hp⟩
theorem zfp {X:Type} (rd:ByteArray → X × Int):∀ (xs ls:List ByteArray), zbq rd 1 ls = true →
  ∃ ks, za5 (fun p => !zbq rd 1 (zhs p)) (zda 1 (zb8 ls)) (zda (1 + ls.length) (zb8 xs)) = zda 1 (zb8 ks) ∧ ze5 rd [] 1 ks = ze5 rd [] 1 (ls ++ xs) ∧ (zbq rd 1 ks = true → ks = ls ++ xs)
 | [], ls, h => ⟨ls, rfl, by rw [List.append_nil], fun _ => (List.append_nil _).symm⟩
 | x :: xs, ls, h => by
  have e1:zda 1 (zb8 ls) ++ [[Value.int .i64 ((1 + ls.length:Nat):Int), Value.string x]] = zda 1 (zb8 (ls ++ [x])):=by rw [zg6, Nat.add_comm 1]
  show ∃ ks, (if (!zbq rd 1 (zhs (zda 1 (zb8 ls) ++ [[Value.int .i64 ((1 + ls.length:Nat):Int), Value.string x]]))) = true then _ else _) = _ ∧ _
  rw [e1, zaz]
  cases hg:zbq rd 1 (ls ++ [x])
  ·refine ⟨ls ++ [x], if_pos rfl, ?_, fun h' => by rw [hg] at h'; cases h'⟩
   rw [zb4, h] at hg
   exact (zym h (by simpa using hg)).symm
  ·obtain ⟨ks, h1, h2, h3⟩:=zfp rd xs (ls ++ [x]) hg
   refine ⟨ks, ?_, by rw [h2, List.append_assoc]; rfl, fun h' => by rw [h3 h', List.append_assoc]; rfl⟩
   rw [if_neg (by decide), ← h1, List.length_append]
   rfl
theorem tup3 {φ1 φ2 φ3:Value → Heap → Prop} {a b c:Value} {H:Heap} (h1:φ1 a H) (h2:φ2 b H) (h3:φ3 c H):TupS [φ1, φ2, φ3] (.tuple #[a, b, c]) H:=⟨[a, b, c], rfl, rfl, fun i φ x hi hx => by
 match i with
 | 0 => cases hi; cases hx; exact h1
 | 1 => cases hi; cases hx; exact h2
 | 2 => cases hi; cases hx; exact h3⟩
end Go.V.L11
set_option maxRecDepth 20000
namespace Go.V
open Go.RowKit
section
variable {P:Program} {F:Fr} {B:Heap} {O:Boxes} {n:Nat} {ops:Array Oper} {κ:Kap} {d:Nat} {ty:TypeId} {pos:String} {aft:Array Edge} {g:Option (Nat × Bool)} {Q:Exit → Act → World → Prop} {a:Act} {u:World} {os:List Oper}
theorem zu5 {f:Nat} (L:Tabs P) {o:Oper} {fst cap:List Value} {fo:Operand} (hop:o.op = .call { callee:=.value fo, args:=#[], argTypes:=#[] }) (hfe:a.eval fo = .func (.func f) fst.toArray cap.toArray) (hfn:L.fn f = some ()) :
  (execOp a.eval o).run P u = .ok (.enter f ((fst ++ cap).toArray)) u:=by
 simp only [execOp, hop, resolve, hfe, Deferred.ofValue, Sem.run_bind, Sem.run_pure, Result.andThen_ok, invoke]
 rw [zdb L hfn]
 simp
theorem zdw (L:Tabs P) (q:Nat) (r':GR) (v:Value) {r:GR} {f:Nat} {fst cap:List Value} {fo:Operand}
  (hn:Nat.blt d n = true) (hg:gK ops κ ⟨some d, .call { callee:=.value fo, args:=#[], argTypes:=#[] }, ty, pos, aft, g⟩ = some true)
  (hf:evK κ fo = some (.func (.func f) fst.toArray cap.toArray)) (hfn:L.fn f = some ()) (hq:κ q = some (.own r.res))
  (h:∀ u H C, H.Le (hp u) → B.Le H → r.P H u C → (∀ k, C k → k < u.heap.size ∧ H k = none) → RetX P f (fst ++ cap) u H C r' v) :
  zcm P F B n ops O κ ⟨some d, .call { callee:=.value fo, args:=#[], argTypes:=#[] }, ty, pos, aft, g⟩ q (.own r'.res) d (.is v):=by
 rintro κ' a u hlk hks ⟨H, fp, hh⟩
 unfold After
 rw [if_pos (zah hh hlk hg)]
 have hk':κ' q = some (.own r.res):=hks.trans hq
 obtain ⟨hown, hM⟩:=hh.slot q _ hk'
 have e2:=hh.env hlk
 have hfe:a.eval fo = .func (.func f) fst.toArray cap.toArray:=e2.is_ fo _ (by simp [Op.operands, Call.operands]) hf
 have hc:=h u H (fp q) hh.sub hh.base hown fun k hk => ⟨(hM k hk).1, (hM k hk).2.1⟩
 rw [zu5 L rfl hfe hfn]
 simp only [Upon]
 refine Calls.mono hc fun e' u' hp => ?_
 obtain ⟨x, rfl, H', g', hx, C', hv, hC'⟩:=hp
 have h2:=hh.usePut (d:=q) (a':=a) (r':=r'.res) hk' g' rfl rfl (fun _ _ => rfl) hv hC'
 rw [zbv] at h2
 exact ⟨x, rfl, H', _, h2.put (k:=.is v) (zn hn) trivial hx⟩
end
end Go.V
set_option maxRecDepth 20000
namespace Go.V.L4
open Go.Proofs Go.RowKit Go.V
theorem _root_.Go.V.Za1 {A B:Prop} (h:B) (t:Wr B → A:=by intro h; refine Zd ?_;refine Z1 ?_;exact h.h):A:=t ⟨h⟩
theorem _root_.Go.V.Zb2 {A B:Prop} (h:B) (t:Wr B → A:=by intro h; refine Z3 ?_;refine Zq ?_;exact h.h):A:=t ⟨h⟩
theorem _root_.Go.V.ZcB {A B:Prop} (h:B) (t:Wr B → A:=by intro h; refine Zi ?_;refine ZJ ?_;exact h.h):A:=t ⟨h⟩
attribute [local irreducible] V N X VO Par StepOK Has Ret RetL RetO RetT zbd RetX RetY Src
theorem zsv {rb:Nat} {bs:List Nat} {fu:Bool} {sv:Value} {R:Rd} {lim:Nat} {e:Int} (hb:∀ b ∈ bs, b ≤ 255) (hl:bs.length ≤ 1099511627776) (hat:R.at_ ≤ bs.length) {w:World} {B:Heap} {C:Nat → Prop} (hB:B.Le (hp w)) (hs:BsV bs fu sv B) (hr:(GRd rb sv R).P B w C) (hC:∀ k, C k → k < w.heap.size ∧ B k = none) :
  RetX Tryz.prog 208 [za0 rb, .int .u64 lim, .int .i64 e] w B C (GRd rb sv (zsw bs lim e R).2) (.int .u64 ((zsw bs lim e R).1:Nat)):=by
 unfold RetX
 refine zag 900 (GRd rb sv R) Tryz.func208 rfl Tryz.ntmps208 (Nat.le_of_ble_eq_true rfl) hB hr hC ?_
 rw [zae]
 obtain ⟨⟨n, ⟨at1, bad1, err1⟩⟩, hz⟩:∃ z, zxj bs R = z:=⟨_, rfl⟩
 obtain ⟨at_, bad, err⟩:=R
 unfold zsw
 rw [hz]
 dsimp only
 have hnum:=fun (u:World) (H:Heap) (C2:Nat → Prop) (hH:H.Le (hp u)) (hle:B.Le H) hr2 hC2 => hz ▸ zlv (R:=⟨at_, bad, err⟩) (rb:=rb) (C:=C2) hb hl hat hH (hs.le hle) hr2 hC2
 by_cases hlt:lim < n
 ·rw [if_pos hlt]
  refine Zbl ?_;refine Z0 ?_;refine Za1 ?_;refine qg (yd L 900 (GRd rb sv ⟨at1, bad1, err1⟩) (.int .u64 n) (r:=GRd rb sv ⟨at_, bad, err⟩) rfl rfl rfl rfl rfl hnum) ?_;refine Zi ?_;refine ZaZ ?_;refine ZP ?_;refine Z8 ?_;refine Zv ?_;refine Zw ?_;refine qg (zan L 900 (GRd rb sv ((⟨at1, bad1, err1⟩:Rd).fail at_ e)) (r:=GRd rb sv ⟨at1, bad1, err1⟩) rfl rfl rfl rfl rfl (fun u H C2 hH _ hr2 hC2 => zje hH hr2 hC2)) ?_;refine Zj ?_;refine ZN ?_;refine Zc ?_
  exact za2 L 900 (r:=zab rb _ zgx) (rs:=[.tmp 6]) rfl (fun _ _ h => h) Since.refl rfl rfl (fun _ => rfl)
 ·rw [if_neg hlt]
  refine Zbl ?_;refine Z0 ?_;refine Za1 ?_;refine qg (yd L 900 (GRd rb sv ⟨at1, bad1, err1⟩) (.int .u64 n) (r:=GRd rb sv ⟨at_, bad, err⟩) rfl rfl rfl rfl rfl hnum) ?_;refine Zi ?_;refine ZaZ ?_;refine Zb2 ?_;refine ZN ?_;refine Zc ?_
  exact za2 L 900 (r:=zab rb _ zgx) (rs:=[.tmp 6]) rfl (fun _ _ h => h) Since.refl rfl rfl (fun _ => rfl)
theorem zsz {rb:Nat} {sv:Value} {R:Rd} {gf:Rd → Int × Rd} {fr:Nat} {fst cap:List Value} (hfn:L.fn fr = some ()) {w:World} {B:Heap} {C:Nat → Prop} (hB:B.Le (hp w)) (hr:(GRd rb sv R).P B w C) (hC:∀ k, C k → k < w.heap.size ∧ B k = none)
  (hf:R.err = 0 → ∀ (u:World) (H:Heap) (C:Nat → Prop), H.Le (hp u) → B.Le H → (GRd rb sv R).P H u C → (∀ k, C k → k < u.heap.size ∧ H k = none) → RetX Tryz.prog fr (fst ++ cap) u H C (GRd rb sv (gf R).2) (.int .i64 ((gf R).1:Int))) :
  RetX Tryz.prog 206 [za0 rb, .func (.func fr) fst.toArray cap.toArray] w B C (GRd rb sv (zz5 gf 0 R).2) (.int .i64 ((zz5 gf 0 R).1:Int)):=by
 unfold RetX
 refine zag 900 (GRd rb sv R) Tryz.func206 rfl Tryz.ntmps206 (Nat.le_of_ble_eq_true rfl) hB hr hC ?_
 rw [zae]
 obtain ⟨⟨n, ⟨at1, bad1, err1⟩⟩, hz⟩:∃ z, gf R = z:=⟨_, rfl⟩
 obtain ⟨at_, bad, err⟩:=R
 unfold zz5
 rw [hz] at hf ⊢
 dsimp only at hf ⊢
 by_cases h0:err ≠ 0
 ·rw [if_pos h0]
  refine Zaq ?_;refine Zi ?_;refine Z1 ?_;refine qg (yd L 900 (GRd rb sv ⟨at_, bad, err⟩) (.bool true) (r:=GRd rb sv ⟨at_, bad, err⟩) rfl rfl rfl rfl rfl (fun u H C2 hH _ hr2 hC2 => zcd (decide_eq_true h0) hH hr2 hC2)) ?_;refine Zs ?_;refine Zm ?_;refine Zc ?_
  exact za2 L 900 (r:=zab rb _ zgx) (rs:=[.tmp 4]) rfl (fun _ _ h => h) Since.refl rfl rfl (fun _ => rfl)
 ·have he:err = 0:=Decidable.not_not.1 h0
  subst he
  rw [if_neg h0]
  have hf:=hf rfl
  by_cases h1:err1 ≠ 0
  ·rw [if_pos h1]
   refine Zaq ?_;refine Zi ?_;refine Z1 ?_;refine qg (yd L 900 (GRd rb sv ⟨at_, bad, 0⟩) (.bool false) (r:=GRd rb sv ⟨at_, bad, 0⟩) rfl rfl rfl rfl rfl (fun u H C2 hH _ hr2 hC2 => zcd (decide_eq_false h0) hH hr2 hC2)) ?_;refine Zq ?_;refine Zk ?_;refine Z0 ?_;refine Zcm ?_;refine qg (zdw L 900 (GRd rb sv ⟨at1, bad1, err1⟩) (.int .i64 n) (r:=GRd rb sv ⟨at_, bad, 0⟩) rfl rfl rfl hfn rfl hf) ?_;refine ZcB ?_;refine Z0 ?_;refine ZH ?_;refine ZL ?_;refine Zb ?_;refine Zar ?_;refine zal (qz L (q:=900) (cs':=[sv, .int .i64 at_, .int .i64 bad1, .int .i64 err1]) rfl rfl rfl rfl rfl rfl rfl rfl rfl) ?_;refine Zj ?_;refine ZZ ?_;refine Zc ?_
   exact za2 L 900 (r:=zab rb _ zgx) (rs:=[.tmp 4]) rfl (fun _ _ h => h) Since.refl rfl rfl (fun _ => rfl)
  ·have he:err1 = 0:=Decidable.not_not.1 h1
   subst he
   rw [if_neg h1]
   refine Zaq ?_;refine Zi ?_;refine Z1 ?_;refine qg (yd L 900 (GRd rb sv ⟨at_, bad, 0⟩) (.bool false) (r:=GRd rb sv ⟨at_, bad, 0⟩) rfl rfl rfl rfl rfl (fun u H C2 hH _ hr2 hC2 => zcd (decide_eq_false h0) hH hr2 hC2)) ?_;refine Zq ?_;refine Zk ?_;refine Z0 ?_;refine Zcm ?_;refine qg (zdw L 900 (GRd rb sv ⟨at1, bad1, 0⟩) (.int .i64 n) (r:=GRd rb sv ⟨at_, bad, 0⟩) rfl rfl rfl hfn rfl hf) ?_;refine ZcB ?_;refine Z0 ?_;refine Zad ?_;refine Za0 ?_;refine Zc ?_
   exact za2 L 900 (r:=zab rb _ zgx) (rs:=[.tmp 4]) rfl (fun _ _ h => h) Since.refl rfl rfl (fun _ => rfl)
theorem zsy {rb:Nat} {sv:Value} {R:Rd} {gf:Rd → Nat × Rd} {fr:Nat} {fst cap:List Value} (hfn:L.fn fr = some ()) {w:World} {B:Heap} {C:Nat → Prop} (hB:B.Le (hp w)) (hr:(GRd rb sv R).P B w C) (hC:∀ k, C k → k < w.heap.size ∧ B k = none)
  (hf:R.err = 0 → ∀ (u:World) (H:Heap) (C:Nat → Prop), H.Le (hp u) → B.Le H → (GRd rb sv R).P H u C → (∀ k, C k → k < u.heap.size ∧ H k = none) → RetX Tryz.prog fr (fst ++ cap) u H C (GRd rb sv (gf R).2) (.int .u64 ((gf R).1:Nat))) :
  RetX Tryz.prog 141 [za0 rb, .func (.func fr) fst.toArray cap.toArray] w B C (GRd rb sv (zz5 gf 0 R).2) (.int .u64 ((zz5 gf 0 R).1:Nat)):=by
 unfold RetX
 refine zag 900 (GRd rb sv R) Tryz.func141 rfl Tryz.ntmps141 (Nat.le_of_ble_eq_true rfl) hB hr hC ?_
 rw [zae]
 obtain ⟨⟨n, ⟨at1, bad1, err1⟩⟩, hz⟩:∃ z, gf R = z:=⟨_, rfl⟩
 obtain ⟨at_, bad, err⟩:=R
 unfold zz5
 rw [hz] at hf ⊢
 dsimp only at hf ⊢
 by_cases h0:err ≠ 0
 ·rw [if_pos h0]
  refine Zaq ?_;refine Zi ?_;refine Z1 ?_;refine qg (yd L 900 (GRd rb sv ⟨at_, bad, err⟩) (.bool true) (r:=GRd rb sv ⟨at_, bad, err⟩) rfl rfl rfl rfl rfl (fun u H C2 hH _ hr2 hC2 => zcd (decide_eq_true h0) hH hr2 hC2)) ?_;refine Zs ?_;refine Zm ?_;refine Zc ?_
  exact za2 L 900 (r:=zab rb _ zgx) (rs:=[.tmp 4]) rfl (fun _ _ h => h) Since.refl rfl rfl (fun _ => rfl)
 ·have he:err = 0:=Decidable.not_not.1 h0
  subst he
  rw [if_neg h0]
  have hf:=hf rfl
  by_cases h1:err1 ≠ 0
  ·rw [if_pos h1]
   refine Zaq ?_;refine Zi ?_;refine Z1 ?_;refine qg (yd L 900 (GRd rb sv ⟨at_, bad, 0⟩) (.bool false) (r:=GRd rb sv ⟨at_, bad, 0⟩) rfl rfl rfl rfl rfl (fun u H C2 hH _ hr2 hC2 => zcd (decide_eq_false h0) hH hr2 hC2)) ?_;refine Zq ?_;refine Zk ?_;refine Z0 ?_;refine Zcm ?_;refine qg (zdw L 900 (GRd rb sv ⟨at1, bad1, err1⟩) (.int .u64 n) (r:=GRd rb sv ⟨at_, bad, 0⟩) rfl rfl rfl hfn rfl hf) ?_;refine ZcB ?_;refine Z0 ?_;refine ZH ?_;refine ZL ?_;refine Zb ?_;refine Zar ?_;refine zal (qz L (q:=900) (cs':=[sv, .int .i64 at_, .int .i64 bad1, .int .i64 err1]) rfl rfl rfl rfl rfl rfl rfl rfl rfl) ?_;refine Zj ?_;refine ZZ ?_;refine Zc ?_
   exact za2 L 900 (r:=zab rb _ zgx) (rs:=[.tmp 4]) rfl (fun _ _ h => h) Since.refl rfl rfl (fun _ => rfl)
  ·have he:err1 = 0:=Decidable.not_not.1 h1
   subst he
   rw [if_neg h1]
   refine Zaq ?_;refine Zi ?_;refine Z1 ?_;refine qg (yd L 900 (GRd rb sv ⟨at_, bad, 0⟩) (.bool false) (r:=GRd rb sv ⟨at_, bad, 0⟩) rfl rfl rfl rfl rfl (fun u H C2 hH _ hr2 hC2 => zcd (decide_eq_false h0) hH hr2 hC2)) ?_;refine Zq ?_;refine Zk ?_;refine Z0 ?_;refine Zcm ?_;refine qg (zdw L 900 (GRd rb sv ⟨at1, bad1, 0⟩) (.int .u64 n) (r:=GRd rb sv ⟨at_, bad, 0⟩) rfl rfl rfl hfn rfl hf) ?_;refine ZcB ?_;refine Z0 ?_;refine Zad ?_;refine Za0 ?_;refine Zc ?_
   exact za2 L 900 (r:=zab rb _ zgx) (rs:=[.tmp 4]) rfl (fun _ _ h => h) Since.refl rfl rfl (fun _ => rfl)
theorem zqi {rb:Nat} {bs:List Nat} {fu:Bool} {sv:Value} {R:Rd} (hb:∀ b ∈ bs, b ≤ 255) (hl:bs.length ≤ 1099511627776) (hat:R.at_ ≤ bs.length) {w:World} {B:Heap} {C:Nat → Prop} (hB:B.Le (hp w)) (hs:BsV bs fu sv B) (hr:(GRd rb sv R).P B w C) (hC:∀ k, C k → k < w.heap.size ∧ B k = none) :
  RetX Tryz.prog 76 [za0 rb] w B C (GRd rb sv (zv2 bs R).2) (.int .u64 ((zv2 bs R).1:Nat)):=by
 unfold RetX
 refine zag 900 (GRd rb sv R) Tryz.func76 rfl Tryz.ntmps76 (Nat.le_of_ble_eq_true rfl) hB hr hC ?_
 rw [zae]
 refine Zaq ?_;refine Zb ?_;refine Zb1 ?_;refine qg (yd L 900 (GRd rb sv (zv2 bs R).2) (.int .u64 ((zv2 bs R).1:Nat)) (r:=GRd rb sv R) rfl rfl rfl rfl rfl (fun u H C2 hH hle hr2 hC2 => zsy (gf:=zxj bs) (fst:=[za0 rb]) (cap:=[]) rfl hH hr2 hC2 (fun _ u3 H3 C3 hH3 hle3 hr3 hC3 => zlv hb hl hat hH3 ((hs.le hle).le hle3) hr3 hC3))) ?_;refine Zc ?_
 exact za2 L 900 (r:=zab rb _ zgx) (rs:=[.tmp 2]) rfl (fun _ _ h => h) Since.refl rfl rfl (fun _ => rfl)
theorem zyx {rb b2 b3:Nat} {bs:List Nat} {fu:Bool} {sv:Value} {R:Rd} {lim:Nat} (hlim:lim ≤ 1099511627776) (hb:∀ b ∈ bs, b ≤ 255) (hl:bs.length ≤ 1099511627776) (hat:R.at_ ≤ bs.length) {w:World} {B:Heap} {C:Nat → Prop} (hB:B.Le (hp w)) (hs:BsV bs fu sv B) (h2:B b2 = some (.cells #[za0 rb] 154)) (h3:B b3 = some (.cells #[.int .i64 lim] 3)) (hr:(GRd rb sv R).P B w C) (hC:∀ k, C k → k < w.heap.size ∧ B k = none) :
  RetX Tryz.prog 207 [za0 b2, za0 b3] w B C (GRd rb sv (z36 bs lim R).2) (.int .i64 (z36 bs lim R).1):=by
 unfold RetX
 refine zag 900 (GRd rb sv R) Tryz.func207 rfl Tryz.ntmps207 (Nat.le_of_ble_eq_true rfl) hB hr hC ?_
 rw [zae]
 have hmx:max (lim:Int) 0 = lim:=by omega
 have hcu:IntKind.u64.wrap (lim:Int) = (lim:Int):=wrap_u64 (by omega) (by omega)
 obtain ⟨⟨n, ⟨at1, bad1, err1⟩⟩, hz⟩:∃ z, zsw bs lim 3 R = z:=⟨_, rfl⟩
 unfold z36
 rw [hz]
 dsimp only
 have hci:IntKind.i64.wrap ((n:Nat):Int) = IntKind.i64.wrap ((n:Nat):Int):=rfl
 refine Zaq ?_;refine z7 (q7 L (qt rfl h2) rfl rfl rfl rfl) rfl ?_;refine z7 (q7 L (qt rfl h3) rfl rfl rfl rfl) rfl ?_;refine z7 (zgi rfl rfl rfl rfl rfl) rfl ?_;refine z7 (zaw rfl rfl rfl zgk.1 zgk.2 (wrap_u64 (by omega) (by omega))) rfl ?_;refine qg (yd L 900 (GRd rb sv ⟨at1, bad1, err1⟩) (.int .u64 n) (r:=GRd rb sv R) rfl rfl rfl rfl rfl (fun u H C2 hH hle hr2 hC2 => by have h:=zsv (lim:=lim) (e:=3) hb hl hat hH (hs.le hle) hr2 hC2; rw [hz] at h; exact h)) ?_;refine z7 (zaw rfl rfl rfl rfl rfl hci) rfl ?_;refine Zc ?_
 exact za2 L 900 (r:=zab rb _ zgx) (rs:=[.tmp 2]) rfl (fun _ _ h => h) Since.refl rfl rfl (fun _ => rfl)
theorem len_ret {rb:Nat} {bs:List Nat} {fu:Bool} {sv:Value} {R:Rd} {lim:Nat} (hlim:lim ≤ 1099511627776) (hb:∀ b ∈ bs, b ≤ 255) (hl:bs.length ≤ 1099511627776) (hat:R.at_ ≤ bs.length) {w:World} {B:Heap} {C:Nat → Prop} (hB:B.Le (hp w)) (hs:BsV bs fu sv B) (hr:(GRd rb sv R).P B w C) (hC:∀ k, C k → k < w.heap.size ∧ B k = none) :
  RetX Tryz.prog 138 [za0 rb, .int .i64 lim] w B C (GRd rb sv (zgu bs lim R).2) (.int .i64 (zgu bs lim R).1):=by
 unfold RetX
 refine zag 900 (GRd rb sv R) Tryz.func138 rfl Tryz.ntmps138 (Nat.le_of_ble_eq_true rfl) hB hr hC ?_
 rw [zae]
 refine ZaF ?_;refine Zd6 ?_;refine Zd ?_
 refine za3 2 901 rfl fun b2 => ?_
 refine za3 3 902 rfl fun b3 => ?_
 refine zgl 901 rfl fun H1 hs1 _ h2 => ?_
 refine zgl 902 rfl fun H2 hs2 _ h3 => ?_
 have h2:=hs2.le _ _ h2
 have hs12:=hs1.trans hs2
 have hs':=hs.le hs12.le
 refine Z6 ?_;refine z7 (q7 L (qt rfl h2) rfl rfl rfl rfl) rfl ?_;refine Zb1 ?_;refine qg (yd L 900 (GRd rb sv (zgu bs lim R).2) (.int .i64 (zgu bs lim R).1) (r:=GRd rb sv R) rfl rfl rfl rfl rfl (fun u H C2 hH hle hr2 hC2 => zsz (gf:=z36 bs lim) (fst:=[]) (cap:=[za0 b2, za0 b3]) rfl hH hr2 hC2 (fun _ u3 H3 C3 hH3 hle3 hr3 hC3 => zyx hlim hb hl hat hH3 ((hs'.le hle).le hle3) ((hle.trans hle3) _ _ h2) ((hle.trans hle3) _ _ h3) hr3 hC3))) ?_;refine Zc ?_
 exact za2 L 900 (r:=zab rb _ zgx) (rs:=[.tmp 4]) rfl (fun _ _ h => h) hs12 rfl rfl (fun _ => rfl)
end Go.V.L4
set_option maxRecDepth 20000
namespace Go.V.L4
open Go.Proofs Go.RowKit Go.V
theorem _root_.Go.V.ZdY {A B:Prop} (h:B) (t:Wr B → A:=by intro h; refine z8 (yf rfl rfl rfl rfl (by assumption)) rfl ?_;exact h.h):A:=t ⟨h⟩
def zww (bs:List Nat) (R:Rd):Nat × Int:=if R.err = 0 ∧ R.at_ < bs.length then (R.at_, 5) else (R.bad, R.err)
attribute [local irreducible] V N X VO Par StepOK Has Ret RetL RetO RetT zbd RetX RetY Src
theorem zxc {rb:Nat} {sv:Value} {R:Rd} {w:World} {B:Heap} {C:Nat → Prop} (hB:B.Le (hp w)) (hr:(GRd rb sv R).P B w C) (hC:∀ k, C k → k < w.heap.size ∧ B k = none):RetX Tryz.prog 139 [za0 rb] w B C (GRd rb sv R) (.int .i64 R.at_):=by
 unfold RetX
 refine zag 900 (GRd rb sv R) Tryz.func139 rfl Tryz.ntmps139 (Nat.le_of_ble_eq_true rfl) hB hr hC ?_
 rw [zae]
 refine Zbg ?_;refine z7 (zcl rfl rfl rfl rfl zyt rfl) rfl ?_;refine Zq ?_;refine Zm ?_;refine Z0 ?_;refine Zc ?_
 exact za2 L 900 (r:=zab rb _ zgx) (rs:=[.tmp 2]) rfl (fun _ _ h => h) Since.refl rfl rfl (fun _ => rfl)
theorem zr6 {rb:Nat} {bs:List Nat} {fu:Bool} {sv:Value} {R:Rd} (hl:bs.length ≤ 1099511627776) (hat:R.at_ ≤ bs.length) {w:World} {B:Heap} {C:Nat → Prop} (hB:B.Le (hp w)) (hs:BsV bs fu sv B) (hr:(GRd rb sv R).P B w C) (hC:∀ k, C k → k < w.heap.size ∧ B k = none):RetX Tryz.prog 219 [za0 rb] w B C (GRd rb sv R) (.int .i64 (bs.length - R.at_:Nat)):=by
 obtain ⟨p, c, rfl⟩:=zce hs
 unfold RetX
 refine zag 900 (GRd rb _ R) Tryz.func219 rfl Tryz.ntmps219 (Nat.le_of_ble_eq_true rfl) hB hr hC ?_
 rw [zae]
 obtain ⟨at_, bad, err⟩:=R
 dsimp only [rdC] at hat ⊢
 have hw:IntKind.i64.wrap ((bs.length:Int) - (at_:Int)) = ((bs.length - at_:Nat):Int):=(zaa (by omega) (by omega)).trans (by omega)
 refine Zbg ?_;refine z7 (zcl rfl rfl rfl rfl zyt rfl) rfl ?_;refine Zq ?_;refine q6 (id:=3) [(200008, [900]), (200013, [900])] mixed (by kernel_rfl) ?_;refine ZcY ?_;refine ZaE ?_;refine ZdY ?_;refine ZB ?_
 exact za2 L 900 (r:=zab rb _ zgx) (rs:=[.tmp 2]) rfl (fun _ _ h => h) Since.refl rfl rfl (fun _ => rfl)
theorem zfy {rb:Nat} {sv:Value} {R:Rd} {w:World} {B:Heap} {C:Nat → Prop} (hB:B.Le (hp w)) (hr:(GRd rb sv R).P B w C) (hC:∀ k, C k → k < w.heap.size ∧ B k = none):RetX Tryz.prog 140 [za0 rb] w B C (GRd rb sv R) (.tuple #[.int .i64 R.bad, .int .i64 R.err]):=by
 unfold RetX
 refine zag 900 (GRd rb sv R) Tryz.func140 rfl Tryz.ntmps140 (Nat.le_of_ble_eq_true rfl) hB hr hC ?_
 rw [zae]
 refine Zau ?_;refine Za6 ?_;refine z7 (zcl rfl rfl rfl rfl zyt rfl) rfl ?_;refine Zq ?_;refine q6 (id:=3) [(200009, [900]), (200013, [900])] mixed (by kernel_rfl) ?_;refine ZaE ?_;refine ZaE ?_;refine Zao ?_;refine ZB ?_
 exact za2 L 900 (r:=zab rb _ zgx) (rs:=[.tmp 2, .tmp 3]) rfl (fun _ _ h => h) Since.refl rfl rfl (fun _ => rfl)
theorem z18 {rb:Nat} {bs:List Nat} {fu:Bool} {sv:Value} {R:Rd} (hl:bs.length ≤ 1099511627776) (hat:R.at_ ≤ bs.length) {w:World} {B:Heap} {C:Nat → Prop} (hB:B.Le (hp w)) (hs:BsV bs fu sv B) (hr:(GRd rb sv R).P B w C) (hC:∀ k, C k → k < w.heap.size ∧ B k = none):RetX Tryz.prog 148 [za0 rb] w B C (GRd rb sv R) (.tuple #[.int .i64 (zww bs R).1, .int .i64 (zww bs R).2]):=by
 unfold RetX
 refine zag 900 (GRd rb sv R) Tryz.func148 rfl Tryz.ntmps148 (Nat.le_of_ble_eq_true rfl) hB hr hC ?_
 rw [zae]
 obtain ⟨at_, bad, err⟩:=R
 unfold zww
 dsimp only [rdC] at hat ⊢
 by_cases h0:err = 0
 ·subst h0
  by_cases h1:at_ < bs.length
  ·rw [if_pos ⟨rfl, h1⟩]
   refine Zau ?_;refine Za6 ?_;refine qg (yd L 900 (GRd rb sv ⟨at_, bad, 0⟩) (.bool false) (r:=GRd rb sv ⟨at_, bad, 0⟩) rfl rfl rfl rfl rfl (fun u H C2 hH _ hr2 hC2 => zcd (decide_eq_false fun h => h rfl) hH hr2 hC2)) ?_;refine Zr ?_;refine Zb ?_;refine qg (yd L 900 (GRd rb sv ⟨at_, bad, 0⟩) (.int .i64 (bs.length - at_:Nat)) (r:=GRd rb sv ⟨at_, bad, 0⟩) rfl rfl rfl rfl rfl (fun u H C2 hH hle hr2 hC2 => zr6 hl hat hH (hs.le hle) hr2 hC2)) ?_;refine ZP ?_;refine Zbt ?_;refine Z1 ?_;refine Z0 ?_;refine Zt ?_
   exact za2 L 900 (r:=zab rb _ zgx) (rs:=[.tmp 2, .tmp 3]) rfl (fun _ _ h => h) Since.refl rfl rfl (fun _ => rfl)
  ·rw [if_neg (fun h => h1 h.2)]
   refine Zau ?_;refine Za6 ?_;refine qg (yd L 900 (GRd rb sv ⟨at_, bad, 0⟩) (.bool false) (r:=GRd rb sv ⟨at_, bad, 0⟩) rfl rfl rfl rfl rfl (fun u H C2 hH _ hr2 hC2 => zcd (decide_eq_false fun h => h rfl) hH hr2 hC2)) ?_;refine Zr ?_;refine Zb ?_;refine qg (yd L 900 (GRd rb sv ⟨at_, bad, 0⟩) (.int .i64 (bs.length - at_:Nat)) (r:=GRd rb sv ⟨at_, bad, 0⟩) rfl rfl rfl rfl rfl (fun u H C2 hH hle hr2 hC2 => zr6 hl hat hH (hs.le hle) hr2 hC2)) ?_;refine Z3 ?_;refine Za7 ?_;refine Zm ?_;refine qg (yd L 900 (GRd rb sv ⟨at_, bad, 0⟩) (.tuple #[.int .i64 bad, .int .i64 0]) (r:=GRd rb sv ⟨at_, bad, 0⟩) rfl rfl rfl rfl rfl (fun u H C2 hH hle hr2 hC2 => zfy hH hr2 hC2)) ?_;refine ZdR ?_;refine Zt ?_
   exact za2 L 900 (r:=zab rb _ zgx) (rs:=[.tmp 2, .tmp 3]) rfl (fun _ _ h => h) Since.refl rfl rfl (fun _ => rfl)
 ·rw [if_neg (fun h => h0 h.1)]
  refine Zau ?_;refine Za6 ?_;refine qg (yd L 900 (GRd rb sv ⟨at_, bad, err⟩) (.bool true) (r:=GRd rb sv ⟨at_, bad, err⟩) rfl rfl rfl rfl rfl (fun u H C2 hH _ hr2 hC2 => zcd (decide_eq_true h0) hH hr2 hC2)) ?_;refine Zr ?_;refine Zak ?_;refine Zq ?_;refine Zm ?_;refine qg (yd L 900 (GRd rb sv ⟨at_, bad, err⟩) (.tuple #[.int .i64 bad, .int .i64 err]) (r:=GRd rb sv ⟨at_, bad, err⟩) rfl rfl rfl rfl rfl (fun u H C2 hH hle hr2 hC2 => zfy hH hr2 hC2)) ?_;refine ZdR ?_;refine Zt ?_
  exact za2 L 900 (r:=zab rb _ zgx) (rs:=[.tmp 2, .tmp 3]) rfl (fun _ _ h => h) Since.refl rfl rfl (fun _ => rfl)
end Go.V.L4
set_option maxRecDepth 20000
namespace Go.V.L4
open Go.Proofs Go.RowKit Go.V
theorem _root_.Go.V.Zbm {A B:Prop} (h:B) (t:Wr B → A:=by intro h; refine Z6 ?_;refine Za ?_;exact h.h):A:=t ⟨h⟩
theorem zsl (bs:List Nat):(bs.map fun b:Nat => Value.int .u8 (b:Int)).all zdj = true:=by
 rw [List.all_eq_true]
 intro v hv
 obtain ⟨b, _, rfl⟩:=List.mem_map.1 hv
 rfl
abbrev z69 (bs:List Nat) (R:Rd) (rb:Nat):GR:=GEx (X:=Value) (fun sv => GRd rb sv R) (fun sv H => BsV bs false sv H) (fun _ _ _ h hle => h.le hle)
attribute [local irreducible] V N X VO Par StepOK Has Ret RetL RetO RetT zbd RetX RetY Src
theorem zmc {bs:List Nat} {fu:Bool} (hz:bs.length ≤ 1099511627776) {v:Value} {w:World} {B:Heap} (hB:B.Le (hp w)) (hv:BsV bs fu v B) :
  RetO Tryz.prog 135 [v] w B (SlR zt7 1 bs.length (bs.map fun b:Nat => Value.int .u8 (b:Int))):=by
 have hv0:=hv
 have hlen:(bs.map fun b:Nat => Value.int .u8 (b:Int)).length = bs.length * 1:=by rw [List.length_map, Nat.mul_one]
 have hpl:=zsl bs
 obtain ⟨p, c, rfl⟩:=zce hv
 rcases p with _ | b
 ·obtain ⟨h0, rfl⟩:bs.length = 0 ∧ c = 0:=zrk hv
  have hn:bs = []:=List.eq_nil_of_length_eq_zero h0
  subst hn
  refine zcx Tryz.func135 rfl Tryz.ntmps135 (Nat.le_of_ble_eq_true rfl) hB ?_
  refine Zbg ?_;refine z7 (zcl rfl rfl rfl rfl z6e rfl) rfl ?_;refine Zck ?_
  refine zgm 2 zt7 1 rfl ?_
  exact zf2 rfl (fun _ _ h => h) Since.refl rfl
 ·refine zcx Tryz.func135 rfl Tryz.ntmps135 (Nat.le_of_ble_eq_true rfl) hB ?_
  refine Zbg ?_;refine z7 (zcl rfl rfl rfl rfl z6e rfl) rfl ?_;refine Zq ?_
  refine zbf 0 (BsV bs fu) rfl SlV.mono hv0 ?_
  refine Zx ?_;refine z7 (zgj L rfl rfl rfl rfl rfl) rfl ?_;refine Zh ?_;refine qg (zb1 L rfl rfl rfl (z2l rfl) rfl el5 (by assumption) (by assumption) (by omega) (by omega)) ?_;refine qg (zaf (.inr rfl) rfl rfl rfl rfl) ?_;refine Zy ?_
  rw [Nat.zero_add, List.nil_append]
  exact zf2 rfl (fun _ _ h => h) Since.refl rfl
theorem zru {bs:List Nat} {fu:Bool} (hz:bs.length ≤ 1099511627776) {v:Value} {w:World} {B:Heap} (hB:B.Le (hp w)) (hv:BsV bs fu v B) :
  RetO Tryz.prog 72 [v] w B (zzz za0 (z69 bs ⟨0, 0, 0⟩)):=by
 obtain ⟨p, c, rfl⟩:=zce hv
 refine zcx Tryz.func72 rfl Tryz.ntmps72 (Nat.le_of_ble_eq_true rfl) hB ?_
 refine ZG ?_;refine Zd ?_
 refine Zbm ?_;refine z7 (zck L rfl rfl (zn rfl) rfl rfl rfl (fun u H hH hle _ => zmc hz hH (hv.le hle))) rfl ?_;refine zjk 4 rfl ?_;refine zd9 4 rfl fun sv H1 hs1 hsv => ?_;obtain ⟨p1, c1, rfl⟩:=zce hsv; refine z7 (y5 (cs:=[_, _, _, _]) rfl rfl z5l rfl rfl) rfl ?_;refine Zd6 ?_;refine qg (zaf (.inr rfl) rfl rfl rfl rfl) ?_;refine Zy ?_
 refine za3 2 900 rfl fun rb => ?_
 exact zxf L 900 (r0:=GRd rb _ ⟨0, 0, 0⟩) (v:=za0 rb) (rs:=[.tmp 2]) rfl (fun _ _ h => h) hs1 rfl (fun _ => rfl) (fun H u C hle _ hr => ⟨rb, rfl, _, hsv.le hle, hr⟩)
end Go.V.L4
set_option maxRecDepth 20000
namespace Go.V.L4
open Go.Proofs Go.RowKit Go.V
theorem _root_.Go.V.Zbn {A B:Prop} (h:B) (t:Wr B → A:=by intro h; refine z7 (y4 rfl rfl rfl) rfl ?_;exact h.h):A:=t ⟨h⟩
theorem _root_.Go.V.Zd7 {A B:Prop} (h:B) (t:Wr B → A:=by intro h; refine z7 (z0f rfl rfl rfl rfl (by omega) (by assumption)) rfl ?_;exact h.h):A:=t ⟨h⟩
theorem _root_.Go.V.Zep {A B:Prop} (h:B) (t:Wr B → A:=by intro h; refine z7 (zyp L rfl rfl rfl rfl rfl rfl rfl) rfl ?_;exact h.h):A:=t ⟨h⟩
theorem _root_.Go.V.Zcu {A B:Prop} (h:B) (t:Wr B → A:=by intro h; refine Zv ?_;refine Zb ?_;exact h.h):A:=t ⟨h⟩
theorem _root_.Go.V.ZcC {A B:Prop} (h:B) (t:Wr B → A:=by intro h; refine zk ?_;refine Za5 ?_;exact h.h):A:=t ⟨h⟩
theorem _root_.Go.V.Zd8 {A B:Prop} (h:B) (t:Wr B → A:=by intro h; refine Zbn ?_;refine Zy ?_;exact h.h):A:=t ⟨h⟩
def zpz (n:Nat):List Nat:=if n < 128 then [n] else (n % 128 + 128) :: zpz (n / 128)
termination_by n
decreasing_by omega
theorem zfs {n:Nat} (h:n < 128):zpz n = [n]:=by unfold zpz; rw [if_pos h]
theorem zvy {n:Nat} (h:¬ n < 128):zpz n = (n % 128 + 128) :: zpz (n / 128):=by rw [zpz, if_neg h]
abbrev z44:TypeId:=179
abbrev byV (bs:List Nat):List Value:=bs.map fun b:Nat => Value.int .u8 (b:Int)
def GSl (sv:Value) (bs:List Nat):GR:=⟨fun H u C => (SlR zt7 1 bs.length (byV bs)).P sv H u C, (SlR zt7 1 bs.length (byV bs)).st⟩
theorem znk (sv:Value) (bs:List Nat):(GSl sv bs).res = AtV sv (SlR zt7 1 bs.length (byV bs)):=rfl
abbrev GWv (wb:Nat) (bs:List Nat) (sv:Value):GR:=zf3 (zab wb [sv] z44) (GSl sv bs)
def zt6 (v:Value):Prop:=∃ p k c, v = .slice p k c
theorem zev:zhn fun (sv:Value) (_:Heap) => zt6 sv:=fun _ _ _ h _ => h
abbrev GWr (wb:Nat) (bs:List Nat):GR:=GEx (X:=Value) (GWv wb bs) (fun sv _ => zt6 sv) zev
theorem zu2 {e:TypeId} {s n:Nat} {xs:List Value}:∀ v H u C, (SlR e s n xs).P v H u C → zt6 v:=fun v H u C ⟨_, h⟩ => by
 rcases h with ⟨_, rfl, _⟩ | ⟨b, c, r, rfl, _⟩ <;> exact ⟨_, _, _, rfl⟩
theorem zsk (acc:List Nat) (m:Nat):byV acc ++ [Value.int .u8 (m:Int)] = byV (acc ++ [m]):=by unfold byV; rw [List.map_append]; rfl
theorem zrv:∀ (k n:Nat), n < 128 ^ (k + 1) → (zpz n).length ≤ k + 1
 | 0, n, h => by rw [zfs (by omega)]; exact Nat.le_refl _
 | k + 1, n, h => by
  by_cases h2:n < 128
  ·rw [zfs h2]; exact Nat.le_add_left _ _
  ·rw [zvy h2, List.length_cons]
   have:=zrv k (n / 128) (by rw [Nat.pow_succ] at h; exact Nat.div_lt_of_lt_mul (by rw [Nat.mul_comm]; exact h))
   omega
theorem zzm {n:Nat} (h:n < 18446744073709551616):bits .and .u64 (n:Int) 127 = ((n % 128:Nat):Int):=by
 have h2:=bits_and_u64_nat n 127 h (by decide)
 rw [show n &&& 127 = n % 128 from Nat.and_two_pow_sub_one_eq_mod n 7] at h2
 exact h2
theorem z1k (n:Nat):bits .or .u64 ((n % 128:Nat):Int) 128 = ((n % 128 + 128:Nat):Int):=by
 have h2:=bits_or_u64_nat (n % 128) 128 (by omega) (by decide)
 have h3:=z0d (a:=n % 128) (b:=1) (i:=7) (by omega)
 rw [show 1 * 2 ^ 7 = 128 from rfl] at h3
 rw [h3] at h2
 exact h2
def GNo:GR:=⟨fun _ _ C => ∀ k, ¬ C k, fun h _ _ _ _ => h⟩
theorem zl7 {P:Program} {f:FuncId} {args:List Value} {w:World} {B:Heap} {C:Nat → Prop} {φ:Value → Heap → Prop} (h:RetL P f args w B C (fun v H _ => φ v H)):RetY P f args w B C GNo φ:=RetL.mono h fun _ _ _ _ hp => ⟨hp, fun _ => False, fun _ h => h, fun _ h => h.elim⟩
attribute [local irreducible] V N X VO Par StepOK Has Ret RetL RetO RetT zbd RetX RetY Src
theorem zds {wb n:Nat} {bs:List Nat} (hn:n < 18446744073709551616) (hz:bs.length + 10 ≤ 1099511627776) {w:World} {B:Heap} {C:Nat → Prop} (hB:B.Le (hp w)) (hr:(GWr wb bs).P B w C) (hC:∀ k, C k → k < w.heap.size ∧ B k = none) :
  zbd Tryz.prog 86 [za0 wb, .int .u64 n] w B C (GWr wb (bs ++ zpz n)):=by
 unfold zbd
 refine zag 900 (GWr wb bs) Tryz.func86 rfl Tryz.ntmps86 (Nat.le_of_ble_eq_true rfl) hB hr hC ?_
 refine zin (X:=Value) 900 (r:=fun sv => (GWv wb bs sv).res) (φ:=fun sv _ => zt6 sv) (hφ:=zev) rfl fun sv H0 hs0 hsp => ?_
 refine zdk (r1:=zaj wb [sv] z44) (r2:=(GSl sv bs).res) 900 901 rfl (zaq _) ?_
 rw [znk]
 refine zj ?_;refine ZbE ?_;refine z7 (zcl rfl rfl rfl rfl z3z rfl) rfl ?_;refine Zq ?_;refine qe ?_
 refine zam (fun x:Value × Nat × List Nat => [(0, .is (za0 wb)), (1, .is (.int .u64 x.2.1)), (900, .own (zaj wb [x.1] z44)), (901, .own (AtV x.1 (SlR zt7 1 x.2.2.length (byV x.2.2))))]) (fun x => x.2.1 < 18446744073709551616 ∧ zt6 x.1 ∧ x.2.2.length + (zpz x.2.1).length = bs.length + (zpz n).length ∧ x.2.2 ++ zpz x.2.1 = bs ++ zpz n) (fun x => x.2.1) (sv, n, bs) ⟨hn, hsp, rfl, rfl⟩ ⟨rfl, rfl, rfl, rfl, trivial⟩ ?_
 rintro ⟨s1, m, acc⟩ ⟨hm, hp1, hl, he⟩
 dsimp only at hm hp1 hl he ⊢
 have hlen:(byV acc).length = acc.length * 1:=by rw [List.length_map, Nat.mul_one]
 have hpl:=zsl acc
 have h128:(128:Nat) ^ 10 = 1180591620717411303424:=by decide
 have hnl:=zrv 9 n (by omega)
 have haz:acc.length ≤ 1099511627776:=by omega
 by_cases h:m < 128
 ·rw [zfs h] at he
  have hcv:IntKind.u8.wrap (m:Int) = (m:Int):=zmg (by omega) (by omega)
  refine Ze ?_;refine Zbm ?_;refine ZE ?_;refine Zb0 ?_;refine zm ?_;refine Zcu ?_;refine Z0 ?_;refine zcq 27 901 rfl rfl ?_;refine Za ?_;refine z7 (zaw rfl rfl rfl zsd.1 zsd.2 (zmg (by omega) (by omega))) rfl ?_;refine Zai ?_;refine qg (zb1 L rfl rfl rfl (ziv rfl) rfl el5 rfl rfl (by omega) (by omega)) ?_;refine zel 31 901 zt6 rfl zu2 fun s2 hp2 => ?_;obtain ⟨p2, k2, c2, rfl⟩:=hp2; refine Zar ?_;refine zal (qz L (q:=900) (cs':=[.slice p2 k2 c2]) rfl rfl rfl rfl rfl rfl rfl rfl rfl) ?_;refine zk ?_
  have e1:byV acc ++ znm [(0, Value.int .u8 (m:Int))] = byV (bs ++ zpz n):=by rw [← he]; exact zsk acc m
  have e2:acc.length + 1 = (bs ++ zpz n).length:=by rw [← he, List.length_append]; rfl
  rw [e1, e2]
  refine zk9 900 901 rfl rfl (zxb _ _) ?_
  refine zpx (X:=Value) 900 (r:=fun sv => (GWv wb (bs ++ zpz n) sv).res) (φ:=fun sv _ => zt6 sv) zev (.slice p2 k2 c2) ⟨_, _, _, rfl⟩ rfl ?_
  exact zau L 900 (r:=GWr wb (bs ++ zpz n)) rfl (fun _ _ h => h) hs0 rfl rfl
 ·rw [zvy h] at he hl
  have hand:=zzm hm
  have hor:=z1k m
  have hcv:IntKind.u8.wrap ((m % 128 + 128:Nat):Int) = ((m % 128 + 128:Nat):Int):=zmg (by omega) (by omega)
  have hsr:(m:Int).fdiv (2 ^ min (7:Int).toNat IntKind.u64.bits) = ((m / 128:Nat):Int):=by
   show (m:Int).fdiv 128 = _
   rw [Int.fdiv_eq_ediv_of_nonneg _ (by decide)]
   omega
  refine Ze ?_;refine Zbm ?_;refine Zax ?_;refine ZaD ?_;refine ZaZ ?_;refine Z0 ?_;refine zcq 14 901 rfl rfl ?_;refine Za ?_;refine ZeU ?_;refine ZeV ?_;refine z7 (zaw rfl rfl rfl zsd.1 zsd.2 (zmg (by omega) (by omega))) rfl ?_;refine Zai ?_;refine qg (zb1 L rfl rfl rfl (ziv rfl) rfl el5 rfl rfl (by omega) (by omega)) ?_;refine zel 20 901 zt6 rfl zu2 fun s2 hp2 => ?_;obtain ⟨p2, k2, c2, rfl⟩:=hp2; refine Zar ?_;refine zal (qz L (q:=900) (cs':=[.slice p2 k2 c2]) rfl rfl rfl rfl rfl rfl rfl rfl rfl) ?_;refine ZcC ?_;refine Z1 ?_;refine Zd7 ?_;refine ZX ?_
  have e1:byV acc ++ znm [(0, Value.int .u8 ((m % 128 + 128:Nat):Int))] = byV (acc ++ [m % 128 + 128]):=zsk _ _
  have e2:acc.length + 1 = (acc ++ [m % 128 + 128]).length:=by rw [List.length_append]; rfl
  rw [e1, e2]
  exact y9 (x:=(s1, m, acc)) (.slice p2 k2 c2, m / 128, acc ++ [m % 128 + 128]) ⟨by dsimp only; omega, ⟨_, _, _, rfl⟩, by dsimp only; rw [List.length_append]; rw [List.length_cons] at hl; simp only [List.length_cons, List.length_nil]; omega, by dsimp only; rw [List.append_assoc]; exact he⟩ (by dsimp only; omega) ⟨rfl, rfl, rfl, rfl, trivial⟩
theorem zw5 {bs:List Nat} {fu:Bool} {v:Value} {w:World} {B:Heap} (hB:B.Le (hp w)) (hv:BsV bs fu v B):Ret Tryz.prog 158 [v] w B (BsV bs true):=by
 refine qw Tryz.func158 rfl Tryz.ntmps158 (Nat.le_of_ble_eq_true rfl) hB ?_
 refine zbf 0 (BsV bs fu) rfl SlV.mono hv ?_
 refine Zaq ?_;refine Zh ?_;refine Zn ?_;refine Zn ?_;refine Zep ?_;refine Zd8 ?_
 refine qv L (rs:=[.tmp 2]) rfl (fun _ _ h => h) Since.refl fun u H hH hle => ?_
 exact fun v hv => hv
theorem zle {wb:Nat} {bs:List Nat} (hz:bs.length ≤ 1099511627776) {w:World} {B:Heap} {C:Nat → Prop} (hB:B.Le (hp w)) (hr:(GWr wb bs).P B w C) (hC:∀ k, C k → k < w.heap.size ∧ B k = none) :
  RetL Tryz.prog 91 [za0 wb] w B C (fun v H _ => BsV bs true v H):=by
 refine zag 900 (GWr wb bs) Tryz.func91 rfl Tryz.ntmps91 (Nat.le_of_ble_eq_true rfl) hB hr hC ?_
 refine zin (X:=Value) 900 (r:=fun sv => (GWv wb bs sv).res) (φ:=fun sv _ => zt6 sv) (hφ:=zev) rfl fun sv H0 hs0 hsp => ?_
 refine zdk (r1:=zaj wb [sv] z44) (r2:=(GSl sv bs).res) 900 901 rfl (zaq _) ?_
 rw [znk]
 obtain ⟨p, k, c, rfl⟩:=hsp
 refine Zbg ?_;refine z7 (zcl rfl rfl rfl rfl z3z rfl) rfl ?_;refine Zq ?_;refine Zm ?_;refine Z0 ?_;refine zcq 8 901 rfl rfl ?_;refine zjk 8 rfl ?_;refine z7 (zck L rfl rfl (zn rfl) rfl rfl rfl (fun u H hH hle _ v1 h1 => zmc hz hH h1)) rfl ?_;refine zjk 9 rfl ?_;refine z7 (zai (φ:=BsV bs true) L rfl rfl (zn rfl) rfl rfl rfl SlV.mono (fun u H hH hle _ v1 h1 => zw5 hH h1)) rfl ?_;refine Zd8 ?_
 exact qv L (rs:=[.tmp 2]) rfl (fun _ _ h => h) hs0 (fun _ H _ _ v hv => hv)
end Go.V.L4
set_option maxRecDepth 20000
namespace Go.V
open Go.RowKit
section
variable {P:Program} {F:Fr} {B:Heap} {O:Boxes} {n:Nat} {ops:Array Oper} {κ:Kap} {d q b:Nat} {ty:TypeId} {pos:String} {aft:Array Edge} {g:Option (Nat × Bool)} {src dst t t':TypeId} {x y:Operand} {cs:List Value}
theorem zg0 {u:World} {vs:Array Value} {fr:Nat × Nat} (h:u.heap[b]? = some (.cells vs t' fr)):u.shape? b = some (t', vs.size):=by simp [World.shape?, h]
theorem zqp (hx:evK κ x = some (.pointer (some ⟨b, 0, none⟩))) (hq:κ q = some (.own (zaj b cs t'))) (hn:Nat.blt d n = true) (hg:gK ops κ ⟨some d, .convert src dst x, ty, pos, aft, g⟩ = some true) (hs:P.underlying src = some (.pointer t)) (hd:P.underlying dst = some .unsafePointer) (hj:(P.info? t).map (fun j => decide (j.size ≠ 0)) = some true) (hc:Nat.ble 1 cs.length = true) :
  StepOKR P F B n ops O κ ⟨some d, .convert src dst x, ty, pos, aft, g⟩ q d (.is (.pointer (some ⟨b, 0, none⟩))):=by
 obtain ⟨j, ht, hj⟩:∃ j, P.info? t = some j ∧ j.size ≠ 0:=by
  cases h:P.info? t with
  | none => rw [h] at hj; cases hj
  | some j => rw [h] at hj; exact ⟨j, rfl, by simpa using hj⟩
 rintro κ' a u hlk hqk ⟨H, fp, hh⟩
 unfold After
 rw [if_pos (zah hh hlk hg)]
 have e:=hh.env hlk
 have h1:=e.is_ x _ (by simp [Op.operands]) hx
 obtain ⟨⟨h2, hC⟩, hM⟩:=hh.slot q _ (hqk.trans hq)
 have hr:=Lib.run_to_unsafe (P:=P) u (src:=src) (dst:=dst) ⟨b, 0, none⟩ hs hd ht hj (zg0 h2) (by have:=Nat.le_of_ble_eq_true hc; simp only [List.size_toArray]; omega)
 have hrun:(execOp a.eval ⟨some d, .convert src dst x, ty, pos, aft, g⟩).run P u = .ok (.value (.pointer (some ⟨b, 0, none⟩))) u:=by
  simp only [execOp, h1, Sem.run_bind, Sem.run_pure, hr, Result.andThen_ok]
 rw [hrun]
 simp only [Upon]
 exact ⟨H, fp, hh.put (k:=.is _) (zn hn) trivial rfl⟩
theorem zm7 (hx:evK κ x = some (.pointer (some ⟨b, 0, none⟩))) (hq:κ q = some (.own (zaj b cs t'))) (hn:Nat.blt d n = true) (hg:gK ops κ ⟨some d, .convert src dst x, ty, pos, aft, g⟩ = some true) (hs:P.underlying src = some .unsafePointer) (hd:P.underlying dst = some (.pointer t)) (ht:(P.info? t).isSome = true) {m:Nat} (hm:cs.length = m) (hl:liesAt P P.depth t' (m / P.cellsOf t') 0 t 1 = true) :
  StepOKR P F B n ops O κ ⟨some d, .convert src dst x, ty, pos, aft, g⟩ q d (.is (.pointer (some ⟨b, 0, none⟩))):=by
 obtain ⟨j, ht⟩:=Option.isSome_iff_exists.1 ht
 rintro κ' a u hlk hqk ⟨H, fp, hh⟩
 subst hm
 unfold After
 rw [if_pos (zah hh hlk hg)]
 have e:=hh.env hlk
 have h1:=e.is_ x _ (by simp [Op.operands]) hx
 obtain ⟨⟨h2, hC⟩, hM⟩:=hh.slot q _ (hqk.trans hq)
 have hr:=Lib.run_from_unsafe (P:=P) u (src:=src) (dst:=dst) ⟨b, 0, none⟩ hs hd ht (zg0 h2) (by simpa using hl)
 have hrun:(execOp a.eval ⟨some d, .convert src dst x, ty, pos, aft, g⟩).run P u = .ok (.value (.pointer (some ⟨b, 0, none⟩))) u:=by
  simp only [execOp, h1, Sem.run_bind, Sem.run_pure, hr, Result.andThen_ok]
 rw [hrun]
 simp only [Upon]
 exact ⟨H, fp, hh.put (k:=.is _) (zn hn) trivial rfl⟩
theorem ztf {te:TypeId} {a0:Addr} (hn:Nat.blt d n = true) (hg:gK ops κ ⟨some d, .binOp .neq t x y t', ty, pos, aft, g⟩ = some true) (hx:evK κ x = some (.pointer (some a0))) (hy:evK κ y = some (.pointer (some a0))) (hp:P.underlying t = some (.pointer te)) (hte:(P.info? te).isSome = true) :
  StepOK P F B n ops O κ ⟨some d, .binOp .neq t x y t', ty, pos, aft, g⟩ d (.is (.bool false)):=by
 obtain ⟨j, hte⟩:=Option.isSome_iff_exists.1 hte
 exact zb0 hn hg hx hy fun u => Lib.run_neq_ptr_same u a0 hp hte
theorem zqt {f:Nat} {at_:Array TypeId} {fo:Operand} {v r:Value} (hn:Nat.blt d n = true) (hg:gK ops κ ⟨some d, .call { callee:=.value fo, args:=#[x], argTypes:=at_ }, ty, pos, aft, g⟩ = some true) (hfo:evK κ fo = some (.func (.func f) #[] #[])) (hx:evK κ x = some v) (hext:∀ u, (callFunc f #[v]).run P u = .ok (.value r) u) :
  StepOK P F B n ops O κ ⟨some d, .call { callee:=.value fo, args:=#[x], argTypes:=at_ }, ty, pos, aft, g⟩ d (.is r):=by
 rintro κ' a u hlk ⟨H, fp, hh⟩
 unfold After
 rw [if_pos (zah hh hlk hg)]
 have e:=hh.env hlk
 have h1:a.eval x = v:=e.is_ x _ (by simp [Op.operands, Call.operands]) hx
 have h2:a.eval fo = .func (.func f) #[] #[]:=e.is_ fo _ (by simp [Op.operands, Call.operands]) hfo
 have hrun:(execOp a.eval ⟨some d, .call { callee:=.value fo, args:=#[x], argTypes:=at_ }, ty, pos, aft, g⟩).run P u = .ok (.value r) u:=by
  simp only [execOp, resolve, h2, Deferred.ofValue, Sem.run_bind, Sem.run_pure, Result.andThen_ok, invoke]
  simp [h1, hext]
 rw [hrun]
 simp only [Upon]
 exact ⟨H, fp, hh.put (k:=.is r) (zn hn) trivial rfl⟩
end
end Go.V
set_option maxRecDepth 20000
namespace Go.V
open Go.RowKit
theorem zzl {P:Program} (u:World) {t ty2 e:TypeId} {aty:TypeId} {i:TypeInfo} {z:Value} (ht:P.underlying t = some (.slice e)) (hu:P.underlying ty2 = some .string) (hi:P.info? e = some i) (hz:i.zero = some z) (hs1:i.size = 1) (hs2:i.bytes = 1) (hs3:z.cells.size = 1)
  {x:Value} {str:ByteArray} {C:Nat → Prop} {H:Heap} {nn:Nat} {xs:List Value} (hsub:H.Le (hp u)) (hown:(SlR e 1 nn xs).P x H u C) (hlt:∀ k, C k → k < u.heap.size ∧ H k = none) (h63:nn + str.size ≤ 9223372036854775807) (hb:nn + str.size ≤ 140737488355328) :
  ∃ x' u' C', (Builtin.append_ #[t, ty2] aty #[x, .string str]).run P u = .ok x' u' ∧ (SlR e 1 (nn + str.size) (xs ++ Lib.strCells str)).P x' H u' C' ∧ Grow C u H u' H ∧ ∀ k, C' k → (C k ∨ u.heap.size ≤ k) ∧ k < u'.heap.size ∧ H k = none:=by
 have hl:=Lib.strCells_length str
 generalize hnews:Lib.strCells str = news at hl ⊢
 obtain ⟨m, hm0⟩:∃ m, str.size = m:=⟨_, rfl⟩
 have hmx:nn + m ≤ maxLen:=by simp only [maxLen]; omega
 obtain ⟨hxl, hown⟩:=hown
 have hlen:(xs ++ news).length = (nn + m) * 1:=by rw [List.length_append, hxl, hl, hm0]; omega
 have hdrew:∀ o:Obj, Grow C u H (u.drew.alloc o) H:=fun o => ⟨⟨rfl, rfl, rfl, by simp, fun k hk _ => zbz u.drew _ hk, Nat.le_succ _⟩, fun k v hv => by
  have:=hsub.size hv
  show (u.drew.alloc o).heap[k]? = some v
  rw [zbz u.drew _ this]; exact hsub k v hv, Heap.Le.refl _, fun _ _ _ => rfl⟩
 have hnew:∀ (o:Obj) (k:Nat), k = u.heap.size → (C k ∨ u.heap.size ≤ k) ∧ k < (u.drew.alloc o).heap.size ∧ H k = none:=fun o k hk => by
  subst hk
  exact ⟨.inr (Nat.le_refl _), by simp, za8 hsub (Nat.le_refl _)⟩
 have grown:∀ (old:Nat), old < nn + m → ∀ vs:List Value, vs = xs →
   (SlR e 1 (nn + m) (xs ++ news)).P (.slice (some ⟨u.heap.size, 0, none⟩) (nn + m) (grownCap u (nn + m) old e)) H (u.drew.alloc (.cells (vs.toArray ++ news.toArray ++ Builtin.zeroCells z.cells (grownCap u (nn + m) old e - (nn + m))) e)) (fun k => k = u.heap.size):=by
  rintro old ho vs rfl
  have hge:=grownCap_ge u (nn + m) old e
  refine ⟨hlen, .inr ⟨u.heap.size, _, (Builtin.zeroCells z.cells (grownCap u (nn + m) old e - (nn + m))).toList, rfl, ?_, hge, grownCap_le_maxLen u (nn + m) old e hmx, ?_, fun _ => Iff.rfl⟩⟩
  ·have h2:(u.drew.alloc (.cells (vs.toArray ++ news.toArray ++ Builtin.zeroCells z.cells (grownCap u (nn + m) old e - (nn + m))) e)).heap[u.heap.size]? = some (.cells (vs.toArray ++ news.toArray ++ Builtin.zeroCells z.cells (grownCap u (nn + m) old e - (nn + m))) e):=heap_alloc_new u.drew _
   rw [h2]
   congr 2
   apply Array.ext'
   simp
  ·rw [List.length_append, hlen, Array.length_toList, size_zeroCells, hs3]
   omega
 rcases hown with ⟨rfl, rfl, hC⟩ | ⟨b, cap, rest, rfl, hbk, hnc, hcm, hcl, hC⟩
 ·have hx:xs = []:=List.eq_nil_of_length_eq_zero (by simpa using hxl)
  subst hx
  by_cases h0:m = 0
  ·subst h0
   have hn:news = []:=List.eq_nil_of_length_eq_zero (by omega)
   subst hn
   refine ⟨.slice none 0 0, u, noL, ?_, ⟨by simp [hm0], .inl ⟨by omega, rfl, fun _ h => h⟩⟩, ⟨Keep.refl _ _, hsub, Heap.Le.refl _, fun _ _ _ => rfl⟩, fun _ h => h.elim⟩
   have hf:=Lib.run_firstCells_string (P:=P) u i.size str
   rw [hm0] at hf
   simp [Builtin.append_, run_underlying ht, run_underlying hu, sizeOf, typeInfo, hi, Builtin.lenOf, hm0, hf]
  ·have hr:=run_append_nil_string (P:=P) u t ty2 aty e i z ht hu hi hz str (by omega) (by omega) (by rw [hs2]; omega)
   have hgr:=grown 0 (by omega) [] rfl
   rw [hm0] at hr ⊢
   simp only [Nat.zero_add, List.nil_append, Array.empty_append] at hgr ⊢
   refine ⟨_, _, _, hr, ?_, hdrew _, fun k hk => hnew _ k hk⟩
   have e1:str.data.map (fun b => Value.int .u8 b.toNat) = news.toArray:=by rw [← hnews]; apply Array.ext'; simp [Lib.strCells]
   rw [e1]
   exact hgr
 ·have hbl:=hlt b ((hC b).2 rfl)
  have holds:∀ j v, xs[j]? = some v → u.cell? ((⟨b, 0, none⟩:Addr).add j) = some v:=fun j v hj => by
   rw [zb5, Nat.zero_add, zav hbk]
   have hlt:j < xs.length:=by
    rcases Nat.lt_or_ge j xs.length with h | h
    ·exact h
    ·rw [List.getElem?_eq_none h] at hj; cases hj
   simp only [List.getElem?_toArray]
   rw [List.getElem?_append_left hlt]; exact hj
  rw [hm0]
  by_cases hroom:nn + m ≤ cap
  ·have hfit:nn + str.size ≤ (xs ++ rest).toArray.size:=by simp only [List.size_toArray, hcl]; omega
   have hr:=Lib.run_append_room_string (P:=P) u t ty2 aty e i ht hu hi hs1 b nn cap _ hbk str (by omega) hfit
   rw [hnews, hm0] at hr
   refine ⟨_, _, C, hr, ⟨hlen, .inr ⟨b, cap, rest.drop news.length, rfl, ?_, hroom, hcm, ?_, hC⟩⟩, zc5 hsub hbk ((hC b).2 rfl) hbl.2 _, fun k hk => ⟨.inl hk, by rw [setRow_size]; exact (hlt k hk).1, (hlt k hk).2⟩⟩
   ·rw [setRow_heap u b _ _ e (0, 0) hbk]
    congr 2
    have hx1:xs.length = nn:=by omega
    rw [← hx1, hl, hm0]
    simp [List.drop_append, List.drop_eq_nil_of_le]
   ·have h5:rest.length = cap * 1 - nn * 1:=by rw [← hcl, List.length_append, hxl]; omega
    rw [List.length_append, hlen, List.length_drop, h5, hl, hm0]
    omega
  ·have hr:=Lib.run_append_grow_string (P:=P) u t ty2 aty e i z ht hu hi hz ⟨b, 0, none⟩ nn cap xs (by rw [hs1]; exact hxl) holds str (by omega) (by omega) (by rw [hs2]; exact growslice_fits (by omega) (by omega))
   rw [hnews, hm0] at hr
   exact ⟨_, _, _, hr, grown cap (by omega) xs rfl, hdrew _, fun k hk => hnew _ k hk⟩
section
variable {P:Program} {F:Fr} {B:Heap} {O:Boxes} {n:Nat} {ops:Array Oper} {κ:Kap} {d:Nat} {ty:TypeId} {pos:String} {aft:Array Edge} {g:Option (Nat × Bool)}
theorem zo8 (L:Tabs P) {q:Nat} {t ty2 e:TypeId} {y:Operand} {nn:Nat} {xs:List Value} {str:ByteArray} (hn:Nat.blt d n = true) (hg:gK ops κ ⟨some d, .call ⟨.builtin .append, #[.tmp q, y], #[t, ty2]⟩, ty, pos, aft, g⟩ = some true)
  (hq:κ q = some (.own (SlR e 1 nn xs))) (hy:evK κ y = some (.string str)) (ht:L.sl t = some e) (hu:P.underlying ty2 = some .string) (he:elI P e = some (1, 1)) (hb:nn + str.size ≤ 140737488355328) :
  zcm P F B n ops O κ ⟨some d, .call ⟨.builtin .append, #[.tmp q, y], #[t, ty2]⟩, ty, pos, aft, g⟩ q zdx d (.own (SlR e 1 (nn + str.size) (xs ++ Lib.strCells str))):=by
 rintro κ' a u hlk hks ⟨H, fp, hh⟩
 unfold After
 rw [if_pos (zah hh hlk hg)]
 have en:=hh.env hlk
 obtain ⟨i, z, hi, hz, hs1, hs2, hs3, hs4⟩:=zeg he
 have hk':κ' q = some (.own (SlR e 1 nn xs)):=hks.trans hq
 obtain ⟨hown, hM⟩:=hh.slot q _ hk'
 have h1:a.eval y = .string str:=en.is_ y _ (by simp [Op.operands, Call.operands]) hy
 obtain ⟨x', u', C', hr, hown', hgr, hC'⟩:=zzl u (aty:=ty) (Tabs.sl_spec ht) hu hi hz hs1 hs2 hs3 hh.sub hown (fun k hk => ⟨(hM k hk).1, (hM k hk).2.1⟩) (by omega) hb
 have hrun:(execOp a.eval ⟨some d, .call ⟨.builtin .append, #[.tmp q, y], #[t, ty2]⟩, ty, pos, aft, g⟩).run P u = .ok (.value x') u':=by
  simp only [execOp, resolve, invoke, builtin, Sem.run_bind, Sem.run_pure, Result.andThen_ok, List.map_toArray, List.map_cons, List.map_nil, h1, hr]
 rw [hrun]
 simp only [Upon]
 exact ⟨H, _, hh.usePut hk' hgr (by simp [Act.put]) rfl (fun t ht => zat ht) (by rw [zax (by rw [hh.size]; exact zn hn)]; exact hown') hC'⟩
end
end Go.V
set_option maxRecDepth 20000
namespace Go.V.Bd
open Go.Proofs Go.RowKit Go.V Go.V.L4
theorem _root_.Go.V.Zfo {A B:Prop} (h:B) (t:Wr B → A:=by intro h; refine zcw 900 901 rfl rfl (zxb _ _) ?_;exact h.h):A:=t ⟨h⟩
theorem _root_.Go.V.ZcD {A B:Prop} (h:B) (t:Wr B → A:=by intro h; refine Zdq ?_;refine zj ?_;exact h.h):A:=t ⟨h⟩
abbrev zjn:TypeId:=228
theorem z17 (v:Value) (u:World):(callFunc 255 #[v]).run Tryz.prog u = .ok (.value v) u :=
 (run_callFunc_extern Tryz.func255 (by kernel_rfl) (by kernel_rfl) (by kernel_rfl) (e:=Extern.AbiNoEscape.same) (by kernel_rfl) #[v] u).trans rfl
attribute [local irreducible] V N X VO Par StepOK Has Ret RetL RetO RetT zbd RetX RetY Src
theorem check_ret {bb:Nat} {sv p:Value} (hpp:p = .pointer none ∨ p = za0 bb) {w:World} {B:Heap} {C:Nat → Prop} (hB:B.Le (hp w)) (hr:(zab bb [p, sv] zjn).P B w C) (hC:∀ k, C k → k < w.heap.size ∧ B k = none) :
  zbd Tryz.prog 195 [za0 bb] w B C (zab bb [za0 bb, sv] zjn):=by
 unfold zbd
 refine zag 900 (zab bb [p, sv] zjn) Tryz.func195 rfl Tryz.ntmps195 (Nat.le_of_ble_eq_true rfl) hB hr hC ?_
 rw [zae]
 rcases hpp with rfl | rfl
 ·refine ZbE ?_;refine Z0 ?_;refine z7 (zcl rfl rfl rfl rfl z30 rfl) rfl ?_;refine Z8 ?_;refine Z6 ?_;refine Zb ?_;refine y7 (zqp (q:=900) (t:=zjn) rfl rfl rfl rfl (by kernel_rfl) (by kernel_rfl) (by kernel_rfl) rfl) ?_;refine z7 (zqt rfl rfl rfl rfl (z17 _)) rfl ?_;refine y7 (zm7 (q:=900) (t:=zjn) rfl rfl rfl rfl (by kernel_rfl) (by kernel_rfl) (by kernel_rfl) rfl (by kernel_rfl)) ?_;refine Zar ?_;refine zal (qz L (q:=900) (cs':=[za0 bb, sv]) rfl rfl rfl rfl rfl rfl rfl rfl rfl) ?_;refine zk ?_
  exact zau L 900 (r:=zab bb _ zjn) rfl (fun _ _ h => h) Since.refl rfl rfl
 ·refine ZbE ?_;refine Z0 ?_;refine z7 (zcl rfl rfl rfl rfl z30 rfl) rfl ?_;refine ZcD ?_;refine Z1 ?_;refine Z0 ?_;refine Za ?_;refine z7 (ztf (te:=zjn) rfl rfl rfl rfl (by kernel_rfl) (by kernel_rfl)) rfl ?_;refine Zab ?_
  exact zau L 900 (r:=zab bb _ zjn) rfl (fun _ _ h => h) Since.refl rfl rfl
abbrev GBv (bb:Nat) (bs:List Nat) (x:Value × Value):GR:=zf3 (zab bb [x.1, x.2] zjn) (GSl x.2 bs)
def z2u (bb:Nat) (x:Value × Value):Prop:=(x.1 = .pointer none ∨ x.1 = za0 bb) ∧ zt6 x.2
theorem ze1 (bb:Nat):zhn fun (x:Value × Value) (_:Heap) => z2u bb x:=fun _ _ _ h _ => h
abbrev GBd (bb:Nat) (bs:List Nat):GR:=GEx (X:=Value × Value) (GBv bb bs) (fun x _ => z2u bb x) (ze1 bb)
def ze0 (s:ByteArray):List Nat:=s.data.toList.map fun c => c.toNat
theorem zf0 (s:ByteArray):(ze0 s).length = s.size:=by unfold ze0; rw [List.length_map, Array.length_toList]; rfl
theorem z2g (bs:List Nat) (s:ByteArray):byV bs ++ Lib.strCells s = byV (bs ++ ze0 s):=by
 unfold byV ze0 Lib.strCells
 rw [List.map_append, List.map_map]
 rfl
theorem write_ret {bb:Nat} {bs:List Nat} {str:ByteArray} (hz:bs.length + str.size ≤ 140737488355328) {w:World} {B:Heap} {C:Nat → Prop} (hB:B.Le (hp w)) (hr:(GBd bb bs).P B w C) (hC:∀ k, C k → k < w.heap.size ∧ B k = none) :
  RetX Tryz.prog 122 [za0 bb, .string str] w B C (GBd bb (bs ++ ze0 str)) (.tuple #[.int .i64 str.size, .nilIface]):=by
 unfold RetX
 refine zag 900 (GBd bb bs) Tryz.func122 rfl Tryz.ntmps122 (Nat.le_of_ble_eq_true rfl) hB hr hC ?_
 refine zin (X:=Value × Value) 900 (r:=fun x => (GBv bb bs x).res) (φ:=fun x _ => z2u bb x) (hφ:=ze1 bb) rfl fun x H0 hs0 hx => ?_
 obtain ⟨p, sv⟩:=x
 obtain ⟨hpp, hsl⟩:=hx
 dsimp only at hpp hsl ⊢
 obtain ⟨p1, k1, c1, rfl⟩:=hsl
 refine zdk (r1:=zaj bb [p, .slice p1 k1 c1] zjn) (r2:=(GSl (.slice p1 k1 c1) bs).res) 900 901 rfl (zaq _) ?_
 rw [znk]
 refine Zau ?_;refine Zbj ?_;refine qg (zan L 900 (zab bb [za0 bb, .slice p1 k1 c1] zjn) (r:=zab bb [p, .slice p1 k1 c1] zjn) rfl rfl rfl rfl rfl (fun u H C hH _ hr hC => check_ret hpp hH hr hC)) ?_;refine Zj ?_;refine Zav ?_;refine Z0 ?_;refine zcq 12 901 rfl rfl ?_;refine Za ?_;refine qg (zo8 L rfl rfl rfl rfl rfl (by kernel_rfl) el5 hz) ?_;refine zel 14 901 zt6 rfl zu2 fun s2 hp2 => ?_;obtain ⟨p2, k2, c2, rfl⟩:=hp2; refine Zar ?_;refine zal (qz L (q:=900) (cs':=[za0 bb, .slice p2 k2 c2]) rfl rfl rfl rfl rfl rfl rfl rfl rfl) ?_;refine Zj ?_;refine Zm ?_;refine Zaf ?_;refine Zt ?_
 have e2:bs.length + str.size = (bs ++ ze0 str).length:=by rw [List.length_append, zf0]
 rw [z2g, e2]
 refine Zfo ?_
 refine zme (X:=Value × Value) 900 (r:=fun x => (GBv bb (bs ++ ze0 str) x).res) (φ:=fun x _ => z2u bb x) (ze1 bb) (za0 bb, .slice p2 k2 c2) ⟨.inr rfl, _, _, _, rfl⟩ rfl ?_
 exact za2 L 900 (r:=GBd bb (bs ++ ze0 str)) (rs:=[.tmp 4, .tmp 5]) rfl (fun _ _ h => h) hs0 rfl rfl (fun _ => rfl)
end Go.V.Bd
set_option maxRecDepth 20000
namespace Go.V
open Go.RowKit Go.V.L4
theorem zew {u:World} {a:Addr} {n k:Nat} (h:k ≠ a.block):(u.freeze a n).heap[k]? = u.heap[k]?:=by
 unfold World.freeze
 split
 ·rfl
 ·simp [Array.getElem?_modify, Ne.symm h]
theorem zqg (u:World) (a:Addr) (n:Nat):(u.freeze a n).heap.size = u.heap.size:=by
 unfold World.freeze
 split <;> simp
theorem zqz {u:World} {H:Heap} {b n:Nat} {L:Nat → Prop} (hs:H.Le (hp u)) (hL:L b) (hH:H b = none):Grow L u H (u.freeze ⟨b, 0, none⟩ n) H :=
 have ho:(u.freeze ⟨b, 0, none⟩ n).os = u.os ∧ (u.freeze ⟨b, 0, none⟩ n).tape = u.tape ∧ (u.freeze ⟨b, 0, none⟩ n).output = u.output ∧ (u.freeze ⟨b, 0, none⟩ n).drawn = u.drawn:=by unfold World.freeze; split <;> exact ⟨rfl, rfl, rfl, rfl⟩
 ⟨⟨ho.1, ho.2.1, ho.2.2.1, Nat.le_of_eq (zqg ..).symm, fun k _ hk => zew (fun e => hk (e ▸ hL)), Nat.le_of_eq ho.2.2.2.symm⟩, fun k x hx => by
  have:k ≠ b:=fun e => by subst e; rw [hH] at hx; cases hx
  show (u.freeze ⟨b, 0, none⟩ n).heap[k]? = some x
  rw [zew this]; exact hs k x hx, Heap.Le.refl _, fun _ _ _ => rfl⟩
def zcr (bs:List Nat):ByteArray:=⟨(bs.map UInt8.ofNat).toArray⟩
section
variable {P:Program} {F:Fr} {B:Heap} {O:Boxes} {n:Nat} {ops:Array Oper} {κ:Kap} {d q b:Nat} {ty:TypeId} {pos:String} {aft:Array Edge} {g:Option (Nat × Bool)} {x y:Operand} {Q:Exit → Act → World → Prop}
theorem z4w (q:Nat) {r:Res} {c:Code} (S:Prop) (hk:κ q = some (.own r)) (hS:∀ v H u C, r.P v H u C → S) (h:S → V P F B n O κ c Q):V P F B n O κ c Q:=fun a u hh => by
 obtain ⟨H, fp, hH⟩:=hh
 exact h (hS _ _ _ _ (hH.slot q _ hk).1) a u ⟨H, fp, hH⟩
theorem zo2 {tts:Array TypeId} {a0:Addr} {m c:Nat} (hn:Nat.blt d n = true) (hg:gK ops κ ⟨some d, .call ⟨.builtin .unsafeSliceData, #[x], tts⟩, ty, pos, aft, g⟩ = some true) (hx:evK κ x = some (.slice (some a0) m c)) (hc:c ≠ 0) :
  StepOK P F B n ops O κ ⟨some d, .call ⟨.builtin .unsafeSliceData, #[x], tts⟩, ty, pos, aft, g⟩ d (.is (.pointer (some a0))) :=
 zar rfl (by simpa using hn) hg trivial fun a u H fp e => ⟨_, by
  have h1:a.eval x = .slice (some a0) m c:=e.is_ x _ (by simp [Op.operands, Call.operands]) hx
  have h2:=Lib.run_unsafeSliceData_row (P:=P) u tts ty a0 m c hc
  simp only [execOp, resolve, invoke, builtin, Sem.run_bind, Sem.run_pure, Result.andThen_ok, List.map_toArray, List.map_cons, List.map_nil, h1, h2], rfl⟩
theorem zo1 {pt it e:TypeId} {m c:Nat} {bs:List Nat} (hb:∀ b ∈ bs, b ≤ 255) (h0:bs ≠ []) (hl:bs.length ≤ 1099511627776) (hn:Nat.blt d n = true) (hg:gK ops κ ⟨some d, .call ⟨.builtin .unsafeString, #[x, y], #[pt, it]⟩, ty, pos, aft, g⟩ = some true) (hx:evK κ x = some (.pointer (some ⟨b, 0, none⟩))) (hy:evK κ y = some (.int .i64 bs.length))
  (hq:κ q = some (.own (AtV (.slice (some ⟨b, 0, none⟩) m c) (SlR e 1 bs.length (byV bs))))) (hp:P.underlying pt = some (.pointer e)) (hc:P.cellsOf e = 1) :
  zcm P F B n ops O κ ⟨some d, .call ⟨.builtin .unsafeString, #[x, y], #[pt, it]⟩, ty, pos, aft, g⟩ q (.own GNo.res) d (.is (.string (zcr bs))):=by
 rintro κ' a u hlk hks ⟨H, fp, hh⟩
 unfold After
 rw [if_pos (zah hh hlk hg)]
 have en:=hh.env hlk
 have hk':=hks.trans hq
 obtain ⟨hown, hM⟩:=hh.slot q _ hk'
 have h1:a.eval x = .pointer (some ⟨b, 0, none⟩):=en.is_ x _ (by simp [Op.operands, Call.operands]) hx
 have h2:a.eval y = .int .i64 bs.length:=en.is_ y _ (by simp [Op.operands, Call.operands]) hy
 obtain ⟨hxl, hown⟩:=hown
 rcases hown with ⟨_, hv, _⟩ | ⟨b2, cap, rest, hv, hbk, hnc, hcm, hcl, hC⟩
 ·cases hv
 ·cases hv
  have hbm:=hM b ((hC b).2 rfl)
  have hlen:(bs.map UInt8.ofNat).length = bs.length:=List.length_map _
  have hr:=Lib.run_unsafeString_row (P:=P) u pt it ty e hp hc b (byV bs ++ rest).toArray.size (by simp [World.shape?, hbk]) (bs.map UInt8.ofNat) (fun h => h0 (List.map_eq_nil_iff.1 h)) (by rw [hlen]; simp) (by rw [hlen]; omega) (fun j v hj => by
   rw [zb5, Nat.zero_add, zav hbk]
   rw [List.getElem?_map] at hj
   cases hbj:bs[j]? with
   | none => rw [hbj] at hj; cases hj
   | some z =>
    rw [hbj] at hj
    cases hj
    have hz:=hb z (List.mem_of_getElem? hbj)
    have hjl:j < (byV bs).length:=by rw [List.length_map]; exact get_lt hbj
    simp only [List.getElem?_toArray]
    rw [List.getElem?_append_left hjl, List.getElem?_map, hbj]
    have:(UInt8.ofNat z).toNat = z:=by simp; omega
    rw [this]
    rfl)
  rw [hlen] at hr
  have hrun:(execOp a.eval ⟨some d, .call ⟨.builtin .unsafeString, #[x, y], #[pt, it]⟩, ty, pos, aft, g⟩).run P u = .ok (.value (.string (zcr bs))) (u.freeze ⟨b, 0, none⟩ bs.length):=by
   simp only [execOp, resolve, invoke, builtin, Sem.run_bind, Sem.run_pure, Result.andThen_ok, List.map_toArray, List.map_cons, List.map_nil, h1, h2, hr]
   rfl
  rw [hrun]
  simp only [Upon]
  have h3:=hh.usePut (d:=q) (a':=a) (r':=GNo.res) (C:=fun _ => False) hk' (zqz (n:=bs.length) hh.sub ((hC b).2 rfl) hbm.2.1) rfl rfl (fun _ _ => rfl) (fun k h => h) (fun k h => h.elim)
  rw [zbv] at h3
  exact ⟨H, _, h3.put (k:=.is _) (zn hn) trivial rfl⟩
theorem zm5 {tts:Array TypeId} {m c:Nat} (hn:Nat.blt d n = true) (hg:gK ops κ ⟨some d, .call ⟨.builtin .unsafeSliceData, #[x], tts⟩, ty, pos, aft, g⟩ = some true) (hx:evK κ x = some (.slice none m c)) :
  StepOK P F B n ops O κ ⟨some d, .call ⟨.builtin .unsafeSliceData, #[x], tts⟩, ty, pos, aft, g⟩ d (.is (.pointer none)) :=
 zar rfl (by simpa using hn) hg trivial fun a u H fp e => ⟨_, by
  have h1:a.eval x = .slice none m c:=e.is_ x _ (by simp [Op.operands, Call.operands]) hx
  have h2:=Lib.run_unsafeSliceData_nil (P:=P) u tts ty m c
  simp only [execOp, resolve, invoke, builtin, Sem.run_bind, Sem.run_pure, Result.andThen_ok, List.map_toArray, List.map_cons, List.map_nil, h1, h2], rfl⟩
theorem zm4 {pt it:TypeId} {p0:Option Addr} (hn:Nat.blt d n = true) (hg:gK ops κ ⟨some d, .call ⟨.builtin .unsafeString, #[x, y], #[pt, it]⟩, ty, pos, aft, g⟩ = some true) (hx:evK κ x = some (.pointer p0)) (hy:evK κ y = some (.int .i64 0)) :
  StepOK P F B n ops O κ ⟨some d, .call ⟨.builtin .unsafeString, #[x, y], #[pt, it]⟩, ty, pos, aft, g⟩ d (.is (.string .empty)) :=
 zar rfl (by simpa using hn) hg trivial fun a u H fp e => ⟨_, by
  have h1:a.eval x = .pointer p0:=e.is_ x _ (by simp [Op.operands, Call.operands]) hx
  have h2:a.eval y = .int .i64 0:=e.is_ y _ (by simp [Op.operands, Call.operands]) hy
  have h3:=Lib.run_unsafeString_none (P:=P) u pt it ty p0
  simp only [execOp, resolve, invoke, builtin, Sem.run_bind, Sem.run_pure, Result.andThen_ok, List.map_toArray, List.map_cons, List.map_nil, h1, h2, h3], rfl⟩
end
end Go.V
set_option maxRecDepth 20000
namespace Go.V.Bd
open Go.Proofs Go.RowKit Go.V Go.V.L4
theorem z02 {bs:List Nat} (h0:bs ≠ []) {p:Option Addr} {k c:Nat}:∀ v H u C, (AtV (.slice p k c) (SlR zt7 1 bs.length (byV bs))).P v H u C → ∃ b cap, Value.slice p k c = .slice (some ⟨b, 0, none⟩) bs.length cap ∧ bs.length ≤ cap:=fun v H u C ⟨_, h⟩ => by
 rcases h with ⟨h, _⟩ | ⟨b, cap, rest, hv, _, hnc, _⟩
 ·exact absurd (List.eq_nil_of_length_eq_zero h) h0
 ·exact ⟨b, cap, hv, hnc⟩
attribute [local irreducible] V N X VO Par StepOK Has Ret RetL RetO RetT zbd RetX RetY Src
theorem zli {bb:Nat} {bs:List Nat} (hb:∀ b ∈ bs, b ≤ 255) (h0:bs ≠ []) (hl:bs.length ≤ 1099511627776) {w:World} {B:Heap} {C:Nat → Prop} (hB:B.Le (hp w)) (hr:(GBd bb bs).P B w C) (hC:∀ k, C k → k < w.heap.size ∧ B k = none) :
  RetX Tryz.prog 124 [za0 bb] w B C GNo (.string (zcr bs)):=by
 unfold RetX
 refine zag 900 (GBd bb bs) Tryz.func124 rfl Tryz.ntmps124 (Nat.le_of_ble_eq_true rfl) hB hr hC ?_
 refine zin (X:=Value × Value) 900 (r:=fun x => (GBv bb bs x).res) (φ:=fun x _ => z2u bb x) (hφ:=ze1 bb) rfl fun x H0 hs0 hx => ?_
 obtain ⟨p, sv⟩:=x
 obtain ⟨hpp, hsl⟩:=hx
 dsimp only at hpp hsl ⊢
 obtain ⟨p1, k1, c1, rfl⟩:=hsl
 refine zdk (r1:=zaj bb [p, .slice p1 k1 c1] zjn) (r2:=(GSl (.slice p1 k1 c1) bs).res) 900 901 rfl (zaq _) ?_
 rw [znk]
 refine z4w 901 _ rfl (z02 h0) fun hk => ?_
 obtain ⟨b, cap, hv, hcap⟩:=hk
 cases hv
 have hlp:0 < bs.length:=List.length_pos_iff.2 h0
 refine ZG ?_;refine Zd ?_;refine q6 (id:=1) [(200006, [900]), (200011, [900]), (13, [901])] mixed (by kernel_rfl) ?_;refine ZaE ?_;refine z8 (zo2 rfl rfl rfl (by omega)) rfl ?_;refine ZcY ?_;refine za6 (zo1 (q:=901) hb h0 hl rfl rfl rfl rfl rfl (by kernel_rfl) (by kernel_rfl)) rfl rfl ?_;refine ZB ?_
 exact za2 L 901 (r:=GNo) (rs:=[.tmp 2]) rfl (fun _ _ h => h) hs0 rfl rfl (fun _ => rfl)
theorem zjt {bb:Nat} {p:Value} {w:World} {B:Heap} {C:Nat → Prop} (hB:B.Le (hp w)) (hr:(zab bb [p, .slice none 0 0] zjn).P B w C) (hC:∀ k, C k → k < w.heap.size ∧ B k = none) :
  RetX Tryz.prog 124 [za0 bb] w B C (zab bb [p, .slice none 0 0] zjn) (.string .empty):=by
 unfold RetX
 refine zag 900 (zab bb [p, .slice none 0 0] zjn) Tryz.func124 rfl Tryz.ntmps124 (Nat.le_of_ble_eq_true rfl) hB hr hC ?_
 rw [zae]
 refine ZG ?_;refine Zd ?_;refine q6 (id:=1) [(200006, [900]), (200011, [900])] mixed (by kernel_rfl) ?_;refine ZaE ?_;refine z8 (zm5 rfl rfl rfl) rfl ?_;refine ZcY ?_;refine z8 (zm4 rfl rfl rfl rfl) rfl ?_;refine ZB ?_
 exact za2 L 900 (r:=zab bb _ zjn) (rs:=[.tmp 2]) rfl (fun _ _ h => h) Since.refl rfl rfl (fun _ => rfl)
end Go.V.Bd
set_option maxRecDepth 20000
namespace Go.V.L2
open Go.Proofs Go.RowKit Go.V
theorem _root_.Go.V.Zd9 {A B:Prop} (h:B) (t:Wr B → A:=by intro h; refine z8 (yh L (vs:=[_, _, _, _, _, _]) rfl rfl rfl rfl rfl ⟨_, rfl⟩) rfl ?_;exact h.h):A:=t ⟨h⟩
theorem _root_.Go.V.Zcv {A B:Prop} (h:B) (t:Wr B → A:=by intro h; refine z7 (y5 (cs:=[_, _, _, _, _, _]) rfl rfl z60 rfl rfl) rfl ?_;exact h.h):A:=t ⟨h⟩
theorem _root_.Go.V.ZcE {A B:Prop} (h:B) (t:Wr B → A:=by intro h; refine z8 (zw rfl rfl rfl) rfl ?_;exact h.h):A:=t ⟨h⟩
theorem _root_.Go.V.Zgi {A B:Prop} (h:B) (t:Wr B → A:=by intro h; refine z8 (zz L (vs:=[_, _, _]) (qn rfl) rfl rfl rfl rfl ⟨_, rfl⟩) rfl ?_;exact h.h):A:=t ⟨h⟩
theorem _root_.Go.V.ZeE {A B:Prop} (h:B) (t:Wr B → A:=by intro h; refine z8 (yl rfl rfl rfl rfl (decide_eq_true (by omega))) rfl ?_;exact h.h):A:=t ⟨h⟩
theorem _root_.Go.V.ZdZ {A B:Prop} (h:B) (t:Wr B → A:=by intro h; refine q6 (id:=4) [] mixed (by kernel_rfl) ?_;exact h.h):A:=t ⟨h⟩
theorem _root_.Go.V.Zfp {A B:Prop} (h:B) (t:Wr B → A:=by intro h; refine z8 (yl rfl rfl rfl rfl (decide_eq_false (by omega))) rfl ?_;exact h.h):A:=t ⟨h⟩
theorem _root_.Go.V.Za8 {A B:Prop} (h:B) (t:Wr B → A:=by intro h; refine ZI ?_;refine Zba ?_;exact h.h):A:=t ⟨h⟩
theorem _root_.Go.V.ZeW {A B:Prop} (h:B) (t:Wr B → A:=by intro h; refine ZbU ?_;refine Zbi ?_;exact h.h):A:=t ⟨h⟩
theorem _root_.Go.V.ZaT {A B:Prop} (h:B) (t:Wr B → A:=by intro h; refine ZbC ?_;refine Ze2 ?_;exact h.h):A:=t ⟨h⟩
theorem _root_.Go.V.Zb3 {A B:Prop} (h:B) (t:Wr B → A:=by intro h; refine ZcU ?_;refine Zgi ?_;exact h.h):A:=t ⟨h⟩
theorem _root_.Go.V.Zfq {A B:Prop} (h:B) (t:Wr B → A:=by intro h; refine ZcE ?_;refine Zg ?_;exact h.h):A:=t ⟨h⟩
theorem _root_.Go.V.Zbo {A B:Prop} (h:B) (t:Wr B → A:=by intro h; refine zj ?_;refine Z2 ?_;exact h.h):A:=t ⟨h⟩
theorem _root_.Go.V.ZbG {A B:Prop} (h:B) (t:Wr B → A:=by intro h; refine ZeW ?_;refine Zi ?_;exact h.h):A:=t ⟨h⟩
theorem _root_.Go.V.ZcF {A B:Prop} (h:B) (t:Wr B → A:=by intro h; refine Zfq ?_;refine Zc7 ?_;exact h.h):A:=t ⟨h⟩
abbrev uv (t:U):Value:=.agg #[.string t.1.1.1, .string t.1.1.2, .string t.1.2, .string t.2.1.1, .string t.2.1.2, .string t.2.2]
abbrev tyU:TypeId:=34
abbrev US (l:List U) (fu:Bool):Value → Heap → Prop:=SlV tyU 6 (l.flatMap ucs) l.length fu
theorem ziq {l:List U} {i:Nat} {t:U} (h:l[i]? = some t):((l.flatMap ucs).drop (i * 6)).take 6 = [.string t.1.1.1, .string t.1.1.2, .string t.1.2, .string t.2.1.1, .string t.2.1.2, .string t.2.2]:=zdr zml l i t h
attribute [local irreducible] V N X VO Par StepOK Has Ret RetL Src
theorem zcb {t:U} (hz:TZ t) {w:World} {B:Heap} (hB:B.Le (hp w)):Ret Tryz.prog 100 [uv t] w B (fun v _ => v = .int .i64 (tE t)):=by
 obtain ⟨⟨z1, z2, z3⟩, z4, z5, z6⟩:=hz
 unfold tE
 refine qw Tryz.func100 rfl Tryz.ntmps100 (Nat.le_of_ble_eq_true rfl) hB ?_
 by_cases h:zcf [t.1.1.1, t.1.1.2, t.1.2] = 0
 ·rw [if_pos h]
  refine Ze6 ?_;refine Zal ?_;refine Zdw ?_;refine z7 (zq L rfl rfl (zn rfl) rfl rfl rfl (fun u H hH _ _ => zfc (by first | assumption | omega | decide) (by first | assumption | omega | decide) (by first | assumption | omega | decide) hH)) rfl ?_;refine Za1 ?_;refine Zad ?_;refine Zv ?_;refine Zal ?_;refine Zdw ?_;refine z7 (zq L rfl rfl (zn rfl) rfl rfl rfl (fun u H hH _ _ => zjs (by first | assumption | omega | decide) (by first | assumption | omega | decide) (by first | assumption | omega | decide) hH)) rfl ?_;refine Zc ?_
  refine qv L (rs:=[.tmp 2]) rfl (fun _ _ h => h) Since.refl fun u H hH hle => ?_
  rfl
 ·rw [if_neg h]
  refine Ze6 ?_;refine Zal ?_;refine Zdw ?_;refine z7 (zq L rfl rfl (zn rfl) rfl rfl rfl (fun u H hH _ _ => zfc (by first | assumption | omega | decide) (by first | assumption | omega | decide) (by first | assumption | omega | decide) hH)) rfl ?_;refine Za1 ?_;refine ZH ?_;refine Zm ?_;refine Zc ?_
  refine qv L (rs:=[.tmp 2]) rfl (fun _ _ h => h) Since.refl fun u H hH hle => ?_
  rfl
theorem zc6 {a b:U} {w:World} {B:Heap} (hB:B.Le (hp w)):Ret Tryz.prog 101 [uv a, uv b] w B (fun v _ => v = .int .i64 (zbs a b)):=by
 refine qw Tryz.func101 rfl Tryz.ntmps101 (Nat.le_of_ble_eq_true rfl) hB ?_
 refine Zac ?_;refine ZbS ?_;refine Zb3 ?_;refine Zb3 ?_;refine z8 (zq L rfl rfl (zn rfl) rfl rfl rfl (fun u H hH _ _ => znr hH)) rfl ?_;refine Zb3 ?_;refine Zb3 ?_;refine z8 (zq L rfl rfl (zn rfl) rfl rfl rfl (fun u H hH _ _ => cmpU_ret hH)) rfl ?_;refine Zej ?_;refine z8 (zq L rfl rfl (zn rfl) rfl rfl rfl (fun u H hH _ _ v hv => zm3 hH hv)) rfl ?_;refine ZB ?_
 refine qv L (rs:=[.tmp 4]) rfl (fun _ _ h => h) Since.refl fun u H hH hle => ?_
 rfl
theorem subjT_size (a b c:ByteArray):(zen a b c).size ≤ a.size + b.size + c.size + 2:=by
 unfold zen
 split
 ·rw [objT_size]; omega
 ·rw [goalT_size]; omega
theorem zn6 {t:U} (hz:TZ t) {w:World} {B:Heap} (hB:B.Le (hp w)):Ret Tryz.prog 123 [uv t] w B (fun v _ => v = .string (tT t)):=by
 obtain ⟨⟨z1, z2, z3⟩, z4, z5, z6⟩:=hz
 have h0:sAt.size = 1:=rfl
 have h1:=goalT_size t.1.1.1 t.1.1.2 t.1.2
 have h2:=subjT_size t.2.1.1 t.2.1.2 t.2.2
 have h3:(zdh t.1.1.1 t.1.1.2 t.1.2).size + sAt.size ≤ 9223372036854775807:=by omega
 have h4:(zdh t.1.1.1 t.1.1.2 t.1.2 ++ sAt).size + (zen t.2.1.1 t.2.1.2 t.2.2).size ≤ 9223372036854775807:=by rw [ByteArray.size_append]; omega
 refine qw Tryz.func123 rfl Tryz.ntmps123 (Nat.le_of_ble_eq_true rfl) hB ?_
 refine ZK ?_;refine ZbS ?_;refine Zb3 ?_;refine z8 (zq L rfl rfl (zn rfl) rfl rfl rfl (fun u H hH _ _ => zih (by first | assumption | omega | decide) (by first | assumption | omega | decide) (by first | assumption | omega | decide) hH)) rfl ?_;refine Zcp ?_;refine Zb3 ?_;refine z8 (zq L rfl rfl (zn rfl) rfl rfl rfl (fun u H hH _ _ => zod (by first | assumption | omega | decide) (by first | assumption | omega | decide) (by first | assumption | omega | decide) hH)) rfl ?_;refine Zcp ?_;refine ZB ?_
 refine qv L (rs:=[.tmp 2]) rfl (fun _ _ h => h) Since.refl fun u H hH hle => ?_
 rfl
set_option maxHeartbeats 1000000 in
theorem zem {s:ByteArray} {r:U × Int} (hr:ptA s = r) (hs:s.size ≤ 1000000) {w:World} {B:Heap} (hB:B.Le (hp w)) (hM:GlobM B) :
  Ret Tryz.prog 63 [.string s] w B (fun v _ => v = .tuple #[uv r.1, .int .i64 r.2]):=by
 subst hr
 have hz:=zhf s 64
 have hz1:(zcy s 64).1.size ≤ 1000000:=by omega
 have hz2:(zcy s 64).2.1.size ≤ 1000000:=by omega
 unfold ptA
 refine qw Tryz.func63 rfl Tryz.ntmps63 (Nat.le_of_ble_eq_true rfl) hB ?_
 cases h1:(zcy s 64).2.2
 ·rw [if_neg (fun h => by cases h.1)]
  refine Zb7 ?_;refine z7 (zq L rfl rfl (zn rfl) rfl rfl rfl (fun u H hH hle _ => zej (by assumption) hH (GlobM.mono (by assumption) hle) (by assumption))) rfl ?_;refine Zbh ?_;refine ZdT ?_;refine ZeT ?_;refine Ze3 ?_;refine Zbt ?_;refine Zx ?_;refine Zcv ?_;refine ZaJ ?_
  refine qv L (rs:=[.cell 2 34, .tmp 3]) rfl (fun _ _ h => h) Since.refl fun u H hH hle => ?_
  exact ⟨_, qp rfl, rfl, rfl⟩
 ·cases h2:zp0 (zcy s 64).2.1 64
  ·rw [if_pos ⟨rfl, rfl⟩]
   rcases hp:pgA (zcy s 64).1 with ⟨a, b, c, e⟩
   dsimp only
   by_cases he:e = 0
   ·rw [if_pos he]
    rcases hq:psA (zcy s 64).2.1 with ⟨a', b', c', e'⟩
    dsimp only
    by_cases he':e' = 0
    ·rw [if_pos he']
     refine Zb7 ?_;refine z7 (zq L rfl rfl (zn rfl) rfl rfl rfl (fun u H hH hle _ => zej (by assumption) hH (GlobM.mono (by assumption) hle) (by assumption))) rfl ?_;refine Zbh ?_;refine ZdT ?_;refine ZeT ?_;refine Zb ?_;refine z7 (zq L rfl rfl (zn rfl) rfl rfl rfl (fun u H hH _ _ => zbn hH (by assumption))) rfl ?_;refine Za7 ?_;refine Zk ?_;refine z7 (zq L rfl rfl (zn rfl) rfl rfl rfl (fun u H hH hle _ => zqo (by first | assumption | rfl) (by first | assumption | omega | decide) hH (GlobM.mono (by assumption) hle))) rfl ?_;refine ZbG ?_;refine ZN ?_;refine Zad ?_;refine ZO ?_;refine z7 (zq L rfl rfl (zn rfl) rfl rfl rfl (fun u H hH hle _ => zva (by first | assumption | rfl) (by first | assumption | omega | decide) hH (GlobM.mono (by assumption) hle))) rfl ?_;refine ZbG ?_;refine ZZ ?_;refine Zad ?_;refine Zay ?_;refine Zfk ?_;refine Zfk ?_;refine Zcv ?_;refine ZaJ ?_
     refine qv L (rs:=[.cell 2 34, .tmp 3]) rfl (fun _ _ h => h) Since.refl fun u H hH hle => ?_
     exact ⟨_, qp rfl, rfl, rfl⟩
    ·rw [if_neg he']
     refine Zb7 ?_;refine z7 (zq L rfl rfl (zn rfl) rfl rfl rfl (fun u H hH hle _ => zej (by assumption) hH (GlobM.mono (by assumption) hle) (by assumption))) rfl ?_;refine Zbh ?_;refine ZdT ?_;refine ZeT ?_;refine Zb ?_;refine z7 (zq L rfl rfl (zn rfl) rfl rfl rfl (fun u H hH _ _ => zbn hH (by assumption))) rfl ?_;refine Za7 ?_;refine Zk ?_;refine z7 (zq L rfl rfl (zn rfl) rfl rfl rfl (fun u H hH hle _ => zqo (by first | assumption | rfl) (by first | assumption | omega | decide) hH (GlobM.mono (by assumption) hle))) rfl ?_;refine ZbG ?_;refine ZN ?_;refine Zad ?_;refine ZO ?_;refine z7 (zq L rfl rfl (zn rfl) rfl rfl rfl (fun u H hH hle _ => zva (by first | assumption | rfl) (by first | assumption | omega | decide) hH (GlobM.mono (by assumption) hle))) rfl ?_;refine ZbG ?_;refine ZZ ?_;refine ZH ?_;refine Zaj ?_;refine Zcv ?_;refine ZbV ?_
     refine qv L (rs:=[.cell 2 34, .tmp 3]) rfl (fun _ _ h => h) Since.refl fun u H hH hle => ?_
     exact ⟨_, qp rfl, rfl, rfl⟩
   ·rw [if_neg he]
    refine Zb7 ?_;refine z7 (zq L rfl rfl (zn rfl) rfl rfl rfl (fun u H hH hle _ => zej (by assumption) hH (GlobM.mono (by assumption) hle) (by assumption))) rfl ?_;refine Zbh ?_;refine ZdT ?_;refine ZeT ?_;refine Zb ?_;refine z7 (zq L rfl rfl (zn rfl) rfl rfl rfl (fun u H hH _ _ => zbn hH (by assumption))) rfl ?_;refine Za7 ?_;refine Zk ?_;refine z7 (zq L rfl rfl (zn rfl) rfl rfl rfl (fun u H hH hle _ => zqo (by first | assumption | rfl) (by first | assumption | omega | decide) hH (GlobM.mono (by assumption) hle))) rfl ?_;refine ZbG ?_;refine ZN ?_;refine ZH ?_;refine ZQ ?_;refine Zcv ?_;refine ZbV ?_
    refine qv L (rs:=[.cell 2 34, .tmp 3]) rfl (fun _ _ h => h) Since.refl fun u H hH hle => ?_
    exact ⟨_, qp rfl, rfl, rfl⟩
  ·rw [if_neg (fun h => by cases h.2)]
   refine Zb7 ?_;refine z7 (zq L rfl rfl (zn rfl) rfl rfl rfl (fun u H hH hle _ => zej (by assumption) hH (GlobM.mono (by assumption) hle) (by assumption))) rfl ?_;refine Zbh ?_;refine ZdT ?_;refine ZeT ?_;refine Zb ?_;refine z7 (zq L rfl rfl (zn rfl) rfl rfl rfl (fun u H hH _ _ => zbn hH (by assumption))) rfl ?_;refine Zbt ?_;refine Zx ?_;refine Zcv ?_;refine ZaJ ?_
   refine qv L (rs:=[.cell 2 34, .tmp 3]) rfl (fun _ _ h => h) Since.refl fun u H hH hle => ?_
   exact ⟨_, qp rfl, rfl, rfl⟩
theorem zjp {l:List U} {fu:Bool} (hl:l.length ≤ 1000000) {r:Bool} (hr:isB l = r) {v:Value} {w:World} {B:Heap} (hB:B.Le (hp w)) (hv:US l fu v B) :
  Ret Tryz.prog 280 [v] w B (fun v _ => v = .bool r):=by
 subst hr
 refine qw Tryz.func280 rfl Tryz.ntmps280 (Nat.le_of_ble_eq_true rfl) hB ?_
 refine zbf 0 (US l fu) rfl SlV.mono hv ?_
 refine ZG ?_;refine ZaB ?_;refine ZS ?_
 refine zam (fun i:Nat => [(0, .sat (US l fu)), (3, .is (.int .i64 (i + 1:Nat)))])
  (fun i => ∀ j a b, j < i → l[j]? = some a → l[j + 1]? = some b → zbs a b < 0) (fun i => l.length - i) 0 (fun j a b h => by omega) ⟨rfl, rfl, trivial⟩ ?_
 rintro i hall
 by_cases hlt:i + 1 < l.length
 ·obtain ⟨a, ha⟩:=zap (show i < l.length by omega)
  obtain ⟨b, hb⟩:=zap hlt
  have hca:=ziq ha
  have hcb:=ziq hb
  have hsub:IntKind.i64.wrap (((i + 1:Nat):Int) - 1) = (i:Int):=zaa (by omega) (by omega) |>.trans (by omega)
  by_cases hc:zbs a b < 0
  ·refine Ze ?_;refine Z1 ?_;refine Zn ?_;refine ZaT ?_;refine ZdZ ?_;refine Zfq ?_;refine ZdY ?_;refine Zc7 ?_;refine Zd9 ?_;refine ZcF ?_;refine Zd9 ?_;refine z8 (zq L rfl rfl (zn rfl) rfl rfl rfl (fun u H hH _ _ => zc6 hH)) rfl ?_;refine Zfp ?_;refine Zbz ?_;refine zx ?_;refine Za5 ?_;refine Zm ?_;refine ZaP ?_
   exact y9 (x:=i) (i + 1) (fun j a' b' hj h1 h2 => by
    by_cases hji:j = i
    ·subst hji; rw [ha] at h1; rw [hb] at h2; cases h1; cases h2; exact hc
    ·exact hall j a' b' (by omega) h1 h2) (by omega) ⟨rfl, rfl, trivial⟩
  ·rw [z4c ha hb hc]
   refine Ze ?_;refine Z1 ?_;refine Zn ?_;refine ZaT ?_;refine ZdZ ?_;refine Zfq ?_;refine ZdY ?_;refine Zc7 ?_;refine Zd9 ?_;refine ZcF ?_;refine Zd9 ?_;refine z8 (zq L rfl rfl (zn rfl) rfl rfl rfl (fun u H hH _ _ => zc6 hH)) rfl ?_;refine ZeE ?_;refine ZbD ?_;refine Zbo ?_;refine Zc ?_
   refine qv L (rs:=[.tmp 2]) rfl (fun _ _ h => h) Since.refl fun u H hH hle => ?_
   rfl
 ·rw [z10 fun j a b h1 h2 => hall j a b (by
   have:j + 1 < l.length:=by
    rcases Nat.lt_or_ge (j + 1) l.length with h | h
    ·exact h
    ·rw [List.getElem?_eq_none h] at h2; cases h2
   omega) h1 h2]
  refine Ze ?_;refine Z1 ?_;refine Zn ?_;refine Za8 ?_;refine ZQ ?_;refine Zc ?_
  refine qv L (rs:=[.tmp 2]) rfl (fun _ _ h => h) Since.refl fun u H hH hle => ?_
  rfl
end Go.V.L2
set_option maxRecDepth 20000
namespace Go.V.L11
open Go.Proofs Go.RowKit Go.V Go.V.L2 Go.V.L4 Go.V.Bd
theorem _root_.Go.V.Zcw {A B:Prop} (h:B) (t:Wr B → A:=by intro h; refine z7 (yh L (vs:=[_, _, _, _, _, _]) rfl rfl rfl rfl rfl ⟨_, rfl⟩) rfl ?_;exact h.h):A:=t ⟨h⟩
theorem _root_.Go.V.Zea {A B:Prop} (h:B) (t:Wr B → A:=by intro h; refine z7 (zz L (vs:=[_, _, _, _, _, _]) (qn rfl) rfl rfl rfl rfl ⟨_, rfl⟩) rfl ?_;exact h.h):A:=t ⟨h⟩
theorem _root_.Go.V.ZaU {A B:Prop} (h:B) (t:Wr B → A:=by intro h; refine z7 (zz L (vs:=[_, _, _, _, _, _]) (qp rfl) rfl rfl rfl rfl ⟨_, rfl⟩) rfl ?_;exact h.h):A:=t ⟨h⟩
theorem _root_.Go.V.ZeX {A B:Prop} (h:B) (t:Wr B → A:=by intro h; refine z8 (zz L (vs:=[_, _, _, _, _, _]) (qp rfl) rfl rfl rfl rfl ⟨_, rfl⟩) rfl ?_;exact h.h):A:=t ⟨h⟩
theorem _root_.Go.V.ZaG {A B:Prop} (h:B) (t:Wr B → A:=by intro h; refine Zam ?_;refine Zy ?_;exact h.h):A:=t ⟨h⟩
theorem _root_.Go.V.ZaV {A B:Prop} (h:B) (t:Wr B → A:=by intro h; refine Zag ?_;refine Zj ?_;exact h.h):A:=t ⟨h⟩
theorem _root_.Go.V.Zcb {A B:Prop} (h:B) (t:Wr B → A:=by intro h; refine qk ?_;refine Za5 ?_;exact h.h):A:=t ⟨h⟩
theorem _root_.Go.V.Zcx {A B:Prop} (h:B) (t:Wr B → A:=by intro h; refine Zag ?_;refine Zaw ?_;exact h.h):A:=t ⟨h⟩
theorem _root_.Go.V.Zdc {A B:Prop} (h:B) (t:Wr B → A:=by intro h; refine Zau ?_;refine Zei ?_;exact h.h):A:=t ⟨h⟩
def ze9 (t:U):ByteArray:=(⟨#[]⟩ ++ tT t) ++ ⟨#[10]⟩
def zd7 (l:List U):List Nat:=l.flatMap fun t => ze0 (ze9 t)
def zpy:List U → Int
 | [] => 0
 | t :: l => if tE t ≠ 0 then tE t else zpy l
theorem zn5 {l:List U} {i:Nat} {t:U} (hi:l[i]? = some t):zpy (l.drop i) = if tE t ≠ 0 then tE t else zpy (l.drop (i + 1)):=by
 rw [List.drop_eq_getElem_cons (get_lt hi), zil hi]
 rfl
theorem zhw {l:List U} {i:Nat} {t:U} (hi:l[i]? = some t):zd7 (l.take (i + 1)) = zd7 (l.take i) ++ ze0 (ze9 t):=by
 unfold zd7
 rw [zoc hi, List.flatMap_append, List.flatMap_cons, List.flatMap_nil, List.append_nil]
theorem zfo {l:List U} (hs:∀ t ∈ l, (ze9 t).size ≤ 1000):∀ i, (zd7 (l.take i)).length ≤ i * 1000
 | 0 => by rw [List.take_zero]; exact Nat.le_refl _
 | i + 1 => by
  cases h:l[i]? with
  | none =>
   have:=List.getElem?_eq_none_iff.1 h
   rw [List.take_of_length_le (by omega)]
   have h2:=zfo hs i
   rw [List.take_of_length_le (by omega)] at h2
   omega
  | some t =>
   rw [zhw h, List.length_append, zf0]
   have h2:=zfo hs i
   have:=hs t (List.mem_of_getElem? h)
   omega
theorem zsj (s:ByteArray):∀ b ∈ ze0 s, b ≤ 255:=fun b hb => by
 obtain ⟨c, _, rfl⟩:=List.mem_map.1 hb
 have:=c.toNat_lt
 omega
theorem zxy (l:List U):∀ b ∈ zd7 l, b ≤ 255:=fun b hb => by
 obtain ⟨t, _, h⟩:=List.mem_flatMap.1 hb
 exact zsj _ b h
attribute [local irreducible] V N X VO Par StepOK Has Ret RetL RetO RetT zbd RetX RetY Src
theorem id_ret {t:U} {w:World} {B:Heap} (hB:B.Le (hp w)):Ret Tryz.prog 53 [uv t] w B (fun v _ => v = uv t):=by
 refine qw Tryz.func53 rfl Tryz.ntmps53 (Nat.le_of_ble_eq_true rfl) hB ?_
 refine ZK ?_;refine ZaV ?_;refine Z6 ?_;refine Zea ?_;refine ZaG ?_
 refine qv L (rs:=[.cell 2 34]) rfl (fun _ _ h => h) Since.refl fun u H hH hle => ?_
 exact ⟨_, qp rfl, rfl, rfl⟩
theorem none_ret {t:U} {w:World} {B:Heap} (hB:B.Le (hp w)):Ret Tryz.prog 54 [uv t] w B (fun v _ => v = .string ⟨#[]⟩):=by
 refine qw Tryz.func54 rfl Tryz.ntmps54 (Nat.le_of_ble_eq_true rfl) hB ?_
 refine Zcr ?_;refine Zc ?_
 refine qv L (rs:=[.tmp 2]) rfl (fun _ _ h => h) Since.refl fun u H hH hle => ?_
 rfl
theorem zg8 (t:U):(ze9 t).size = (tT t).size + 1:=by
 unfold ze9
 rw [ByteArray.size_append, ByteArray.size_append]
 have h1:(⟨#[]⟩:ByteArray).size = 0:=rfl
 have h2:(⟨#[10]⟩:ByteArray).size = 1:=rfl
 omega
theorem zxx {l:List U} (h:l ≠ []):zd7 l ≠ []:=fun e => by
 cases l with
 | nil => exact h rfl
 | cons t l =>
  unfold zd7 at e
  rw [List.flatMap_cons] at e
  have h1:=(List.append_eq_nil_iff.1 e).1
  have h2:=zf0 (ze9 t)
  rw [h1, zg8] at h2
  cases h2
set_option maxRecDepth 20000 in
set_option maxHeartbeats 1000000 in
theorem text_ret {l:List U} {fu:Bool} (hln:l.length ≤ 4096) (hz:∀ t ∈ l, TZ t) (hs:∀ t ∈ l, (ze9 t).size ≤ 1000) {v:Value} {w:World} {B:Heap} (hB:B.Le (hp w)) (hv:US l fu v B) :
  Ret Tryz.prog 52 [v, .func (.func 53) #[] #[], .func (.func 54) #[] #[]] w B (fun r _ => r = .tuple #[.string (if zpy l ≠ 0 then ⟨#[]⟩ else zcr (zd7 l)), .int .i64 (zpy l)]):=by
 refine qw Tryz.func52 rfl Tryz.ntmps52 (Nat.le_of_ble_eq_true rfl) hB ?_
 refine zbf 0 (US l fu) rfl SlV.mono hv ?_
 refine Zdc ?_;refine Zb2 ?_;refine Zx ?_;refine Zcx ?_
 refine za3 8 900 rfl fun bb => ?_
 by_cases hl0:l = []
 ·subst hl0
  refine Zv ?_;refine ZbT ?_
  refine zam (fun _:Nat => [(8, .is (za0 bb)), (16, .is (.int .i64 0)), (17, .is (.int .i64 0)), (900, .own (zaj bb [.pointer none, .slice none 0 0] zjn))]) (fun _ => True) (fun i => i) 0 trivial ⟨rfl, rfl, rfl, rfl, trivial⟩ ?_
  rintro _ _
  refine Zbo ?_;refine ZaC ?_;refine Z4 ?_;refine qg (yd L 900 (zab bb [.pointer none, .slice none 0 0] zjn) (.string .empty) (r:=zab bb [.pointer none, .slice none 0 0] zjn) rfl rfl rfl rfl rfl (fun u H C hH _ hr hC => zjt hH hr hC)) ?_;refine Zt ?_
  refine qv L (rs:=[.tmp 6, .tmp 7]) rfl (fun _ _ h => h) Since.refl fun u H hH hle => ?_
  rfl
 ·refine zh8 901 zt7 1 ?_
  refine Zfo ?_
  refine zme (X:=Value × Value) 900 (r:=fun x => (GBv bb [] x).res) (φ:=fun x _ => z2u bb x) (ze1 bb) (.pointer none, .slice none 0 0) ⟨.inl rfl, _, _, _, rfl⟩ rfl ?_
  refine Zv ?_;refine ZbT ?_
  refine zam (fun i:Nat => [(1, .is (.func (.func 53) #[] #[])), (2, .is (.func (.func 54) #[] #[])), (8, .is (za0 bb)), (15, .sat (US l fu)), (16, .is (.int .i64 l.length)), (17, .is (.int .i64 i)), (900, .own (GBd bb (zd7 (l.take i))).res)]) (fun i => i ≤ l.length ∧ zpy (l.drop i) = zpy l) (fun i => l.length - i) 0 ⟨Nat.zero_le _, rfl⟩ ⟨rfl, rfl, rfl, rfl, rfl, rfl, rfl, trivial⟩ ?_
  rintro i ⟨hi, hte⟩
  dsimp only at hi hte ⊢
  by_cases hlt:i < l.length
  ·obtain ⟨t, ht⟩:=zap hlt
   have hcr:=ziq ht
   have hzt:=hz t (List.mem_of_getElem? ht)
   have hst:=hs t (List.mem_of_getElem? ht)
   have hsl:=zg8 t
   rw [zn5 ht] at hte
   have hsn:=zhw ht
   have hbl:=zfo hs i
   have hwk:IntKind.i64.wrap ((i:Int) + 1) = ((i + 1:Nat):Int):=zaa (by omega) (by omega)
   by_cases he:tE t = 0
   ·rw [if_neg (fun h => h he)] at hte
    have hs1:(⟨#[]⟩:ByteArray).size + (tT t).size ≤ 9223372036854775807:=by have h1:(⟨#[]⟩:ByteArray).size = 0:=rfl; omega
    have hs2:((⟨#[]⟩:ByteArray) ++ tT t).size + (⟨#[10]⟩:ByteArray).size ≤ 9223372036854775807:=by rw [ByteArray.size_append]; have h1:(⟨#[]⟩:ByteArray).size = 0:=rfl; have h2:(⟨#[10]⟩:ByteArray).size = 1:=rfl; omega
    refine Zbo ?_;refine ZV ?_;refine ZQ ?_;refine Zbu ?_;refine Zcw ?_;refine Ze8 ?_;refine ZO ?_;refine ZaU ?_;refine z7 (zq L rfl rfl (zn rfl) rfl rfl rfl (fun u H hH _ _ => id_ret hH)) rfl ?_;refine z7 (zq L rfl rfl (zn rfl) rfl rfl rfl (fun u H hH _ _ => zcb hzt hH)) rfl ?_;refine Zd ?_;refine ZZ ?_;refine ZA ?_;refine Zdb ?_
    refine q6 (id:=10) [(37, [900])] mixed (by kernel_rfl) ?_;refine Zg ?_;refine ZeX ?_;refine z8 (zq L rfl rfl (zn rfl) rfl rfl rfl (fun u H hH _ _ => none_ret hH)) rfl ?_;refine Zg ?_;refine ZeX ?_;refine z8 (zq L rfl rfl (zn rfl) rfl rfl rfl (fun u H hH _ _ => id_ret hH)) rfl ?_;refine z8 (zq L rfl rfl (zn rfl) rfl rfl rfl (fun u H hH _ _ => zn6 hzt hH)) rfl ?_;refine Zcp ?_;refine Zcp ?_;refine za6 (yd L 900 (GBd bb (zd7 (l.take (i + 1)))) (.tuple #[.int .i64 (ze9 t).size, .nilIface]) (r:=GBd bb (zd7 (l.take i))) rfl rfl rfl rfl rfl (fun u H C hH _ hr hC => by rw [hsn]; exact write_ret (str:=ze9 t) (by omega) hH hr hC)) rfl rfl ?_;refine Zcb ?_;refine ZF ?_;refine Zz ?_;refine Zdr ?_
    exact y9 (x:=i) (i + 1) ⟨hlt, hte⟩ (by omega) ⟨rfl, rfl, rfl, rfl, rfl, rfl, rfl, trivial⟩
   ·rw [if_pos he] at hte
    refine Zbo ?_;refine ZV ?_;refine ZQ ?_;refine Zbu ?_;refine Zcw ?_;refine Ze8 ?_;refine ZO ?_;refine ZaU ?_;refine z7 (zq L rfl rfl (zn rfl) rfl rfl rfl (fun u H hH _ _ => id_ret hH)) rfl ?_;refine z7 (zq L rfl rfl (zn rfl) rfl rfl rfl (fun u H hH _ _ => zcb hzt hH)) rfl ?_;refine Zd ?_;refine ZZ ?_;refine ZH ?_;refine Za0 ?_;refine Zt ?_
    refine qv L (rs:=[.tmp 6, .tmp 7]) rfl (fun _ _ h => h) Since.refl fun u H hH hle => ?_
    rw [← hte, if_pos he]
    rfl
  ·obtain rfl:i = l.length:=by omega
   rw [List.drop_length] at hte
   rw [List.take_length]
   have hbl:=zfo hs l.length
   rw [List.take_length] at hbl
   refine Zbo ?_;refine ZaC ?_;refine Z4 ?_;refine qg (yd L 900 GNo (.string (zcr (zd7 l))) (r:=GBd bb (zd7 l)) rfl rfl rfl rfl rfl (fun u H C hH _ hr hC => zli (zxy l) (zxx hl0) (by omega) hH hr hC)) ?_;refine Zt ?_
   refine qv L (rs:=[.tmp 6, .tmp 7]) rfl (fun _ _ h => h) Since.refl fun u H hH hle => ?_
   rw [← hte]
   rfl
end Go.V.L11
set_option maxRecDepth 20000
namespace Go.V.L11
open Go.Proofs Go.RowKit Go.V Go.V.L2 Go.V.L4 Go.V.Bd
def zge (l:List U):ByteArray × Int:=if 4096 < l.length then (⟨#[]⟩, 3) else (if zpy l ≠ 0 then ⟨#[]⟩ else zcr (zd7 l), zpy l)
attribute [local irreducible] V N X VO Par StepOK Has Ret RetL RetO RetT zbd RetX RetY Src
theorem zp9 {l:List U} {fu:Bool} {f g:Value} (hln:4096 < l.length) {v:Value} {w:World} {B:Heap} (hB:B.Le (hp w)) (hv:US l fu v B) :
  Ret Tryz.prog 52 [v, f, g] w B (fun r _ => r = .tuple #[.string ⟨#[]⟩, .int .i64 3]):=by
 refine qw Tryz.func52 rfl Tryz.ntmps52 (Nat.le_of_ble_eq_true rfl) hB ?_
 refine zbf 0 (US l fu) rfl SlV.mono hv ?_
 refine Zdc ?_;refine ZP ?_;refine ZbM ?_;refine Zt ?_
 refine qv L (rs:=[.tmp 6, .tmp 7]) rfl (fun _ _ h => h) Since.refl fun u H hH hle => ?_
 rfl
theorem zub {l:List U} {fu:Bool} (hz:∀ t ∈ l, TZ t) (hs:∀ t ∈ l, (ze9 t).size ≤ 1000) {v:Value} {w:World} {B:Heap} (hB:B.Le (hp w)) (hv:US l fu v B) :
  Ret Tryz.prog 12 [v] w B (fun r _ => r = .tuple #[.string (zge l).1, .int .i64 (zge l).2]):=by
 unfold zge
 refine qw Tryz.func12 rfl Tryz.ntmps12 (Nat.le_of_ble_eq_true rfl) hB ?_
 refine zbf 0 (US l fu) rfl SlV.mono hv ?_
 by_cases hln:4096 < l.length
 ·rw [if_pos hln]
  refine Zau ?_;refine Zap ?_;refine Zh ?_;refine z7 (zq L rfl rfl (zn rfl) rfl rfl rfl (fun u H hH hle _ v1 h1 => zp9 hln hH h1)) rfl ?_;refine ZdR ?_;refine Zt ?_
  refine qv L (rs:=[.tmp 2, .tmp 3]) rfl (fun _ _ h => h) Since.refl fun u H hH hle => ?_
  rfl
 ·rw [if_neg hln]
  refine Zau ?_;refine Zap ?_;refine Zh ?_;refine z7 (zq L rfl rfl (zn rfl) rfl rfl rfl (fun u H hH hle _ v1 h1 => text_ret (by omega) hz hs hH h1)) rfl ?_;refine ZdR ?_;refine Zt ?_
  refine qv L (rs:=[.tmp 2, .tmp 3]) rfl (fun _ _ h => h) Since.refl fun u H hH hle => ?_
  rfl
end Go.V.L11
set_option maxRecDepth 20000
namespace Go.V.L2
open Go.Proofs Go.RowKit Go.V
theorem _root_.Go.V.Zeq {A B:Prop} (h:B) (t:Wr B → A:=by intro h; refine q6 (id:=6) [] mixed (by kernel_rfl) ?_;exact h.h):A:=t ⟨h⟩
theorem _root_.Go.V.Zcy {A B:Prop} (h:B) (t:Wr B → A:=by intro h; refine ZA ?_;refine ZD ?_;exact h.h):A:=t ⟨h⟩
theorem _root_.Go.V.Zdd {A B:Prop} (h:B) (t:Wr B → A:=by intro h; refine Ze ?_;refine Zk ?_;exact h.h):A:=t ⟨h⟩
theorem zjh:∀ (l:List ByteArray), zcf l = 0 ∨ zcf l = 6
 | [] => .inl rfl
 | s :: l => by
  simp only [zcf]
  split
  ·exact zjh l
  ·rename_i h; exact .inr ((zbo s).resolve_left h)
theorem zoe (a b c:ByteArray):zgf a b c = 0 ∨ zgf a b c = 6:=by
 unfold zgf
 split <;> exact zjh _
theorem zz9 (t:U):(if zgf t.2.1.1 t.2.1.2 t.2.2 > zcf [t.1.1.1, t.1.1.2, t.1.2] then zgf t.2.1.1 t.2.1.2 t.2.2 else zcf [t.1.1.1, t.1.1.2, t.1.2]) = tE t:=by
 unfold tE
 rcases zjh [t.1.1.1, t.1.1.2, t.1.2] with h | h <;> rcases zoe t.2.1.1 t.2.1.2 t.2.2 with h' | h' <;> rw [h, h'] <;> decide
theorem eqU {t v:U} {r:Bool} (e:decide (t = v) = r):zhr [0, 0, 0, 0, 0, 0] [.string t.1.1.1, .string t.1.1.2, .string t.1.2, .string t.2.1.1, .string t.2.1.2, .string t.2.2] [.string v.1.1.1, .string v.1.1.2, .string v.1.2, .string v.2.1.1, .string v.2.1.2, .string v.2.2] = some r:=by
 subst e
 simp only [zhr, eqC]
 have h:=@z6r t v
 by_cases hh:t = v
 ·subst hh; simp
 ·rw [decide_eq_false hh]
  have h':=fun x => hh (h.1 x)
  by_cases a1:t.1.1.1 = v.1.1.1
  ·by_cases a2:t.1.1.2 = v.1.1.2
   ·by_cases a3:t.1.2 = v.1.2
    ·by_cases a4:t.2.1.1 = v.2.1.1
     ·by_cases a5:t.2.1.2 = v.2.1.2
      ·by_cases a6:t.2.2 = v.2.2
       ·exact absurd ⟨a1, a2, a3, a4, a5, a6⟩ h'
       ·simp [a6]
      ·simp [a5]
     ·simp [a4]
    ·simp [a3]
   ·simp [a2]
  ·simp [a1]
theorem zuo {α:Type} {l:List α} {k:Nat} {g:α} (h:l[k]? = some g):l.take (k + 1) = l.take k ++ [g]:=by rw [List.take_add_one, h]; rfl
theorem zii {α:Type} {l:List α} {k:Nat} {g:α} (h:l[k]? = some g):l.drop k = g :: l.drop (k + 1):=by
 obtain ⟨hl, he⟩:=List.getElem?_eq_some_iff.1 h
 rw [List.drop_eq_getElem_cons hl, he]
theorem zxp {κ:Kap} {s:Nat} {r:List U} {t:U} (h:κ s = some (.own (SlR tyU 6 (r.length + 1) (r.flatMap ucs ++ [.string t.1.1.1, .string t.1.1.2, .string t.1.2, .string t.2.1.1, .string t.2.1.2, .string t.2.2])))):κ s = some (.own (SlR tyU 6 (r ++ [t]).length ((r ++ [t]).flatMap ucs))):=by
 rw [h, List.flatMap_append, List.length_append]; rfl
attribute [local irreducible] V N X VO Par StepOK Has Ret RetL Src
theorem zj3 {t:U} (hz:TZ t) {w:World} {B:Heap} (hB:B.Le (hp w)):Ret Tryz.prog 58 [uv t] w B (fun v _ => v = .int .i64 (tE t)):=by
 obtain ⟨⟨z1, z2, z3⟩, z4, z5, z6⟩:=hz
 have hm:=zz9 t
 refine qw Tryz.func58 rfl Tryz.ntmps58 (Nat.le_of_ble_eq_true rfl) hB ?_
 refine ZK ?_;refine ZbS ?_;refine Zb3 ?_;refine z8 (zq L rfl rfl (zn rfl) rfl rfl rfl (fun u H hH _ _ => zov (by first | assumption | omega | decide) (by first | assumption | omega | decide) (by first | assumption | omega | decide) hH)) rfl ?_;refine Zb3 ?_;refine z8 (zq L rfl rfl (zn rfl) rfl rfl rfl (fun u H hH _ _ => zig (by first | assumption | omega | decide) (by first | assumption | omega | decide) (by first | assumption | omega | decide) hH)) rfl ?_;refine z8 (zgi rfl rfl rfl rfl (by assumption)) rfl ?_;refine ZB ?_
 refine qv L (rs:=[.tmp 2]) rfl (fun _ _ h => h) Since.refl fun u H hH hle => ?_
 rfl
theorem zlp {t:U} (hz:TZ t) {w:World} {B:Heap} (hB:B.Le (hp w)):Ret Tryz.prog 59 [uv t] w B (fun v _ => v = .string (tT t)):=by
 obtain ⟨⟨z1, z2, z3⟩, z4, z5, z6⟩:=hz
 have h0:sAt.size = 1:=rfl
 have h1:=goalT_size t.1.1.1 t.1.1.2 t.1.2
 have h2:=subjT_size t.2.1.1 t.2.1.2 t.2.2
 have h3:(zdh t.1.1.1 t.1.1.2 t.1.2).size + sAt.size ≤ 9223372036854775807:=by omega
 have h4:(zdh t.1.1.1 t.1.1.2 t.1.2 ++ sAt).size + (zen t.2.1.1 t.2.1.2 t.2.2).size ≤ 9223372036854775807:=by rw [ByteArray.size_append]; omega
 refine qw Tryz.func59 rfl Tryz.ntmps59 (Nat.le_of_ble_eq_true rfl) hB ?_
 refine ZK ?_;refine ZbS ?_;refine Zb3 ?_;refine z8 (zq L rfl rfl (zn rfl) rfl rfl rfl (fun u H hH _ _ => zmw (by first | assumption | omega | decide) (by first | assumption | omega | decide) (by first | assumption | omega | decide) hH)) rfl ?_;refine Zcp ?_;refine Zb3 ?_;refine z8 (zq L rfl rfl (zn rfl) rfl rfl rfl (fun u H hH _ _ => zmv (by first | assumption | omega | decide) (by first | assumption | omega | decide) (by first | assumption | omega | decide) hH)) rfl ?_;refine Zcp ?_;refine ZB ?_
 refine qv L (rs:=[.tmp 2]) rfl (fun _ _ h => h) Since.refl fun u H hH hle => ?_
 rfl
theorem zs9 {a b:List U} {fa fb:Bool} (hla:a.length ≤ 1000000) (hlb:b.length ≤ 1000000) {e:Int} (he:(if a = b then 1 else 0:Int) = e) {va vb:Value} {w:World} {B:Heap} (hB:B.Le (hp w)) (ha:US a fa va B) (hb:US b fb vb B) :
  Ret Tryz.prog 18 [va, vb] w B (fun v _ => v = .int .i64 e):=by
 subst he
 refine qw Tryz.func18 rfl Tryz.ntmps18 (Nat.le_of_ble_eq_true rfl) hB ?_
 refine zbf 0 (US a fa) rfl SlV.mono ha ?_
 refine zbf 1 (US b fb) rfl SlV.mono hb ?_
 by_cases hlen:a.length = b.length
 ·refine ZG ?_;refine Zei ?_;refine Zn ?_;refine Zcy ?_;refine Zx ?_;refine ZS ?_
  refine zam (fun i:Nat => [(0, .sat (US a fa)), (1, .sat (US b fb)), (5, .is (.int .i64 i))])
   (fun i => i ≤ a.length ∧ a.take i = b.take i) (fun i => a.length - i) 0 ⟨Nat.zero_le _, rfl⟩ ⟨rfl, rfl, rfl, trivial⟩ ?_
  rintro i ⟨hi, he⟩
  by_cases hlt:i < a.length
  ·obtain ⟨x, hx⟩:=zap hlt
   obtain ⟨y, hy⟩:=zap (show i < b.length by omega)
   have hcx:=ziq hx
   have hcy:=ziq hy
   by_cases hxy:x = y
   ·have hq:=eqU (decide_eq_true hxy)
    refine Zdd ?_;refine Zn ?_;refine ZaT ?_;refine Zeq ?_;refine ZcF ?_;refine Zd9 ?_;refine ZcF ?_;refine Zd9 ?_;refine z8 (zm8 rfl rfl rfl rfl z6j (by assumption) rfl) rfl ?_;refine Zbz ?_;refine zx ?_;refine Za5 ?_;refine ZN ?_;refine ZaP ?_
    exact y9 (x:=i) (i + 1) ⟨hlt, by rw [zuo hx, zuo hy, he, hxy]⟩ (by omega) ⟨rfl, rfl, rfl, trivial⟩
   ·have hq:=eqU (decide_eq_false hxy)
    have h1:a ≠ b:=fun e => by subst e; rw [hx] at hy; exact hxy (Option.some.inj hy)
    rw [if_neg h1]
    refine Zdd ?_;refine Zn ?_;refine ZaT ?_;refine Zeq ?_;refine ZcF ?_;refine Zd9 ?_;refine ZcF ?_;refine Zd9 ?_;refine z8 (zm8 rfl rfl rfl rfl z6j (by assumption) rfl) rfl ?_;refine ZbD ?_;refine zj ?_;refine ZL ?_;refine Zc ?_
    refine qv L (rs:=[.tmp 4]) rfl (fun _ _ h => h) Since.refl fun u H hH hle => ?_
    rfl
  ·obtain rfl:i = a.length:=by omega
   have h1:a = b:=by rw [List.take_length, hlen, List.take_length] at he; exact he
   rw [if_pos h1]
   refine Zdd ?_;refine Zn ?_;refine Za8 ?_;refine Z7 ?_;refine Zc ?_
   refine qv L (rs:=[.tmp 4]) rfl (fun _ _ h => h) Since.refl fun u H hH hle => ?_
   rfl
 ·have h1:a ≠ b:=fun e => hlen (by rw [e])
  rw [if_neg h1]
  refine ZG ?_;refine Zei ?_;refine Zn ?_;refine ZH ?_;refine ZU ?_;refine Zc ?_
  refine qv L (rs:=[.tmp 4]) rfl (fun _ _ h => h) Since.refl fun u H hH hle => ?_
  rfl
end Go.V.L2
