/- Texts on the way to WiresParse, part 5: one behind another. -/
import Derived.Test.YtefilnnomholbaaGreatWiresParseM4
import Derived.RecoverIn
import Derived.Sort.LotD5
import Derived.Sort.Walk7
import Derived.Sort.WalkA14
import Derived.Sort.Walk13
import Derived.Lib.IndexAny
set_option linter.unusedVariables false
set_option linter.unusedSimpArgs false
set_option maxRecDepth 20000
namespace Go.V
open Go.RowKit
section rec
variable {F:Fence} {nn:Nat} {P:Program} {Q:Exit → Act → List Frame → World → Prop} {a:Act} {cs:List Frame} {w:World}
theorem zlz {id d:Nat} {o:Oper} {l:List Oper} {v:Value} {cs':List Frame} (hro:F.round = none) (hd:o.dst = some d) (hop:o.op = .call { callee:=.builtin .recover, args:=#[], argTypes:=#[] }) (hgd:o.guard = none) (hrec:(recoverD cs = some (v, cs')) ∨ (recoverD cs = none ∧ v = .nilIface ∧ cs' = cs))
  (h:wpOpsIn F nn P (o :: l).toArray (fun e a' w' => Q e a' cs' w') (List.range' 1 l.length) (a.put (some d) v) w):(Code.region id (o :: l).toArray false).wpSIn F nn P Q a cs w:=fun b k hb hr hF hroom => by
 have hlen:cs'.length = cs.length:=by
  rcases hrec with h | ⟨_, _, rfl⟩
  ·exact recoverD_length h
  ·rfl
 obtain ⟨e, a', w', hq, harr⟩:=wp_opsIn _ _ _ h b k cs' (hr.trans hro.symm) hF (hlen ▸ hroom)
 have hsz:List.range (o :: l).toArray.size = 0 :: List.range' 1 l.length:=by rw [List.range_eq_range']; simp [List.range'_succ]
 have ho:(o :: l).toArray[0]? = some o:=by simp
 have hw:Region.wanted o (yielded (o :: l).toArray a.tmps) = true:=by unfold Region.wanted; rw [hgd]
 have hg:=stepGR_op (P:=P) (b:=b) (k:=k) (cs:=cs) (w:=w) (rest:=List.range' 1 l.length) ho hw
 rw [hr, Oper.semAt_none] at hg
 have hrun:(execOp a.eval o).run P w = .ok .recover w:=by unfold execOp; rw [hop]; rfl
 have hfin:∀ v, (b.atR a (.inRegion (o :: l).toArray (0 :: List.range' 1 l.length) :: k)).finish v = b.atR (a.put o.dst v) (.inRegion (o :: l).toArray (List.range' 1 l.length) :: k):=by
  intro v; rw [Frame.finish_atR, ho]; rfl
 have hk:(b.atR a (.inRegion (o :: l).toArray (0 :: List.range' 1 l.length) :: k)).kind = .deferred:=hb
 have htr:=tryRecover_deferred hk cs
 have habout:∀ f, o.about P w a.eval = some f → F.fn f:=fun f hf => by
  unfold Oper.about at hf
  rw [hop] at hf
  cases hf
 have hst:step P (lone (b.atR a (.inRegion (o :: l).toArray (0 :: List.range' 1 l.length) :: k)) cs w) = .next (lone (b.atR (a.put (some d) v) (.inRegion (o :: l).toArray (List.range' 1 l.length) :: k)) cs' w):=by
  refine step_lone_go ?_
  rw [hg, ← hd, ← hfin]
  simp only [Frame.atR, hr] at htr ⊢
  rcases hrec with h1 | ⟨h1, rfl, rfl⟩
  ·simp [stepG.apply, hrun, htr, h1]
  ·simp [stepG.apply, hrun, htr, h1]
 have hreg:step P (lone (b.atR a (.code (.region id (o :: l).toArray false) :: k)) cs w) = _:=stepR_region
 rw [hsz] at hreg
 exact ⟨e, a', cs', w', hlen, hq, .of_steps (.one (fenced_calm hF hroom rfl) hreg) (.of_steps (.one (fenced_oper hF hroom ho habout) hst) harr)⟩
end rec
section code
variable {P:Program} {F:Fr} {B:Heap} {n:Nat} {O:Boxes} {κ:Kap} {Q:Exit → Act → World → Prop} {ops:Array Oper}
def QR (P:Program) (F:Fr) (ops:Array Oper) (K:Nat) (Q:Exit → Act → World → Prop):Exit → Act → World → Prop:=fun _ a u => wpOpsIn (FW F.r) 0 P ops Q (List.range' K (ops.size - K)) a u
theorem zhb {id:Nat} {l:List Oper} (K:Nat) (hK:Nat.ble K l.length = true) (h:VO P F B n O l.toArray κ (l.take K) (QR P F l.toArray K Q)):V P F B n O κ (.region id l.toArray false) Q:=fun a u hh => by
 refine wpIn_region ?_
 have hK:=Nat.le_of_ble_eq_true hK
 have hsplit:List.range l.toArray.size = List.range' 0 K ++ List.range' K (l.toArray.size - K):=by
  rw [List.range_eq_range']
  have:=List.range'_append_1 (s:=0) (m:=K) (n:=l.toArray.size - K)
  rw [Nat.zero_add] at this
  rw [this, Nat.add_sub_cancel' (by simpa using hK)]
 rw [hsplit]
 have key:∀ (m i:Nat) {a:Act} {u:World}, i + m = K → Ops P l.toArray (fun a u => QR P F l.toArray K Q .normal a u) ((l.drop i).take m) a u →
   wpOpsIn (FW F.r) 0 P l.toArray Q (List.range' i m ++ List.range' K (l.toArray.size - K)) a u:=by
  intro m
  induction m with
  | zero =>
   intro i a u hi ho
   rw [List.take_zero] at ho
   exact ho
  | succ m ih =>
   intro i a u hi ho
   have hil:i < l.length:=by omega
   rw [List.drop_eq_getElem_cons hil, List.take_succ_cons] at ho
   have hg:l.toArray[i]? = some l[i]:=by rw [List.getElem?_toArray, List.getElem?_eq_getElem hil]
   rw [List.range'_succ, List.cons_append, wpOpsIn_cons]
   exact After.wpOpIn hg (After.mono (fun a' u' hh' => ih (i + 1) (by omega) hh') ho)
 exact key K 0 (by omega) (by rw [List.drop_zero]; exact h a u hh)
abbrev dfd (f:Nat) (cap:List Value):Deferred:={ target:=.fn (.func f) cap.toArray, args:=#[] }
theorem zmm {K:Nat} {ty:TypeId} {pos:String} {aft:Array Edge} {f:Nat} {cap:List Value} {fo:Operand} (hds:F.ds = []) (hr:F.r = none)
  (ho:ops[K]? = some ⟨none, .defer { callee:=.value fo, args:=#[], argTypes:=#[] }, ty, pos, aft, none⟩) (hf:evK κ fo = some (.func (.func f) #[] cap.toArray))
  (h:VO P ⟨F.w0, F.r, [.u (dfd f cap)], F.L⟩ B n O ops κ (ops.toList.drop (K + 1)) Q):N F B n O κ (QR P F ops K Q):=by
 rintro a u ⟨H, fp, hh⟩
 have hKs:K < ops.size:=by
  rcases Nat.lt_or_ge K ops.size with h | h
  ·exact h
  ·rw [Array.getElem?_eq_none h] at ho; cases ho
 unfold QR
 rw [show ops.size - K = (ops.size - (K + 1)) + 1 by omega, List.range'_succ, wpOpsIn_cons]
 unfold wpOpIn
 rw [ho]
 dsimp only
 rw [if_pos (by unfold Region.wanted; rfl)]
 have e2:=hh.env (ops:=ops) (o:=⟨none, .defer { callee:=.value fo, args:=#[], argTypes:=#[] }, ty, pos, aft, none⟩) (κ:=κ) (fun _ _ => rfl)
 have hfe:a.eval fo = .func (.func f) #[] cap.toArray:=e2.is_ fo _ (by simp [Op.operands, Call.operands]) hf
 refine ⟨fun _ _ => trivial, ?_⟩
 have hround:(FW F.r).round = none:=by rw [hr]; rfl
 rw [hround, Oper.semAt_none]
 have hrun:(execOp a.eval ⟨none, .defer { callee:=.value fo, args:=#[], argTypes:=#[] }, ty, pos, aft, none⟩).run P u = .ok (.defer (dfd f cap)) u:=by
  unfold execOp
  dsimp only
  simp only [resolve, hfe, Deferred.ofValue, Sem.run_bind, Sem.run_pure, Result.andThen_ok]
  simp [dfd]
 rw [hrun, Oper.uponIn_defer]
 have had:a.defers = []:=by have:=hh.defers; rw [hds] at this; exact this
 refine zea (fun _ _ h => h) (ops.size - (K + 1)) (K + 1) (by omega) (h _ u ⟨H, fp, ?_⟩)
 exact ⟨hh.size, by show dfd f cap :: a.defers = _; rw [had]; rfl, by simp, fun D hD => by simp at hD, hh.lent, hh.keep, hh.sub, hh.base, hh.fresh, hh.boxes, hh.apart, hh.slot, hh.owns, hh.mono⟩
def zs3 (P:Program) (f:Nat) (args:List Value) (w:World) (B:Heap) (C:Nat → Prop) (m m':FrameMode) (r:GR):Prop :=
 CallsDIn Fence.wide 0 P f args.toArray m w fun e u' w' => e = .returned (.tuple #[]) ∧ u' = m' ∧ ∃ H, Grow C w B w' H ∧ ∃ C', r.P H w' C' ∧ ∀ k, C' k → (C k ∨ w.heap.size ≤ k) ∧ k < w'.heap.size ∧ H k = none
def z02 (P:Program) (fn:Func) (R:World → Prop):Exit → Act → World → Prop
 | .normal, a, w | .ret, a, w => a.defers = [] ∧ (results fn a.tmps).run P w = .ok (.tuple #[]) w ∧ R w
 | _, _, _ => False
inductive RecM:FrameMode → FrameMode → Value → Prop where
 | idle:RecM .returning .returning .nilIface
 | caught (v:Value):RecM (.panicking [{ v:=v, recovered:=false }]) (.panicking [{ v:=v, recovered:=true }]) v
theorem zya {f:Nat} {fn:Func} {id d:Nat} {o:Oper} {l:List Oper} {y:Code} {args:List Value} {w:World} {B:Heap} {C:Nat → Prop} {m m':FrameMode} {v:Value} (gs:Nat) (r0 r:GR) (hm:RecM m m' v) (hf:P.funcs[f]? = some fn)
  (hb:fn.body = some (.seq (.region id (o :: l).toArray false) y)) (hn:fn.ntmps = n) (hs:args.length ≤ n) (hd:o.dst = some d) (hdn:Nat.blt d n = true) (hop:o.op = .call { callee:=.builtin .recover, args:=#[], argTypes:=#[] }) (hgd:o.guard = none) (hB:B.Le (hp w)) (hr:r0.P B w C) (hC:∀ k, C k → k < w.heap.size ∧ B k = none)
  (h:VO P ⟨w, none, [], C⟩ B n [] (o :: l).toArray (upd (upd (zh0 0 args) gs (.own r0.res)) d (.is v)) l (Exit.then (fun a u => y.wpIn (FW none) 0 P (z02 P fn fun u => ∃ H, Grow C w B u H ∧ ∃ C', r.P H u C' ∧ ∀ k, C' k → (C k ∨ w.heap.size ≤ k) ∧ k < u.heap.size ∧ H k = none) a u) (z02 P fn fun u => ∃ H, Grow C w B u H ∧ ∃ C', r.P H u C' ∧ ∀ k, C' k → (C k ∨ w.heap.size ≤ k) ∧ k < u.heap.size ∧ H k = none))) :
  zs3 P f args w B C m m' r:=by
 refine callsDIn_of_wpSIn hf hb trivial fun c0 cs hu => ?_
 have hrec:∃ cs', ((recoverD (c0 :: cs) = some (v, cs')) ∨ (recoverD (c0 :: cs) = none ∧ v = .nilIface ∧ cs' = c0 :: cs)) ∧ cs' = { c0 with mode:=m' } :: cs:=by
  cases hm with
  | idle => exact ⟨_, .inr ⟨by simp [recoverD, hu], rfl, rfl⟩, by rw [← hu]⟩
  | caught v => exact ⟨_, .inl (by simp [recoverD, hu]), rfl⟩
 obtain ⟨cs', hrec, rfl⟩:=hrec
 have hend:∀ e a u, z02 P fn (fun u => ∃ H, Grow C w B u H ∧ ∃ C', r.P H u C' ∧ ∀ k, C' k → (C k ∨ w.heap.size ≤ k) ∧ k < u.heap.size ∧ H k = none) e a u →
   bodyPostS P fn c0 cs (fun e u' w' => e = .returned (.tuple #[]) ∧ u' = m' ∧ ∃ H, Grow C w B w' H ∧ ∃ C', r.P H w' C' ∧ ∀ k, C' k → (C k ∨ w.heap.size ≤ k) ∧ k < w'.heap.size ∧ H k = none) e a ({ c0 with mode:=m' } :: cs) u:=fun e a u he => by
  cases e with
  | normal => exact ⟨he.1, m', rfl, _, he.2.1, rfl, rfl, he.2.2⟩
  | ret => exact ⟨he.1, m', rfl, _, he.2.1, rfl, rfl, he.2.2⟩
  | exit id => exact he.elim
  | goto l => exact he.elim
  | panic c => exact he.elim
  | outgrown => exact he.elim
 refine wpSIn_seq (zlz (cs':={ c0 with mode:=m' } :: cs) rfl hd hop hgd hrec ?_)
 subst hn
 have h0:=zeq (B:=B) C (fun k hk => (hC k hk).1) hs hB (fun _ => noL)
 have h1:HasH ⟨w, none, [], C⟩ B [] fn.ntmps (upd (zh0 0 args) gs (.own r0.res)) { tmps:=args.toArray ++ Array.replicate (fn.ntmps - args.toArray.size) undef, defers:=[] } w B _:=h0.putR (d:=gs) (r:=r0.res) rfl rfl (fun _ _ => rfl) hr (fun k hk => ⟨(hC k hk).1, (hC k hk).2, .inr hk, fun y hy => by cases hy⟩) fun t r' _ ht => by
  obtain ⟨v, hv, _⟩:=zco _ _ _ _ ht
  cases hv
 have h2:=h1.put (d:=d) (k:=.is v) (v:=v) (zk hdn) trivial rfl
 have h3:=h _ w ⟨B, _, h2⟩
 refine zea (Q:=fun a u => Exit.then (fun a u => y.wpIn (FW none) 0 P (z02 P fn fun u => ∃ H, Grow C w B u H ∧ ∃ C', r.P H u C' ∧ ∀ k, C' k → (C k ∨ w.heap.size ≤ k) ∧ k < u.heap.size ∧ H k = none) a u) (z02 P fn fun u => ∃ H, Grow C w B u H ∧ ∃ C', r.P H u C' ∧ ∀ k, C' k → (C k ∨ w.heap.size ≤ k) ∧ k < u.heap.size ∧ H k = none) .normal a u) (r:=none) (fun a u hy => ?_) l.length 1 (by simp; omega) (by simpa using h3)
 exact wpSIn_of_wpIn rfl (Go.wpIn_mono hy fun e a u he => hend e a u he)
theorem zw3 (L:Tabs P) {fn:Func} (gs:Nat) {r:GR} (hrs:fn.results = #[]) (hd:F.ds = []) (hk:κ gs = some (.own r.res)) {B0:Heap} (hs:Since F B0 B):∀ a u, Has F B O n κ a u →
  z02 P fn (fun u => ∃ H, Grow F.L F.w0 B0 u H ∧ ∃ C', r.P H u C' ∧ ∀ k, C' k → (F.L k ∨ F.w0.heap.size ≤ k) ∧ k < u.heap.size ∧ H k = none) .normal a u:=fun a u hh => by
 obtain ⟨H, fp, hH⟩:=hh
 have h0:=hH.defers
 rw [hd] at h0
 refine ⟨h0, ?_, H, ⟨hH.keep, hH.sub, hs.le.trans hH.base, fun k hk hl => (hH.fresh k hk hl).trans (hs.fresh k hk hl)⟩, HasH.ghost hk hH⟩
 obtain ⟨vs, h1, h2⟩:=zbr L hH (rs:=[]) hrs (K:=fun vs => vs = []) rfl
 subst h2
 exact h1
theorem zv7 (L:Tabs P) {fn:Func} (gs:Nat) {r r':GR} (hrs:fn.results = #[]) (hk:κ gs = some (.own r.res)) (e:r = r') {B0:Heap} (hs:Since F B0 B) (hd:F.ds = []:=by rfl) :
  N F B n O κ (z02 P fn fun u => ∃ H, Grow F.L F.w0 B0 u H ∧ ∃ C', r'.P H u C' ∧ ∀ k, C' k → (F.L k ∨ F.w0.heap.size ≤ k) ∧ k < u.heap.size ∧ H k = none):=by
 subst e
 exact zw3 L gs hrs hd hk hs
def LV (P:Program) (F:Fr) (B:Heap) (n:Nat) (O:Boxes) (κ:Kap) (fn:Func) (R:Ending → World → Prop):Prop:=∀ a u, Has F B O n κ a u → ∃ v, (results fn a.tmps).run P u = .ok v u ∧ R (.returned v) u
theorem zvd (L:Tabs P) {fn:Func} {R:Ending → World → Prop} {f:Nat} {cap:List Value} {m m':FrameMode} (q:Nat) {r r':GR} (hds:F.ds = [.u (dfd f cap)]) (hfn:L.fn f = some ()) (hq:κ q = some (.own r.res)) (hm:m ≠ .run) (hm':settle m' = .returning)
  (hc:∀ u H C, H.Le (hp u) → B.Le H → r.P H u C → (∀ k, C k → k < u.heap.size ∧ H k = none) → zs3 P f cap u H C m m' r') (h:LV P ⟨F.w0, F.r, [], F.L⟩ B n O (upd κ q (.own r'.res)) fn R) :
  ∀ a u, Has F B O n κ a u → LeavesInM Fence.wide 0 P fn a.tmps R a.defers m u:=fun a u hh => by
 obtain ⟨H, fp, hH⟩:=hh
 have h0:=hH.defers
 rw [hds] at h0
 rw [h0]
 obtain ⟨hown, hM⟩:=hH.slot q _ hq
 have hc:=hc u H (fp q) hH.sub hH.base hown fun k hk => ⟨(hM k hk).1, (hM k hk).2.1⟩
 refine ⟨hm, .inr ⟨fun h => (by cases h), .func f, cap.toArray, f, cap.toArray, rfl, ?_, fun _ _ => trivial, ?_⟩⟩
 ·show (callFunc f (#[] ++ cap.toArray)).run P u = _
  rw [zc8 L hfn]
  simp
 ·refine CallsDIn.mono hc fun e u' w' hp => ?_
  obtain ⟨rfl, rfl, H', g', C', hr', hC'⟩:=hp
  show LeavesInM Fence.wide 0 P fn a.tmps R [] (settle u') w'
  rw [hm']
  have h2:=hH.usePut (d:=q) (a':=a) (r':=r'.res) hq g' rfl rfl (fun _ _ => rfl) hr' hC'
  rw [zbw] at h2
  exact h { a with defers:=[] } w' ⟨H', _, h2.size, rfl, List.nodup_nil, fun D hD => (by cases hD), h2.lent, h2.keep, h2.sub, h2.base, h2.fresh, h2.boxes, h2.apart, h2.slot, h2.owns, h2.mono⟩
theorem zy7 (L:Tabs P) {fn:Func} {R:Ending → World → Prop} {pv:Value} {f:Nat} {cap:List Value} (q:Nat) {r r':GR} (hds:F.ds = [.u (dfd f cap)]) (hfn:L.fn f = some ()) (hq:κ q = some (.own r.res))
  (hc:∀ u H C, H.Le (hp u) → B.Le H → r.P H u C → (∀ k, C k → k < u.heap.size ∧ H k = none) → zs3 P f cap u H C (.panicking [{ v:=pv, recovered:=false }]) (.panicking [{ v:=pv, recovered:=true }]) r') (h:LV P ⟨F.w0, F.r, [], F.L⟩ B n O (upd κ q (.own r'.res)) fn R)
  (hQ:∀ a u, bodyPostM Fence.wide 0 P fn R (.panic [{ v:=pv, recovered:=false }]) a u → Q (.panic [{ v:=pv, recovered:=false }]) a u):XP F B n O κ pv Q:=fun a u hh => hQ a u (zvd L q hds hfn hq (by simp) rfl hc h a u hh)
theorem z2c (L:Tabs P) {fn:Func} {B0:Heap} {φ:Value → Heap → Prop} {rs:List ResultVar} (hrs:fn.results = rs.toArray) (hs:Since F B0 B) (h:∀ u H, H.Le (hp u) → B.Le H → zm6 L F B O κ H rs [] (fun vs => φ (tup vs) H)):LV P F B n O κ fn (ze7 F.w0 B0 F.L fun v H _ => φ v H):=fun a u hh => by
 obtain ⟨H, fp, hH⟩:=hh
 obtain ⟨vs, h1, h2⟩:=zbr L hH hrs (h u H hH.sub hH.base)
 exact ⟨_, h1, _, rfl, H, ⟨hH.keep, hH.sub, hs.le.trans hH.base, fun k hk hl => (hH.fresh k hk hl).trans (hs.fresh k hk hl)⟩, h2⟩
theorem zu4 (q g1:Nat) {fn:Func} {R:Ending → World → Prop} {r1 r2:Res} (hk:κ q = some (.own (zhf r1 r2))) (hg1:∀ v v' H u C, r2.P v H u C → r2.P v' H u C) (h:LV P F B n O (upd (upd κ q (.own r1)) g1 (.own r2)) fn R) (hne:q ≠ g1:=by decide):LV P F B n O κ fn R:=fun a u hh => h a u (hh.part hne hg1 hk)
theorem zhu (t q:Nat) {fn:Func} {R:Ending → World → Prop} {b:Nat} {cs:List Value} {ty:TypeId} (hk:κ q = some (.own (zaj b cs ty))) (ht:κ t = some (.is (.pointer (some ⟨b, 0, none⟩)))) (h:LV P F B n O (upd (upd κ q zdv) t (.own (zed cs ty))) fn R):LV P F B n O κ fn R:=fun a u hh => h a u (hh.release hk ht)
theorem zqc (q g1:Nat) {pv:Value} {r1 r2:Res} (hk:κ q = some (.own r1)) (hk1:κ g1 = some (.own r2)) (hg1:∀ v v' H u C, r2.P v H u C → r2.P v' H u C) (h:XP F B n O (upd (upd κ g1 zdv) q (.own (zhf r1 r2))) pv Q) (hne:q ≠ g1:=by decide):XP F B n O κ pv Q:=fun a u hh => h a u (hh.join2 hne hg1 hk hk1)
end code
end Go.V
set_option maxRecDepth 20000
namespace Go.V.L10
open Go.Proofs Go.RowKit Go.V Go.V.L2 Go.V.L8
def kpt (R:List (Option (List U))) (r:Int):Option (List U):=if 0 < r then (R[(r - 1).toNat]?).join else none
def zf9 (R:List (Option (List U))):List Int:=((List.range R.length).filter fun i => ((R[i]?).join).isSome).map fun i => ((i + 1:Nat):Int)
theorem zpz (R:List (Option (List U))) (i:Nat):kpt R ((i + 1:Nat):Int) = (R[i]?).join:=by
 unfold kpt
 rw [if_pos (by omega), show (((i + 1:Nat):Int) - 1).toNat = i by omega]
theorem zvf {R:List (Option (List U))} {r:Int} (h:(kpt R r).isSome = true):0 < r ∧ r ≤ R.length:=by
 unfold kpt at h
 split at h
 ·rename_i h0
  refine ⟨h0, ?_⟩
  cases hr:R[(r - 1).toNat]? with
  | none => rw [hr] at h; cases h
  | some x => have:=get_lt hr; omega
 ·cases h
theorem zob {R:List (Option (List U))} {r:Int}:r ∈ zf9 R ↔ (kpt R r).isSome = true:=by
 unfold zf9
 rw [List.mem_map]
 constructor
 ·rintro ⟨i, hi, rfl⟩
  rw [List.mem_filter] at hi
  rw [zpz]
  exact hi.2
 ·intro h
  have hb:=zvf h
  obtain ⟨i, rfl⟩:∃ i:Nat, r = ((i + 1:Nat):Int):=⟨(r - 1).toNat, by omega⟩
  rw [zpz] at h
  exact ⟨i, List.mem_filter.2 ⟨List.mem_range.2 (by omega), h⟩, rfl⟩
theorem znn (R:List (Option (List U))):Sst cP (zf9 R):=by
 unfold zf9 Sst
 rw [List.pairwise_map]
 refine (List.Pairwise.filter _ List.pairwise_lt_range).imp ?_
 intro a b h
 exact z2s.2 (by omega)
section
variable {Y:Type}
theorem zxg (k:Int):zhg k ([]:List (Int × Y)) = none:=rfl
theorem zj3 {k:Int}:∀ {l:List (Int × Y)}, (zhg k l).isSome = true ↔ k ∈ l.map Prod.fst
 | [] => by simp [zxg]
 | p :: l => by
  rw [zdw, List.map_cons, List.mem_cons]
  by_cases h:k = p.1
  ·rw [if_pos h]; simp [h]
  ·rw [if_neg h, zj3]; simp [h]
theorem zmo {k:Int} {y:Y}:∀ {l:List (Int × Y)}, zhg k l = some y → (k, y) ∈ l
 | [], h => by cases h
 | p :: l, h => by
  rw [zdw] at h
  by_cases e:k = p.1
  ·rw [if_pos e] at h
   cases h
   rw [e]; exact List.mem_cons_self ..
  ·rw [if_neg e] at h
   exact List.mem_cons_of_mem _ (zmo h)
end
structure MapOK {Y:Type} (es:List (Int × (List U × Y))) (R:List (Option (List U))):Prop where
 nd:(es.map Prod.fst).Nodup
 get:∀ r, (zhg r es).map Prod.fst = kpt R r
theorem MapOK.mem {Y:Type} {es:List (Int × (List U × Y))} {R:List (Option (List U))} (h:MapOK es R) {r:Int}:r ∈ es.map Prod.fst ↔ r ∈ zf9 R:=by
 rw [← zj3, zob, ← h.get r, Option.isSome_map]
theorem zw4 {a b:List Int} (ha:a.Nodup) (hb:b.Nodup) (h:∀ x, x ∈ a ↔ x ∈ b):a.length = b.length:=((List.perm_ext_iff_of_nodup ha hb).2 h).length_eq
theorem MapOK.len {Y:Type} {es:List (Int × (List U × Y))} {R:List (Option (List U))} (h:MapOK es R):es.length = (zf9 R).length:=by
 rw [← List.length_map (f:=Prod.fst)]
 exact zw4 h.nd ((znn R).nodup zg9) fun _ => h.mem
theorem zxk (R:List (Option (List U))) (t:List U) (r:Int):kpt (R ++ [some t]) r = if r = ((R.length + 1:Nat):Int) then some t else kpt R r:=by
 by_cases h:r = ((R.length + 1:Nat):Int)
 ·rw [if_pos h, h, zpz]; simp
 ·rw [if_neg h]
  unfold kpt
  by_cases h0:0 < r
  ·rw [if_pos h0, if_pos h0]
   rcases Nat.lt_or_ge (r - 1).toNat R.length with hlt | hge
   ·rw [List.getElem?_append_left hlt]
   ·rw [List.getElem?_eq_none (by rw [List.length_append, List.length_singleton]; omega), List.getElem?_eq_none hge]
  ·rw [if_neg h0, if_neg h0]
theorem MapOK.add {Y:Type} {es:List (Int × (List U × Y))} {R:List (Option (List U))} (h:MapOK es R) (t:List U) (y:Y):MapOK (zsg ((R.length + 1:Nat):Int) (t, y) es) (R ++ [some t]) ∧ zsg ((R.length + 1:Nat):Int) (t, y) es = es ++ [(((R.length + 1:Nat):Int), (t, y))]:=by
 have hn:((R.length + 1:Nat):Int) ∉ es.map Prod.fst:=fun hm => by
  have:=zvf (zob.1 (h.mem.1 hm)); omega
 have hf:ze1 ((R.length + 1:Nat):Int) es 0 = none:=by
  have h1:¬ (zhg ((R.length + 1:Nat):Int) es).isSome = true:=fun hs => hn (zj3.1 hs)
  unfold zhg at h1
  cases hm:ze1 ((R.length + 1:Nat):Int) es 0 with
  | none => rfl
  | some q => rw [hm] at h1; exact absurd rfl h1
 have he:zsg ((R.length + 1:Nat):Int) (t, y) es = es ++ [(((R.length + 1:Nat):Int), (t, y))]:=zj2 hf
 refine ⟨⟨?_, fun r => ?_⟩, he⟩
 ·rw [he, List.map_append, List.nodup_append]
  refine ⟨h.nd, List.pairwise_singleton _ _, fun a ha b hb => ?_⟩
  simp only [List.map_cons, List.map_nil, List.mem_singleton] at hb
  subst hb
  exact fun e => hn (e ▸ ha)
 ·rw [zqy, zxk]
  by_cases e:r = ((R.length + 1:Nat):Int)
  ·rw [if_pos e, if_pos e]; rfl
  ·rw [if_neg e, if_neg e, h.get]
structure Sto where
 R:List (Option (List U))
 P:List Int
def newS:Sto:=⟨[some []], []⟩
def atS (S:Sto) (r:Int):List U × Int:=match kpt S.R (if r = 0 then S.R.length else r) with
 | some t => (t, 0)
 | none => ([], 14)
end Go.V.L10
set_option maxRecDepth 20000
namespace Go.V.So
open Go.Proofs Go.RowKit Go.V Go.Sort
theorem _root_.Go.V.Zm {A B:Prop} (h:B) (t:Wr B → A:=by intro h; refine zd (q0 L _ rfl rfl rfl rfl rfl rfl rfl (by omega)) rfl ?_;exact h.h):A:=t ⟨h⟩
theorem _root_.Go.V.ZQ {A B:Prop} (h:B) (t:Wr B → A:=by intro h; refine z7 (y8 rfl rfl rfl rfl (by assumption)) rfl ?_;exact h.h):A:=t ⟨h⟩
theorem _root_.Go.V.Zq {A B:Prop} (h:B) (t:Wr B → A:=by intro h; refine Zs ?_;refine Zm ?_;exact h.h):A:=t ⟨h⟩
theorem _root_.Go.V.ZeE {A B:Prop} (h:B) (t:Wr B → A:=by intro h; refine Zs ?_;refine ZdZ ?_;exact h.h):A:=t ⟨h⟩
theorem _root_.Go.V.Za8 {A B:Prop} (h:B) (t:Wr B → A:=by intro h; refine Zb ?_;refine Z7 ?_;exact h.h):A:=t ⟨h⟩
theorem _root_.Go.V.Zei {A B:Prop} (h:B) (t:Wr B → A:=by intro h; refine Zeu ?_;refine Zm ?_;exact h.h):A:=t ⟨h⟩
theorem _root_.Go.V.Zba {A B:Prop} (h:B) (t:Wr B → A:=by intro h; refine Zfa ?_;refine Zfx ?_;exact h.h):A:=t ⟨h⟩
theorem _root_.Go.V.Zbi {A B:Prop} (h:B) (t:Wr B → A:=by intro h; refine ZeE ?_;refine Zm ?_;exact h.h):A:=t ⟨h⟩
abbrev lt:Int → Int → Bool:=ltInt
abbrev tyU:TypeId:=63
attribute [local irreducible] V N X VO Par StepOK Has Ret RetL RetO zbd RetX Src
theorem isnanU (a:Int) {w:World} {B:Heap} (hB:B.Le (hp w)):Ret Tryz.prog 263 [.int .u64 a] w B (fun v _ => v = .bool false):=by
 refine qt Tryz.func263 rfl Tryz.ntmps263 (Nat.le_of_ble_eq_true rfl) hB ?_
 refine ZZ ?_;refine Zb ?_;refine Zal ?_;refine Zc ?_
 refine qq L (rs:=[.tmp 2]) rfl (fun _ _ h => h) Since.refl fun u H hH hle => ?_
 rfl
theorem z3r (a b:Int) {w:World} {B:Heap} (hB:B.Le (hp w)):Ret Tryz.prog 275 [.int .u64 a, .int .u64 b] w B (fun v _ => v = .bool (lt a b)):=by
 unfold lt ltInt
 refine qt Tryz.func275 rfl Tryz.ntmps275 (Nat.le_of_ble_eq_true rfl) hB ?_
 by_cases h:a < b
 ·rw [decide_eq_true h]
  refine Zbp ?_;refine z7 (zp L rfl rfl (zk rfl) rfl rfl rfl (fun u H hH _ _ => isnanU _ hH)) rfl ?_;refine Zad ?_;refine Zr ?_;refine Zac ?_;refine Zg ?_;refine Zc ?_
  refine qq L (rs:=[.tmp 4]) rfl (fun _ _ h => h) Since.refl fun u H hH hle => ?_
  rfl
 ·rw [decide_eq_false h]
  refine Zbp ?_;refine z7 (zp L rfl rfl (zk rfl) rfl rfl rfl (fun u H hH _ _ => isnanU _ hH)) rfl ?_;refine Zad ?_;refine Zr ?_;refine Z7 ?_;refine Zg ?_;refine Zc ?_
  refine qq L (rs:=[.tmp 4]) rfl (fun _ _ h => h) Since.refl fun u H hH hle => ?_
  rfl
theorem zbb {a b:Int} {f:Bool} (h:lt a b = f) {w:World} {B:Heap} (hB:B.Le (hp w)):Ret Tryz.prog 275 [.int .u64 a, .int .u64 b] w B (fun v _ => v = .bool f):=h ▸ z3r a b hB
set_option maxHeartbeats 1000000 in
set_option maxRecDepth 20000 in
theorem ins_ret {d:Array Int} {rest:List Value} {b m cap a e:Nat} (hab:a ≤ e) (he:e ≤ d.size) (hm:d.size = m) (hm1:m ≤ 100000) {w:World} {B:Heap} {C:Nat → Prop} (hB:B.Le (hp w))
  (hr:(zab b (uC d ++ rest) tyU).P B w C) (hC:∀ k, C k → k < w.heap.size ∧ B k = none) :
  zbd Tryz.prog 269 [.slice (some ⟨b, 0, none⟩) m cap, .int .i64 a, .int .i64 e] w B C (zab b (uC (insertionSort lt d a e) ++ rest) tyU):=by
 unfold zbd
 refine zah 900 (zab b (uC d ++ rest) tyU) Tryz.func269 rfl Tryz.ntmps269 (Nat.le_of_ble_eq_true rfl) hB hr hC ?_
 rw [zae]
 have hw0:IntKind.i64.wrap ((a:Int) + 1) = ((a + 1:Nat):Int):=zaa (by omega) (by omega)
 refine ZbA ?_;refine ZM ?_;refine Zaf ?_
 refine zan (fun s:Nat × Array Int => [(0, .is (.slice (some ⟨b, 0, none⟩) m cap)), (1, .is (.int .i64 a)), (2, .is (.int .i64 e)), (6, .is (.int .i64 s.1)), (900, .own (zaj b (uC s.2 ++ rest) tyU))]) (fun s => s.1 ≤ e + 1 ∧ a < s.1 ∧ s.2.size = m ∧ insOuter lt a e s.1 s.2 = insertionSort lt d a e) (fun s => e + 1 - s.1) (a + 1, d) ⟨by omega, by omega, hm, rfl⟩ ⟨rfl, rfl, rfl, rfl, rfl, trivial⟩ ?_
 rintro ⟨i, D⟩ ⟨hi, hai, hD, hO⟩
 dsimp only at hi hai hD hO ⊢
 by_cases hlt:i < e
 ·rw [insOuter, if_pos hlt] at hO
  refine Ze ?_;refine Zn ?_;refine Zb ?_;refine ZbB ?_;refine Zk ?_;refine Zaf ?_
  refine zan (fun t:Nat × Array Int => [(0, .is (.slice (some ⟨b, 0, none⟩) m cap)), (1, .is (.int .i64 a)), (2, .is (.int .i64 e)), (6, .is (.int .i64 i)), (7, .is (.int .i64 t.1)), (900, .own (zaj b (uC t.2 ++ rest) tyU))]) (fun t => t.1 ≤ i ∧ t.2.size = m ∧ insInner lt a t.1 t.2 = insInner lt a i D) (fun t => t.1) (i, D) ⟨Nat.le_refl _, hD, rfl⟩ ⟨rfl, rfl, rfl, rfl, rfl, rfl, trivial⟩ ?_
  rintro ⟨j, E⟩ ⟨hj, hE, hI⟩
  dsimp only at hj hE hI ⊢
  rcases j with _ | j
  ·rw [insInner] at hI
   rw [hI]
   refine Ze ?_;refine Zeb ?_;refine Zs ?_;refine Zd6 ?_;refine ZbV ?_;refine Zba ?_;refine Zat ?_;refine Z2 ?_;refine Za6 ?_
   exact qy (x:=(i, D)) (i + 1, insInner lt a i D) ⟨by dsimp only; omega, by dsimp only; omega, by dsimp only; rw [← hI]; exact hE, hO⟩ (by dsimp only; omega) ⟨rfl, rfl, rfl, rfl, rfl, trivial⟩
  ·by_cases hja:a < j + 1
   ·have hw1:IntKind.i64.wrap (((j + 1:Nat):Int) - 1) = (j:Int):=zaa (by omega) (by omega) |>.trans (by omega)
    obtain ⟨r1, q1⟩:=zcp (rest:=rest) (show j + 1 < E.size by omega) (0 + (j + 1) * 1) rfl
    obtain ⟨r2, q2⟩:=zcp (rest:=rest) (show j < E.size by omega) (0 + j * 1) rfl
    cases hc:lt E[j + 1]! E[j]! with
    | true =>
     rw [insInner, if_pos (by rw [hc]; simp; omega)] at hI
     have s1:=zb4 (rest:=rest) E[j]! (show j + 1 < E.size by omega) (0 + (j + 1) * 1) rfl
     have b1:=zb5 (rest:=rest) (show j + 1 < E.size by omega) (0 + (j + 1) * 1) rfl
     have hz:j < (E.setIfInBounds (j + 1) E[j]!).size:=by rw [Array.size_setIfInBounds]; omega
     have s2:=zb4 (rest:=rest) E[j + 1]! hz (0 + j * 1) rfl
     have b2:=zb5 (rest:=rest) hz (0 + j * 1) rfl
     rw [zcv] at s2
     refine Ze ?_;refine q4 (id:=4) [(200023, [900]), (200028, [900])] mixed (by kernel_rfl) ?_;refine Zs ?_;refine Zdb ?_;refine Zei ?_;refine q7 (zx L (q:=900) rfl rfl rfl rfl rfl q1) rfl rfl ?_;refine Zbi ?_;refine q7 (zx L (q:=900) rfl rfl rfl rfl rfl q2) rfl rfl ?_;refine zd (zp L rfl rfl (zk rfl) rfl rfl rfl (fun u H hH _ _ => zbb hc hH)) rfl ?_;refine Zbh ?_;refine ZaM ?_;refine q4 (id:=6) [(200042, [900]), (200046, [900]), (100047, [900]), (100048, [900])] mixed (by kernel_rfl) ?_;refine Zs ?_;refine ZeE ?_;refine Zbi ?_;refine q7 (zx L (q:=900) rfl rfl rfl rfl rfl q2) rfl rfl ?_;refine Zq ?_;refine q7 (zx L (q:=900) rfl rfl rfl rfl rfl q1) rfl rfl ?_;refine Zm ?_;refine zaf (qs L (q:=900) rfl rfl rfl rfl rfl rfl b1 rfl s1) rfl ?_;refine Zm ?_;refine zaf (qs L (q:=900) rfl rfl rfl rfl rfl rfl b2 rfl s2) rfl ?_;refine Zco ?_;refine ZY ?_;refine ZQ ?_;refine Zax ?_
     exact qy (x:=(j + 1, E)) (j, swp E (j + 1) j) ⟨by dsimp only; omega, by dsimp only; rw [zbk]; exact hE, hI⟩ (by dsimp only; omega) ⟨rfl, rfl, rfl, rfl, rfl, rfl, trivial⟩
    | false =>
     rw [insInner, if_neg (by rw [hc]; simp)] at hI
     refine Ze ?_;refine q4 (id:=4) [(200023, [900]), (200028, [900])] mixed (by kernel_rfl) ?_;refine Zs ?_;refine Zdb ?_;refine Zei ?_;refine q7 (zx L (q:=900) rfl rfl rfl rfl rfl q1) rfl rfl ?_;refine Zbi ?_;refine q7 (zx L (q:=900) rfl rfl rfl rfl rfl q2) rfl rfl ?_;refine zd (zp L rfl rfl (zk rfl) rfl rfl rfl (fun u H hH _ _ => zbb hc hH)) rfl ?_;refine Zba ?_;refine Zat ?_
     rw [hI]
     refine Z2 ?_;refine Za6 ?_
     exact qy (x:=(i, D)) (i + 1, insInner lt a i D) ⟨by dsimp only; omega, by dsimp only; omega, by dsimp only; rw [← hI]; exact hE, hO⟩ (by dsimp only; omega) ⟨rfl, rfl, rfl, rfl, rfl, trivial⟩
   ·rw [insInner, if_neg (by simp; omega)] at hI
    rw [hI]
    refine Ze ?_;refine Zeb ?_;refine Zs ?_;refine Zd6 ?_;refine ZbV ?_;refine Zba ?_;refine Zat ?_;refine Z2 ?_;refine Za6 ?_
    exact qy (x:=(i, D)) (i + 1, insInner lt a i D) ⟨by dsimp only; omega, by dsimp only; omega, by dsimp only; rw [← hI]; exact hE, hO⟩ (by dsimp only; omega) ⟨rfl, rfl, rfl, rfl, rfl, trivial⟩
 ·rw [insOuter, if_neg hlt] at hO
  subst hO
  refine Ze ?_;refine Zn ?_;refine Za8 ?_;refine Zbx ?_
  exact zav L 900 (r:=zab b _ tyU) rfl (fun _ _ h => h) Since.refl rfl rfl
end Go.V.So
set_option maxRecDepth 20000
namespace Go.V.So
open Go.Proofs Go.RowKit Go.V Go.Sort
theorem _root_.Go.V.ZdL {A B:Prop} (h:B) (t:Wr B → A:=by intro h; refine z7 (z1y rfl rfl rfl rfl (by omega) (by assumption)) rfl ?_;exact h.h):A:=t ⟨h⟩
theorem _root_.Go.V.Zfc {A B:Prop} (h:B) (t:Wr B → A:=by intro h; refine q4 (id:=5) [(200044, [900]), (200050, [900])] mixed (by kernel_rfl) ?_;exact h.h):A:=t ⟨h⟩
theorem _root_.Go.V.ZfT {A B:Prop} (h:B) (t:Wr B → A:=by intro h; refine q4 (id:=6) [(200066, [900]), (200072, [900]), (100073, [900]), (100074, [900])] mixed (by kernel_rfl) ?_;exact h.h):A:=t ⟨h⟩
theorem _root_.Go.V.ZfA {A B:Prop} (h:B) (t:Wr B → A:=by intro h; refine q4 (id:=3) [(200027, [900]), (200034, [900])] mixed (by kernel_rfl) ?_;exact h.h):A:=t ⟨h⟩
theorem _root_.Go.V.Z8 {A B:Prop} (h:B) (t:Wr B → A:=by intro h; refine Zb ?_;refine ZQ ?_;exact h.h):A:=t ⟨h⟩
theorem _root_.Go.V.Zb2 {A B:Prop} (h:B) (t:Wr B → A:=by intro h; refine Zeu ?_;refine Zao ?_;exact h.h):A:=t ⟨h⟩
theorem _root_.Go.V.Zej {A B:Prop} (h:B) (t:Wr B → A:=by intro h; refine Ze7 ?_;refine ZM ?_;exact h.h):A:=t ⟨h⟩
theorem _root_.Go.V.Za9 {A B:Prop} (h:B) (t:Wr B → A:=by intro h; refine Zb2 ?_;refine Zm ?_;exact h.h):A:=t ⟨h⟩
theorem _root_.Go.V.Zcv {A B:Prop} (h:B) (t:Wr B → A:=by intro h; refine Zs ?_;refine Zs ?_;exact h.h):A:=t ⟨h⟩
attribute [local irreducible] V N X VO Par StepOK Has Ret RetL RetO zbd RetX Src
set_option maxHeartbeats 1000000 in
set_option maxRecDepth 20000 in
theorem rev_ret {d:Array Int} {rest:List Value} {b m cap a e:Nat} (hab:a < e) (he:e ≤ d.size) (hm:d.size = m) (hm1:m ≤ 100000) {w:World} {B:Heap} {C:Nat → Prop} (hB:B.Le (hp w))
  (hr:(zab b (uC d ++ rest) tyU).P B w C) (hC:∀ k, C k → k < w.heap.size ∧ B k = none) :
  zbd Tryz.prog 273 [.slice (some ⟨b, 0, none⟩) m cap, .int .i64 a, .int .i64 e] w B C (zab b (uC (reverseRange d a e) ++ rest) tyU):=by
 unfold zbd
 refine zah 900 (zab b (uC d ++ rest) tyU) Tryz.func273 rfl Tryz.ntmps273 (Nat.le_of_ble_eq_true rfl) hB hr hC ?_
 rw [zae]
 have hw0:IntKind.i64.wrap ((e:Int) - 1) = ((e - 1:Nat):Int):=zaa (by omega) (by omega) |>.trans (by omega)
 refine ZbA ?_;refine ZeS ?_;refine ZQ ?_;refine Zaf ?_
 refine zan (fun s:(Nat × Nat) × Array Int => [(0, .is (.slice (some ⟨b, 0, none⟩) m cap)), (6, .is (.int .i64 s.1.1)), (7, .is (.int .i64 s.1.2)), (900, .own (zaj b (uC s.2 ++ rest) tyU))]) (fun s => s.1.1 ≤ m ∧ s.1.2 < m ∧ s.2.size = m ∧ reverseLoop s.1.1 s.1.2 s.2 = reverseRange d a e) (fun s => s.1.2 - s.1.1) ((a, e - 1), d) ⟨by dsimp only; omega, by dsimp only; omega, hm, rfl⟩ ⟨rfl, rfl, rfl, rfl, trivial⟩ ?_
 rintro ⟨⟨i, j⟩, E⟩ ⟨hi, hj, hE, hO⟩
 dsimp only at hi hj hE hO ⊢
 by_cases hlt:i < j
 ·rw [reverseLoop, if_pos hlt] at hO
  have hw1:IntKind.i64.wrap ((i:Int) + 1) = ((i + 1:Nat):Int):=zaa (by omega) (by omega)
  have hw2:IntKind.i64.wrap ((j:Int) - 1) = ((j - 1:Nat):Int):=zaa (by omega) (by omega) |>.trans (by omega)
  obtain ⟨_, qj⟩:=zcp (rest:=rest) (show j < E.size by omega) (0 + (j) * 1) rfl
  obtain ⟨_, qi⟩:=zcp (rest:=rest) (show i < E.size by omega) (0 + (i) * 1) rfl
  have s1:=zb4 (rest:=rest) E[j]! (show i < E.size by omega) (0 + (i) * 1) rfl
  have b1:=zb5 (rest:=rest) (show i < E.size by omega) (0 + (i) * 1) rfl
  have hz:j < (E.setIfInBounds (i) E[j]!).size:=by rw [Array.size_setIfInBounds]; omega
  have s2:=zb4 (rest:=rest) E[i]! hz (0 + (j) * 1) rfl
  have b2:=zb5 (rest:=rest) hz (0 + (j) * 1) rfl
  rw [zcv] at s2
  refine Ze ?_;refine Zav ?_;refine Zcl ?_;refine Zc9 ?_;refine q4 (id:=3) [(200021, [900]), (200025, [900]), (100026, [900]), (100027, [900])] mixed (by kernel_rfl) ?_;refine Zcv ?_;refine Zq ?_;refine q7 (zx L (q:=900) rfl rfl rfl rfl rfl qj) rfl rfl ?_;refine Zq ?_;refine q7 (zx L (q:=900) rfl rfl rfl rfl rfl qi) rfl rfl ?_;refine Zm ?_;refine zaf (qs L (q:=900) rfl rfl rfl rfl rfl rfl b1 rfl s1) rfl ?_;refine Zm ?_;refine zaf (qs L (q:=900) rfl rfl rfl rfl rfl rfl b2 rfl s2) rfl ?_;refine ZaW ?_;refine Zi ?_;refine ZM ?_;refine Zc ?_;refine ZY ?_;refine ZQ ?_;refine ZG ?_
  exact qy (x:=((i, j), E)) ((i + 1, j - 1), swp E i j) ⟨by dsimp only; omega, by dsimp only; omega, by dsimp only; rw [zbk]; exact hE, hO⟩ (by dsimp only; omega) ⟨rfl, rfl, rfl, rfl, trivial⟩
 ·rw [reverseLoop, if_neg hlt] at hO
  subst hO
  refine Ze ?_;refine Zav ?_;refine Z7 ?_;refine Zbx ?_
  exact zav L 900 (r:=zab b _ tyU) rfl (fun _ _ h => h) Since.refl rfl rfl
set_option maxHeartbeats 1000000 in
set_option maxRecDepth 20000 in
theorem zqn {d:Array Int} {rest:List Value} {b m cap lo hi first:Nat} (hlo:lo ≤ hi) (hf:first + hi ≤ d.size) (hm:d.size = m) (hm1:m ≤ 100000) {w:World} {B:Heap} {C:Nat → Prop} (hB:B.Le (hp w))
  (hr:(zab b (uC d ++ rest) tyU).P B w C) (hC:∀ k, C k → k < w.heap.size ∧ B k = none) :
  zbd Tryz.prog 305 [.slice (some ⟨b, 0, none⟩) m cap, .int .i64 lo, .int .i64 hi, .int .i64 first] w B C (zab b (uC (siftDown lt hi first lo d) ++ rest) tyU):=by
 unfold zbd
 refine zah 900 (zab b (uC d ++ rest) tyU) Tryz.func305 rfl Tryz.ntmps305 (Nat.le_of_ble_eq_true rfl) hB hr hC ?_
 rw [zae]
 refine ZbA ?_;refine Zaf ?_
 refine zan (fun s:Nat × Array Int => [(0, .is (.slice (some ⟨b, 0, none⟩) m cap)), (2, .is (.int .i64 hi)), (3, .is (.int .i64 first)), (8, .is (.int .i64 s.1)), (900, .own (zaj b (uC s.2 ++ rest) tyU))]) (fun s => s.1 ≤ hi ∧ s.2.size = m ∧ siftDown lt hi first s.1 s.2 = siftDown lt hi first lo d) (fun s => hi - s.1) (lo, d) ⟨hlo, hm, rfl⟩ ⟨rfl, rfl, rfl, rfl, rfl, trivial⟩ ?_
 rintro ⟨r, E⟩ ⟨hr0, hE, hO⟩
 dsimp only at hr0 hE hO ⊢
 have hw1:IntKind.i64.wrap (2 * (r:Int)) = ((2 * r:Nat):Int):=zaa (by omega) (by omega) |>.trans (by omega)
 have hw2:IntKind.i64.wrap (((2 * r:Nat):Int) + 1) = ((2 * r + 1:Nat):Int):=zaa (by omega) (by omega)
 by_cases hend:hi ≤ 2 * r + 1
 ·rw [siftDown, dif_pos (by omega)] at hO
  subst hO
  refine ZI ?_;refine Z4 ?_;refine Zej ?_;refine Zf ?_;refine Zav ?_;refine Za7 ?_;refine yd ?_;refine ql ?_;refine zft rfl ?_;refine Zfh ?_
  exact zav L 900 (r:=zab b _ tyU) rfl (fun _ _ h => h) Since.refl rfl rfl
 ·rw [siftDown, dif_neg (by omega)] at hO
  have hw3:IntKind.i64.wrap (((2 * r + 1:Nat):Int) + 1) = ((2 * r + 2:Nat):Int):=zaa (by omega) (by omega)
  have hw4:IntKind.i64.wrap ((first:Int) + ((2 * r + 1:Nat):Int)) = ((first + (2 * r + 1):Nat):Int):=zaa (by omega) (by omega)
  have hw5:IntKind.i64.wrap (((first + (2 * r + 1):Nat):Int) + 1) = ((first + (2 * r + 2):Nat):Int):=zaa (by omega) (by omega)
  have hw6:IntKind.i64.wrap ((first:Int) + (r:Int)) = ((first + r:Nat):Int):=zaa (by omega) (by omega)
  have hw7:IntKind.i64.wrap ((first:Int) + ((2 * r + 2:Nat):Int)) = ((first + (2 * r + 2):Nat):Int):=zaa (by omega) (by omega)
  obtain ⟨_, qr⟩:=zcp (rest:=rest) (show first + r < E.size by omega) (0 + (first + r) * 1) rfl
  by_cases h2:2 * r + 2 < hi
  ·obtain ⟨_, q1⟩:=zcp (rest:=rest) (show first + (2 * r + 1) < E.size by omega) (0 + (first + (2 * r + 1)) * 1) rfl
   obtain ⟨_, q2⟩:=zcp (rest:=rest) (show first + (2 * r + 2) < E.size by omega) (0 + (first + (2 * r + 2)) * 1) rfl
   have e2:first + (2 * r + 1) + 1 = first + (2 * r + 2):=by omega
   rw [e2] at hO
   cases hc:lt E[first + (2 * r + 1)]! E[first + (2 * r + 2)]! with
   | true =>
    rw [if_pos (by rw [hc]; simp; omega)] at hO
    have qc:=q2
    cases hc2:lt E[first + r]! E[first + (2 * r + 2)]! with
    | false =>
     rw [hc2] at hO
     simp only [Bool.not_false, if_true] at hO
     subst hO
     refine ZI ?_;refine Z4 ?_;refine Zej ?_;refine Zf ?_;refine Zav ?_;refine ZD ?_;refine ZB ?_;refine ZfA ?_;refine Zh ?_;refine Zao ?_;refine Zh ?_;refine ZbT ?_;refine Zcv ?_;refine Zao ?_;refine Zm ?_;refine q7 (zx L (q:=900) rfl rfl rfl rfl rfl q1) rfl rfl ?_;refine Zb2 ?_;refine Zao ?_;refine Zm ?_;refine q7 (zx L (q:=900) rfl rfl rfl rfl rfl q2) rfl rfl ?_;refine zd (zp L rfl rfl (zk rfl) rfl rfl rfl (fun u H hH _ _ => zbb hc hH)) rfl ?_;refine Zbh ?_;refine Zi ?_;refine ZM ?_;refine Zf ?_;refine Zfc ?_;refine Za9 ?_;refine q7 (zx L (q:=900) rfl rfl rfl rfl rfl qr) rfl rfl ?_;refine Za9 ?_;refine q7 (zx L (q:=900) rfl rfl rfl rfl rfl qc) rfl rfl ?_;refine zd (zp L rfl rfl (zk rfl) rfl rfl rfl (fun u H hH _ _ => zbb hc2 hH)) rfl ?_;refine Zab ?_;refine Zb9 ?_
     exact za6 L 900 (r:=zab b _ tyU) rfl (fun _ _ h => h) Since.refl rfl rfl
    | true =>
     rw [hc2] at hO
     simp only [Bool.not_true, Bool.false_eq_true, if_false] at hO
     rw [dif_pos (by omega)] at hO
     obtain ⟨_, qj⟩:=zcp (rest:=rest) (show first + (2 * r + 2) < E.size by omega) (0 + (first + (2 * r + 2)) * 1) rfl
     obtain ⟨_, qi⟩:=zcp (rest:=rest) (show first + r < E.size by omega) (0 + (first + r) * 1) rfl
     have s1:=zb4 (rest:=rest) E[first + (2 * r + 2)]! (show first + r < E.size by omega) (0 + (first + r) * 1) rfl
     have b1:=zb5 (rest:=rest) (show first + r < E.size by omega) (0 + (first + r) * 1) rfl
     have hz:first + (2 * r + 2) < (E.setIfInBounds (first + r) E[first + (2 * r + 2)]!).size:=by rw [Array.size_setIfInBounds]; omega
     have s2:=zb4 (rest:=rest) E[first + r]! hz (0 + (first + (2 * r + 2)) * 1) rfl
     have b2:=zb5 (rest:=rest) hz (0 + (first + (2 * r + 2)) * 1) rfl
     rw [zcv] at s2
     refine ZI ?_;refine Z4 ?_;refine Zej ?_;refine Zf ?_;refine Zav ?_;refine ZD ?_;refine ZB ?_;refine ZfA ?_;refine Zh ?_;refine Zao ?_;refine Zh ?_;refine ZbT ?_;refine Zcv ?_;refine Zao ?_;refine Zm ?_;refine q7 (zx L (q:=900) rfl rfl rfl rfl rfl q1) rfl rfl ?_;refine Zb2 ?_;refine Zao ?_;refine Zm ?_;refine q7 (zx L (q:=900) rfl rfl rfl rfl rfl q2) rfl rfl ?_;refine zd (zp L rfl rfl (zk rfl) rfl rfl rfl (fun u H hH _ _ => zbb hc hH)) rfl ?_;refine Zbh ?_;refine Zi ?_;refine ZM ?_;refine Zf ?_;refine Zfc ?_;refine Za9 ?_;refine q7 (zx L (q:=900) rfl rfl rfl rfl rfl qr) rfl rfl ?_;refine Za9 ?_;refine q7 (zx L (q:=900) rfl rfl rfl rfl rfl qc) rfl rfl ?_;refine zd (zp L rfl rfl (zk rfl) rfl rfl rfl (fun u H hH _ _ => zbb hc2 hH)) rfl ?_;refine Zab ?_;refine ZbP ?_;refine ZfT ?_;refine Zb2 ?_;refine Zb2 ?_;refine Za9 ?_;refine q7 (zx L (q:=900) rfl rfl rfl rfl rfl qj) rfl rfl ?_;refine Za9 ?_;refine q7 (zx L (q:=900) rfl rfl rfl rfl rfl qi) rfl rfl ?_;refine Zm ?_;refine zaf (qs L (q:=900) rfl rfl rfl rfl rfl rfl b1 rfl s1) rfl ?_;refine Zm ?_;refine zaf (qs L (q:=900) rfl rfl rfl rfl rfl rfl b2 rfl s2) rfl ?_;refine ZcR ?_;refine ZC ?_;refine ZG ?_
     exact qy (x:=(r, E)) (2 * r + 2, swp E (first + r) (first + (2 * r + 2))) ⟨by dsimp only; omega, by dsimp only; rw [zbk]; exact hE, hO⟩ (by dsimp only; omega) ⟨rfl, rfl, rfl, rfl, rfl, trivial⟩
   | false =>
    rw [if_neg (by rw [hc]; simp)] at hO
    have qc:=q1
    cases hc2:lt E[first + r]! E[first + (2 * r + 1)]! with
    | false =>
     rw [hc2] at hO
     simp only [Bool.not_false, if_true] at hO
     subst hO
     refine ZI ?_;refine Z4 ?_;refine Zej ?_;refine Zf ?_;refine Zav ?_;refine ZD ?_;refine ZB ?_;refine ZfA ?_;refine Zh ?_;refine Zao ?_;refine Zh ?_;refine ZbT ?_;refine Zcv ?_;refine Zao ?_;refine Zm ?_;refine q7 (zx L (q:=900) rfl rfl rfl rfl rfl q1) rfl rfl ?_;refine Zb2 ?_;refine Zao ?_;refine Zm ?_;refine q7 (zx L (q:=900) rfl rfl rfl rfl rfl q2) rfl rfl ?_;refine zd (zp L rfl rfl (zk rfl) rfl rfl rfl (fun u H hH _ _ => zbb hc hH)) rfl ?_;refine Zcr ?_;refine zh ?_;refine Zfc ?_;refine Za9 ?_;refine q7 (zx L (q:=900) rfl rfl rfl rfl rfl qr) rfl rfl ?_;refine Za9 ?_;refine q7 (zx L (q:=900) rfl rfl rfl rfl rfl qc) rfl rfl ?_;refine zd (zp L rfl rfl (zk rfl) rfl rfl rfl (fun u H hH _ _ => zbb hc2 hH)) rfl ?_;refine Zab ?_;refine Zb9 ?_
     exact za6 L 900 (r:=zab b _ tyU) rfl (fun _ _ h => h) Since.refl rfl rfl
    | true =>
     rw [hc2] at hO
     simp only [Bool.not_true, Bool.false_eq_true, if_false] at hO
     obtain ⟨_, qj⟩:=zcp (rest:=rest) (show first + (2 * r + 1) < E.size by omega) (0 + (first + (2 * r + 1)) * 1) rfl
     obtain ⟨_, qi⟩:=zcp (rest:=rest) (show first + r < E.size by omega) (0 + (first + r) * 1) rfl
     have s1:=zb4 (rest:=rest) E[first + (2 * r + 1)]! (show first + r < E.size by omega) (0 + (first + r) * 1) rfl
     have b1:=zb5 (rest:=rest) (show first + r < E.size by omega) (0 + (first + r) * 1) rfl
     have hz:first + (2 * r + 1) < (E.setIfInBounds (first + r) E[first + (2 * r + 1)]!).size:=by rw [Array.size_setIfInBounds]; omega
     have s2:=zb4 (rest:=rest) E[first + r]! hz (0 + (first + (2 * r + 1)) * 1) rfl
     have b2:=zb5 (rest:=rest) hz (0 + (first + (2 * r + 1)) * 1) rfl
     rw [zcv] at s2
     refine ZI ?_;refine Z4 ?_;refine Zej ?_;refine Zf ?_;refine Zav ?_;refine ZD ?_;refine ZB ?_;refine ZfA ?_;refine Zh ?_;refine Zao ?_;refine Zh ?_;refine ZbT ?_;refine Zcv ?_;refine Zao ?_;refine Zm ?_;refine q7 (zx L (q:=900) rfl rfl rfl rfl rfl q1) rfl rfl ?_;refine Zb2 ?_;refine Zao ?_;refine Zm ?_;refine q7 (zx L (q:=900) rfl rfl rfl rfl rfl q2) rfl rfl ?_;refine zd (zp L rfl rfl (zk rfl) rfl rfl rfl (fun u H hH _ _ => zbb hc hH)) rfl ?_;refine Zcr ?_;refine zh ?_;refine Zfc ?_;refine Za9 ?_;refine q7 (zx L (q:=900) rfl rfl rfl rfl rfl qr) rfl rfl ?_;refine Za9 ?_;refine q7 (zx L (q:=900) rfl rfl rfl rfl rfl qc) rfl rfl ?_;refine zd (zp L rfl rfl (zk rfl) rfl rfl rfl (fun u H hH _ _ => zbb hc2 hH)) rfl ?_;refine Zab ?_;refine ZbP ?_;refine ZfT ?_;refine Zb2 ?_;refine Zb2 ?_;refine Za9 ?_;refine q7 (zx L (q:=900) rfl rfl rfl rfl rfl qj) rfl rfl ?_;refine Za9 ?_;refine q7 (zx L (q:=900) rfl rfl rfl rfl rfl qi) rfl rfl ?_;refine Zm ?_;refine zaf (qs L (q:=900) rfl rfl rfl rfl rfl rfl b1 rfl s1) rfl ?_;refine Zm ?_;refine zaf (qs L (q:=900) rfl rfl rfl rfl rfl rfl b2 rfl s2) rfl ?_;refine ZcR ?_;refine ZC ?_;refine ZG ?_
     exact qy (x:=(r, E)) (2 * r + 1, swp E (first + r) (first + (2 * r + 1))) ⟨by dsimp only; omega, by dsimp only; rw [zbk]; exact hE, hO⟩ (by dsimp only; omega) ⟨rfl, rfl, rfl, rfl, rfl, trivial⟩
  ·rw [if_neg (by simp; omega)] at hO
   obtain ⟨_, qc⟩:=zcp (rest:=rest) (show first + (2 * r + 1) < E.size by omega) (0 + (first + (2 * r + 1)) * 1) rfl
   cases hc2:lt E[first + r]! E[first + (2 * r + 1)]! with
   | false =>
    rw [hc2] at hO
    simp only [Bool.not_false, if_true] at hO
    subst hO
    refine ZI ?_;refine Z4 ?_;refine Zej ?_;refine Zf ?_;refine Zav ?_;refine ZD ?_;refine ZB ?_;refine Zet ?_;refine Zh ?_;refine Zao ?_;refine Zh ?_;refine Zeg ?_;refine Zeh ?_;refine Zfr ?_;refine Zd7 ?_;refine Zcr ?_;refine zh ?_;refine Zfc ?_;refine Za9 ?_;refine q7 (zx L (q:=900) rfl rfl rfl rfl rfl qr) rfl rfl ?_;refine Za9 ?_;refine q7 (zx L (q:=900) rfl rfl rfl rfl rfl qc) rfl rfl ?_;refine zd (zp L rfl rfl (zk rfl) rfl rfl rfl (fun u H hH _ _ => zbb hc2 hH)) rfl ?_;refine Zab ?_;refine Zb9 ?_
    exact za6 L 900 (r:=zab b _ tyU) rfl (fun _ _ h => h) Since.refl rfl rfl
   | true =>
    rw [hc2] at hO
    simp only [Bool.not_true, Bool.false_eq_true, if_false] at hO
    obtain ⟨_, qj⟩:=zcp (rest:=rest) (show first + (2 * r + 1) < E.size by omega) (0 + (first + (2 * r + 1)) * 1) rfl
    obtain ⟨_, qi⟩:=zcp (rest:=rest) (show first + r < E.size by omega) (0 + (first + r) * 1) rfl
    have s1:=zb4 (rest:=rest) E[first + (2 * r + 1)]! (show first + r < E.size by omega) (0 + (first + r) * 1) rfl
    have b1:=zb5 (rest:=rest) (show first + r < E.size by omega) (0 + (first + r) * 1) rfl
    have hz:first + (2 * r + 1) < (E.setIfInBounds (first + r) E[first + (2 * r + 1)]!).size:=by rw [Array.size_setIfInBounds]; omega
    have s2:=zb4 (rest:=rest) E[first + r]! hz (0 + (first + (2 * r + 1)) * 1) rfl
    have b2:=zb5 (rest:=rest) hz (0 + (first + (2 * r + 1)) * 1) rfl
    rw [zcv] at s2
    refine ZI ?_;refine Z4 ?_;refine Zej ?_;refine Zf ?_;refine Zav ?_;refine ZD ?_;refine ZB ?_;refine Zet ?_;refine Zh ?_;refine Zao ?_;refine Zh ?_;refine Zeg ?_;refine Zeh ?_;refine Zfr ?_;refine Zd7 ?_;refine Zcr ?_;refine zh ?_;refine Zfc ?_;refine Za9 ?_;refine q7 (zx L (q:=900) rfl rfl rfl rfl rfl qr) rfl rfl ?_;refine Za9 ?_;refine q7 (zx L (q:=900) rfl rfl rfl rfl rfl qc) rfl rfl ?_;refine zd (zp L rfl rfl (zk rfl) rfl rfl rfl (fun u H hH _ _ => zbb hc2 hH)) rfl ?_;refine Zab ?_;refine ZbP ?_;refine ZfT ?_;refine Zb2 ?_;refine Zb2 ?_;refine Za9 ?_;refine q7 (zx L (q:=900) rfl rfl rfl rfl rfl qj) rfl rfl ?_;refine Za9 ?_;refine q7 (zx L (q:=900) rfl rfl rfl rfl rfl qi) rfl rfl ?_;refine Zm ?_;refine zaf (qs L (q:=900) rfl rfl rfl rfl rfl rfl b1 rfl s1) rfl ?_;refine Zm ?_;refine zaf (qs L (q:=900) rfl rfl rfl rfl rfl rfl b2 rfl s2) rfl ?_;refine ZcR ?_;refine ZC ?_;refine ZG ?_
    exact qy (x:=(r, E)) (2 * r + 1, swp E (first + r) (first + (2 * r + 1))) ⟨by dsimp only; omega, by dsimp only; rw [zbk]; exact hE, hO⟩ (by dsimp only; omega) ⟨rfl, rfl, rfl, rfl, rfl, trivial⟩
theorem znr (hi first:Nat):∀ (n root:Nat) (d:Array Int), hi - root ≤ n → (siftDown lt hi first root d).size = d.size:=by
 intro n
 induction n with
 | zero =>
  intro root d h
  rw [siftDown, dif_pos (by omega)]
 | succ n ih =>
  intro root d h
  rw [siftDown]
  split
  ·rfl
  ·split
   ·split
    ·rfl
    ·split
     ·rw [ih _ _ (by omega), zbk]
     ·rfl
   ·split
    ·rfl
    ·rw [ih _ _ (by omega), zbk]
set_option maxHeartbeats 1000000 in
set_option maxRecDepth 20000 in
theorem zxp {d:Array Int} {rest:List Value} {b m cap a e:Nat} (hab:a < e) (he:e ≤ d.size) (hm:d.size = m) (hm1:m ≤ 100000) {w:World} {B:Heap} {C:Nat → Prop} (hB:B.Le (hp w))
  (hr:(zab b (uC d ++ rest) tyU).P B w C) (hC:∀ k, C k → k < w.heap.size ∧ B k = none) :
  zbd Tryz.prog 270 [.slice (some ⟨b, 0, none⟩) m cap, .int .i64 a, .int .i64 e] w B C (zab b (uC (heapSort lt d a e) ++ rest) tyU):=by
 unfold zbd
 refine zah 900 (zab b (uC d ++ rest) tyU) Tryz.func270 rfl Tryz.ntmps270 (Nat.le_of_ble_eq_true rfl) hB hr hC ?_
 rw [zae]
 have hw0:IntKind.i64.wrap ((e:Int) - (a:Int)) = ((e - a:Nat):Int):=zaa (by omega) (by omega) |>.trans (by omega)
 have hw1:IntKind.i64.wrap (((e - a:Nat):Int) - 1) = ((e - a - 1:Nat):Int):=zaa (by omega) (by omega) |>.trans (by omega)
 have et:((e - a - 1:Nat):Int).tdiv 2 = (((e - a - 1) / 2 + 1:Nat):Int) - 1:=by
  rw [Int.tdiv_eq_ediv_of_nonneg (by omega)]
  omega
 have hw2:IntKind.i64.wrap (((e - a - 1:Nat):Int).tdiv 2) = (((e - a - 1) / 2 + 1:Nat):Int) - 1:=by rw [et]; exact zaa (by omega) (by omega)
 refine ZbA ?_;refine Zd ?_;refine Zn ?_;refine Zd ?_;refine Z5 ?_;refine Z8 ?_;refine Zf ?_;refine Zk ?_;refine ZQ ?_;refine ZdL ?_;refine Zaf ?_
 refine zan (fun s:Nat × Array Int => [(0, .is (.slice (some ⟨b, 0, none⟩) m cap)), (6, .is (.int .i64 a)), (7, .is (.int .i64 0)), (8, .is (.int .i64 (e - a:Nat))), (9, .is (.int .i64 ((s.1:Int) - 1))), (900, .own (zaj b (uC s.2 ++ rest) tyU))]) (fun s => s.1 ≤ (e - a - 1) / 2 + 1 ∧ s.2.size = m ∧ heapBuild lt (e - a) a s.1 s.2 = heapBuild lt (e - a) a ((e - a - 1) / 2 + 1) d) (fun s => s.1) ((e - a - 1) / 2 + 1, d) ⟨Nat.le_refl _, hm, rfl⟩ ⟨rfl, rfl, rfl, rfl, rfl, rfl, trivial⟩ ?_
 rintro ⟨k, E⟩ ⟨hk, hE, hO⟩
 dsimp only at hk hE hO ⊢
 rcases k with _ | k
 ·have e9:(((0:Nat):Int) - 1) = -1:=rfl
  rw [e9]
  refine Ze ?_;refine Zi ?_;refine ZD ?_;refine Zbd ?_
  rw [heapBuild] at hO
  have e10:((e - a - 1:Nat):Int) = ((e - a:Nat):Int) - 1:=by omega
  rw [e10] at hw1
  refine ZC ?_;refine ZQ ?_;refine Zaf ?_
  refine zan (fun s:Nat × Array Int => [(0, .is (.slice (some ⟨b, 0, none⟩) m cap)), (6, .is (.int .i64 a)), (7, .is (.int .i64 0)), (10, .is (.int .i64 ((s.1:Int) - 1))), (900, .own (zaj b (uC s.2 ++ rest) tyU))]) (fun s => s.1 ≤ e - a ∧ s.2.size = m ∧ heapPop lt a s.1 s.2 = heapPop lt a (e - a) E) (fun s => s.1) (e - a, E) ⟨Nat.le_refl _, hE, rfl⟩ ⟨rfl, rfl, rfl, rfl, rfl, trivial⟩ ?_
  rintro ⟨j, G⟩ ⟨hj, hG, hP⟩
  dsimp only at hj hG hP ⊢
  rcases j with _ | j
  ·rw [e9]
   rw [heapPop] at hP
   have:G = heapSort lt d a e:=by unfold heapSort; rw [← hO, hP]
   subst this
   refine Ze ?_;refine ZS ?_;refine ZD ?_;refine Zbx ?_
   exact zav L 900 (r:=zab b _ tyU) rfl (fun _ _ h => h) Since.refl rfl rfl
  ·have e8:(((j + 1:Nat):Int) - 1) = (j:Int):=by omega
   rw [heapPop] at hP
   rw [e8]
   have hw3:IntKind.i64.wrap ((a:Int) + (j:Int)) = ((a + j:Nat):Int):=zaa (by omega) (by omega)
   have hw4:IntKind.i64.wrap ((j:Int) - 1) = (j:Int) - 1:=zaa (by omega) (by omega)
   have hsz:=zbk G a (a + j)
   have hss:=znr j a j 0 (swp G a (a + j)) (by omega)
   obtain ⟨_, qj⟩:=zcp (rest:=rest) (show a + j < G.size by omega) (0 + (a + j) * 1) rfl
   obtain ⟨_, qi⟩:=zcp (rest:=rest) (show a < G.size by omega) (0 + (a) * 1) rfl
   have s1:=zb4 (rest:=rest) G[a + j]! (show a < G.size by omega) (0 + (a) * 1) rfl
   have b1:=zb5 (rest:=rest) (show a < G.size by omega) (0 + (a) * 1) rfl
   have hz:a + j < (G.setIfInBounds (a) G[a + j]!).size:=by rw [Array.size_setIfInBounds]; omega
   have s2:=zb4 (rest:=rest) G[a]! hz (0 + (a + j) * 1) rfl
   have b2:=zb5 (rest:=rest) hz (0 + (a + j) * 1) rfl
   rw [zcv] at s2
   refine Ze ?_;refine ZS ?_;refine Za7 ?_;refine Ze3 ?_;refine q4 (id:=10) [(200044, [900]), (200048, [900]), (100049, [900]), (100050, [900])] mixed (by kernel_rfl) ?_;refine Zs ?_;refine Zb2 ?_;refine Za9 ?_;refine q7 (zx L (q:=900) rfl rfl rfl rfl rfl qj) rfl rfl ?_;refine Zq ?_;refine q7 (zx L (q:=900) rfl rfl rfl rfl rfl qi) rfl rfl ?_;refine Zm ?_;refine zaf (qs L (q:=900) rfl rfl rfl rfl rfl rfl b1 rfl s1) rfl ?_;refine Zm ?_;refine zaf (qs L (q:=900) rfl rfl rfl rfl rfl rfl b2 rfl s2) rfl ?_;refine ZcR ?_;refine ZE ?_;refine ZU ?_;refine q8 (zao L 900 (zab b (uC (siftDown lt j a 0 (swp G a (a + j))) ++ rest) tyU) (r:=zab b (uC (swp G a (a + j)) ++ rest) tyU) rfl rfl rfl rfl rfl (fun u H C hH _ hr hC => zqn (Nat.zero_le _) (by omega) (by omega) hm1 hH hr hC)) ?_;refine ZcZ ?_;refine Zaz ?_;refine ZQ ?_;refine Zax ?_
   exact qy (x:=(j + 1, G)) (j, siftDown lt j a 0 (swp G a (a + j))) ⟨by dsimp only; omega, by dsimp only; omega, hP⟩ (by dsimp only; omega) ⟨rfl, rfl, rfl, rfl, rfl, trivial⟩
 ·have e8:(((k + 1:Nat):Int) - 1) = (k:Int):=by omega
  rw [heapBuild] at hO
  rw [e8]
  have hw4:IntKind.i64.wrap ((k:Int) - 1) = (k:Int) - 1:=zaa (by omega) (by omega)
  have hss:=znr (e - a) a (e - a) k E (by omega)
  refine Ze ?_;refine Zi ?_;refine Za7 ?_;refine ZaM ?_;refine Zak ?_;refine ZU ?_;refine q8 (zao L 900 (zab b (uC (siftDown lt (e - a) a k E) ++ rest) tyU) (r:=zab b (uC E ++ rest) tyU) rfl rfl rfl rfl rfl (fun u H C hH _ hr hC => zqn (by omega) (by omega) (by omega) hm1 hH hr hC)) ?_;refine ZcZ ?_;refine ZY ?_;refine ZQ ?_;refine Zax ?_
  exact qy (x:=(k + 1, E)) (k, siftDown lt (e - a) a k E) ⟨by dsimp only; omega, by dsimp only; omega, hO⟩ (by dsimp only; omega) ⟨rfl, rfl, rfl, rfl, rfl, rfl, trivial⟩
end Go.V.So
set_option maxRecDepth 20000
namespace Go.V.So
open Go.Proofs Go.RowKit Go.V Go.Sort
theorem _root_.Go.V.ZfB {A B:Prop} (h:B) (t:Wr B → A:=by intro h; refine q4 (id:=5) [(200053, [900]), (200057, [900])] mixed (by kernel_rfl) ?_;exact h.h):A:=t ⟨h⟩
theorem _root_.Go.V.Zgv {A B:Prop} (h:B) (t:Wr B → A:=by intro h; refine Zs ?_;refine Zgb ?_;exact h.h):A:=t ⟨h⟩
theorem _root_.Go.V.ZcM {A B:Prop} (h:B) (t:Wr B → A:=by intro h; refine Zgv ?_;refine Zei ?_;exact h.h):A:=t ⟨h⟩
theorem _root_.Go.V.ZdM {A B:Prop} (h:B) (t:Wr B → A:=by intro h; refine ZM ?_;refine ZG ?_;exact h.h):A:=t ⟨h⟩
theorem _root_.Go.V.ZdN {A B:Prop} (h:B) (t:Wr B → A:=by intro h; refine Ze ?_;refine ZH ?_;exact h.h):A:=t ⟨h⟩
theorem _root_.Go.V.ZdO {A B:Prop} (h:B) (t:Wr B → A:=by intro h; refine ZdF ?_;refine Za ?_;exact h.h):A:=t ⟨h⟩
attribute [local irreducible] V N X VO Par StepOK Has Ret RetL RetO zbd RetX Src
theorem zcx {p:Int → Bool} {d:Array Int} {j i:Nat} (h:¬ (i ≤ j ∧ p d[i]! = true)):scanUp p d j i = i:=by
 rw [scanUp, if_neg]
 simpa using h
theorem zjm {p:Int → Bool} {d:Array Int} {j i:Nat} (h1:i ≤ j) (h2:p d[i]! = true):scanUp p d j i = scanUp p d j (i + 1):=by
 rw [scanUp, if_pos (by simp [h1, h2])]
theorem zcb {p:Int → Bool} {d:Array Int} {i j:Nat} (h:¬ (i ≤ j ∧ p d[j]! = true)):scanDown p d i j = j:=by
 cases j with
 | zero => rfl
 | succ j => rw [scanDown, if_neg]; simpa using h
theorem zgf {p:Int → Bool} {d:Array Int} {i j:Nat} (h1:i ≤ j + 1) (h2:p d[j + 1]! = true):scanDown p d i (j + 1) = scanDown p d i j:=by
 rw [scanDown, if_pos (by simp [h1, h2])]
set_option maxHeartbeats 2000000 in
set_option maxRecDepth 20000 in
theorem zd9 {d:Array Int} {rest:List Value} {b m cap a e p:Nat} (hap:a ≤ p) (hpe:p < e) (he:e ≤ d.size) (hm:d.size = m) (hm1:m ≤ 100000) {w:World} {B:Heap} {C:Nat → Prop} (hB:B.Le (hp w))
  (hr:(zab b (uC d ++ rest) tyU).P B w C) (hC:∀ k, C k → k < w.heap.size ∧ B k = none) :
  RetX Tryz.prog 277 [.slice (some ⟨b, 0, none⟩) m cap, .int .i64 a, .int .i64 e, .int .i64 p] w B C (zab b (uC (Go.Sort.partition lt d a e p).2.2 ++ rest) tyU) (.tuple #[.int .i64 (Go.Sort.partition lt d a e p).1, .bool (Go.Sort.partition lt d a e p).2.1]):=by
 unfold RetX
 refine zah 900 (zab b (uC d ++ rest) tyU) Tryz.func277 rfl Tryz.ntmps277 (Nat.le_of_ble_eq_true rfl) hB hr hC ?_
 rw [zae]
 obtain ⟨_, qj⟩:=zcp (rest:=rest) (show p < d.size by omega) (0 + (p) * 1) rfl
 obtain ⟨_, qi⟩:=zcp (rest:=rest) (show a < d.size by omega) (0 + (a) * 1) rfl
 have s1:=zb4 (rest:=rest) d[p]! (show a < d.size by omega) (0 + (a) * 1) rfl
 have b1:=zb5 (rest:=rest) (show a < d.size by omega) (0 + (a) * 1) rfl
 have hz:p < (d.setIfInBounds (a) d[p]!).size:=by rw [Array.size_setIfInBounds]; omega
 have s2:=zb4 (rest:=rest) d[a]! hz (0 + (p) * 1) rfl
 have b2:=zb5 (rest:=rest) hz (0 + (p) * 1) rfl
 rw [zcv] at s2
 have hw1:IntKind.i64.wrap ((a:Int) + 1) = ((a + 1:Nat):Int):=zaa (by omega) (by omega)
 obtain ⟨e1, rfl⟩:∃ e1, e = e1 + 1:=⟨e - 1, by omega⟩
 have hw2:IntKind.i64.wrap (((e1 + 1:Nat):Int) - 1) = (e1:Int):=zaa (by omega) (by omega) |>.trans (by omega)
 obtain ⟨R, hR⟩:∃ R, R = Go.Sort.partition lt d a (e1 + 1) p:=⟨_, rfl⟩
 rw [← hR]
 have hR':=hR
 unfold Go.Sort.partition at hR'
 have hDs:=zbk d a p
 refine ZcU ?_;refine q4 (id:=1) [(200019, [900]), (200023, [900]), (100024, [900]), (100025, [900])] mixed (by kernel_rfl) ?_;refine Zcv ?_;refine Zq ?_;refine q7 (zx L (q:=900) rfl rfl rfl rfl rfl qj) rfl rfl ?_;refine Zq ?_;refine q7 (zx L (q:=900) rfl rfl rfl rfl rfl qi) rfl rfl ?_;refine Zm ?_;refine zaf (qs L (q:=900) rfl rfl rfl rfl rfl rfl b1 rfl s1) rfl ?_;refine Zm ?_;refine zaf (qs L (q:=900) rfl rfl rfl rfl rfl rfl b2 rfl s2) rfl ?_;refine ZaW ?_;refine Z2 ?_;refine ZM ?_;refine Za ?_;refine ZQ ?_;refine Zau ?_;refine q6 ?_
 generalize swp d a p = D at *
 rw [Nat.add_sub_cancel] at hR'
 dsimp only at hR'
 refine zhc (zdl (fun i:Nat => [(0, .is (.slice (some ⟨b, 0, none⟩) m cap)), (1, .is (.int .i64 a)), (10, .is (.int .i64 i)), (11, .is (.int .i64 e1)), (900, .own (zaj b (uC D ++ rest) tyU))]) (fun i => (a + 1) ≤ i ∧ i ≤ max (a + 1) (e1 + 1) ∧ i = scanUp (fun x => lt x D[a]!) D e1 (a + 1)) (fun _ => []) ?_) ?_
 rotate_left
 ·refine zan (fun i:Nat => [(0, .is (.slice (some ⟨b, 0, none⟩) m cap)), (1, .is (.int .i64 a)), (10, .is (.int .i64 i)), (11, .is (.int .i64 e1)), (900, .own (zaj b (uC D ++ rest) tyU))]) (fun i => (a + 1) ≤ i ∧ i ≤ max (a + 1) (e1 + 1) ∧ scanUp (fun x => lt x D[a]!) D e1 i = scanUp (fun x => lt x D[a]!) D e1 (a + 1)) (fun i => e1 + 1 - i) (a + 1) ⟨Nat.le_refl _, by omega, rfl⟩ ⟨rfl, rfl, rfl, rfl, rfl, trivial⟩ ?_
  rintro i ⟨hi1, hi2, hi3⟩
  by_cases hle:i ≤ e1
  ·obtain ⟨_, qx⟩:=zcp (rest:=rest) (show i < D.size by omega) (0 + (i) * 1) rfl
   obtain ⟨_, qa⟩:=zcp (rest:=rest) (show a < D.size by omega) (0 + (a) * 1) rfl
   cases hc:lt D[i]! D[a]! with
   | true =>
    have hw:IntKind.i64.wrap ((i:Int) + 1) = ((i + 1:Nat):Int):=zaa (by omega) (by omega)
    refine Ze ?_;refine q4 (id:=3) [(200037, [900]), (200041, [900])] mixed (by kernel_rfl) ?_;refine ZcM ?_;refine q7 (zx L (q:=900) rfl rfl rfl rfl rfl qx) rfl rfl ?_;refine Zq ?_;refine q7 (zx L (q:=900) rfl rfl rfl rfl rfl qa) rfl rfl ?_;refine zd (zp L rfl rfl (zk rfl) rfl rfl rfl (fun u H hH _ _ => zbb hc hH)) rfl ?_;refine Zbh ?_;refine Zc8 ?_;refine q6 ?_;refine Zi ?_;refine ZdM ?_
    exact qy (x:=i) (i + 1) ⟨by omega, by omega, by rw [← hi3]; exact (zjm hle (by simp [hc])).symm⟩ (by omega) ⟨rfl, rfl, rfl, rfl, rfl, trivial⟩
   | false =>
    refine Ze ?_;refine q4 (id:=3) [(200037, [900]), (200041, [900])] mixed (by kernel_rfl) ?_;refine ZcM ?_;refine q7 (zx L (q:=900) rfl rfl rfl rfl rfl qx) rfl rfl ?_;refine Zq ?_;refine q7 (zx L (q:=900) rfl rfl rfl rfl rfl qa) rfl rfl ?_;refine zd (zp L rfl rfl (zk rfl) rfl rfl rfl (fun u H hH _ _ => zbb hc hH)) rfl ?_;refine Zba ?_
    exact zbe i Since.refl ⟨hi1, hi2, by rw [← hi3]; exact (zcx (by rintro ⟨_, h⟩; simp [hc] at h)).symm⟩ rfl ⟨rfl, rfl, rfl, rfl, rfl, trivial⟩
  ·refine Ze ?_;refine Zet ?_;refine Zs ?_;refine Zew ?_;refine Zeh ?_;refine ZaP ?_;refine Zba ?_
   exact zbe i Since.refl ⟨hi1, hi2, by rw [← hi3]; exact (zcx (by rintro ⟨h, _⟩; exact hle h)).symm⟩ rfl ⟨rfl, rfl, rfl, rfl, rfl, trivial⟩
 rintro I ⟨hI1, hI2, hI3⟩
 refine zh (q6 ?_)
 refine zhc (zdl (fun i:Nat => [(0, .is (.slice (some ⟨b, 0, none⟩) m cap)), (1, .is (.int .i64 a)), (10, .is (.int .i64 I)), (11, .is (.int .i64 i)), (900, .own (zaj b (uC D ++ rest) tyU))]) (fun i => i ≤ e1 ∧ min (I - 1) e1 ≤ i ∧ i = scanDown (fun x => !lt x D[a]!) D I e1) (fun _ => []) ?_) ?_
 rotate_left
 ·refine zan (fun i:Nat => [(0, .is (.slice (some ⟨b, 0, none⟩) m cap)), (1, .is (.int .i64 a)), (10, .is (.int .i64 I)), (11, .is (.int .i64 i)), (900, .own (zaj b (uC D ++ rest) tyU))]) (fun i => i ≤ e1 ∧ min (I - 1) e1 ≤ i ∧ scanDown (fun x => !lt x D[a]!) D I i = scanDown (fun x => !lt x D[a]!) D I e1) (fun i => i) e1 ⟨Nat.le_refl _, by omega, rfl⟩ ⟨rfl, rfl, rfl, rfl, rfl, trivial⟩ ?_
  rintro i ⟨hi1, hi2, hi3⟩
  by_cases hle:I ≤ i
  ·obtain ⟨_, qx⟩:=zcp (rest:=rest) (show i < D.size by omega) (0 + (i) * 1) rfl
   obtain ⟨_, qa⟩:=zcp (rest:=rest) (show a < D.size by omega) (0 + (a) * 1) rfl
   cases hc:lt D[i]! D[a]! with
   | false =>
    obtain ⟨i, rfl⟩:∃ k, i = k + 1:=⟨i - 1, by omega⟩
    have hw:IntKind.i64.wrap (((i + 1:Nat):Int) - 1) = (i:Int):=zaa (by omega) (by omega) |>.trans (by omega)
    refine Ze ?_;refine ZfB ?_;refine ZcM ?_;refine q7 (zx L (q:=900) rfl rfl rfl rfl rfl qx) rfl rfl ?_;refine Zq ?_;refine q7 (zx L (q:=900) rfl rfl rfl rfl rfl qa) rfl rfl ?_;refine zd (zp L rfl rfl (zk rfl) rfl rfl rfl (fun u H hH _ _ => zbb hc hH)) rfl ?_;refine Zab ?_;refine Zbh ?_;refine Zc8 ?_;refine q6 ?_;refine ZJ ?_;refine ZQ ?_;refine ZG ?_
    exact qy (x:=i + 1) i ⟨by omega, by omega, by rw [← hi3]; exact (zgf hle (by simp [hc])).symm⟩ (by omega) ⟨rfl, rfl, rfl, rfl, rfl, trivial⟩
   | true =>
    refine Ze ?_;refine ZfB ?_;refine ZcM ?_;refine q7 (zx L (q:=900) rfl rfl rfl rfl rfl qx) rfl rfl ?_;refine Zq ?_;refine q7 (zx L (q:=900) rfl rfl rfl rfl rfl qa) rfl rfl ?_;refine zd (zp L rfl rfl (zk rfl) rfl rfl rfl (fun u H hH _ _ => zbb hc hH)) rfl ?_;refine Zab ?_;refine Zba ?_
    exact zbe i Since.refl ⟨hi1, hi2, by rw [← hi3]; exact (zcb (by rintro ⟨_, h⟩; simp [hc] at h)).symm⟩ rfl ⟨rfl, rfl, rfl, rfl, rfl, trivial⟩
  ·refine Ze ?_;refine Ze6 ?_;refine Zs ?_;refine Zew ?_;refine ZbV ?_;refine Zba ?_
   exact zbe i Since.refl ⟨hi1, hi2, by rw [← hi3]; exact (zcb (by rintro ⟨h, _⟩; exact hle h)).symm⟩ rfl ⟨rfl, rfl, rfl, rfl, rfl, trivial⟩
 rintro J ⟨hJ1, hJ2, hJ3⟩
 rw [← hI3, ← hJ3] at hR'
 by_cases hIJ:J < I
 ·rw [if_pos hIJ] at hR'
  subst hR'
  obtain ⟨_, qj⟩:=zcp (rest:=rest) (show a < D.size by omega) (0 + (a) * 1) rfl
  obtain ⟨_, qi⟩:=zcp (rest:=rest) (show J < D.size by omega) (0 + (J) * 1) rfl
  have s1:=zb4 (rest:=rest) D[a]! (show J < D.size by omega) (0 + (J) * 1) rfl
  have b1:=zb5 (rest:=rest) (show J < D.size by omega) (0 + (J) * 1) rfl
  have hz:a < (D.setIfInBounds (J) D[a]!).size:=by rw [Array.size_setIfInBounds]; omega
  have s2:=zb4 (rest:=rest) D[J]! hz (0 + (a) * 1) rfl
  have b2:=zb5 (rest:=rest) hz (0 + (a) * 1) rfl
  rw [zcv] at s2
  refine ZdN ?_;refine Zbe ?_;refine Zv ?_;refine q4 (id:=8) [(200073, [900]), (200077, [900]), (100078, [900]), (100079, [900])] mixed (by kernel_rfl) ?_;refine Zcv ?_;refine Zq ?_;refine q7 (zx L (q:=900) rfl rfl rfl rfl rfl qj) rfl rfl ?_;refine Zq ?_;refine q7 (zx L (q:=900) rfl rfl rfl rfl rfl qi) rfl rfl ?_;refine Zm ?_;refine zaf (qs L (q:=900) rfl rfl rfl rfl rfl rfl b1 rfl s1) rfl ?_;refine Zm ?_;refine zaf (qs L (q:=900) rfl rfl rfl rfl rfl rfl b2 rfl s2) rfl ?_;refine ZaW ?_;refine Zaz ?_;refine Zy ?_
  exact za4 L 900 (r:=zab b _ tyU) (rs:=[.tmp 8, .tmp 9]) rfl (fun _ _ h => h) Since.refl rfl rfl (fun _ => rfl)
 ·rw [if_neg hIJ] at hR'
  have hw3:IntKind.i64.wrap ((I:Int) + 1) = ((I + 1:Nat):Int):=zaa (by omega) (by omega)
  have hw4:IntKind.i64.wrap ((J:Int) - 1) = ((J - 1:Nat):Int):=zaa (by omega) (by omega) |>.trans (by omega)
  obtain ⟨_, qj⟩:=zcp (rest:=rest) (show J < D.size by omega) (0 + (J) * 1) rfl
  obtain ⟨_, qi⟩:=zcp (rest:=rest) (show I < D.size by omega) (0 + (I) * 1) rfl
  have s1:=zb4 (rest:=rest) D[J]! (show I < D.size by omega) (0 + (I) * 1) rfl
  have b1:=zb5 (rest:=rest) (show I < D.size by omega) (0 + (I) * 1) rfl
  have hz:J < (D.setIfInBounds (I) D[J]!).size:=by rw [Array.size_setIfInBounds]; omega
  have s2:=zb4 (rest:=rest) D[I]! hz (0 + (J) * 1) rfl
  have b2:=zb5 (rest:=rest) hz (0 + (J) * 1) rfl
  rw [zcv] at s2
  have hEs:=zbk D I J
  refine ZdN ?_;refine Zb ?_;refine ZaX ?_;refine q4 (id:=10) [(200088, [900]), (200092, [900]), (100093, [900]), (100094, [900])] mixed (by kernel_rfl) ?_;refine Zcv ?_;refine Zq ?_;refine q7 (zx L (q:=900) rfl rfl rfl rfl rfl qj) rfl rfl ?_;refine Zq ?_;refine q7 (zx L (q:=900) rfl rfl rfl rfl rfl qi) rfl rfl ?_;refine Zm ?_;refine zaf (qs L (q:=900) rfl rfl rfl rfl rfl rfl b1 rfl s1) rfl ?_;refine Zm ?_;refine zaf (qs L (q:=900) rfl rfl rfl rfl rfl rfl b2 rfl s2) rfl ?_;refine ZaW ?_;refine ZaZ ?_;refine ZM ?_;refine Zd ?_;refine Zdz ?_;refine ZQ ?_;refine Zd ?_;refine q6 ?_
  generalize swp D I J = E at *
  obtain ⟨X, hX⟩:∃ X, X = partLoop lt a (I + 1) (J - 1) E:=⟨_, rfl⟩
  rw [← hX] at hR'
  refine zhc (zdl (fun s:Nat × Array Int => [(0, .is (.slice (some ⟨b, 0, none⟩) m cap)), (1, .is (.int .i64 a)), (11, .is (.int .i64 s.1)), (900, .own (zaj b (uC s.2 ++ rest) tyU))]) (fun s => s.2.size = m ∧ a ≤ s.1 ∧ s.1 ≤ e1 ∧ s = X) (fun _ => []) ?_) ?_
  rotate_left
  ·refine zan (fun s:(Nat × Nat) × Array Int => [(0, .is (.slice (some ⟨b, 0, none⟩) m cap)), (1, .is (.int .i64 a)), (10, .is (.int .i64 s.1.1)), (11, .is (.int .i64 s.1.2)), (900, .own (zaj b (uC s.2 ++ rest) tyU))]) (fun s => s.2.size = m ∧ a + 1 ≤ s.1.1 ∧ s.1.1 ≤ e1 + 1 ∧ a ≤ s.1.2 ∧ s.1.2 ≤ e1 ∧ partLoop lt a s.1.1 s.1.2 s.2 = X) (fun s => s.1.2 + 1 - s.1.1) ((I + 1, J - 1), E) ⟨by dsimp only; omega, by dsimp only; omega, by dsimp only; omega, by dsimp only; omega, by dsimp only; omega, hX.symm⟩ ⟨rfl, rfl, rfl, rfl, rfl, trivial⟩ ?_
   rintro ⟨⟨i0, j0⟩, G⟩ ⟨hG, hi1, hi2, hj1, hj2, hL⟩
   dsimp only at hG hi1 hi2 hj1 hj2 hL ⊢
   rw [partLoop] at hL
   clear hX hR' hEs hIJ hI3 hJ3
   refine q6 (zh (q6 ?_))
   refine zhc (zdl (fun i:Nat => [(0, .is (.slice (some ⟨b, 0, none⟩) m cap)), (1, .is (.int .i64 a)), (10, .is (.int .i64 i)), (11, .is (.int .i64 j0)), (900, .own (zaj b (uC G ++ rest) tyU))]) (fun i => i0 ≤ i ∧ i ≤ max i0 (j0 + 1) ∧ i = scanUp (fun x => lt x G[a]!) G j0 i0) (fun _ => []) ?_) ?_
   rotate_left
   ·refine zan (fun i:Nat => [(0, .is (.slice (some ⟨b, 0, none⟩) m cap)), (1, .is (.int .i64 a)), (10, .is (.int .i64 i)), (11, .is (.int .i64 j0)), (900, .own (zaj b (uC G ++ rest) tyU))]) (fun i => i0 ≤ i ∧ i ≤ max i0 (j0 + 1) ∧ scanUp (fun x => lt x G[a]!) G j0 i = scanUp (fun x => lt x G[a]!) G j0 i0) (fun i => j0 + 1 - i) i0 ⟨Nat.le_refl _, by omega, rfl⟩ ⟨rfl, rfl, rfl, rfl, rfl, trivial⟩ ?_
    rintro i ⟨hi1, hi2, hi3⟩
    by_cases hle:i ≤ j0
    ·obtain ⟨_, qx⟩:=zcp (rest:=rest) (show i < G.size by omega) (0 + (i) * 1) rfl
     obtain ⟨_, qa⟩:=zcp (rest:=rest) (show a < G.size by omega) (0 + (a) * 1) rfl
     cases hc:lt G[i]! G[a]! with
     | true =>
      have hw:IntKind.i64.wrap ((i:Int) + 1) = ((i + 1:Nat):Int):=zaa (by omega) (by omega)
      refine Ze ?_;refine q4 (id:=13) [(200106, [900]), (200110, [900])] mixed (by kernel_rfl) ?_;refine ZcM ?_;refine q7 (zx L (q:=900) rfl rfl rfl rfl rfl qx) rfl rfl ?_;refine Zq ?_;refine q7 (zx L (q:=900) rfl rfl rfl rfl rfl qa) rfl rfl ?_;refine zd (zp L rfl rfl (zk rfl) rfl rfl rfl (fun u H hH _ _ => zbb hc hH)) rfl ?_;refine Zbh ?_;refine Zc8 ?_;refine q6 ?_;refine Zc5 ?_;refine ZdM ?_
      exact qy (x:=i) (i + 1) ⟨by omega, by omega, by rw [← hi3]; exact (zjm hle (by simp [hc])).symm⟩ (by omega) ⟨rfl, rfl, rfl, rfl, rfl, trivial⟩
     | false =>
      refine Ze ?_;refine q4 (id:=13) [(200106, [900]), (200110, [900])] mixed (by kernel_rfl) ?_;refine ZcM ?_;refine q7 (zx L (q:=900) rfl rfl rfl rfl rfl qx) rfl rfl ?_;refine Zq ?_;refine q7 (zx L (q:=900) rfl rfl rfl rfl rfl qa) rfl rfl ?_;refine zd (zp L rfl rfl (zk rfl) rfl rfl rfl (fun u H hH _ _ => zbb hc hH)) rfl ?_;refine Zba ?_
      exact zbe i Since.refl ⟨hi1, hi2, by rw [← hi3]; exact (zcx (by rintro ⟨_, h⟩; simp [hc] at h)).symm⟩ rfl ⟨rfl, rfl, rfl, rfl, rfl, trivial⟩
    ·refine Ze ?_;refine ZeC ?_;refine Zs ?_;refine Zew ?_;refine Zeh ?_;refine ZaP ?_;refine Zba ?_
     exact zbe i Since.refl ⟨hi1, hi2, by rw [← hi3]; exact (zcx (by rintro ⟨h, _⟩; exact hle h)).symm⟩ rfl ⟨rfl, rfl, rfl, rfl, rfl, trivial⟩
   rintro K ⟨hK1, hK2, hK3⟩
   refine zh (q6 ?_)
   refine zhc (zdl (fun i:Nat => [(0, .is (.slice (some ⟨b, 0, none⟩) m cap)), (1, .is (.int .i64 a)), (10, .is (.int .i64 K)), (11, .is (.int .i64 i)), (900, .own (zaj b (uC G ++ rest) tyU))]) (fun i => i ≤ j0 ∧ min (K - 1) j0 ≤ i ∧ i = scanDown (fun x => !lt x G[a]!) G K j0) (fun _ => []) ?_) ?_
   rotate_left
   ·refine zan (fun i:Nat => [(0, .is (.slice (some ⟨b, 0, none⟩) m cap)), (1, .is (.int .i64 a)), (10, .is (.int .i64 K)), (11, .is (.int .i64 i)), (900, .own (zaj b (uC G ++ rest) tyU))]) (fun i => i ≤ j0 ∧ min (K - 1) j0 ≤ i ∧ scanDown (fun x => !lt x G[a]!) G K i = scanDown (fun x => !lt x G[a]!) G K j0) (fun i => i) j0 ⟨Nat.le_refl _, by omega, rfl⟩ ⟨rfl, rfl, rfl, rfl, rfl, trivial⟩ ?_
    rintro i ⟨hi1, hi2, hi3⟩
    by_cases hle:K ≤ i
    ·obtain ⟨_, qx⟩:=zcp (rest:=rest) (show i < G.size by omega) (0 + (i) * 1) rfl
     obtain ⟨_, qa⟩:=zcp (rest:=rest) (show a < G.size by omega) (0 + (a) * 1) rfl
     cases hc:lt G[i]! G[a]! with
     | false =>
      obtain ⟨i, rfl⟩:∃ k, i = k + 1:=⟨i - 1, by omega⟩
      have hw:IntKind.i64.wrap (((i + 1:Nat):Int) - 1) = (i:Int):=zaa (by omega) (by omega) |>.trans (by omega)
      refine Ze ?_;refine q4 (id:=15) [(200122, [900]), (200126, [900])] mixed (by kernel_rfl) ?_;refine ZcM ?_;refine q7 (zx L (q:=900) rfl rfl rfl rfl rfl qx) rfl rfl ?_;refine Zq ?_;refine q7 (zx L (q:=900) rfl rfl rfl rfl rfl qa) rfl rfl ?_;refine zd (zp L rfl rfl (zk rfl) rfl rfl rfl (fun u H hH _ _ => zbb hc hH)) rfl ?_;refine Zab ?_;refine Zbh ?_;refine Zc8 ?_;refine q6 ?_;refine ZbQ ?_;refine ZQ ?_;refine ZG ?_
      exact qy (x:=i + 1) i ⟨by omega, by omega, by rw [← hi3]; exact (zgf hle (by simp [hc])).symm⟩ (by omega) ⟨rfl, rfl, rfl, rfl, rfl, trivial⟩
     | true =>
      refine Ze ?_;refine q4 (id:=15) [(200122, [900]), (200126, [900])] mixed (by kernel_rfl) ?_;refine ZcM ?_;refine q7 (zx L (q:=900) rfl rfl rfl rfl rfl qx) rfl rfl ?_;refine Zq ?_;refine q7 (zx L (q:=900) rfl rfl rfl rfl rfl qa) rfl rfl ?_;refine zd (zp L rfl rfl (zk rfl) rfl rfl rfl (fun u H hH _ _ => zbb hc hH)) rfl ?_;refine Zab ?_;refine Zba ?_
      exact zbe i Since.refl ⟨hi1, hi2, by rw [← hi3]; exact (zcb (by rintro ⟨_, h⟩; simp [hc] at h)).symm⟩ rfl ⟨rfl, rfl, rfl, rfl, rfl, trivial⟩
    ·refine Ze ?_;refine q4 (id:=15) [] mixed (by kernel_rfl) ?_;refine Zs ?_;refine Zew ?_;refine ZbV ?_;refine Zba ?_
     exact zbe i Since.refl ⟨hi1, hi2, by rw [← hi3]; exact (zcb (by rintro ⟨h, _⟩; exact hle h)).symm⟩ rfl ⟨rfl, rfl, rfl, rfl, rfl, trivial⟩
   rintro M ⟨hM1, hM2, hM3⟩
   rw [← hK3, ← hM3] at hL
   by_cases hKM:M < K
   ·rw [if_pos hKM] at hL
    refine Ze ?_;refine Zb1 ?_;refine Zbe ?_;refine Zz ?_;refine yd ?_;refine ql ?_;refine zft rfl ?_;refine Zfh ?_
    exact zbe (M, G) Since.refl ⟨hG, by dsimp only; omega, by dsimp only; omega, hL⟩ rfl ⟨rfl, rfl, rfl, rfl, trivial⟩
   ·rw [if_neg hKM, dif_pos (by omega)] at hL
    have hw5:IntKind.i64.wrap ((K:Int) + 1) = ((K + 1:Nat):Int):=zaa (by omega) (by omega)
    have hw6:IntKind.i64.wrap ((M:Int) - 1) = ((M - 1:Nat):Int):=zaa (by omega) (by omega) |>.trans (by omega)
    have hGs:=zbk G K M
    obtain ⟨_, qj⟩:=zcp (rest:=rest) (show M < G.size by omega) (0 + (M) * 1) rfl
    obtain ⟨_, qi⟩:=zcp (rest:=rest) (show K < G.size by omega) (0 + (K) * 1) rfl
    have s1:=zb4 (rest:=rest) G[M]! (show K < G.size by omega) (0 + (K) * 1) rfl
    have b1:=zb5 (rest:=rest) (show K < G.size by omega) (0 + (K) * 1) rfl
    have hz:M < (G.setIfInBounds (K) G[M]!).size:=by rw [Array.size_setIfInBounds]; omega
    have s2:=zb4 (rest:=rest) G[K]! hz (0 + (M) * 1) rfl
    have b2:=zb5 (rest:=rest) hz (0 + (M) * 1) rfl
    rw [zcv] at s2
    refine Ze ?_;refine Zb1 ?_;refine Zb ?_;refine ZaX ?_;refine q4 (id:=18) [(200142, [900]), (200146, [900]), (100147, [900]), (100148, [900])] mixed (by kernel_rfl) ?_;refine Zcv ?_;refine Zq ?_;refine q7 (zx L (q:=900) rfl rfl rfl rfl rfl qj) rfl rfl ?_;refine Zq ?_;refine q7 (zx L (q:=900) rfl rfl rfl rfl rfl qi) rfl rfl ?_;refine Zm ?_;refine zaf (qs L (q:=900) rfl rfl rfl rfl rfl rfl b1 rfl s1) rfl ?_;refine Zm ?_;refine zaf (qs L (q:=900) rfl rfl rfl rfl rfl rfl b2 rfl s2) rfl ?_;refine ZaW ?_;refine ZdO ?_;refine ZM ?_;refine Zc ?_;refine Za1 ?_;refine Za ?_;refine ZQ ?_;refine ZG ?_
    exact qy (x:=((i0, j0), G)) ((K + 1, M - 1), swp G K M) ⟨by dsimp only; omega, by dsimp only; omega, by dsimp only; omega, by dsimp only; omega, by dsimp only; omega, hL⟩ (by dsimp only; omega) ⟨rfl, rfl, rfl, rfl, rfl, trivial⟩
  ·rintro ⟨J2, G⟩ ⟨hG, hj1, hj2, hL⟩
   dsimp only at hG hj1 hj2 ⊢
   rw [← hL] at hR'
   dsimp only at hR'
   subst hR'
   obtain ⟨_, qj⟩:=zcp (rest:=rest) (show a < G.size by omega) (0 + (a) * 1) rfl
   obtain ⟨_, qi⟩:=zcp (rest:=rest) (show J2 < G.size by omega) (0 + (J2) * 1) rfl
   have s1:=zb4 (rest:=rest) G[a]! (show J2 < G.size by omega) (0 + (J2) * 1) rfl
   have b1:=zb5 (rest:=rest) (show J2 < G.size by omega) (0 + (J2) * 1) rfl
   have hz:a < (G.setIfInBounds (J2) G[a]!).size:=by rw [Array.size_setIfInBounds]; omega
   have s2:=zb4 (rest:=rest) G[J2]! hz (0 + (a) * 1) rfl
   have b2:=zb5 (rest:=rest) hz (0 + (a) * 1) rfl
   rw [zcv] at s2
   refine zh ?_;refine q4 (id:=21) [(200160, [900]), (200164, [900]), (100165, [900]), (100166, [900])] mixed (by kernel_rfl) ?_;refine Zcv ?_;refine Zq ?_;refine q7 (zx L (q:=900) rfl rfl rfl rfl rfl qj) rfl rfl ?_;refine Zq ?_;refine q7 (zx L (q:=900) rfl rfl rfl rfl rfl qi) rfl rfl ?_;refine Zm ?_;refine zaf (qs L (q:=900) rfl rfl rfl rfl rfl rfl b1 rfl s1) rfl ?_;refine Zm ?_;refine zaf (qs L (q:=900) rfl rfl rfl rfl rfl rfl b2 rfl s2) rfl ?_;refine ZaW ?_;refine Zdg ?_;refine Za ?_;refine Zy ?_
   exact za4 L 900 (r:=zab b _ tyU) (rs:=[.tmp 8, .tmp 9]) rfl (fun _ _ h => h) Since.refl rfl rfl (fun _ => rfl)
end Go.V.So
set_option maxRecDepth 20000
namespace Go.V.So
open Go.Proofs Go.RowKit Go.V Go.Sort
attribute [local irreducible] V N X VO Par StepOK Has Ret RetL RetO zbd RetX Src
set_option maxHeartbeats 2000000 in
set_option maxRecDepth 20000 in
theorem zzs {d:Array Int} {rest:List Value} {b m cap a e p:Nat} (hap:a ≤ p) (hpe:p < e) (he:e ≤ d.size) (hm:d.size = m) (hm1:m ≤ 100000) {w:World} {B:Heap} {C:Nat → Prop} (hB:B.Le (hp w))
  (hr:(zab b (uC d ++ rest) tyU).P B w C) (hC:∀ k, C k → k < w.heap.size ∧ B k = none) :
  RetX Tryz.prog 276 [.slice (some ⟨b, 0, none⟩) m cap, .int .i64 a, .int .i64 e, .int .i64 p] w B C (zab b (uC (partitionEqual lt d a e p).2 ++ rest) tyU) (.int .i64 (partitionEqual lt d a e p).1):=by
 unfold RetX
 refine zah 900 (zab b (uC d ++ rest) tyU) Tryz.func276 rfl Tryz.ntmps276 (Nat.le_of_ble_eq_true rfl) hB hr hC ?_
 rw [zae]
 obtain ⟨_, qj⟩:=zcp (rest:=rest) (show p < d.size by omega) (0 + (p) * 1) rfl
 obtain ⟨_, qi⟩:=zcp (rest:=rest) (show a < d.size by omega) (0 + (a) * 1) rfl
 have s1:=zb4 (rest:=rest) d[p]! (show a < d.size by omega) (0 + (a) * 1) rfl
 have b1:=zb5 (rest:=rest) (show a < d.size by omega) (0 + (a) * 1) rfl
 have hz:p < (d.setIfInBounds (a) d[p]!).size:=by rw [Array.size_setIfInBounds]; omega
 have s2:=zb4 (rest:=rest) d[a]! hz (0 + (p) * 1) rfl
 have b2:=zb5 (rest:=rest) hz (0 + (p) * 1) rfl
 rw [zcv] at s2
 have hw1:IntKind.i64.wrap ((a:Int) + 1) = ((a + 1:Nat):Int):=zaa (by omega) (by omega)
 obtain ⟨e1, rfl⟩:∃ e1, e = e1 + 1:=⟨e - 1, by omega⟩
 have hw2:IntKind.i64.wrap (((e1 + 1:Nat):Int) - 1) = (e1:Int):=zaa (by omega) (by omega) |>.trans (by omega)
 obtain ⟨X, hX⟩:∃ X, X = partitionEqual lt d a (e1 + 1) p:=⟨_, rfl⟩
 rw [← hX]
 have hR':=hX
 unfold partitionEqual at hR'
 rw [Nat.add_sub_cancel] at hR'
 have hDs:=zbk d a p
 refine ZdT ?_;refine q4 (id:=1) [(200018, [900]), (200022, [900]), (100023, [900]), (100024, [900])] mixed (by kernel_rfl) ?_;refine Zcv ?_;refine Zq ?_;refine q7 (zx L (q:=900) rfl rfl rfl rfl rfl qj) rfl rfl ?_;refine Zq ?_;refine q7 (zx L (q:=900) rfl rfl rfl rfl rfl qi) rfl rfl ?_;refine Zm ?_;refine zaf (qs L (q:=900) rfl rfl rfl rfl rfl rfl b1 rfl s1) rfl ?_;refine Zm ?_;refine zaf (qs L (q:=900) rfl rfl rfl rfl rfl rfl b2 rfl s2) rfl ?_;refine ZaW ?_;refine Z2 ?_;refine ZM ?_;refine Za ?_;refine ZQ ?_;refine Zau ?_;refine q6 ?_
 generalize swp d a p = D at *
 refine zhc (zdl (fun s:Nat × Array Int => [(9, .is (.int .i64 s.1)), (900, .own (zaj b (uC s.2 ++ rest) tyU))]) (fun s => s.2.size = m ∧ s = X) (fun _ => []) ?_) ?_
 rotate_left
 ·refine zan (fun s:(Nat × Nat) × Array Int => [(0, .is (.slice (some ⟨b, 0, none⟩) m cap)), (1, .is (.int .i64 a)), (9, .is (.int .i64 s.1.1)), (10, .is (.int .i64 s.1.2)), (900, .own (zaj b (uC s.2 ++ rest) tyU))]) (fun s => s.2.size = m ∧ a + 1 ≤ s.1.1 ∧ s.1.1 ≤ e1 + 1 ∧ a ≤ s.1.2 ∧ s.1.2 ≤ e1 ∧ partEqLoop lt a s.1.1 s.1.2 s.2 = X) (fun s => s.1.2 + 1 - s.1.1) ((a + 1, e1), D) ⟨by dsimp only; omega, by dsimp only; omega, by dsimp only; omega, by dsimp only; omega, by dsimp only; omega, hR'.symm⟩ ⟨rfl, rfl, rfl, rfl, rfl, trivial⟩ ?_
  rintro ⟨⟨i0, j0⟩, G⟩ ⟨hG, hi1, hi2, hj1, hj2, hL⟩
  dsimp only at hG hi1 hi2 hj1 hj2 hL ⊢
  rw [partEqLoop] at hL
  clear hX hR' hDs
  refine q6 (zh (q6 ?_))
  refine zhc (zdl (fun i:Nat => [(0, .is (.slice (some ⟨b, 0, none⟩) m cap)), (1, .is (.int .i64 a)), (9, .is (.int .i64 i)), (10, .is (.int .i64 j0)), (900, .own (zaj b (uC G ++ rest) tyU))]) (fun i => i0 ≤ i ∧ i ≤ max i0 (j0 + 1) ∧ i = scanUp (fun x => !lt G[a]! x) G j0 i0) (fun _ => []) ?_) ?_
  rotate_left
  ·refine zan (fun i:Nat => [(0, .is (.slice (some ⟨b, 0, none⟩) m cap)), (1, .is (.int .i64 a)), (9, .is (.int .i64 i)), (10, .is (.int .i64 j0)), (900, .own (zaj b (uC G ++ rest) tyU))]) (fun i => i0 ≤ i ∧ i ≤ max i0 (j0 + 1) ∧ scanUp (fun x => !lt G[a]! x) G j0 i = scanUp (fun x => !lt G[a]! x) G j0 i0) (fun i => j0 + 1 - i) i0 ⟨Nat.le_refl _, by omega, rfl⟩ ⟨rfl, rfl, rfl, rfl, rfl, trivial⟩ ?_
   rintro i ⟨hi1, hi2, hi3⟩
   by_cases hle:i ≤ j0
   ·obtain ⟨_, qx⟩:=zcp (rest:=rest) (show i < G.size by omega) (0 + (i) * 1) rfl
    obtain ⟨_, qa⟩:=zcp (rest:=rest) (show a < G.size by omega) (0 + (a) * 1) rfl
    cases hc:lt G[a]! G[i]! with
    | false =>
     have hw:IntKind.i64.wrap ((i:Int) + 1) = ((i + 1:Nat):Int):=zaa (by omega) (by omega)
     refine Ze ?_;refine q4 (id:=3) [(200036, [900]), (200040, [900])] mixed (by kernel_rfl) ?_;refine ZcM ?_;refine q7 (zx L (q:=900) rfl rfl rfl rfl rfl qa) rfl rfl ?_;refine Zq ?_;refine q7 (zx L (q:=900) rfl rfl rfl rfl rfl qx) rfl rfl ?_;refine zd (zp L rfl rfl (zk rfl) rfl rfl rfl (fun u H hH _ _ => zbb hc hH)) rfl ?_;refine Zab ?_;refine Zbh ?_;refine Zc8 ?_;refine q6 ?_;refine Zi ?_;refine ZdM ?_
     exact qy (x:=i) (i + 1) ⟨by omega, by omega, by rw [← hi3]; exact (zjm hle (by simp [hc])).symm⟩ (by omega) ⟨rfl, rfl, rfl, rfl, rfl, trivial⟩
    | true =>
     refine Ze ?_;refine q4 (id:=3) [(200036, [900]), (200040, [900])] mixed (by kernel_rfl) ?_;refine ZcM ?_;refine q7 (zx L (q:=900) rfl rfl rfl rfl rfl qa) rfl rfl ?_;refine Zq ?_;refine q7 (zx L (q:=900) rfl rfl rfl rfl rfl qx) rfl rfl ?_;refine zd (zp L rfl rfl (zk rfl) rfl rfl rfl (fun u H hH _ _ => zbb hc hH)) rfl ?_;refine Zab ?_;refine Zba ?_
     exact zbe i Since.refl ⟨hi1, hi2, by rw [← hi3]; exact (zcx (by rintro ⟨_, h⟩; simp [hc] at h)).symm⟩ rfl ⟨rfl, rfl, rfl, rfl, rfl, trivial⟩
   ·refine Ze ?_;refine Zet ?_;refine Zs ?_;refine Zew ?_;refine ZbV ?_;refine Zba ?_
    exact zbe i Since.refl ⟨hi1, hi2, by rw [← hi3]; exact (zcx (by rintro ⟨h, _⟩; exact hle h)).symm⟩ rfl ⟨rfl, rfl, rfl, rfl, rfl, trivial⟩
  rintro K ⟨hK1, hK2, hK3⟩
  refine zh (q6 ?_)
  refine zhc (zdl (fun i:Nat => [(0, .is (.slice (some ⟨b, 0, none⟩) m cap)), (1, .is (.int .i64 a)), (9, .is (.int .i64 K)), (10, .is (.int .i64 i)), (900, .own (zaj b (uC G ++ rest) tyU))]) (fun i => i ≤ j0 ∧ min (K - 1) j0 ≤ i ∧ i = scanDown (fun x => lt G[a]! x) G K j0) (fun _ => []) ?_) ?_
  rotate_left
  ·refine zan (fun i:Nat => [(0, .is (.slice (some ⟨b, 0, none⟩) m cap)), (1, .is (.int .i64 a)), (9, .is (.int .i64 K)), (10, .is (.int .i64 i)), (900, .own (zaj b (uC G ++ rest) tyU))]) (fun i => i ≤ j0 ∧ min (K - 1) j0 ≤ i ∧ scanDown (fun x => lt G[a]! x) G K i = scanDown (fun x => lt G[a]! x) G K j0) (fun i => i) j0 ⟨Nat.le_refl _, by omega, rfl⟩ ⟨rfl, rfl, rfl, rfl, rfl, trivial⟩ ?_
   rintro i ⟨hi1, hi2, hi3⟩
   by_cases hle:K ≤ i
   ·obtain ⟨_, qx⟩:=zcp (rest:=rest) (show i < G.size by omega) (0 + (i) * 1) rfl
    obtain ⟨_, qa⟩:=zcp (rest:=rest) (show a < G.size by omega) (0 + (a) * 1) rfl
    cases hc:lt G[a]! G[i]! with
    | true =>
     obtain ⟨i, rfl⟩:∃ k, i = k + 1:=⟨i - 1, by omega⟩
     have hw:IntKind.i64.wrap (((i + 1:Nat):Int) - 1) = (i:Int):=zaa (by omega) (by omega) |>.trans (by omega)
     refine Ze ?_;refine ZfB ?_;refine ZcM ?_;refine q7 (zx L (q:=900) rfl rfl rfl rfl rfl qa) rfl rfl ?_;refine Zq ?_;refine q7 (zx L (q:=900) rfl rfl rfl rfl rfl qx) rfl rfl ?_;refine zd (zp L rfl rfl (zk rfl) rfl rfl rfl (fun u H hH _ _ => zbb hc hH)) rfl ?_;refine Zbh ?_;refine Zc8 ?_;refine q6 ?_;refine ZJ ?_;refine ZQ ?_;refine ZG ?_
     exact qy (x:=i + 1) i ⟨by omega, by omega, by rw [← hi3]; exact (zgf hle (by simp [hc])).symm⟩ (by omega) ⟨rfl, rfl, rfl, rfl, rfl, trivial⟩
    | false =>
     refine Ze ?_;refine ZfB ?_;refine ZcM ?_;refine q7 (zx L (q:=900) rfl rfl rfl rfl rfl qa) rfl rfl ?_;refine Zq ?_;refine q7 (zx L (q:=900) rfl rfl rfl rfl rfl qx) rfl rfl ?_;refine zd (zp L rfl rfl (zk rfl) rfl rfl rfl (fun u H hH _ _ => zbb hc hH)) rfl ?_;refine Zba ?_
     exact zbe i Since.refl ⟨hi1, hi2, by rw [← hi3]; exact (zcb (by rintro ⟨_, h⟩; simp [hc] at h)).symm⟩ rfl ⟨rfl, rfl, rfl, rfl, rfl, trivial⟩
   ·refine Ze ?_;refine Ze6 ?_;refine Zs ?_;refine Zew ?_;refine Zeh ?_;refine ZaP ?_;refine Zba ?_
    exact zbe i Since.refl ⟨hi1, hi2, by rw [← hi3]; exact (zcb (by rintro ⟨h, _⟩; exact hle h)).symm⟩ rfl ⟨rfl, rfl, rfl, rfl, rfl, trivial⟩
  rintro M ⟨hM1, hM2, hM3⟩
  rw [← hK3, ← hM3] at hL
  by_cases hKM:M < K
  ·rw [if_pos hKM] at hL
   refine ZdN ?_;refine Zbe ?_;refine Zz ?_;refine yd ?_;refine ql ?_;refine zft rfl ?_;refine Zfh ?_
   exact zbe (K, G) Since.refl ⟨hG, hL⟩ rfl ⟨rfl, rfl, trivial⟩
  ·rw [if_neg hKM, dif_pos (by omega)] at hL
   have hw5:IntKind.i64.wrap ((K:Int) + 1) = ((K + 1:Nat):Int):=zaa (by omega) (by omega)
   have hw6:IntKind.i64.wrap ((M:Int) - 1) = ((M - 1:Nat):Int):=zaa (by omega) (by omega) |>.trans (by omega)
   have hGs:=zbk G K M
   obtain ⟨_, qj⟩:=zcp (rest:=rest) (show M < G.size by omega) (0 + (M) * 1) rfl
   obtain ⟨_, qi⟩:=zcp (rest:=rest) (show K < G.size by omega) (0 + (K) * 1) rfl
   have s1:=zb4 (rest:=rest) G[M]! (show K < G.size by omega) (0 + (K) * 1) rfl
   have b1:=zb5 (rest:=rest) (show K < G.size by omega) (0 + (K) * 1) rfl
   have hz:M < (G.setIfInBounds (K) G[M]!).size:=by rw [Array.size_setIfInBounds]; omega
   have s2:=zb4 (rest:=rest) G[K]! hz (0 + (M) * 1) rfl
   have b2:=zb5 (rest:=rest) hz (0 + (M) * 1) rfl
   rw [zcv] at s2
   refine ZdN ?_;refine Zb ?_;refine ZaX ?_;refine q4 (id:=8) [(200072, [900]), (200076, [900]), (100077, [900]), (100078, [900])] mixed (by kernel_rfl) ?_;refine Zcv ?_;refine Zq ?_;refine q7 (zx L (q:=900) rfl rfl rfl rfl rfl qj) rfl rfl ?_;refine Zq ?_;refine q7 (zx L (q:=900) rfl rfl rfl rfl rfl qi) rfl rfl ?_;refine Zm ?_;refine zaf (qs L (q:=900) rfl rfl rfl rfl rfl rfl b1 rfl s1) rfl ?_;refine Zm ?_;refine zaf (qs L (q:=900) rfl rfl rfl rfl rfl rfl b2 rfl s2) rfl ?_;refine ZaW ?_;refine Zaz ?_;refine ZM ?_;refine Zc ?_;refine Zcq ?_;refine ZQ ?_;refine ZG ?_
   exact qy (x:=((i0, j0), G)) ((K + 1, M - 1), swp G K M) ⟨by dsimp only; omega, by dsimp only; omega, by dsimp only; omega, by dsimp only; omega, by dsimp only; omega, hL⟩ (by dsimp only; omega) ⟨rfl, rfl, rfl, rfl, rfl, trivial⟩
 ·rintro ⟨K, G⟩ ⟨hG, hL⟩
  dsimp only at hG ⊢
  rw [← hL]
  refine zh ?_;refine ZaZ ?_;refine Zc ?_
  exact za4 L 900 (r:=zab b _ tyU) (rs:=[.tmp 8]) rfl (fun _ _ h => h) Since.refl rfl rfl (fun _ => rfl)
end Go.V.So
set_option maxRecDepth 20000
namespace Go.V.So
open Go.Proofs Go.RowKit Go.V Go.Sort
theorem _root_.Go.V.ZbG {A B:Prop} (h:B) (t:Wr B → A:=by intro h; refine zf (id:=24) ?_;exact h.h):A:=t ⟨h⟩
theorem _root_.Go.V.Zcw {A B:Prop} (h:B) (t:Wr B → A:=by intro h; refine Zb ?_;refine Zcl ?_;exact h.h):A:=t ⟨h⟩
theorem _root_.Go.V.Zcx {A B:Prop} (h:B) (t:Wr B → A:=by intro h; refine ZM ?_;refine Zax ?_;exact h.h):A:=t ⟨h⟩
theorem _root_.Go.V.Zcy {A B:Prop} (h:B) (t:Wr B → A:=by intro h; refine Zct ?_;refine Za ?_;exact h.h):A:=t ⟨h⟩
attribute [local irreducible] V N X VO Par StepOK Has Ret RetL RetO zbd RetX Src
theorem zfh {d:Array Int} {e i:Nat} (h:¬ (i < e ∧ lt d[i]! d[i - 1]! = false)):scanSorted lt d e i = i:=by
 rw [scanSorted, if_neg]
 simpa using h
theorem zmb {d:Array Int} {e i:Nat} (h1:i < e) (h2:lt d[i]! d[i - 1]! = false):scanSorted lt d e i = scanSorted lt d e (i + 1):=by
 rw [scanSorted, if_pos (by simp [h1, h2])]
set_option maxHeartbeats 2000000 in
set_option maxRecDepth 20000 in
theorem pins_ret {d:Array Int} {rest:List Value} {b m cap a e:Nat} (hab:a < e) (he:e ≤ d.size) (hm:d.size = m) (hm1:m ≤ 100000) {w:World} {B:Heap} {C:Nat → Prop} (hB:B.Le (hp w))
  (hr:(zab b (uC d ++ rest) tyU).P B w C) (hC:∀ k, C k → k < w.heap.size ∧ B k = none) :
  RetX Tryz.prog 274 [.slice (some ⟨b, 0, none⟩) m cap, .int .i64 a, .int .i64 e] w B C (zab b (uC (partialInsertionSort lt d a e).1 ++ rest) tyU) (.bool (partialInsertionSort lt d a e).2):=by
 unfold RetX
 refine zah 900 (zab b (uC d ++ rest) tyU) Tryz.func274 rfl Tryz.ntmps274 (Nat.le_of_ble_eq_true rfl) hB hr hC ?_
 rw [zae]
 have hw1:IntKind.i64.wrap ((a:Int) + 1) = ((a + 1:Nat):Int):=zaa (by omega) (by omega)
 have hw2:IntKind.i64.wrap ((e:Int) - (a:Int)) = ((e - a:Nat):Int):=zaa (by omega) (by omega) |>.trans (by omega)
 obtain ⟨X, hX⟩:∃ X, X = partialInsertionSort lt d a e:=⟨_, rfl⟩
 rw [← hX]
 unfold partialInsertionSort at hX
 refine Zbp ?_;refine ZM ?_;refine Zf ?_;refine Z5 ?_;refine Zaf ?_
 refine zan (fun s:(Nat × Nat) × Array Int => [(0, .is (.slice (some ⟨b, 0, none⟩) m cap)), (1, .is (.int .i64 a)), (2, .is (.int .i64 e)), (7, .is (.int .i64 s.1.2)), (8, .is (.int .i64 s.1.1)), (900, .own (zaj b (uC s.2 ++ rest) tyU))]) (fun s => s.1.1 ≤ 5 ∧ a + 1 ≤ s.1.2 ∧ s.1.2 ≤ e ∧ s.2.size = m ∧ partialIns lt a e (5 - s.1.1) s.1.2 s.2 = X) (fun s => 5 - s.1.1) ((0, a + 1), d) ⟨by dsimp only; omega, by dsimp only; omega, by dsimp only; omega, hm, hX.symm⟩ ⟨rfl, rfl, rfl, rfl, rfl, rfl, trivial⟩ ?_
 rintro ⟨⟨k, i0⟩, D⟩ ⟨hk, hi1, hi2, hD, hL⟩
 dsimp only at hk hi1 hi2 hD hL ⊢
 clear hX
 by_cases hk5:k < 5
 ·obtain ⟨s, hs⟩:∃ s, 5 - k = s + 1:=⟨5 - k - 1, by omega⟩
  have hs':5 - (k + 1) = s:=by omega
  rw [hs, partialIns] at hL
  dsimp only at hL
  refine Ze ?_;refine Zk ?_;refine ZbB ?_;refine q6 ?_
  refine zhc (zdl (fun i:Nat => [(0, .is (.slice (some ⟨b, 0, none⟩) m cap)), (1, .is (.int .i64 a)), (2, .is (.int .i64 e)), (7, .is (.int .i64 i)), (8, .is (.int .i64 k)), (900, .own (zaj b (uC D ++ rest) tyU))]) (fun i => a + 1 ≤ i ∧ i ≤ e ∧ i = scanSorted lt D e i0) (fun _ => []) ?_) ?_
  rotate_left
  ·refine zan (fun i:Nat => [(0, .is (.slice (some ⟨b, 0, none⟩) m cap)), (1, .is (.int .i64 a)), (2, .is (.int .i64 e)), (7, .is (.int .i64 i)), (8, .is (.int .i64 k)), (900, .own (zaj b (uC D ++ rest) tyU))]) (fun i => a + 1 ≤ i ∧ i ≤ e ∧ scanSorted lt D e i = scanSorted lt D e i0) (fun i => e - i) i0 ⟨hi1, hi2, rfl⟩ ⟨rfl, rfl, rfl, rfl, rfl, rfl, trivial⟩ ?_
   rintro i ⟨h1, h2, h3⟩
   by_cases hle:i < e
   ·obtain ⟨_, q1⟩:=zcp (rest:=rest) (show i < D.size by omega) (0 + (i) * 1) rfl
    obtain ⟨_, q2⟩:=zcp (rest:=rest) (show i - 1 < D.size by omega) (0 + (i - 1) * 1) rfl
    have hw3:IntKind.i64.wrap ((i:Int) - 1) = ((i - 1:Nat):Int):=zaa (by omega) (by omega) |>.trans (by omega)
    cases hc:lt D[i]! D[i - 1]! with
    | false =>
     have hw4:IntKind.i64.wrap ((i:Int) + 1) = ((i + 1:Nat):Int):=zaa (by omega) (by omega)
     refine Ze ?_;refine q4 (id:=5) [(200024, [900]), (200029, [900])] mixed (by kernel_rfl) ?_;refine Zs ?_;refine ZbT ?_;refine Zei ?_;refine q7 (zx L (q:=900) rfl rfl rfl rfl rfl q1) rfl rfl ?_;refine Zbi ?_;refine q7 (zx L (q:=900) rfl rfl rfl rfl rfl q2) rfl rfl ?_;refine zd (zp L rfl rfl (zk rfl) rfl rfl rfl (fun u H hH _ _ => zbb hc hH)) rfl ?_;refine Zab ?_;refine Zbh ?_;refine Zc8 ?_;refine q6 ?_;refine ZJ ?_;refine ZdM ?_
     exact qy (x:=i) (i + 1) ⟨by omega, by omega, by rw [← h3]; exact (zmb hle hc).symm⟩ (by omega) ⟨rfl, rfl, rfl, rfl, rfl, rfl, trivial⟩
    | true =>
     refine Ze ?_;refine q4 (id:=5) [(200024, [900]), (200029, [900])] mixed (by kernel_rfl) ?_;refine Zs ?_;refine ZbT ?_;refine Zei ?_;refine q7 (zx L (q:=900) rfl rfl rfl rfl rfl q1) rfl rfl ?_;refine Zbi ?_;refine q7 (zx L (q:=900) rfl rfl rfl rfl rfl q2) rfl rfl ?_;refine zd (zp L rfl rfl (zk rfl) rfl rfl rfl (fun u H hH _ _ => zbb hc hH)) rfl ?_;refine Zab ?_;refine Zba ?_
     exact zbe i Since.refl ⟨h1, h2, by rw [← h3]; exact (zfh (by rintro ⟨_, h⟩; simp [hc] at h)).symm⟩ rfl ⟨rfl, rfl, rfl, rfl, rfl, rfl, trivial⟩
   ·refine Ze ?_;refine Ze6 ?_;refine Zs ?_;refine Zeg ?_;refine ZbV ?_;refine ZaP ?_;refine Zba ?_
    exact zbe i Since.refl ⟨h1, h2, by rw [← h3]; exact (zfh (by rintro ⟨h, _⟩; exact hle h)).symm⟩ rfl ⟨rfl, rfl, rfl, rfl, rfl, rfl, trivial⟩
  ·rintro i ⟨h1, h2, h3⟩
   rw [← h3] at hL
   by_cases hie:i = e
   ·rw [if_pos hie] at hL
    subst hie
    rw [← hL]
    refine ZdN ?_;refine Zb ?_;refine Z9 ?_;refine Zv ?_;refine ZA ?_;refine Zc ?_
    exact za4 L 900 (r:=zab b _ tyU) (rs:=[.tmp 6]) rfl (fun _ _ h => h) Since.refl rfl rfl (fun _ => rfl)
   ·rw [if_neg hie] at hL
    by_cases h50:e - a < 50
    ·rw [if_pos h50] at hL
     rw [← hL]
     refine ZdN ?_;refine Zb ?_;refine ZL ?_;refine ZB ?_;refine Zah ?_;refine Z8 ?_;refine Zac ?_;refine Zv ?_;refine Zap ?_;refine Zc ?_
     exact za4 L 900 (r:=zab b _ tyU) (rs:=[.tmp 6]) rfl (fun _ _ h => h) Since.refl rfl rfl (fun _ => rfl)
    ·rw [if_neg h50] at hL
     have hw3:IntKind.i64.wrap ((i:Int) - 1) = ((i - 1:Nat):Int):=zaa (by omega) (by omega) |>.trans (by omega)
     have hw4:IntKind.i64.wrap ((i:Int) - (a:Int)) = ((i - a:Nat):Int):=zaa (by omega) (by omega) |>.trans (by omega)
     have hw5:IntKind.i64.wrap ((e:Int) - (i:Int)) = ((e - i:Nat):Int):=zaa (by omega) (by omega) |>.trans (by omega)
     have hw6:IntKind.i64.wrap ((i:Int) + 1) = ((i + 1:Nat):Int):=zaa (by omega) (by omega)
     have hw7:IntKind.i64.wrap ((k:Int) + 1) = ((k + 1:Nat):Int):=zaa (by omega) (by omega)
     have hDs:=zbk D i (i - 1)
     obtain ⟨_, qj⟩:=zcp (rest:=rest) (show i - 1 < D.size by omega) (0 + (i - 1) * 1) rfl
     obtain ⟨_, qi⟩:=zcp (rest:=rest) (show i < D.size by omega) (0 + (i) * 1) rfl
     have s1:=zb4 (rest:=rest) D[i - 1]! (show i < D.size by omega) (0 + (i) * 1) rfl
     have b1:=zb5 (rest:=rest) (show i < D.size by omega) (0 + (i) * 1) rfl
     have hz:i - 1 < (D.setIfInBounds (i) D[i - 1]!).size:=by rw [Array.size_setIfInBounds]; omega
     have s2:=zb4 (rest:=rest) D[i]! hz (0 + (i - 1) * 1) rfl
     have b2:=zb5 (rest:=rest) hz (0 + (i - 1) * 1) rfl
     rw [zcv] at s2
     refine ZdN ?_;refine Zb ?_;refine ZL ?_;refine ZB ?_;refine Zah ?_;refine Z8 ?_;refine Z7 ?_;refine Zt ?_;refine q4 (id:=11) [(200051, [900]), (200055, [900]), (100056, [900]), (100057, [900])] mixed (by kernel_rfl) ?_;refine Zs ?_;refine ZeE ?_;refine Zbi ?_;refine q7 (zx L (q:=900) rfl rfl rfl rfl rfl qj) rfl rfl ?_;refine Zq ?_;refine q7 (zx L (q:=900) rfl rfl rfl rfl rfl qi) rfl rfl ?_;refine Zm ?_;refine zaf (qs L (q:=900) rfl rfl rfl rfl rfl rfl b1 rfl s1) rfl ?_;refine Zm ?_;refine zaf (qs L (q:=900) rfl rfl rfl rfl rfl rfl b2 rfl s2) rfl ?_;refine ZaW ?_;refine zh ?_
     generalize swp D i (i - 1) = D1 at *
     obtain ⟨D2, hD2⟩:∃ D2, D2 = (if i - a ≥ 2 then shiftDown lt (i - 1) D1 else D1):=⟨_, rfl⟩
     rw [← hD2] at hL
     refine zgn (fun E:Array Int => [(0, .is (.slice (some ⟨b, 0, none⟩) m cap)), (1, .is (.int .i64 a)), (2, .is (.int .i64 e)), (7, .is (.int .i64 i)), (8, .is (.int .i64 k)), (900, .own (zaj b (uC E ++ rest) tyU))]) (fun E => E.size = m ∧ E = D2) (fun _ => []) ?_ ?_
     rotate_left
     ·by_cases h2a:i - a ≥ 2
      ·rw [if_pos h2a] at hD2
       refine ZN ?_;refine Z8 ?_;refine Za5 ?_;refine Zv ?_;refine ZbC ?_;refine ZQ ?_;refine Zaf ?_
       refine zan (fun t:Nat × Array Int => [(0, .is (.slice (some ⟨b, 0, none⟩) m cap)), (1, .is (.int .i64 a)), (2, .is (.int .i64 e)), (7, .is (.int .i64 i)), (8, .is (.int .i64 k)), (9, .is (.int .i64 t.1)), (900, .own (zaj b (uC t.2 ++ rest) tyU))]) (fun t => t.1 ≤ i - 1 ∧ t.2.size = m ∧ shiftDown lt t.1 t.2 = D2) (fun t => t.1) (i - 1, D1) ⟨Nat.le_refl _, by dsimp only; omega, hD2.symm⟩ ⟨rfl, rfl, rfl, rfl, rfl, rfl, rfl, trivial⟩ ?_
       rintro ⟨j, E⟩ ⟨hj, hE, hS⟩
       dsimp only at hj hE hS ⊢
       clear hD2
       rcases j with _ | j
       ·rw [shiftDown] at hS
        refine Ze ?_;refine Zc5 ?_;refine ZD ?_;refine Zbx ?_
        exact zbe E Since.refl ⟨hE, hS⟩ rfl ⟨rfl, rfl, rfl, rfl, rfl, rfl, trivial⟩
       ·rw [shiftDown] at hS
        have hw8:IntKind.i64.wrap (((j + 1:Nat):Int) - 1) = (j:Int):=zaa (by omega) (by omega) |>.trans (by omega)
        obtain ⟨_, q1⟩:=zcp (rest:=rest) (show j + 1 < E.size by omega) (0 + (j + 1) * 1) rfl
        obtain ⟨_, q2⟩:=zcp (rest:=rest) (show j < E.size by omega) (0 + (j) * 1) rfl
        cases hc:lt E[j + 1]! E[j]! with
        | false =>
         rw [if_pos (by rw [hc]; rfl)] at hS
         refine Ze ?_;refine Zc5 ?_;refine Za7 ?_;refine ZaM ?_;refine Ze ?_;refine q4 (id:=16) [(200071, [900]), (200076, [900])] mixed (by kernel_rfl) ?_;refine Zq ?_;refine q7 (zx L (q:=900) rfl rfl rfl rfl rfl q1) rfl rfl ?_;refine Zbi ?_;refine q7 (zx L (q:=900) rfl rfl rfl rfl rfl q2) rfl rfl ?_;refine zd (zp L rfl rfl (zk rfl) rfl rfl rfl (fun u H hH _ _ => zbb hc hH)) rfl ?_;refine Zab ?_;refine Zb9 ?_;refine yd ?_;refine ql ?_;refine zft rfl ?_;refine ZeL ?_
         exact zbe E Since.refl ⟨hE, hS⟩ rfl ⟨rfl, rfl, rfl, rfl, rfl, rfl, trivial⟩
        | true =>
         rw [if_neg (by rw [hc]; simp)] at hS
         obtain ⟨_, qj⟩:=zcp (rest:=rest) (show j < E.size by omega) (0 + (j) * 1) rfl
         obtain ⟨_, qi⟩:=zcp (rest:=rest) (show j + 1 < E.size by omega) (0 + (j + 1) * 1) rfl
         have s1:=zb4 (rest:=rest) E[j]! (show j + 1 < E.size by omega) (0 + (j + 1) * 1) rfl
         have b1:=zb5 (rest:=rest) (show j + 1 < E.size by omega) (0 + (j + 1) * 1) rfl
         have hz:j < (E.setIfInBounds (j + 1) E[j]!).size:=by rw [Array.size_setIfInBounds]; omega
         have s2:=zb4 (rest:=rest) E[j + 1]! hz (0 + (j) * 1) rfl
         have b2:=zb5 (rest:=rest) hz (0 + (j) * 1) rfl
         rw [zcv] at s2
         refine Ze ?_;refine Zc5 ?_;refine Za7 ?_;refine ZaM ?_;refine Ze ?_;refine q4 (id:=16) [(200071, [900]), (200076, [900])] mixed (by kernel_rfl) ?_;refine Zq ?_;refine q7 (zx L (q:=900) rfl rfl rfl rfl rfl q1) rfl rfl ?_;refine Zbi ?_;refine q7 (zx L (q:=900) rfl rfl rfl rfl rfl q2) rfl rfl ?_;refine zd (zp L rfl rfl (zk rfl) rfl rfl rfl (fun u H hH _ _ => zbb hc hH)) rfl ?_;refine Zab ?_;refine Zbv ?_;refine Zc8 ?_;refine q4 (id:=17) [(200088, [900]), (200092, [900]), (100093, [900]), (100094, [900])] mixed (by kernel_rfl) ?_;refine Zs ?_;refine ZeE ?_;refine Zbi ?_;refine q7 (zx L (q:=900) rfl rfl rfl rfl rfl qj) rfl rfl ?_;refine Zq ?_;refine q7 (zx L (q:=900) rfl rfl rfl rfl rfl qi) rfl rfl ?_;refine Zm ?_;refine zaf (qs L (q:=900) rfl rfl rfl rfl rfl rfl b1 rfl s1) rfl ?_;refine Zm ?_;refine zaf (qs L (q:=900) rfl rfl rfl rfl rfl rfl b2 rfl s2) rfl ?_;refine Zco ?_;refine Zag ?_;refine Za ?_;refine ZQ ?_;refine Zax ?_
         exact qy (x:=(j + 1, E)) (j, swp E (j + 1) j) ⟨by dsimp only; omega, by dsimp only; rw [zbk]; exact hE, hS⟩ (by dsimp only; omega) ⟨rfl, rfl, rfl, rfl, rfl, rfl, rfl, trivial⟩
      ·rw [if_neg h2a] at hD2
       refine ZN ?_;refine Z8 ?_;refine ZD ?_;refine ZX ?_
       exact zbe D1 Since.refl ⟨by omega, hD2.symm⟩ rfl ⟨rfl, rfl, rfl, rfl, rfl, rfl, trivial⟩
     ·rintro G ⟨hG, hGe⟩
      rw [← hGe] at hL
      clear hD2 hGe
      by_cases h2b:e - i ≥ 2
      ·rw [if_pos h2b] at hL
       obtain ⟨D3, hD3⟩:∃ D3, D3 = shiftUp lt e (i + 1) G:=⟨_, rfl⟩
       rw [← hD3] at hL
       refine zh ?_;refine Zed ?_;refine Z8 ?_;refine Za5 ?_;refine Zv ?_;refine ZdO ?_;refine ZM ?_;refine Zaf ?_
       ·refine zan (fun t:Nat × Array Int => [(0, .is (.slice (some ⟨b, 0, none⟩) m cap)), (1, .is (.int .i64 a)), (2, .is (.int .i64 e)), (7, .is (.int .i64 i)), (8, .is (.int .i64 k)), (10, .is (.int .i64 t.1)), (900, .own (zaj b (uC t.2 ++ rest) tyU))]) (fun t => i + 1 ≤ t.1 ∧ t.1 ≤ e ∧ t.2.size = m ∧ shiftUp lt e t.1 t.2 = D3) (fun t => e - t.1) (i + 1, G) ⟨Nat.le_refl _, by dsimp only; omega, hG, hD3.symm⟩ ⟨rfl, rfl, rfl, rfl, rfl, rfl, rfl, trivial⟩ ?_
        rintro ⟨j, E⟩ ⟨hj1, hj2, hE, hS⟩
        dsimp only at hj1 hj2 hE hS ⊢
        clear hD3
        rw [shiftUp] at hS
        by_cases hje:j < e
        ·rw [if_pos hje] at hS
         have hw8:IntKind.i64.wrap ((j:Int) - 1) = ((j - 1:Nat):Int):=zaa (by omega) (by omega) |>.trans (by omega)
         have hw9:IntKind.i64.wrap ((j:Int) + 1) = ((j + 1:Nat):Int):=zaa (by omega) (by omega)
         obtain ⟨_, q1⟩:=zcp (rest:=rest) (show j < E.size by omega) (0 + (j) * 1) rfl
         obtain ⟨_, q2⟩:=zcp (rest:=rest) (show j - 1 < E.size by omega) (0 + (j - 1) * 1) rfl
         cases hc:lt E[j]! E[j - 1]! with
         | false =>
          rw [if_pos (by rw [hc]; rfl)] at hS
          refine Ze ?_;refine Za1 ?_;refine Zcw ?_;refine ZaM ?_;refine Ze ?_;refine q4 (id:=22) [(200109, [900]), (200114, [900])] mixed (by kernel_rfl) ?_;refine Zq ?_;refine q7 (zx L (q:=900) rfl rfl rfl rfl rfl q1) rfl rfl ?_;refine Zbi ?_;refine q7 (zx L (q:=900) rfl rfl rfl rfl rfl q2) rfl rfl ?_;refine zd (zp L rfl rfl (zk rfl) rfl rfl rfl (fun u H hH _ _ => zbb hc hH)) rfl ?_;refine Zab ?_;refine Zb9 ?_;refine yd ?_;refine ql ?_;refine zft rfl ?_;refine ZeL ?_;refine Zat ?_;refine Zi ?_;refine Zcx ?_
          exact qy (x:=((k, i0), D)) ((k + 1, i), E) ⟨by dsimp only; omega, by dsimp only; omega, by dsimp only; omega, hE, by dsimp only; rw [hs', hS]; exact hL⟩ (by dsimp only; omega) ⟨rfl, rfl, rfl, rfl, rfl, rfl, trivial⟩
         | true =>
          rw [if_neg (by rw [hc]; simp)] at hS
          obtain ⟨_, qj⟩:=zcp (rest:=rest) (show j - 1 < E.size by omega) (0 + (j - 1) * 1) rfl
          obtain ⟨_, qi⟩:=zcp (rest:=rest) (show j < E.size by omega) (0 + (j) * 1) rfl
          have s1:=zb4 (rest:=rest) E[j - 1]! (show j < E.size by omega) (0 + (j) * 1) rfl
          have b1:=zb5 (rest:=rest) (show j < E.size by omega) (0 + (j) * 1) rfl
          have hz:j - 1 < (E.setIfInBounds (j) E[j - 1]!).size:=by rw [Array.size_setIfInBounds]; omega
          have s2:=zb4 (rest:=rest) E[j]! hz (0 + (j - 1) * 1) rfl
          have b2:=zb5 (rest:=rest) hz (0 + (j - 1) * 1) rfl
          rw [zcv] at s2
          refine Ze ?_;refine Za1 ?_;refine Zcw ?_;refine ZaM ?_;refine Ze ?_;refine q4 (id:=22) [(200109, [900]), (200114, [900])] mixed (by kernel_rfl) ?_;refine Zq ?_;refine q7 (zx L (q:=900) rfl rfl rfl rfl rfl q1) rfl rfl ?_;refine Zbi ?_;refine q7 (zx L (q:=900) rfl rfl rfl rfl rfl q2) rfl rfl ?_;refine zd (zp L rfl rfl (zk rfl) rfl rfl rfl (fun u H hH _ _ => zbb hc hH)) rfl ?_;refine Zab ?_;refine Zbv ?_;refine Zc8 ?_;refine q4 (id:=23) [(200126, [900]), (200130, [900]), (100131, [900]), (100132, [900])] mixed (by kernel_rfl) ?_;refine Zs ?_;refine ZeE ?_;refine Zbi ?_;refine q7 (zx L (q:=900) rfl rfl rfl rfl rfl qj) rfl rfl ?_;refine Zq ?_;refine q7 (zx L (q:=900) rfl rfl rfl rfl rfl qi) rfl rfl ?_;refine Zm ?_;refine zaf (qs L (q:=900) rfl rfl rfl rfl rfl rfl b1 rfl s1) rfl ?_;refine Zm ?_;refine zaf (qs L (q:=900) rfl rfl rfl rfl rfl rfl b2 rfl s2) rfl ?_;refine Zco ?_;refine Zcy ?_;refine Zcx ?_
          exact qy (x:=(j, E)) (j + 1, swp E j (j - 1)) ⟨by dsimp only; omega, by dsimp only; omega, by dsimp only; rw [zbk]; exact hE, hS⟩ (by dsimp only; omega) ⟨rfl, rfl, rfl, rfl, rfl, rfl, rfl, trivial⟩
        ·rw [if_neg hje] at hS
         refine Ze ?_;refine Za1 ?_;refine Za8 ?_;refine Zbx ?_;refine Zat ?_;refine Zi ?_;refine Zcx ?_
         exact qy (x:=((k, i0), D)) ((k + 1, i), E) ⟨by dsimp only; omega, by dsimp only; omega, by dsimp only; omega, hE, by dsimp only; rw [hs', hS]; exact hL⟩ (by dsimp only; omega) ⟨rfl, rfl, rfl, rfl, rfl, rfl, trivial⟩
      ·rw [if_neg h2b] at hL
       refine zh ?_;refine Zed ?_;refine Z8 ?_;refine ZD ?_;refine Zbj ?_;refine Zi ?_;refine Zcx ?_
       exact qy (x:=((k, i0), D)) ((k + 1, i), G) ⟨by dsimp only; omega, by dsimp only; omega, by dsimp only; omega, hG, by dsimp only; rw [hs']; exact hL⟩ (by dsimp only; omega) ⟨rfl, rfl, rfl, rfl, rfl, rfl, trivial⟩
 ·obtain rfl:k = 5:=by omega
  have hL':(D, false) = X:=hL
  rw [← hL']
  refine Ze ?_;refine Zk ?_;refine Z7 ?_;refine Zbd ?_;refine ZbG ?_;refine Zc ?_
  exact za4 L 900 (r:=zab b _ tyU) (rs:=[.tmp 6]) rfl (fun _ _ h => h) Since.refl rfl rfl (fun _ => rfl)
end Go.V.So
set_option maxRecDepth 20000
namespace Go.V.So
open Go.Proofs Go.RowKit Go.V Go.Sort
theorem _root_.Go.V.ZfU {A B:Prop} (h:B) (t:Wr B → A:=by intro h; refine Zem ?_;refine zaf (qs L (q:=900) rfl rfl rfl rfl rfl rfl rfl rfl rfl) rfl ?_;exact h.h):A:=t ⟨h⟩
abbrev tyX:TypeId:=402
attribute [local irreducible] V N X VO Par StepOK Has Ret RetL RetO zbd RetX Src
set_option maxRecDepth 20000 in
theorem zqv {x b:Nat} (hx:x < 18446744073709551616) {w:World} {B:Heap} {C:Nat → Prop} (hB:B.Le (hp w))
  (hr:(zab b [.int .u64 x] tyX).P B w C) (hC:∀ k, C k → k < w.heap.size ∧ B k = none) :
  RetX Tryz.prog 307 [.pointer (some ⟨b, 0, none⟩)] w B C (zab b [.int .u64 (xorNextN x:Nat)] tyX) (.int .u64 (xorNextN x:Nat)):=by
 obtain ⟨X1, h1⟩:∃ X1:Nat, X1 = x ^^^ (x * 8192 % 18446744073709551616):=⟨_, rfl⟩
 obtain ⟨X2, h2⟩:∃ X2:Nat, X2 = X1 ^^^ (X1 / 128):=⟨_, rfl⟩
 obtain ⟨X3, h3⟩:∃ X3:Nat, X3 = X2 ^^^ (X2 * 131072 % 18446744073709551616):=⟨_, rfl⟩
 have l1:X1 < 18446744073709551616:=by rw [h1]; exact Nat.xor_lt_two_pow (n:=64) (by omega) (by omega)
 have l2:X2 < 18446744073709551616:=by rw [h2]; exact Nat.xor_lt_two_pow (n:=64) (by omega) (by omega)
 have l3:X3 < 18446744073709551616:=by rw [h3]; exact Nat.xor_lt_two_pow (n:=64) (by omega) (by omega)
 have hv:xorNextN x = X3:=by unfold xorNextN; simp only []; rw [← h1, ← h2, ← h3]
 have s1:IntKind.u64.wrap ((x:Int) * 2 ^ min (13:Int).toNat IntKind.u64.bits) = ((x * 8192 % 18446744073709551616:Nat):Int):=by
  rw [IntKind.wrap_u64, show ((2:Int) ^ min (13:Int).toNat IntKind.u64.bits) = 8192 from by decide]; omega
 have s2:(X1:Int).fdiv (2 ^ min (7:Int).toNat IntKind.u64.bits) = ((X1 / 128:Nat):Int):=by
  rw [show ((2:Int) ^ min (7:Int).toNat IntKind.u64.bits) = 128 from by decide, Int.fdiv_eq_ediv_of_nonneg _ (by omega)]; omega
 have s3:IntKind.u64.wrap ((X2:Int) * 2 ^ min (17:Int).toNat IntKind.u64.bits) = ((X2 * 131072 % 18446744073709551616:Nat):Int):=by
  rw [IntKind.wrap_u64, show ((2:Int) ^ min (17:Int).toNat IntKind.u64.bits) = 131072 from by decide]; omega
 have x1:bits .xor .u64 (x:Int) ((x * 8192 % 18446744073709551616:Nat):Int) = (X1:Int):=by rw [bits_xor_u64_nat _ _ hx (by omega), h1]
 have x2:bits .xor .u64 (X1:Int) ((X1 / 128:Nat):Int) = (X2:Int):=by rw [bits_xor_u64_nat _ _ l1 (by omega), h2]
 have x3:bits .xor .u64 (X2:Int) ((X2 * 131072 % 18446744073709551616:Nat):Int) = (X3:Int):=by rw [bits_xor_u64_nat _ _ l2 (by omega), h3]
 rw [hv]
 clear hv h1 h2 h3
 unfold RetX
 refine zah 900 (zab b [.int .u64 x] tyX) Tryz.func307 rfl Tryz.ntmps307 (Nat.le_of_ble_eq_true rfl) hB hr hC ?_
 rw [zae]
 refine ZdT ?_;refine q4 (id:=1) [(200005, [900]), (200008, [900]), (100011, [900])] mixed (by kernel_rfl) ?_;refine Zh ?_;refine Zem ?_;refine Zen ?_;refine Zh ?_;refine Zem ?_;refine Zen ?_;refine zd (zqq rfl rfl rfl rfl (by decide) s1) rfl ?_;refine zd (zua rfl rfl rfl rfl x1) rfl ?_;refine ZfU ?_;refine ZaW ?_;refine q4 (id:=2) [(200014, [900]), (200017, [900]), (100020, [900])] mixed (by kernel_rfl) ?_;refine Zh ?_;refine Zem ?_;refine Zen ?_;refine Zh ?_;refine Zem ?_;refine Zen ?_;refine zd (zyv rfl rfl rfl rfl (by decide) s2) rfl ?_;refine zd (zua rfl rfl rfl rfl x2) rfl ?_;refine ZfU ?_;refine ZaW ?_;refine q4 (id:=3) [(200023, [900]), (200026, [900]), (100029, [900])] mixed (by kernel_rfl) ?_;refine Zh ?_;refine Zem ?_;refine Zen ?_;refine Zh ?_;refine Zem ?_;refine Zen ?_;refine zd (zqq rfl rfl rfl rfl (by decide) s3) rfl ?_;refine zd (zua rfl rfl rfl rfl x3) rfl ?_;refine ZfU ?_;refine ZaW ?_;refine Zi ?_;refine Zfz ?_;refine ZfN ?_;refine Zc ?_
 exact za4 L 900 (r:=zab b _ tyX) (rs:=[.tmp 2]) rfl (fun _ _ h => h) Since.refl rfl rfl (fun _ => rfl)
end Go.V.So
set_option maxRecDepth 20000
namespace Go.V.So
open Go.Proofs Go.RowKit Go.V Go.Sort
theorem _root_.Go.V.ZfC {A B:Prop} (h:B) (t:Wr B → A:=by intro h; refine ZdL ?_;refine Zej ?_;exact h.h):A:=t ⟨h⟩
theorem _root_.Go.V.Ze0 {A B:Prop} (h:B) (t:Wr B → A:=by intro h; refine Zb ?_;refine ZfC ?_;exact h.h):A:=t ⟨h⟩
attribute [local irreducible] V N X VO Par StepOK Has Ret RetL RetO zbd RetX Src
set_option maxRecDepth 20000 in
theorem zkm {n:Nat} (hn:n < 18446744073709551616) {w:World} {B:Heap} (hB:B.Le (hp w)):Ret Tryz.prog 224 [.int .u64 n] w B (fun v _ => v = .int .i64 (bitsLen n)):=by
 refine qt Tryz.func224 rfl Tryz.ntmps224 (Nat.le_of_ble_eq_true rfl) hB ?_
 refine ZdT ?_;refine Zfg ?_;refine ZeK ?_;refine Z2 ?_;refine z7 (zp L rfl rfl (zk rfl) rfl rfl rfl (fun u H hH _ _ => Ret.of_same hH (Tryz.bits_Len64 (n:Int) u (by omega) (by omega)))) rfl ?_;refine Zc ?_
 refine qq L (rs:=[.tmp 2]) rfl (fun _ _ h => h) Since.refl fun u H hH hle => ?_
 rw [Int.toNat_natCast, bitLen_eq n hn]
 rfl
theorem zxd {n:Nat} (hn:n ≤ 100000) {w:World} {B:Heap} (hB:B.Le (hp w)):Ret Tryz.prog 306 [.int .i64 n] w B (fun v _ => v = .int .u64 (1 <<< bitsLen n:Nat)):=by
 have hb:bitsLen n ≤ 17:=(bitsLen_le_iff n 17).2 (by omega)
 have hp2:(2:Nat) ^ bitsLen n ≤ 2 ^ 17:=Nat.pow_le_pow_right (by omega) hb
 have hmin:min ((bitsLen n:Nat):Int).toNat IntKind.u64.bits = bitsLen n:=by
  rw [Int.toNat_natCast]
  have:IntKind.u64.bits = 64:=by decide
  omega
 have s1:IntKind.u64.wrap ((1:Int) * 2 ^ min ((bitsLen n:Nat):Int).toNat IntKind.u64.bits) = ((1 <<< bitsLen n:Nat):Int):=by
  rw [hmin, Nat.shiftLeft_eq, Nat.one_mul, Int.one_mul, Int.natCast_pow]
  have e2:((2:Nat):Int) ^ bitsLen n = ((2 ^ bitsLen n:Nat):Int):=(Int.natCast_pow 2 _).symm
  rw [show ((2:Int) ^ bitsLen n) = ((2:Nat):Int) ^ bitsLen n from rfl, e2]
  have hp3:2 ^ bitsLen n ≤ 131072:=hp2
  clear hp2 hmin e2
  generalize 2 ^ bitsLen n = M at *
  exact wrap_u64 (by omega) (by omega)
 have hc:IntKind.u64.wrap (n:Int) = (n:Int):=wrap_u64 (by omega) (by omega)
 refine qt Tryz.func306 rfl Tryz.ntmps306 (Nat.le_of_ble_eq_true rfl) hB ?_
 refine Zbp ?_;refine z7 (za2 rfl rfl rfl zbm.1 zbm.2 (wrap_u64 (by omega) (by omega))) rfl ?_;refine z7 (zp L rfl rfl (zk rfl) rfl rfl rfl (fun u H hH _ _ => zkm (by omega) hH)) rfl ?_;refine z7 (zqq rfl rfl rfl rfl (by omega) s1) rfl ?_;refine Zc ?_
 refine qq L (rs:=[.tmp 2]) rfl (fun _ _ h => h) Since.refl fun u H hH hle => ?_
 rfl
set_option maxHeartbeats 2000000 in
set_option maxRecDepth 20000 in
theorem z0t {d:Array Int} {rest:List Value} {b m cap a e:Nat} (hab:a ≤ e) (he:e ≤ d.size) (hm:d.size = m) (hm1:m ≤ 100000) {w:World} {B:Heap} {C:Nat → Prop} (hB:B.Le (hp w))
  (hr:(zab b (uC d ++ rest) tyU).P B w C) (hC:∀ k, C k → k < w.heap.size ∧ B k = none) :
  zbd Tryz.prog 271 [.slice (some ⟨b, 0, none⟩) m cap, .int .i64 a, .int .i64 e] w B C (zab b (uC (breakPatterns d a e) ++ rest) tyU):=by
 unfold zbd
 refine zah 900 (zab b (uC d ++ rest) tyU) Tryz.func271 rfl Tryz.ntmps271 (Nat.le_of_ble_eq_true rfl) hB hr hC ?_
 rw [zae]
 obtain ⟨Ln, rfl⟩:∃ Ln, e = a + Ln:=⟨e - a, by omega⟩
 have hw0:IntKind.i64.wrap (((a + Ln:Nat):Int) - (a:Int)) = (Ln:Int):=zaa (by omega) (by omega) |>.trans (by omega)
 by_cases h8:8 ≤ Ln
 ·have hX:=breakPatterns_eq d a Ln h8
  obtain ⟨M, hM⟩:∃ M, M = 1 <<< bitsLen Ln:=⟨_, rfl⟩
  have hb17:bitsLen Ln ≤ 17:=(bitsLen_le_iff Ln 17).2 (by omega)
  have hMp:1 ≤ M ∧ M ≤ 131072:=by
   rw [hM, Nat.shiftLeft_eq, Nat.one_mul]
   exact ⟨Nat.one_le_two_pow, Nat.pow_le_pow_right (by omega) hb17⟩
  have hM2:M ≤ 2 * Ln:=by
   rw [hM, Nat.shiftLeft_eq, Nat.one_mul]
   exact two_pow_bitsLen_le (by omega)
  obtain ⟨I0, hI0⟩:∃ I0, I0 = a + Ln / 4 * 2 - 1:=⟨_, rfl⟩
  rw [← hM, ← hI0] at hX
  have hc1:IntKind.u64.wrap (Ln:Int) = (Ln:Int):=wrap_u64 (by omega) (by omega)
  have et:((Ln:Nat):Int).tdiv 4 = ((Ln / 4:Nat):Int):=by
   rw [Int.tdiv_eq_ediv_of_nonneg (by omega)]
   omega
  have hq:IntKind.i64.wrap (((Ln:Nat):Int).tdiv 4) = ((Ln / 4:Nat):Int):=by rw [et]; exact zaa (by omega) (by omega)
  have hw1:IntKind.i64.wrap (((Ln / 4:Nat):Int) * 2) = ((Ln / 4 * 2:Nat):Int):=zaa (by omega) (by omega) |>.trans (by omega)
  have hw2:IntKind.i64.wrap ((a:Int) + ((Ln / 4 * 2:Nat):Int)) = ((a + Ln / 4 * 2:Nat):Int):=zaa (by omega) (by omega) |>.trans (by omega)
  have hw3:IntKind.i64.wrap (((a + Ln / 4 * 2:Nat):Int) - 1) = (I0:Int):=zaa (by omega) (by omega) |>.trans (by omega)
  have hw4:IntKind.i64.wrap (((a + Ln / 4 * 2:Nat):Int) + 1) = ((I0 + 2:Nat):Int):=zaa (by omega) (by omega) |>.trans (by omega)
  have hM1:IntKind.u64.wrap ((M:Int) - 1) = ((M - 1:Nat):Int):=wrap_u64 (by omega) (by omega) |>.trans (by omega)
  have hln:(UInt64.ofNat Ln).toNat = Ln:=by
   rw [UInt64.toNat_ofNat']
   exact Nat.mod_eq_of_lt (by omega)
  refine ZO ?_;refine Z8 ?_;refine ZeS ?_;refine Za5 ?_;refine Zv ?_;refine Z2 ?_;refine z7 (za2 rfl rfl rfl zvr.1 zvr.2 (wrap_u64 (by omega) (by omega))) rfl ?_;refine Zbn ?_;refine Zj ?_
  refine za5 7 901 rfl fun br => ?_
  refine Zk ?_;refine z7 (zp L rfl rfl (zk rfl) rfl rfl rfl (fun u H hH _ _ => hM ▸ zxd (n:=Ln) (by omega) hH)) rfl ?_;refine Zd ?_;refine Zp ?_;refine Ze0 ?_;refine ZQ ?_;refine Zaf ?_
  refine zan (fun s:Nat × (UInt64 × Array Int) => [(0, .is (.slice (some ⟨b, 0, none⟩) m cap)), (1, .is (.int .i64 a)), (6, .is (.int .i64 Ln)), (7, .is (.pointer (some ⟨br, 0, none⟩))), (8, .is (.int .u64 M)), (9, .is (.int .i64 (I0 + s.1:Nat))), (900, .own (zaj b (uC s.2.2 ++ rest) tyU)), (901, .own (zaj br [.int .u64 s.2.1.toNat] tyX))]) (fun s => s.1 ≤ 3 ∧ s.2.2.size = m ∧ bpRest a Ln M I0 (3 - s.1) s.1 s.2 = breakPatterns d a (a + Ln)) (fun s => 3 - s.1) (0, (UInt64.ofNat Ln, d)) ⟨by dsimp only; omega, hm, hX.symm⟩ ⟨rfl, rfl, rfl, rfl, rfl, rfl, rfl, by dsimp only; rw [hln]; rfl, trivial⟩ ?_
  rintro ⟨t, ⟨r, D⟩⟩ ⟨ht3, hD, hst⟩
  dsimp only at ht3 hD hst ⊢
  have hrl:r.toNat < 18446744073709551616:=UInt64.toNat_lt r
  by_cases ht:t < 3
  ·obtain ⟨o1, ho1⟩:∃ o1, o1 = xorNextN r.toNat &&& (M - 1):=⟨_, rfl⟩
   have ho1l:o1 ≤ M - 1:=by rw [ho1]; exact Nat.and_le_right
   have hand:bits .and .u64 ((xorNextN r.toNat:Nat):Int) ((M - 1:Nat):Int) = (o1:Int):=by rw [bits_and_u64_nat _ _ (xorNextN_lt _ hrl) (by omega), ho1]
   have hcv:IntKind.i64.wrap (o1:Int) = (o1:Int):=zaa (by omega) (by omega)
   have hwt:IntKind.i64.wrap (((I0 + t:Nat):Int) + 1) = ((I0 + (t + 1):Nat):Int):=zaa (by omega) (by omega) |>.trans (by omega)
   by_cases hoL:Ln ≤ o1
   ·have hw5:IntKind.i64.wrap ((o1:Int) - (Ln:Int)) = ((o1 - Ln:Nat):Int):=zaa (by omega) (by omega) |>.trans (by omega)
    have hw6:IntKind.i64.wrap ((a:Int) + ((o1 - Ln:Nat):Int)) = ((a + (o1 - Ln):Nat):Int):=zaa (by omega) (by omega)
    have ho:(if (xorNext r).toNat &&& (M - 1) ≥ Ln then ((xorNext r).toNat &&& (M - 1)) - Ln else (xorNext r).toNat &&& (M - 1)) = o1 - Ln:=by rw [xorNext_toNat, ← ho1, if_pos hoL]
    obtain ⟨_, qj⟩:=zcp (rest:=rest) (show a + (o1 - Ln) < D.size by omega) (0 + (a + (o1 - Ln)) * 1) rfl
    obtain ⟨_, qi⟩:=zcp (rest:=rest) (show I0 + t < D.size by omega) (0 + (I0 + t) * 1) rfl
    have s1:=zb4 (rest:=rest) D[a + (o1 - Ln)]! (show I0 + t < D.size by omega) (0 + (I0 + t) * 1) rfl
    have b1:=zb5 (rest:=rest) (show I0 + t < D.size by omega) (0 + (I0 + t) * 1) rfl
    have hz:a + (o1 - Ln) < (D.setIfInBounds (I0 + t) D[a + (o1 - Ln)]!).size:=by rw [Array.size_setIfInBounds]; omega
    have s2:=zb4 (rest:=rest) D[I0 + t]! hz (0 + (a + (o1 - Ln)) * 1) rfl
    have b2:=zb5 (rest:=rest) hz (0 + (a + (o1 - Ln)) * 1) rfl
    rw [zcv] at s2
    refine Ze ?_;refine Zw ?_;refine Zr ?_;refine ZfC ?_;refine ZM ?_;refine Zbo ?_;refine Zz ?_;refine Ze3 ?_;refine ZH ?_;refine q8 (y3 L 901 (zab br [.int .u64 (xorNextN r.toNat:Nat)] tyX) (.int .u64 (xorNextN r.toNat:Nat)) (r:=zab br [.int .u64 r.toNat] tyX) rfl rfl rfl rfl rfl (fun u H C hH _ hr hC => zqv hrl hH hr hC)) ?_;refine Za ?_;refine ZQ ?_;refine z7 (zum rfl rfl rfl rfl hand) rfl ?_;refine z7 (za2 rfl rfl rfl zbn.1 zbn.2 (zaa (by omega) (by omega))) rfl ?_;refine Zf ?_;refine ZA ?_;refine Zb ?_;refine Za7 ?_;refine Zah ?_;refine Z8 ?_;refine Zc ?_;refine q4 (id:=10) [(200058, [900]), (200062, [900]), (100063, [900]), (100064, [900])] mixed (by kernel_rfl) ?_;refine Zs ?_;refine Zb2 ?_;refine Za9 ?_;refine q7 (zx L (q:=900) rfl rfl rfl rfl rfl qj) rfl rfl ?_;refine Zq ?_;refine q7 (zx L (q:=900) rfl rfl rfl rfl rfl qi) rfl rfl ?_;refine Zm ?_;refine zaf (qs L (q:=900) rfl rfl rfl rfl rfl rfl b1 rfl s1) rfl ?_;refine Zm ?_;refine zaf (qs L (q:=900) rfl rfl rfl rfl rfl rfl b2 rfl s2) rfl ?_;refine Zco ?_;refine ZJ ?_;refine Zcx ?_
    exact qy (x:=(t, (r, D))) (t + 1, (xorNext r, swp D (I0 + t) (a + (o1 - Ln)))) ⟨by dsimp only; omega, by dsimp only; rw [zbk]; exact hD, by dsimp only; rw [← hst, bp_step a Ln M I0 t r D ((o1 - Ln)) ht ho]⟩ (by dsimp only; omega) ⟨rfl, rfl, rfl, rfl, rfl, rfl, rfl, by dsimp only; rw [xorNext_toNat]; rfl, trivial⟩
   ·have hw6:IntKind.i64.wrap ((a:Int) + (o1:Int)) = ((a + o1:Nat):Int):=zaa (by omega) (by omega)
    have ho:(if (xorNext r).toNat &&& (M - 1) ≥ Ln then ((xorNext r).toNat &&& (M - 1)) - Ln else (xorNext r).toNat &&& (M - 1)) = o1:=by rw [xorNext_toNat, ← ho1, if_neg (by omega)]
    obtain ⟨_, qj⟩:=zcp (rest:=rest) (show a + o1 < D.size by omega) (0 + (a + o1) * 1) rfl
    obtain ⟨_, qi⟩:=zcp (rest:=rest) (show I0 + t < D.size by omega) (0 + (I0 + t) * 1) rfl
    have s1:=zb4 (rest:=rest) D[a + o1]! (show I0 + t < D.size by omega) (0 + (I0 + t) * 1) rfl
    have b1:=zb5 (rest:=rest) (show I0 + t < D.size by omega) (0 + (I0 + t) * 1) rfl
    have hz:a + o1 < (D.setIfInBounds (I0 + t) D[a + o1]!).size:=by rw [Array.size_setIfInBounds]; omega
    have s2:=zb4 (rest:=rest) D[I0 + t]! hz (0 + (a + o1) * 1) rfl
    have b2:=zb5 (rest:=rest) hz (0 + (a + o1) * 1) rfl
    rw [zcv] at s2
    refine Ze ?_;refine Zw ?_;refine Zr ?_;refine ZfC ?_;refine ZM ?_;refine Zbo ?_;refine Zz ?_;refine Ze3 ?_;refine ZH ?_;refine q8 (y3 L 901 (zab br [.int .u64 (xorNextN r.toNat:Nat)] tyX) (.int .u64 (xorNextN r.toNat:Nat)) (r:=zab br [.int .u64 r.toNat] tyX) rfl rfl rfl rfl rfl (fun u H C hH _ hr hC => zqv hrl hH hr hC)) ?_;refine Za ?_;refine ZQ ?_;refine z7 (zum rfl rfl rfl rfl hand) rfl ?_;refine z7 (za2 rfl rfl rfl zbn.1 zbn.2 (zaa (by omega) (by omega))) rfl ?_;refine Zf ?_;refine ZA ?_;refine Zb ?_;refine ZD ?_;refine Zd1 ?_;refine q4 (id:=10) [(200058, [900]), (200062, [900]), (100063, [900]), (100064, [900])] mixed (by kernel_rfl) ?_;refine Zs ?_;refine Zb2 ?_;refine Za9 ?_;refine q7 (zx L (q:=900) rfl rfl rfl rfl rfl qj) rfl rfl ?_;refine Zq ?_;refine q7 (zx L (q:=900) rfl rfl rfl rfl rfl qi) rfl rfl ?_;refine Zm ?_;refine zaf (qs L (q:=900) rfl rfl rfl rfl rfl rfl b1 rfl s1) rfl ?_;refine Zm ?_;refine zaf (qs L (q:=900) rfl rfl rfl rfl rfl rfl b2 rfl s2) rfl ?_;refine Zco ?_;refine ZJ ?_;refine Zcx ?_
    exact qy (x:=(t, (r, D))) (t + 1, (xorNext r, swp D (I0 + t) (a + o1))) ⟨by dsimp only; omega, by dsimp only; rw [zbk]; exact hD, by dsimp only; rw [← hst, bp_step a Ln M I0 t r D (o1) ht ho]⟩ (by dsimp only; omega) ⟨rfl, rfl, rfl, rfl, rfl, rfl, rfl, by dsimp only; rw [xorNext_toNat]; rfl, trivial⟩
  ·obtain rfl:t = 3:=by omega
   have hst':D = breakPatterns d a (a + Ln):=hst
   rw [hst']
   refine Ze ?_;refine Zw ?_;refine Zr ?_;refine ZfC ?_;refine ZM ?_;refine Zb6 ?_;refine Zbx ?_
   exact zav L 900 (r:=zab b _ tyU) rfl (fun _ _ h => h) Since.refl rfl rfl
 ·have:breakPatterns d a (a + Ln) = d:=by unfold breakPatterns; simp only [Nat.add_sub_cancel_left]; rw [if_neg (by omega)]
  rw [this]
  refine ZO ?_;refine Z8 ?_;refine ZeS ?_;refine ZD ?_;refine ZX ?_
  exact zav L 900 (r:=zab b _ tyU) rfl (fun _ _ h => h) Since.refl rfl rfl
end Go.V.So
set_option maxRecDepth 20000
namespace Go.V.So
open Go.Proofs Go.RowKit Go.V Go.Sort
theorem _root_.Go.V.ZfD {A B:Prop} (h:B) (t:Wr B → A:=by intro h; refine zd (zuh L (qm rfl (by assumption)) rfl rfl rfl (by assumption)) rfl ?_;exact h.h):A:=t ⟨h⟩
abbrev tyI:TypeId:=3
theorem z1c {d:Array Int} {rest:List Value} {j:Nat} (h:j < d.size):(uC d ++ rest)[0 + j * 1]? = some (.int .u64 d[j]!):=by
 rw [Nat.zero_add, Nat.mul_one, List.getElem?_append_left (by rw [zi8]; exact h)]
 exact zym h
attribute [local irreducible] V N X VO Par StepOK Has Ret RetL RetO zbd RetX Src
set_option maxRecDepth 20000 in
theorem zmf {d:Array Int} {rest:List Value} {b m cap a e bs k:Nat} (ha:a < m) (he:e < m) (hm:d.size = m) (hm1:m ≤ 100000) (hk:k ≤ 1000) {w:World} {B:Heap} {C:Nat → Prop} (hB:B.Le (hp w)) (hb:B b = some (.cells (uC d ++ rest).toArray tyU))
  (hr:(zab bs [.int .i64 k] tyI).P B w C) (hC:∀ k, C k → k < w.heap.size ∧ B k = none) :
  RetX Tryz.prog 317 [.slice (some ⟨b, 0, none⟩) m cap, .int .i64 a, .int .i64 e, .pointer (some ⟨bs, 0, none⟩)] w B C (zab bs [.int .i64 (order2 lt d a e k).2.2] tyI) (.tuple #[.int .i64 (order2 lt d a e k).1, .int .i64 (order2 lt d a e k).2.1]):=by
 unfold RetX
 refine zah 900 (zab bs [.int .i64 k] tyI) Tryz.func317 rfl Tryz.ntmps317 (Nat.le_of_ble_eq_true rfl) hB hr hC ?_
 rw [zae]
 have g1:=z1c (rest:=rest) (show a < d.size by omega)
 have g2:=z1c (rest:=rest) (show e < d.size by omega)
 have hw:IntKind.i64.wrap ((k:Int) + 1) = ((k + 1:Nat):Int):=zaa (by omega) (by omega)
 unfold order2
 cases hc:lt d[e]! d[a]! with
 | true =>
  refine Zbz ?_;refine Zbt ?_;refine Zq ?_;refine ZfD ?_;refine Zq ?_;refine ZfD ?_;refine zd (zp L rfl rfl (zk rfl) rfl rfl rfl (fun u H hH _ _ => zbb hc hH)) rfl ?_;refine Zb9 ?_;refine zh ?_;refine Z2 ?_;refine Zfz ?_;refine ZfN ?_;refine ZM ?_;refine Zfz ?_;refine zam (qs L (q:=900) rfl rfl rfl rfl rfl rfl rfl rfl rfl) ?_;refine Zj ?_;refine Zo ?_;refine Zb ?_;refine Zy ?_
  exact za4 L 900 (r:=zab bs _ tyI) (rs:=[.tmp 8, .tmp 9]) rfl (fun _ _ h => h) Since.refl rfl rfl (fun _ => rfl)
 | false =>
  refine Zbz ?_;refine Zbt ?_;refine Zq ?_;refine ZfD ?_;refine Zq ?_;refine ZfD ?_;refine zd (zp L rfl rfl (zk rfl) rfl rfl rfl (fun u H hH _ _ => zbb hc hH)) rfl ?_;refine ZbP ?_;refine Zp ?_;refine Zb ?_;refine Zy ?_
  exact za4 L 900 (r:=zab bs _ tyI) (rs:=[.tmp 8, .tmp 9]) rfl (fun _ _ h => h) Since.refl rfl rfl (fun _ => rfl)
theorem zjx (d:Array Int) {a e m k:Nat} (ha:a < m) (he:e < m):(order2 lt d a e k).1 < m ∧ (order2 lt d a e k).2.1 < m ∧ (order2 lt d a e k).2.2 ≤ k + 1:=by
 unfold order2
 split
 ·exact ⟨he, ha, Nat.le_refl _⟩
 ·exact ⟨ha, he, Nat.le_succ _⟩
set_option maxRecDepth 20000 in
theorem zgj {d:Array Int} {rest:List Value} {b m cap x y z bs k:Nat} (hx:x < m) (hy:y < m) (hz:z < m) (hm:d.size = m) (hm1:m ≤ 100000) (hk:k ≤ 900) {w:World} {B:Heap} {C:Nat → Prop} (hB:B.Le (hp w)) (hb:B b = some (.cells (uC d ++ rest).toArray tyU))
  (hr:(zab bs [.int .i64 k] tyI).P B w C) (hC:∀ k, C k → k < w.heap.size ∧ B k = none) :
  RetX Tryz.prog 309 [.slice (some ⟨b, 0, none⟩) m cap, .int .i64 x, .int .i64 y, .int .i64 z, .pointer (some ⟨bs, 0, none⟩)] w B C (zab bs [.int .i64 (median lt d x y z k).2] tyI) (.int .i64 (median lt d x y z k).1):=by
 unfold RetX
 refine zah 900 (zab bs [.int .i64 k] tyI) Tryz.func309 rfl Tryz.ntmps309 (Nat.le_of_ble_eq_true rfl) hB hr hC ?_
 rw [zae]
 unfold median
 dsimp only
 obtain ⟨r1, hr1⟩:∃ r, r = order2 lt d x y k:=⟨_, rfl⟩
 rw [← hr1]
 obtain ⟨r2, hr2⟩:∃ r, r = order2 lt d r1.2.1 z r1.2.2:=⟨_, rfl⟩
 rw [← hr2]
 obtain ⟨r3, hr3⟩:∃ r, r = order2 lt d r1.1 r2.1 r2.2.2:=⟨_, rfl⟩
 rw [← hr3]
 obtain ⟨a1, a2, a3⟩:=hr1 ▸ zjx d (k:=k) hx hy
 obtain ⟨b1, b2, b3⟩:=hr2 ▸ zjx d (k:=r1.2.2) a2 hz
 refine ZZ ?_;refine ZU ?_;refine q8 (y3 L 900 (zab bs [.int .i64 r1.2.2] tyI) (.tuple #[.int .i64 r1.1, .int .i64 r1.2.1]) (r:=zab bs [.int .i64 k] tyI) rfl rfl rfl rfl rfl (fun u H C hH hle hr hC => by have h:=zmf (rest:=rest) (cap:=cap) hx hy hm hm1 (k:=k) (by omega) hH (hle _ _ hb) hr hC; rw [← hr1] at h; exact h)) ?_;refine ZP ?_;refine Z5 ?_;refine ZU ?_;refine q8 (y3 L 900 (zab bs [.int .i64 r2.2.2] tyI) (.tuple #[.int .i64 r2.1, .int .i64 r2.2.1]) (r:=zab bs [.int .i64 r1.2.2] tyI) rfl rfl rfl rfl rfl (fun u H C hH hle hr hC => by have h:=zmf (rest:=rest) (cap:=cap) a2 hz hm hm1 (k:=r1.2.2) (by omega) hH (hle _ _ hb) hr hC; rw [← hr2] at h; exact h)) ?_;refine ZP ?_;refine Zo ?_;refine ZU ?_;refine q8 (y3 L 900 (zab bs [.int .i64 r3.2.2] tyI) (.tuple #[.int .i64 r3.1, .int .i64 r3.2.1]) (r:=zab bs [.int .i64 r2.2.2] tyI) rfl rfl rfl rfl rfl (fun u H C hH hle hr hC => by have h:=zmf (rest:=rest) (cap:=cap) a1 b1 hm hm1 (k:=r2.2.2) (by omega) hH (hle _ _ hb) hr hC; rw [← hr3] at h; exact h)) ?_;refine ZP ?_;refine Zi ?_;refine Zc ?_
 exact za4 L 900 (r:=zab bs _ tyI) (rs:=[.tmp 10]) rfl (fun _ _ h => h) Since.refl rfl rfl (fun _ => rfl)
theorem zu0 (d:Array Int) {x y z m k:Nat} (hx:x < m) (hy:y < m) (hz:z < m):(median lt d x y z k).1 < m ∧ (median lt d x y z k).2 ≤ k + 3:=by
 unfold median
 dsimp only
 obtain ⟨a1, a2, a3⟩:=zjx d (k:=k) hx hy
 obtain ⟨b1, b2, b3⟩:=zjx d (k:=(order2 lt d x y k).2.2) a2 hz
 obtain ⟨c1, c2, c3⟩:=zjx d (k:=(order2 lt d (order2 lt d x y k).2.1 z (order2 lt d x y k).2.2).2.2) a1 b1
 exact ⟨c2, by omega⟩
set_option maxRecDepth 20000 in
theorem zdm {d:Array Int} {rest:List Value} {b m cap x bs k:Nat} (h1:1 ≤ x) (hx:x + 1 < m) (hm:d.size = m) (hm1:m ≤ 100000) (hk:k ≤ 900) {w:World} {B:Heap} {C:Nat → Prop} (hB:B.Le (hp w)) (hb:B b = some (.cells (uC d ++ rest).toArray tyU))
  (hr:(zab bs [.int .i64 k] tyI).P B w C) (hC:∀ k, C k → k < w.heap.size ∧ B k = none) :
  RetX Tryz.prog 308 [.slice (some ⟨b, 0, none⟩) m cap, .int .i64 x, .pointer (some ⟨bs, 0, none⟩)] w B C (zab bs [.int .i64 (medianAdjacent lt d x k).2] tyI) (.int .i64 (medianAdjacent lt d x k).1):=by
 unfold RetX
 refine zah 900 (zab bs [.int .i64 k] tyI) Tryz.func308 rfl Tryz.ntmps308 (Nat.le_of_ble_eq_true rfl) hB hr hC ?_
 rw [zae]
 unfold medianAdjacent
 have hw1:IntKind.i64.wrap ((x:Int) - 1) = ((x - 1:Nat):Int):=zaa (by omega) (by omega) |>.trans (by omega)
 have hw2:IntKind.i64.wrap ((x:Int) + 1) = ((x + 1:Nat):Int):=zaa (by omega) (by omega)
 refine ZZ ?_;refine Z8 ?_;refine ZbS ?_;refine Za ?_;refine q8 (y3 L 900 (zab bs [.int .i64 (median lt d (x - 1) x (x + 1) k).2] tyI) (.int .i64 (median lt d (x - 1) x (x + 1) k).1) (r:=zab bs [.int .i64 k] tyI) rfl rfl rfl rfl rfl (fun u H C hH hle hr hC => zgj (rest:=rest) (cap:=cap) (by omega) (by omega) (by omega) hm hm1 hk hH (hle _ _ hb) hr hC)) ?_;refine Zc ?_
 exact za4 L 900 (r:=zab bs _ tyI) (rs:=[.tmp 6]) rfl (fun _ _ h => h) Since.refl rfl rfl (fun _ => rfl)
end Go.V.So
set_option maxRecDepth 20000
namespace Go.V.So
open Go.Proofs Go.RowKit Go.V Go.Sort
theorem _root_.Go.V.Ze1 {A B:Prop} (h:B) (t:Wr B → A:=by intro h; refine qw (zx L (q:=901) rfl rfl rfl rfl rfl rfl) ?_;exact h.h):A:=t ⟨h⟩
theorem _root_.Go.V.Zcb {A B:Prop} (h:B) (t:Wr B → A:=by intro h; refine Zb1 ?_;refine Za ?_;exact h.h):A:=t ⟨h⟩
theorem _root_.Go.V.ZcN {A B:Prop} (h:B) (t:Wr B → A:=by intro h; refine Ze0 ?_;refine Zd ?_;exact h.h):A:=t ⟨h⟩
theorem _root_.Go.V.ZcO {A B:Prop} (h:B) (t:Wr B → A:=by intro h; refine Zah ?_;refine Zb ?_;exact h.h):A:=t ⟨h⟩
def zmu:Hint → Int
 | .unknown => 0
 | .increasing => 1
 | .decreasing => 2
attribute [local irreducible] V N X VO Par StepOK Has Ret RetL RetO zbd RetX Src
set_option maxHeartbeats 1000000 in
set_option maxRecDepth 20000 in
theorem zzp {d:Array Int} {rest:List Value} {b m cap a e:Nat} (h12:12 < e - a) (he:e ≤ m) (hm:d.size = m) (hm1:m ≤ 100000) {w:World} {B:Heap} (hB:B.Le (hp w)) (hb:B b = some (.cells (uC d ++ rest).toArray tyU)) :
  Ret Tryz.prog 272 [.slice (some ⟨b, 0, none⟩) m cap, .int .i64 a, .int .i64 e] w B (fun v _ => v = .tuple #[.int .i64 (choosePivot lt d a e).1, .int .i64 (zmu (choosePivot lt d a e).2)]):=by
 obtain ⟨Ln, rfl⟩:∃ Ln, e = a + Ln:=⟨e - a, by omega⟩
 rw [Nat.add_sub_cancel_left] at h12
 unfold choosePivot
 rw [Nat.add_sub_cancel_left]
 dsimp only
 obtain ⟨q, hq⟩:∃ q, q = Ln / 4:=⟨_, rfl⟩
 rw [← hq, if_pos (by omega)]
 have hw0:IntKind.i64.wrap (((a + Ln:Nat):Int) - (a:Int)) = (Ln:Int):=zaa (by omega) (by omega) |>.trans (by omega)
 have et:((Ln:Nat):Int).tdiv 4 = (q:Int):=by
  rw [Int.tdiv_eq_ediv_of_nonneg (by omega)]
  omega
 have hq1:IntKind.i64.wrap (((Ln:Nat):Int).tdiv 4) = (q:Int):=by rw [et]; exact zaa (by omega) (by omega)
 have m1:IntKind.i64.wrap ((q:Int) * 1) = ((q * 1:Nat):Int):=zaa (by omega) (by omega) |>.trans (by omega)
 have m2:IntKind.i64.wrap ((q:Int) * 2) = ((q * 2:Nat):Int):=zaa (by omega) (by omega) |>.trans (by omega)
 have m3:IntKind.i64.wrap ((q:Int) * 3) = ((q * 3:Nat):Int):=zaa (by omega) (by omega) |>.trans (by omega)
 have p1:IntKind.i64.wrap ((a:Int) + ((q * 1:Nat):Int)) = ((a + q * 1:Nat):Int):=zaa (by omega) (by omega) |>.trans (by omega)
 have p2:IntKind.i64.wrap ((a:Int) + ((q * 2:Nat):Int)) = ((a + q * 2:Nat):Int):=zaa (by omega) (by omega) |>.trans (by omega)
 have p3:IntKind.i64.wrap ((a:Int) + ((q * 3:Nat):Int)) = ((a + q * 3:Nat):Int):=zaa (by omega) (by omega) |>.trans (by omega)
 refine qt Tryz.func272 rfl Tryz.ntmps272 (Nat.le_of_ble_eq_true rfl) hB ?_
 refine ZcU ?_;refine Zn ?_;refine Z8 ?_;refine Zd ?_;refine Z5 ?_;refine Zb0 ?_
 refine za5 9 901 rfl fun bs => ?_
 by_cases h50:Ln ≥ 50
 ·rw [if_pos h50]
  obtain ⟨r1, hr1⟩:∃ r, r = medianAdjacent lt d (a + q * 1) 0:=⟨_, rfl⟩
  rw [← hr1]
  obtain ⟨r2, hr2⟩:∃ r, r = medianAdjacent lt d (a + q * 2) r1.2:=⟨_, rfl⟩
  rw [← hr2]
  obtain ⟨r3, hr3⟩:∃ r, r = medianAdjacent lt d (a + q * 3) r2.2:=⟨_, rfl⟩
  rw [← hr3]
  obtain ⟨r4, hr4⟩:∃ r, r = median lt d r1.1 r2.1 r3.1 r3.2:=⟨_, rfl⟩
  rw [← hr4]
  obtain ⟨l1, s1⟩:r1.1 < m ∧ r1.2 ≤ 0 + 3:=hr1 ▸ zu0 d (by omega) (by omega) (by omega)
  obtain ⟨l2, s2⟩:r2.1 < m ∧ r2.2 ≤ r1.2 + 3:=hr2 ▸ zu0 d (by omega) (by omega) (by omega)
  obtain ⟨l3, s3⟩:r3.1 < m ∧ r3.2 ≤ r2.2 + 3:=hr3 ▸ zu0 d (by omega) (by omega) (by omega)
  by_cases z0:r4.2 = 0
  ·rw [if_pos z0]
   refine Zo ?_;refine ZcN ?_;refine Zp ?_;refine ZcN ?_;refine Zw ?_;refine Ze0 ?_;refine ZcB ?_;refine Za7 ?_;refine Zca ?_;refine Za5 ?_;refine Zv ?_;refine ZA ?_;refine Zb ?_;refine q8 (y3 L 901 (zab bs [.int .i64 r1.2] tyI) (.int .i64 r1.1) (r:=zab bs [.int .i64 0] tyI) rfl rfl rfl rfl rfl (fun u H C hH hle hr hC => by have h:=zdm (rest:=rest) (cap:=cap) (d:=d) (x:=a + q * 1) (k:=0) (by omega) (by omega) hm hm1 (by omega) hH (hle _ _ hb) hr hC; rw [← hr1] at h; exact h)) ?_;refine Zd ?_;refine ZcO ?_;refine q8 (y3 L 901 (zab bs [.int .i64 r2.2] tyI) (.int .i64 r2.1) (r:=zab bs [.int .i64 r1.2] tyI) rfl rfl rfl rfl rfl (fun u H C hH hle hr hC => by have h:=zdm (rest:=rest) (cap:=cap) (d:=d) (x:=a + q * 2) (k:=r1.2) (by omega) (by omega) hm hm1 (by omega) hH (hle _ _ hb) hr hC; rw [← hr2] at h; exact h)) ?_;refine Zc ?_;refine Zc6 ?_;refine q8 (y3 L 901 (zab bs [.int .i64 r3.2] tyI) (.int .i64 r3.1) (r:=zab bs [.int .i64 r2.2] tyI) rfl rfl rfl rfl rfl (fun u H C hH hle hr hC => by have h:=zdm (rest:=rest) (cap:=cap) (d:=d) (x:=a + q * 3) (k:=r2.2) (by omega) (by omega) hm hm1 (by omega) hH (hle _ _ hb) hr hC; rw [← hr3] at h; exact h)) ?_;refine Zc ?_;refine ZE ?_;refine ZU ?_;refine q8 (y3 L 901 (zab bs [.int .i64 r4.2] tyI) (.int .i64 r4.1) (r:=zab bs [.int .i64 r3.2] tyI) rfl rfl rfl rfl rfl (fun u H C hH hle hr hC => by have h:=zgj (rest:=rest) (cap:=cap) (d:=d) (x:=r1.1) (y:=r2.1) (z:=r3.1) (k:=r3.2) (by omega) (by omega) (by omega) hm hm1 (by omega) hH (hle _ _ hb) hr hC; rw [← hr4] at h; exact h)) ?_;refine Zd ?_;refine ZN ?_;refine Ze1 ?_;refine Z1 ?_;refine ZI ?_;refine Zay ?_;refine Z9 ?_;refine Zdc ?_;refine Zag ?_;refine Za ?_;refine Zy ?_
   refine qq L (rs:=[.tmp 6, .tmp 7]) rfl (fun _ _ h => h) Since.refl fun u H hH hle => ?_
   rfl
  ·rw [if_neg z0]
   by_cases z12:r4.2 = 12
   ·rw [if_pos z12]
    refine Zo ?_;refine ZcN ?_;refine Zp ?_;refine ZcN ?_;refine Zw ?_;refine Ze0 ?_;refine ZcB ?_;refine Za7 ?_;refine Zca ?_;refine Za5 ?_;refine Zv ?_;refine ZA ?_;refine Zb ?_;refine q8 (y3 L 901 (zab bs [.int .i64 r1.2] tyI) (.int .i64 r1.1) (r:=zab bs [.int .i64 0] tyI) rfl rfl rfl rfl rfl (fun u H C hH hle hr hC => by have h:=zdm (rest:=rest) (cap:=cap) (d:=d) (x:=a + q * 1) (k:=0) (by omega) (by omega) hm hm1 (by omega) hH (hle _ _ hb) hr hC; rw [← hr1] at h; exact h)) ?_;refine Zd ?_;refine ZcO ?_;refine q8 (y3 L 901 (zab bs [.int .i64 r2.2] tyI) (.int .i64 r2.1) (r:=zab bs [.int .i64 r1.2] tyI) rfl rfl rfl rfl rfl (fun u H C hH hle hr hC => by have h:=zdm (rest:=rest) (cap:=cap) (d:=d) (x:=a + q * 2) (k:=r1.2) (by omega) (by omega) hm hm1 (by omega) hH (hle _ _ hb) hr hC; rw [← hr2] at h; exact h)) ?_;refine Zc ?_;refine Zc6 ?_;refine q8 (y3 L 901 (zab bs [.int .i64 r3.2] tyI) (.int .i64 r3.1) (r:=zab bs [.int .i64 r2.2] tyI) rfl rfl rfl rfl rfl (fun u H C hH hle hr hC => by have h:=zdm (rest:=rest) (cap:=cap) (d:=d) (x:=a + q * 3) (k:=r2.2) (by omega) (by omega) hm hm1 (by omega) hH (hle _ _ hb) hr hC; rw [← hr3] at h; exact h)) ?_;refine Zc ?_;refine ZE ?_;refine ZU ?_;refine q8 (y3 L 901 (zab bs [.int .i64 r4.2] tyI) (.int .i64 r4.1) (r:=zab bs [.int .i64 r3.2] tyI) rfl rfl rfl rfl rfl (fun u H C hH hle hr hC => by have h:=zgj (rest:=rest) (cap:=cap) (d:=d) (x:=r1.1) (y:=r2.1) (z:=r3.1) (k:=r3.2) (by omega) (by omega) (by omega) hm hm1 (by omega) hH (hle _ _ hb) hr hC; rw [← hr4] at h; exact h)) ?_;refine Zd ?_;refine ZN ?_;refine Ze1 ?_;refine Z1 ?_;refine ZI ?_;refine Zay ?_;refine ZbF ?_;refine Zaj ?_;refine Z9 ?_;refine Zdc ?_;refine Zcb ?_;refine Zy ?_
    refine qq L (rs:=[.tmp 6, .tmp 7]) rfl (fun _ _ h => h) Since.refl fun u H hH hle => ?_
    rfl
   ·rw [if_neg z12]
    refine Zo ?_;refine ZcN ?_;refine Zp ?_;refine ZcN ?_;refine Zw ?_;refine Ze0 ?_;refine ZcB ?_;refine Za7 ?_;refine Zca ?_;refine Za5 ?_;refine Zv ?_;refine ZA ?_;refine Zb ?_;refine q8 (y3 L 901 (zab bs [.int .i64 r1.2] tyI) (.int .i64 r1.1) (r:=zab bs [.int .i64 0] tyI) rfl rfl rfl rfl rfl (fun u H C hH hle hr hC => by have h:=zdm (rest:=rest) (cap:=cap) (d:=d) (x:=a + q * 1) (k:=0) (by omega) (by omega) hm hm1 (by omega) hH (hle _ _ hb) hr hC; rw [← hr1] at h; exact h)) ?_;refine Zd ?_;refine ZcO ?_;refine q8 (y3 L 901 (zab bs [.int .i64 r2.2] tyI) (.int .i64 r2.1) (r:=zab bs [.int .i64 r1.2] tyI) rfl rfl rfl rfl rfl (fun u H C hH hle hr hC => by have h:=zdm (rest:=rest) (cap:=cap) (d:=d) (x:=a + q * 2) (k:=r1.2) (by omega) (by omega) hm hm1 (by omega) hH (hle _ _ hb) hr hC; rw [← hr2] at h; exact h)) ?_;refine Zc ?_;refine Zc6 ?_;refine q8 (y3 L 901 (zab bs [.int .i64 r3.2] tyI) (.int .i64 r3.1) (r:=zab bs [.int .i64 r2.2] tyI) rfl rfl rfl rfl rfl (fun u H C hH hle hr hC => by have h:=zdm (rest:=rest) (cap:=cap) (d:=d) (x:=a + q * 3) (k:=r2.2) (by omega) (by omega) hm hm1 (by omega) hH (hle _ _ hb) hr hC; rw [← hr3] at h; exact h)) ?_;refine Zc ?_;refine ZE ?_;refine ZU ?_;refine q8 (y3 L 901 (zab bs [.int .i64 r4.2] tyI) (.int .i64 r4.1) (r:=zab bs [.int .i64 r3.2] tyI) rfl rfl rfl rfl rfl (fun u H C hH hle hr hC => by have h:=zgj (rest:=rest) (cap:=cap) (d:=d) (x:=r1.1) (y:=r2.1) (z:=r3.1) (k:=r3.2) (by omega) (by omega) (by omega) hm hm1 (by omega) hH (hle _ _ hb) hr hC; rw [← hr4] at h; exact h)) ?_;refine Zd ?_;refine ZN ?_;refine Ze1 ?_;refine Z1 ?_;refine ZI ?_;refine Zay ?_;refine ZbF ?_;refine Zaj ?_;refine ZbF ?_;refine ZbC ?_;refine Zy ?_
    refine qq L (rs:=[.tmp 6, .tmp 7]) rfl (fun _ _ h => h) Since.refl fun u H hH hle => ?_
    rfl
 ·rw [if_neg h50]
  obtain ⟨r4, hr4⟩:∃ r, r = median lt d (a + q * 1) (a + q * 2) (a + q * 3) 0:=⟨_, rfl⟩
  rw [← hr4]
  by_cases z0:r4.2 = 0
  ·rw [if_pos z0]
   refine Zo ?_;refine ZcN ?_;refine Zp ?_;refine ZcN ?_;refine Zw ?_;refine Ze0 ?_;refine ZcB ?_;refine Za7 ?_;refine Zca ?_;refine ZD ?_;refine Zd1 ?_;refine ZE ?_;refine ZU ?_;refine q8 (y3 L 901 (zab bs [.int .i64 r4.2] tyI) (.int .i64 r4.1) (r:=zab bs [.int .i64 0] tyI) rfl rfl rfl rfl rfl (fun u H C hH hle hr hC => by have h:=zgj (rest:=rest) (cap:=cap) (d:=d) (x:=a + q * 1) (y:=a + q * 2) (z:=a + q * 3) (k:=0) (by omega) (by omega) (by omega) hm hm1 (by omega) hH (hle _ _ hb) hr hC; rw [← hr4] at h; exact h)) ?_;refine Zd ?_;refine ZN ?_;refine Ze1 ?_;refine Z1 ?_;refine ZI ?_;refine Zay ?_;refine Z9 ?_;refine Zdc ?_;refine Zag ?_;refine Za ?_;refine Zy ?_
   refine qq L (rs:=[.tmp 6, .tmp 7]) rfl (fun _ _ h => h) Since.refl fun u H hH hle => ?_
   rfl
  ·rw [if_neg z0]
   by_cases z12:r4.2 = 12
   ·rw [if_pos z12]
    refine Zo ?_;refine ZcN ?_;refine Zp ?_;refine ZcN ?_;refine Zw ?_;refine Ze0 ?_;refine ZcB ?_;refine Za7 ?_;refine Zca ?_;refine ZD ?_;refine Zd1 ?_;refine ZE ?_;refine ZU ?_;refine q8 (y3 L 901 (zab bs [.int .i64 r4.2] tyI) (.int .i64 r4.1) (r:=zab bs [.int .i64 0] tyI) rfl rfl rfl rfl rfl (fun u H C hH hle hr hC => by have h:=zgj (rest:=rest) (cap:=cap) (d:=d) (x:=a + q * 1) (y:=a + q * 2) (z:=a + q * 3) (k:=0) (by omega) (by omega) (by omega) hm hm1 (by omega) hH (hle _ _ hb) hr hC; rw [← hr4] at h; exact h)) ?_;refine Zd ?_;refine ZN ?_;refine Ze1 ?_;refine Z1 ?_;refine ZI ?_;refine Zay ?_;refine ZbF ?_;refine Zaj ?_;refine Z9 ?_;refine Zdc ?_;refine Zcb ?_;refine Zy ?_
    refine qq L (rs:=[.tmp 6, .tmp 7]) rfl (fun _ _ h => h) Since.refl fun u H hH hle => ?_
    rfl
   ·rw [if_neg z12]
    refine Zo ?_;refine ZcN ?_;refine Zp ?_;refine ZcN ?_;refine Zw ?_;refine Ze0 ?_;refine ZcB ?_;refine Za7 ?_;refine Zca ?_;refine ZD ?_;refine Zd1 ?_;refine ZE ?_;refine ZU ?_;refine q8 (y3 L 901 (zab bs [.int .i64 r4.2] tyI) (.int .i64 r4.1) (r:=zab bs [.int .i64 0] tyI) rfl rfl rfl rfl rfl (fun u H C hH hle hr hC => by have h:=zgj (rest:=rest) (cap:=cap) (d:=d) (x:=a + q * 1) (y:=a + q * 2) (z:=a + q * 3) (k:=0) (by omega) (by omega) (by omega) hm hm1 (by omega) hH (hle _ _ hb) hr hC; rw [← hr4] at h; exact h)) ?_;refine Zd ?_;refine ZN ?_;refine Ze1 ?_;refine Z1 ?_;refine ZI ?_;refine Zay ?_;refine ZbF ?_;refine Zaj ?_;refine ZbF ?_;refine ZbC ?_;refine Zy ?_
    refine qq L (rs:=[.tmp 6, .tmp 7]) rfl (fun _ _ h => h) Since.refl fun u H hH hle => ?_
    rfl
end Go.V.So
set_option maxRecDepth 20000
namespace Go.V.So
open Go.Proofs Go.RowKit Go.V Go.Sort
theorem _root_.Go.V.Zek {A B:Prop} (h:B) (t:Wr B → A:=by intro h; refine q4 (id:=17) [(200080, [900]), (200084, [900])] mixed (by kernel_rfl) ?_;exact h.h):A:=t ⟨h⟩
theorem _root_.Go.V.Zcc {A B:Prop} (h:B) (t:Wr B → A:=by intro h; refine zf (id:=23) ?_;refine Za ?_;exact h.h):A:=t ⟨h⟩
theorem _root_.Go.V.ZcP {A B:Prop} (h:B) (t:Wr B → A:=by intro h; refine Zag ?_;refine Zr ?_;exact h.h):A:=t ⟨h⟩
theorem _root_.Go.V.ZcQ {A B:Prop} (h:B) (t:Wr B → A:=by intro h; refine Zd ?_;refine Zdg ?_;exact h.h):A:=t ⟨h⟩
theorem _root_.Go.V.ZeF {A B:Prop} (h:B) (t:Wr B → A:=by intro h; refine Z1 ?_;refine zf (id:=27) ?_;exact h.h):A:=t ⟨h⟩
theorem _root_.Go.V.ZdP {A B:Prop} (h:B) (t:Wr B → A:=by intro h; refine Zb ?_;refine Zac ?_;exact h.h):A:=t ⟨h⟩
theorem zvj {h:Hint}:zmu h = 2 ↔ h = .decreasing:=by cases h <;> simp [zmu]
theorem zz7 {b:Nat} {cs:List Value} {ty:TypeId}:∀ v H u C, (zaj b cs ty).P v H u C → joinH H u C b = some (.cells cs.toArray ty):=fun _ _ _ _ ⟨hb, hC⟩ => (zix ((hC b).2 rfl)).trans hb
attribute [local irreducible] V N X VO Par StepOK Has Ret RetL RetO zbd RetX Src
set_option maxHeartbeats 4000000 in
set_option maxRecDepth 20000 in
theorem zzt:∀ (N:Nat) {d:Array Int} {rest:List Value} {b m cap a e lim:Nat} (_:e - a < N) (_:a ≤ e) (_:e ≤ m) (_:d.size = m) (_:m ≤ 100000) (_:lim ≤ 1000) (_:Below lt a e d) {w:World} {B:Heap} {C:Nat → Prop} (_:B.Le (hp w))
  (_:(zab b (uC d ++ rest) tyU).P B w C) (_:∀ k, C k → k < w.heap.size ∧ B k = none),
  zbd Tryz.prog 223 [.slice (some ⟨b, 0, none⟩) m cap, .int .i64 a, .int .i64 e, .int .i64 lim] w B C (zab b (uC (pdq lt d a e lim true true) ++ rest) tyU):=by
 intro N
 induction N with
 | zero => intro d rest b m cap a e lim h; omega
 | succ N ih =>
 intro d rest b m cap a e lim hN hab he hm hm1 hlim hBel w B C hB hr hC
 unfold zbd
 refine zah 900 (zab b (uC d ++ rest) tyU) Tryz.func223 rfl Tryz.ntmps223 (Nat.le_of_ble_eq_true rfl) hB hr hC ?_
 rw [zae]
 obtain ⟨X, hX⟩:∃ X, X = pdq lt d a e lim true true:=⟨_, rfl⟩
 rw [← hX]
 refine ZZ ?_;refine Zaf ?_
 refine zan (fun s:((Nat × Nat) × Nat) × ((Bool × Bool) × Array Int) => [(0, .is (.slice (some ⟨b, 0, none⟩) m cap)), (1, .is (.int .i64 s.1.1.1)), (2, .is (.int .i64 s.1.1.2)), (3, .is (.int .i64 s.1.2)), (8, .is (.bool s.2.1.1)), (9, .is (.bool s.2.1.2)), (900, .own (zaj b (uC s.2.2 ++ rest) tyU))])
  (fun s => s.1.1.1 ≤ s.1.1.2 ∧ s.1.1.2 ≤ m ∧ s.1.1.2 - s.1.1.1 ≤ e - a ∧ s.1.2 ≤ 1000 ∧ s.2.2.size = m ∧ Below lt s.1.1.1 s.1.1.2 s.2.2 ∧ pdq lt s.2.2 s.1.1.1 s.1.1.2 s.1.2 s.2.1.1 s.2.1.2 = X) (fun s => s.1.1.2 - s.1.1.1) (((a, e), lim), ((true, true), d)) ⟨hab, he, Nat.le_refl _, hlim, hm, hBel, hX.symm⟩ ⟨rfl, rfl, rfl, rfl, rfl, rfl, rfl, trivial⟩ ?_
 rintro ⟨⟨⟨x, y⟩, l⟩, ⟨⟨wb, wp⟩, D⟩⟩ ⟨hxy, hy, hL, hl, hD, hBl, hP⟩
 dsimp only at hxy hy hL hl hD hBl hP ⊢
 clear hX hBel hm
 have hw0:IntKind.i64.wrap ((y:Int) - (x:Int)) = ((y - x:Nat):Int):=zaa (by omega) (by omega) |>.trans (by omega)
 by_cases h12:y - x ≤ 12
 ·rw [pdq_small h12] at hP
  rw [← hP]
  refine ZI ?_;refine Z5 ?_;refine Z8 ?_;refine Zf ?_;refine Zk ?_;refine Zbo ?_;refine Zv ?_;refine Zp ?_;refine Zr ?_;refine q8 (zao L 900 (zab b (uC (insertionSort lt D x y) ++ rest) tyU) (r:=zab b (uC D ++ rest) tyU) rfl rfl rfl rfl rfl (fun u H C hH _ hr hC => ins_ret hxy (by omega) hD hm1 hH hr hC)) ?_;refine Z1 ?_
  exact za6 L 900 (r:=zab b _ tyU) rfl (fun _ _ h => h) Since.refl rfl rfl
 ·by_cases hl0:l = 0
  ·rw [pdq_heap h12 hl0] at hP
   rw [← hP]
   refine ZI ?_;refine Z5 ?_;refine Z8 ?_;refine Zf ?_;refine Zk ?_;refine Zb6 ?_;refine ZB ?_;refine ZY ?_;refine Z9 ?_;refine Zv ?_;refine Zak ?_;refine Zr ?_;refine q8 (zao L 900 (zab b (uC (heapSort lt D x y) ++ rest) tyU) (r:=zab b (uC D ++ rest) tyU) rfl rfl rfl rfl rfl (fun u H C hH _ hr hC => zxp (by omega) (by omega) hD hm1 hH hr hC)) ?_;refine Z1 ?_
   exact za6 L 900 (r:=zab b _ tyU) rfl (fun _ _ h => h) Since.refl rfl rfl
  ·obtain ⟨s1, B1, hc1, s2, B2, hpv, s3, B3⟩:=rd_facts (lt:=lt) (limit:=l) (wb:=wb) (wp:=wp) swo_ltInt partialInsertionSort_holds reverseRange_holds (show x < y by omega) (show y ≤ D.size by omega) hBl
   have hlle:(rd lt D x y l wb wp).lim ≤ 1000:=Nat.le_trans rd_lim_le hl
   have hdone:=fun h => pdq_done (lt:=lt) (d:=D) (wb:=wb) (wp:=wp) h12 hl0 h
   have heq:=fun h1 h2 h3 => pdq_eq (lt:=lt) (d:=D) (wb:=wb) (wp:=wp) h12 hl0 h1 h2 h3
   have hleft:=fun h1 h2 h3 h4 => pdq_left (lt:=lt) (d:=D) (wb:=wb) (wp:=wp) h12 hl0 h1 h2 h3 h4
   have hright:=fun h1 h2 h3 h4 => pdq_right (lt:=lt) (d:=D) (wb:=wb) (wp:=wp) h12 hl0 h1 h2 h3 h4
   have hrt:wb = true → (rd lt D x y l wb wp).d1 = D ∧ (rd lt D x y l wb wp).lim = l:=fun e => by subst e; exact rd_true
   have hrf:wb = false → (rd lt D x y l wb wp).d1 = breakPatterns D x y ∧ (rd lt D x y l wb wp).lim = l - 1:=fun e => by subst e; exact rd_false
   have hrc:=rd_c (lt:=lt) (d:=D) (a:=x) (b:=y) (limit:=l) (wb:=wb) (wp:=wp)
   have hde:=fun h => rd_dec (lt:=lt) (d:=D) (a:=x) (b:=y) (limit:=l) (wb:=wb) (wp:=wp) h
   have hno:=fun h => rd_not (lt:=lt) (d:=D) (a:=x) (b:=y) (limit:=l) (wb:=wb) (wp:=wp) h
   have hpy:=fun h => rd_pi_yes (lt:=lt) (d:=D) (a:=x) (b:=y) (limit:=l) (wb:=wb) (wp:=wp) h
   have hpn:=fun h => rd_pi_no (lt:=lt) (d:=D) (a:=x) (b:=y) (limit:=l) (wb:=wb) (wp:=wp) h
   rw [hP] at hdone heq hleft hright
   generalize (rd lt D x y l wb wp) = R at *
   refine ZI ?_;refine Z5 ?_;refine Z8 ?_;refine Zf ?_;refine Zk ?_;refine Zb6 ?_;refine ZB ?_;refine ZY ?_;refine ZL ?_;refine ZB ?_
   refine zgn (fun _:Unit => [(0, .is (.slice (some ⟨b, 0, none⟩) m cap)), (1, .is (.int .i64 x)), (2, .is (.int .i64 y)), (3, .is (.int .i64 R.lim)), (8, .is (.bool wb)), (9, .is (.bool wp)), (10, .is (.int .i64 (y - x:Nat))), (900, .own (zaj b (uC R.d1 ++ rest) tyU))]) (fun _ => True) (fun _ => []) ?rest1 ?first1
   case first1 =>
    cases wb with
    | true =>
     obtain ⟨e1, e2⟩:=hrt rfl
     rw [e1, e2]
     refine ZC ?_;refine Zu ?_;refine ZX ?_
     exact zbe () Since.refl trivial rfl ⟨rfl, rfl, rfl, rfl, rfl, rfl, rfl, rfl, trivial⟩
    | false =>
     obtain ⟨e1, e2⟩:=hrf rfl
     have hw1:IntKind.i64.wrap ((l:Int) - 1) = ((l - 1:Nat):Int):=zaa (by omega) (by omega) |>.trans (by omega)
     rw [e1, e2]
     refine ZC ?_;refine Zu ?_;refine Zv ?_;refine ZA ?_;refine Zr ?_;refine q8 (zao L 900 (zab b (uC (breakPatterns D x y) ++ rest) tyU) (r:=zab b (uC D ++ rest) tyU) rfl rfl rfl rfl rfl (fun u H C hH _ hr hC => z0t (by omega) (by omega) hD hm1 hH hr hC)) ?_;refine Z1 ?_;refine Zaz ?_;refine ZQ ?_;refine Zax ?_
     exact zbe () Since.refl trivial rfl ⟨rfl, rfl, rfl, rfl, rfl, rfl, rfl, rfl, trivial⟩
   intro _ _
   refine zh ?_;refine Zap ?_;refine Zr ?_;refine qw (zb8 L 900 (Φ:=fun H => H b = some (.cells (uC R.d1 ++ rest).toArray tyU)) (c:=.tuple #[.int .i64 R.c.1, .int .i64 (zmu R.c.2)]) rfl rfl (zk rfl) rfl rfl rfl rfl rfl zz7 (fun u H hH hle h1 => by rw [hrc]; exact zzp (by omega) hy (by omega) hm1 hH h1)) ?_;refine Zck ?_
   refine zgn (fun _:Unit => [(0, .is (.slice (some ⟨b, 0, none⟩) m cap)), (1, .is (.int .i64 x)), (2, .is (.int .i64 y)), (3, .is (.int .i64 R.lim)), (8, .is (.bool wb)), (9, .is (.bool wp)), (10, .is (.int .i64 (y - x:Nat))), (11, .is (.int .i64 R.pivot)), (12, .is (.int .i64 (zmu R.hint))), (900, .own (zaj b (uC R.d2 ++ rest) tyU))]) (fun _ => True) (fun _ => []) ?rest2 ?first2
   case first2 =>
    by_cases hdec:R.c.2 = .decreasing
    ·obtain ⟨e1, e2, e3⟩:=hde hdec
     have hz:zmu R.c.2 = 2:=by rw [hdec]; rfl
     rw [e1, e2, e3]
     have w1:IntKind.i64.wrap ((y:Int) - 1) = ((y - 1:Nat):Int):=zaa (by omega) (by omega) |>.trans (by omega)
     have w2:IntKind.i64.wrap ((R.c.1:Int) - (x:Int)) = ((R.c.1 - x:Nat):Int):=zaa (by omega) (by omega) |>.trans (by omega)
     have w3:IntKind.i64.wrap (((y - 1:Nat):Int) - ((R.c.1 - x:Nat):Int)) = ((y - 1 - (R.c.1 - x):Nat):Int):=zaa (by omega) (by omega) |>.trans (by omega)
     refine ZaZ ?_;refine Z9 ?_;refine Zv ?_;refine ZN ?_;refine Zr ?_;refine q8 (zao L 900 (zab b (uC (reverseRange R.d1 x y) ++ rest) tyU) (r:=zab b (uC R.d1 ++ rest) tyU) rfl rfl rfl rfl rfl (fun u H C hH _ hr hC => rev_ret (by omega) (by omega) (by omega) hm1 hH hr hC)) ?_;refine Zj ?_;refine ZbC ?_;refine ZQ ?_;refine Z8 ?_;refine ZQ ?_;refine Zc ?_;refine Zay ?_;refine Zax ?_
     exact zbe () Since.refl trivial rfl ⟨rfl, rfl, rfl, rfl, rfl, rfl, rfl, rfl, rfl, rfl, trivial⟩
    ·obtain ⟨e1, e2, e3⟩:=hno hdec
     have hz:zmu R.c.2 ≠ 2:=fun h => hdec (zvj.1 h)
     rw [e1, e2, e3]
     refine ZaZ ?_;refine ZL ?_;refine ZX ?_
     exact zbe () Since.refl trivial rfl ⟨rfl, rfl, rfl, rfl, rfl, rfl, rfl, rfl, rfl, rfl, trivial⟩
   intro _ _
   refine zh (zh (zgn (fun _:Unit => [(0, .is (.slice (some ⟨b, 0, none⟩) m cap)), (1, .is (.int .i64 x)), (2, .is (.int .i64 y)), (3, .is (.int .i64 R.lim)), (8, .is (.bool wb)), (9, .is (.bool wp)), (10, .is (.int .i64 (y - x:Nat))), (11, .is (.int .i64 R.pivot)), (900, .own (zaj b (uC R.pi.1 ++ rest) tyU))]) (fun _ => R.pi.2 = false) (fun _ => []) ?rest3 ?first3))
   case first3 =>
    cases wb with
    | false =>
     have hpi:=hpn rfl
     rw [hpi]
     refine Zag ?_;refine Zb ?_;refine Zdl ?_;refine Zbs ?_;refine Zg ?_;refine ZX ?_
     exact zbe () Since.refl rfl rfl ⟨rfl, rfl, rfl, rfl, rfl, rfl, rfl, rfl, rfl, trivial⟩
    | true =>
     cases wp with
     | false =>
      have hpi:=hpn rfl
      rw [hpi]
      refine ZcP ?_;refine Zg ?_;refine Zbs ?_;refine Zg ?_;refine ZX ?_
      exact zbe () Since.refl rfl rfl ⟨rfl, rfl, rfl, rfl, rfl, rfl, rfl, rfl, rfl, trivial⟩
     | true =>
      by_cases hi:R.hint = .increasing
      ·have hz:zmu R.hint = 1:=by rw [hi]; rfl
       have hpi:=hpy (by rw [hi]; rfl)
       cases hb:(partialInsertionSort lt R.d2 x y).2 with
       | true =>
        rw [hdone (by rw [hpi]; exact hb)]
        refine ZcP ?_;refine ZcS ?_;refine Z9 ?_;refine ZaA ?_;refine Zaj ?_;refine Zr ?_;refine q8 (y3 L 900 (zab b (uC R.pi.1 ++ rest) tyU) (.bool true) (r:=zab b (uC R.d2 ++ rest) tyU) rfl rfl rfl rfl rfl (fun u H C hH hle hr hC => by have h:=pins_ret (rest:=rest) (cap:=cap) (d:=R.d2) (a:=x) (e:=y) (m:=m) (by omega) (by omega) (by omega) hm1 hH hr hC; rw [hb, ← hpi] at h; exact h)) ?_;refine Zz ?_
        exact za6 L 900 (r:=zab b _ tyU) rfl (fun _ _ h => h) Since.refl rfl rfl
       | false =>
        refine ZcP ?_;refine ZcS ?_;refine Z9 ?_;refine ZaA ?_;refine Zaj ?_;refine Zr ?_;refine q8 (y3 L 900 (zab b (uC R.pi.1 ++ rest) tyU) (.bool false) (r:=zab b (uC R.d2 ++ rest) tyU) rfl rfl rfl rfl rfl (fun u H C hH hle hr hC => by have h:=pins_ret (rest:=rest) (cap:=cap) (d:=R.d2) (a:=x) (e:=y) (m:=m) (by omega) (by omega) (by omega) hm1 hH hr hC; rw [hb, ← hpi] at h; exact h)) ?_;refine ZX ?_
        exact zbe () Since.refl (by rw [hpi]; exact hb) rfl ⟨rfl, rfl, rfl, rfl, rfl, rfl, rfl, rfl, rfl, trivial⟩
      ·have hz:zmu R.hint ≠ 1:=fun h => by
        cases hh:R.hint with
        | unknown => rw [hh] at h; cases h
        | increasing => exact hi hh
        | decreasing => rw [hh] at h; cases h
       have hpi:=hpn (by simp [hi])
       rw [hpi]
       refine ZcP ?_;refine ZcS ?_;refine ZL ?_;refine Zg ?_;refine ZX ?_
       exact zbe () Since.refl rfl rfl ⟨rfl, rfl, rfl, rfl, rfl, rfl, rfl, rfl, rfl, trivial⟩
   intro _ h2
   obtain ⟨_, q2⟩:=zcp (rest:=rest) (show R.pivot < R.pi.1.size by omega) (0 + (R.pivot) * 1) rfl
   by_cases hx0:0 < x
   ·obtain ⟨_, q1⟩:=zcp (rest:=rest) (show x - 1 < R.pi.1.size by omega) (0 + (x - 1) * 1) rfl
    have hw3:IntKind.i64.wrap ((x:Int) - 1) = ((x - 1:Nat):Int):=zaa (by omega) (by omega) |>.trans (by omega)
    cases hc:lt R.pi.1[x - 1]! R.pi.1[R.pivot]! with
    | false =>
     obtain ⟨mid, d4, hx⟩:∃ mid d4, partitionEqual lt R.pi.1 x y R.pivot = (mid, d4):=⟨_, _, rfl⟩
     obtain ⟨g1, g2, g3, g4, _⟩:=round_eq swo_ltInt (partitionEqual_holds lt) hx0 hpv.1 hpv.2 (by omega) B3 hc hx
     have hn:=heq h2 (by simp [hx0, hc]) (by rw [hx]; exact ⟨g1, g2⟩)
     rw [hx] at hn
     refine Ze ?_;refine Zek ?_;refine Zh ?_;refine Zdb ?_;refine Zeu ?_;refine ZdZ ?_;refine Zm ?_;refine q7 (zx L (q:=900) rfl rfl rfl rfl rfl q1) rfl rfl ?_;refine Zq ?_;refine q7 (zx L (q:=900) rfl rfl rfl rfl rfl q2) rfl rfl ?_;refine zd (zp L rfl rfl (zk rfl) rfl rfl rfl (fun u H hH _ _ => zbb hc hH)) rfl ?_;refine Zab ?_;refine Zbh ?_;refine zh ?_;refine Zed ?_;refine ZU ?_;refine q8 (y3 L 900 (zab b (uC d4 ++ rest) tyU) (.int .i64 mid) (r:=zab b (uC R.pi.1 ++ rest) tyU) rfl rfl rfl rfl rfl (fun u H C hH hle hr hC => by have h:=zzs (rest:=rest) (cap:=cap) (d:=R.pi.1) hpv.1 hpv.2 (by omega) (m:=m) (by omega) hm1 hH hr hC; rw [hx] at h; exact h)) ?_;refine Zd ?_;refine ZdO ?_;refine Zc ?_;refine yd ?_;refine Zfh ?_
     exact qy (x:=(((x, y), l), ((wb, wp), D))) (((mid, y), R.lim), ((wb, wp), d4)) ⟨by dsimp only; omega, hy, by dsimp only; omega, hlle, by dsimp only; omega, g4, hn.symm⟩ (by dsimp only; omega) ⟨rfl, rfl, rfl, rfl, rfl, rfl, rfl, trivial⟩
    | true =>
     have h2b:(decide (x > 0) && !lt R.pi.1[x - 1]! R.pi.1[R.pivot]!) = false:=by simp [hc]
     obtain ⟨mid, ap, d4, hx⟩:∃ mid ap d4, Go.Sort.partition lt R.pi.1 x y R.pivot = (mid, ap, d4):=⟨_, _, _, rfl⟩
     obtain ⟨g1, g2, g3, g4, g5, gL, gR⟩:=round_part swo_ltInt (partition_holds lt) hpv.1 hpv.2 (by omega) B3 hx
     have w1:IntKind.i64.wrap ((mid:Int) - (x:Int)) = ((mid - x:Nat):Int):=zaa (by omega) (by omega) |>.trans (by omega)
     have w2:IntKind.i64.wrap ((y:Int) - (mid:Int)) = ((y - mid:Nat):Int):=zaa (by omega) (by omega) |>.trans (by omega)
     have w4:IntKind.i64.wrap ((mid:Int) + 1) = ((mid + 1:Nat):Int):=zaa (by omega) (by omega)
     have et:((y - x:Nat):Int).tdiv 8 = (((y - x) / 8:Nat):Int):=by
      rw [Int.tdiv_eq_ediv_of_nonneg (by omega)]
      omega
     have w3:IntKind.i64.wrap (((y - x:Nat):Int).tdiv 8) = (((y - x) / 8:Nat):Int):=by rw [et]; exact zaa (by omega) (by omega)
     by_cases hlr:mid - x < y - mid
     ·have hn:=hleft h2 h2b (by rw [hx]; exact ⟨g1, g2⟩) (by rw [hx]; exact hlr)
      rw [hx] at hn
      dsimp only at hn
      obtain ⟨pL, sL⟩:=pdq_sorts lt swo_ltInt d4 x mid R.lim true true g1 (by omega) g4
      obtain ⟨LL, hLL⟩:∃ LL, LL = pdq lt d4 x mid R.lim true true:=⟨_, rfl⟩
      rw [← hLL] at hn pL sL
      obtain ⟨gB, _⟩:=gL LL pL sL
      have hLs:LL.size = d4.size:=pL.1
      by_cases h8:mid - x ≥ (y - x) / 8
      ·rw [decide_eq_true h8] at hn
       refine Ze ?_;refine Zek ?_;refine Zh ?_;refine Zdb ?_;refine Zeu ?_;refine ZdZ ?_;refine Zm ?_;refine q7 (zx L (q:=900) rfl rfl rfl rfl rfl q1) rfl rfl ?_;refine Zq ?_;refine q7 (zx L (q:=900) rfl rfl rfl rfl rfl q2) rfl rfl ?_;refine zd (zp L rfl rfl (zk rfl) rfl rfl rfl (fun u H hH _ _ => zbb hc hH)) rfl ?_;refine Zab ?_;refine Zcr ?_;refine Za1 ?_;refine ZU ?_;refine q8 (y3 L 900 (zab b (uC d4 ++ rest) tyU) (.tuple #[.int .i64 mid, .bool ap]) (r:=zab b (uC R.pi.1 ++ rest) tyU) rfl rfl rfl rfl rfl (fun u H C hH hle hr hC => by have h:=zd9 (rest:=rest) (cap:=cap) (d:=R.pi.1) hpv.1 hpv.2 (by omega) (m:=m) (by omega) hm1 hH hr hC; rw [hx] at h; exact h)) ?_;refine ZP ?_;refine Zcy ?_;refine ZcQ ?_;refine Z8 ?_;refine Z8 ?_;refine Zau ?_;refine Zcc ?_;refine ZdL ?_;refine Zd ?_;refine ZbG ?_;refine ZdP ?_;refine Zv ?_;refine zf (id:=25) ?_;refine Zb ?_;refine Za5 ?_;refine Zd ?_;refine zf (id:=26) ?_;refine ZU ?_;refine q8 (zao L 900 (zab b (uC LL ++ rest) tyU) (r:=zab b (uC d4 ++ rest) tyU) rfl rfl rfl rfl rfl (fun u H C hH _ hr hC => by rw [hLL]; exact ih (by omega) g1 (by omega) (by omega) hm1 hlle g4 hH hr hC)) ?_;refine ZeF ?_;refine Za ?_;refine ZdM ?_
       exact qy (x:=(((x, y), l), ((wb, wp), D))) (((mid + 1, y), R.lim), ((true, ap), LL)) ⟨by dsimp only; omega, hy, by dsimp only; omega, hlle, by dsimp only; omega, gB, hn.symm⟩ (by dsimp only; omega) ⟨rfl, rfl, rfl, rfl, rfl, rfl, rfl, trivial⟩
      ·rw [decide_eq_false h8] at hn
       refine Ze ?_;refine Zek ?_;refine Zh ?_;refine Zdb ?_;refine Zeu ?_;refine ZdZ ?_;refine Zm ?_;refine q7 (zx L (q:=900) rfl rfl rfl rfl rfl q1) rfl rfl ?_;refine Zq ?_;refine q7 (zx L (q:=900) rfl rfl rfl rfl rfl q2) rfl rfl ?_;refine zd (zp L rfl rfl (zk rfl) rfl rfl rfl (fun u H hH _ _ => zbb hc hH)) rfl ?_;refine Zab ?_;refine Zcr ?_;refine Za1 ?_;refine ZU ?_;refine q8 (y3 L 900 (zab b (uC d4 ++ rest) tyU) (.tuple #[.int .i64 mid, .bool ap]) (r:=zab b (uC R.pi.1 ++ rest) tyU) rfl rfl rfl rfl rfl (fun u H C hH hle hr hC => by have h:=zd9 (rest:=rest) (cap:=cap) (d:=R.pi.1) hpv.1 hpv.2 (by omega) (m:=m) (by omega) hm1 hH hr hC; rw [hx] at h; exact h)) ?_;refine ZP ?_;refine Zcy ?_;refine ZcQ ?_;refine Z8 ?_;refine Z8 ?_;refine Zau ?_;refine Zcc ?_;refine ZdL ?_;refine Zd ?_;refine ZbG ?_;refine ZdP ?_;refine Zv ?_;refine zf (id:=25) ?_;refine Zb ?_;refine ZD ?_;refine Zd ?_;refine zf (id:=26) ?_;refine ZU ?_;refine q8 (zao L 900 (zab b (uC LL ++ rest) tyU) (r:=zab b (uC d4 ++ rest) tyU) rfl rfl rfl rfl rfl (fun u H C hH _ hr hC => by rw [hLL]; exact ih (by omega) g1 (by omega) (by omega) hm1 hlle g4 hH hr hC)) ?_;refine ZeF ?_;refine Za ?_;refine ZdM ?_
       exact qy (x:=(((x, y), l), ((wb, wp), D))) (((mid + 1, y), R.lim), ((false, ap), LL)) ⟨by dsimp only; omega, hy, by dsimp only; omega, hlle, by dsimp only; omega, gB, hn.symm⟩ (by dsimp only; omega) ⟨rfl, rfl, rfl, rfl, rfl, rfl, rfl, trivial⟩
     ·have hn:=hright h2 h2b (by rw [hx]; exact ⟨g1, g2⟩) (by rw [hx]; exact hlr)
      rw [hx] at hn
      dsimp only at hn
      obtain ⟨pL, sL⟩:=pdq_sorts lt swo_ltInt d4 (mid + 1) y R.lim true true (by omega) (by omega) g5
      obtain ⟨LL, hLL⟩:∃ LL, LL = pdq lt d4 (mid + 1) y R.lim true true:=⟨_, rfl⟩
      rw [← hLL] at hn pL sL
      obtain ⟨gB, _⟩:=gR LL pL sL
      have hLs:LL.size = d4.size:=pL.1
      by_cases h8:y - mid ≥ (y - x) / 8
      ·rw [decide_eq_true h8] at hn
       refine Ze ?_;refine Zek ?_;refine Zh ?_;refine Zdb ?_;refine Zeu ?_;refine ZdZ ?_;refine Zm ?_;refine q7 (zx L (q:=900) rfl rfl rfl rfl rfl q1) rfl rfl ?_;refine Zq ?_;refine q7 (zx L (q:=900) rfl rfl rfl rfl rfl q2) rfl rfl ?_;refine zd (zp L rfl rfl (zk rfl) rfl rfl rfl (fun u H hH _ _ => zbb hc hH)) rfl ?_;refine Zab ?_;refine Zcr ?_;refine Za1 ?_;refine ZU ?_;refine q8 (y3 L 900 (zab b (uC d4 ++ rest) tyU) (.tuple #[.int .i64 mid, .bool ap]) (r:=zab b (uC R.pi.1 ++ rest) tyU) rfl rfl rfl rfl rfl (fun u H C hH hle hr hC => by have h:=zd9 (rest:=rest) (cap:=cap) (d:=R.pi.1) hpv.1 hpv.2 (by omega) (m:=m) (by omega) hm1 hH hr hC; rw [hx] at h; exact h)) ?_;refine ZP ?_;refine Zcy ?_;refine ZcQ ?_;refine Z8 ?_;refine Z8 ?_;refine Zau ?_;refine Zcc ?_;refine ZdL ?_;refine Zd ?_;refine ZbG ?_;refine Za8 ?_;refine ZcC ?_;refine zf (id:=28) ?_;refine Zb ?_;refine Za5 ?_;refine Zd ?_;refine zf (id:=29) ?_;refine ZbS ?_;refine Zb ?_;refine q8 (zao L 900 (zab b (uC LL ++ rest) tyU) (r:=zab b (uC d4 ++ rest) tyU) rfl rfl rfl rfl rfl (fun u H C hH _ hr hC => by rw [hLL]; exact ih (by omega) (by omega) hy (by omega) hm1 hlle g5 hH hr hC)) ?_;refine Z1 ?_;refine zf (id:=30) ?_;refine Za ?_;refine ZG ?_
       exact qy (x:=(((x, y), l), ((wb, wp), D))) (((x, mid), R.lim), ((true, ap), LL)) ⟨by dsimp only; omega, by dsimp only; omega, by dsimp only; omega, hlle, by dsimp only; omega, gB, hn.symm⟩ (by dsimp only; omega) ⟨rfl, rfl, rfl, rfl, rfl, rfl, rfl, trivial⟩
      ·rw [decide_eq_false h8] at hn
       refine Ze ?_;refine Zek ?_;refine Zh ?_;refine Zdb ?_;refine Zeu ?_;refine ZdZ ?_;refine Zm ?_;refine q7 (zx L (q:=900) rfl rfl rfl rfl rfl q1) rfl rfl ?_;refine Zq ?_;refine q7 (zx L (q:=900) rfl rfl rfl rfl rfl q2) rfl rfl ?_;refine zd (zp L rfl rfl (zk rfl) rfl rfl rfl (fun u H hH _ _ => zbb hc hH)) rfl ?_;refine Zab ?_;refine Zcr ?_;refine Za1 ?_;refine ZU ?_;refine q8 (y3 L 900 (zab b (uC d4 ++ rest) tyU) (.tuple #[.int .i64 mid, .bool ap]) (r:=zab b (uC R.pi.1 ++ rest) tyU) rfl rfl rfl rfl rfl (fun u H C hH hle hr hC => by have h:=zd9 (rest:=rest) (cap:=cap) (d:=R.pi.1) hpv.1 hpv.2 (by omega) (m:=m) (by omega) hm1 hH hr hC; rw [hx] at h; exact h)) ?_;refine ZP ?_;refine Zcy ?_;refine ZcQ ?_;refine Z8 ?_;refine Z8 ?_;refine Zau ?_;refine Zcc ?_;refine ZdL ?_;refine Zd ?_;refine ZbG ?_;refine Za8 ?_;refine ZcC ?_;refine zf (id:=28) ?_;refine Zb ?_;refine ZD ?_;refine Zd ?_;refine zf (id:=29) ?_;refine ZbS ?_;refine Zb ?_;refine q8 (zao L 900 (zab b (uC LL ++ rest) tyU) (r:=zab b (uC d4 ++ rest) tyU) rfl rfl rfl rfl rfl (fun u H C hH _ hr hC => by rw [hLL]; exact ih (by omega) (by omega) hy (by omega) hm1 hlle g5 hH hr hC)) ?_;refine Z1 ?_;refine zf (id:=30) ?_;refine Za ?_;refine ZG ?_
       exact qy (x:=(((x, y), l), ((wb, wp), D))) (((x, mid), R.lim), ((false, ap), LL)) ⟨by dsimp only; omega, by dsimp only; omega, by dsimp only; omega, hlle, by dsimp only; omega, gB, hn.symm⟩ (by dsimp only; omega) ⟨rfl, rfl, rfl, rfl, rfl, rfl, rfl, trivial⟩
   ·have h2b:(decide (x > 0) && !lt R.pi.1[x - 1]! R.pi.1[R.pivot]!) = false:=by simp [hx0]
    obtain ⟨mid, ap, d4, hx⟩:∃ mid ap d4, Go.Sort.partition lt R.pi.1 x y R.pivot = (mid, ap, d4):=⟨_, _, _, rfl⟩
    obtain ⟨g1, g2, g3, g4, g5, gL, gR⟩:=round_part swo_ltInt (partition_holds lt) hpv.1 hpv.2 (by omega) B3 hx
    have w1:IntKind.i64.wrap ((mid:Int) - (x:Int)) = ((mid - x:Nat):Int):=zaa (by omega) (by omega) |>.trans (by omega)
    have w2:IntKind.i64.wrap ((y:Int) - (mid:Int)) = ((y - mid:Nat):Int):=zaa (by omega) (by omega) |>.trans (by omega)
    have w4:IntKind.i64.wrap ((mid:Int) + 1) = ((mid + 1:Nat):Int):=zaa (by omega) (by omega)
    have et:((y - x:Nat):Int).tdiv 8 = (((y - x) / 8:Nat):Int):=by
     rw [Int.tdiv_eq_ediv_of_nonneg (by omega)]
     omega
    have w3:IntKind.i64.wrap (((y - x:Nat):Int).tdiv 8) = (((y - x) / 8:Nat):Int):=by rw [et]; exact zaa (by omega) (by omega)
    by_cases hlr:mid - x < y - mid
    ·have hn:=hleft h2 h2b (by rw [hx]; exact ⟨g1, g2⟩) (by rw [hx]; exact hlr)
     rw [hx] at hn
     dsimp only at hn
     obtain ⟨pL, sL⟩:=pdq_sorts lt swo_ltInt d4 x mid R.lim true true g1 (by omega) g4
     obtain ⟨LL, hLL⟩:∃ LL, LL = pdq lt d4 x mid R.lim true true:=⟨_, rfl⟩
     rw [← hLL] at hn pL sL
     obtain ⟨gB, _⟩:=gL LL pL sL
     have hLs:LL.size = d4.size:=pL.1
     by_cases h8:mid - x ≥ (y - x) / 8
     ·rw [decide_eq_true h8] at hn
      refine Ze ?_;refine Zek ?_;refine Zh ?_;refine Zd6 ?_;refine ZbV ?_;refine ZaP ?_;refine Zcr ?_;refine Za1 ?_;refine ZU ?_;refine q8 (y3 L 900 (zab b (uC d4 ++ rest) tyU) (.tuple #[.int .i64 mid, .bool ap]) (r:=zab b (uC R.pi.1 ++ rest) tyU) rfl rfl rfl rfl rfl (fun u H C hH hle hr hC => by have h:=zd9 (rest:=rest) (cap:=cap) (d:=R.pi.1) hpv.1 hpv.2 (by omega) (m:=m) (by omega) hm1 hH hr hC; rw [hx] at h; exact h)) ?_;refine ZP ?_;refine Zcy ?_;refine ZcQ ?_;refine Z8 ?_;refine Z8 ?_;refine Zau ?_;refine Zcc ?_;refine ZdL ?_;refine Zd ?_;refine ZbG ?_;refine ZdP ?_;refine Zv ?_;refine zf (id:=25) ?_;refine Zb ?_;refine Za5 ?_;refine Zd ?_;refine zf (id:=26) ?_;refine ZU ?_;refine q8 (zao L 900 (zab b (uC LL ++ rest) tyU) (r:=zab b (uC d4 ++ rest) tyU) rfl rfl rfl rfl rfl (fun u H C hH _ hr hC => by rw [hLL]; exact ih (by omega) g1 (by omega) (by omega) hm1 hlle g4 hH hr hC)) ?_;refine ZeF ?_;refine Za ?_;refine ZdM ?_
      exact qy (x:=(((x, y), l), ((wb, wp), D))) (((mid + 1, y), R.lim), ((true, ap), LL)) ⟨by dsimp only; omega, hy, by dsimp only; omega, hlle, by dsimp only; omega, gB, hn.symm⟩ (by dsimp only; omega) ⟨rfl, rfl, rfl, rfl, rfl, rfl, rfl, trivial⟩
     ·rw [decide_eq_false h8] at hn
      refine Ze ?_;refine Zek ?_;refine Zh ?_;refine Zd6 ?_;refine ZbV ?_;refine ZaP ?_;refine Zcr ?_;refine Za1 ?_;refine ZU ?_;refine q8 (y3 L 900 (zab b (uC d4 ++ rest) tyU) (.tuple #[.int .i64 mid, .bool ap]) (r:=zab b (uC R.pi.1 ++ rest) tyU) rfl rfl rfl rfl rfl (fun u H C hH hle hr hC => by have h:=zd9 (rest:=rest) (cap:=cap) (d:=R.pi.1) hpv.1 hpv.2 (by omega) (m:=m) (by omega) hm1 hH hr hC; rw [hx] at h; exact h)) ?_;refine ZP ?_;refine Zcy ?_;refine ZcQ ?_;refine Z8 ?_;refine Z8 ?_;refine Zau ?_;refine Zcc ?_;refine ZdL ?_;refine Zd ?_;refine ZbG ?_;refine ZdP ?_;refine Zv ?_;refine zf (id:=25) ?_;refine Zb ?_;refine ZD ?_;refine Zd ?_;refine zf (id:=26) ?_;refine ZU ?_;refine q8 (zao L 900 (zab b (uC LL ++ rest) tyU) (r:=zab b (uC d4 ++ rest) tyU) rfl rfl rfl rfl rfl (fun u H C hH _ hr hC => by rw [hLL]; exact ih (by omega) g1 (by omega) (by omega) hm1 hlle g4 hH hr hC)) ?_;refine ZeF ?_;refine Za ?_;refine ZdM ?_
      exact qy (x:=(((x, y), l), ((wb, wp), D))) (((mid + 1, y), R.lim), ((false, ap), LL)) ⟨by dsimp only; omega, hy, by dsimp only; omega, hlle, by dsimp only; omega, gB, hn.symm⟩ (by dsimp only; omega) ⟨rfl, rfl, rfl, rfl, rfl, rfl, rfl, trivial⟩
    ·have hn:=hright h2 h2b (by rw [hx]; exact ⟨g1, g2⟩) (by rw [hx]; exact hlr)
     rw [hx] at hn
     dsimp only at hn
     obtain ⟨pL, sL⟩:=pdq_sorts lt swo_ltInt d4 (mid + 1) y R.lim true true (by omega) (by omega) g5
     obtain ⟨LL, hLL⟩:∃ LL, LL = pdq lt d4 (mid + 1) y R.lim true true:=⟨_, rfl⟩
     rw [← hLL] at hn pL sL
     obtain ⟨gB, _⟩:=gR LL pL sL
     have hLs:LL.size = d4.size:=pL.1
     by_cases h8:y - mid ≥ (y - x) / 8
     ·rw [decide_eq_true h8] at hn
      refine Ze ?_;refine Zek ?_;refine Zh ?_;refine Zd6 ?_;refine ZbV ?_;refine ZaP ?_;refine Zcr ?_;refine Za1 ?_;refine ZU ?_;refine q8 (y3 L 900 (zab b (uC d4 ++ rest) tyU) (.tuple #[.int .i64 mid, .bool ap]) (r:=zab b (uC R.pi.1 ++ rest) tyU) rfl rfl rfl rfl rfl (fun u H C hH hle hr hC => by have h:=zd9 (rest:=rest) (cap:=cap) (d:=R.pi.1) hpv.1 hpv.2 (by omega) (m:=m) (by omega) hm1 hH hr hC; rw [hx] at h; exact h)) ?_;refine ZP ?_;refine Zcy ?_;refine ZcQ ?_;refine Z8 ?_;refine Z8 ?_;refine Zau ?_;refine Zcc ?_;refine ZdL ?_;refine Zd ?_;refine ZbG ?_;refine Za8 ?_;refine ZcC ?_;refine zf (id:=28) ?_;refine Zb ?_;refine Za5 ?_;refine Zd ?_;refine zf (id:=29) ?_;refine ZbS ?_;refine Zb ?_;refine q8 (zao L 900 (zab b (uC LL ++ rest) tyU) (r:=zab b (uC d4 ++ rest) tyU) rfl rfl rfl rfl rfl (fun u H C hH _ hr hC => by rw [hLL]; exact ih (by omega) (by omega) hy (by omega) hm1 hlle g5 hH hr hC)) ?_;refine Z1 ?_;refine zf (id:=30) ?_;refine Za ?_;refine ZG ?_
      exact qy (x:=(((x, y), l), ((wb, wp), D))) (((x, mid), R.lim), ((true, ap), LL)) ⟨by dsimp only; omega, by dsimp only; omega, by dsimp only; omega, hlle, by dsimp only; omega, gB, hn.symm⟩ (by dsimp only; omega) ⟨rfl, rfl, rfl, rfl, rfl, rfl, rfl, trivial⟩
     ·rw [decide_eq_false h8] at hn
      refine Ze ?_;refine Zek ?_;refine Zh ?_;refine Zd6 ?_;refine ZbV ?_;refine ZaP ?_;refine Zcr ?_;refine Za1 ?_;refine ZU ?_;refine q8 (y3 L 900 (zab b (uC d4 ++ rest) tyU) (.tuple #[.int .i64 mid, .bool ap]) (r:=zab b (uC R.pi.1 ++ rest) tyU) rfl rfl rfl rfl rfl (fun u H C hH hle hr hC => by have h:=zd9 (rest:=rest) (cap:=cap) (d:=R.pi.1) hpv.1 hpv.2 (by omega) (m:=m) (by omega) hm1 hH hr hC; rw [hx] at h; exact h)) ?_;refine ZP ?_;refine Zcy ?_;refine ZcQ ?_;refine Z8 ?_;refine Z8 ?_;refine Zau ?_;refine Zcc ?_;refine ZdL ?_;refine Zd ?_;refine ZbG ?_;refine Za8 ?_;refine ZcC ?_;refine zf (id:=28) ?_;refine Zb ?_;refine ZD ?_;refine Zd ?_;refine zf (id:=29) ?_;refine ZbS ?_;refine Zb ?_;refine q8 (zao L 900 (zab b (uC LL ++ rest) tyU) (r:=zab b (uC d4 ++ rest) tyU) rfl rfl rfl rfl rfl (fun u H C hH _ hr hC => by rw [hLL]; exact ih (by omega) (by omega) hy (by omega) hm1 hlle g5 hH hr hC)) ?_;refine Z1 ?_;refine zf (id:=30) ?_;refine Za ?_;refine ZG ?_
      exact qy (x:=(((x, y), l), ((wb, wp), D))) (((x, mid), R.lim), ((false, ap), LL)) ⟨by dsimp only; omega, by dsimp only; omega, by dsimp only; omega, hlle, by dsimp only; omega, gB, hn.symm⟩ (by dsimp only; omega) ⟨rfl, rfl, rfl, rfl, rfl, rfl, rfl, trivial⟩
end Go.V.So
set_option maxRecDepth 20000
namespace Go.V.So
open Go.Proofs Go.RowKit Go.V Go.Sort
attribute [local irreducible] V N X VO Par StepOK Has Ret RetL RetO zbd RetX Src
set_option maxRecDepth 20000 in
theorem sortU_ret {d:Array Int} {rest:List Value} {b m cap:Nat} (hm:d.size = m) (hm1:m ≤ 100000) {w:World} {B:Heap} {C:Nat → Prop} (hB:B.Le (hp w))
  (hr:(zab b (uC d ++ rest) tyU).P B w C) (hC:∀ k, C k → k < w.heap.size ∧ B k = none) :
  zbd Tryz.prog 154 [.slice (some ⟨b, 0, none⟩) m cap] w B C (zab b (uC (Go.Sort.sort lt d) ++ rest) tyU):=by
 unfold zbd
 refine zah 900 (zab b (uC d ++ rest) tyU) Tryz.func154 rfl Tryz.ntmps154 (Nat.le_of_ble_eq_true rfl) hB hr hC ?_
 rw [zae]
 have hc:IntKind.u64.wrap (m:Int) = (m:Int):=wrap_u64 (by omega) (by omega)
 have hb17:bitsLen m ≤ 17:=(bitsLen_le_iff m 17).2 (by omega)
 refine ZbA ?_;refine Zdy ?_;refine Zc ?_;refine Zn ?_;refine Zr ?_;refine z7 (za2 rfl rfl rfl zbm.1 zbm.2 (wrap_u64 (by omega) (by omega))) rfl ?_;refine z7 (zp L rfl rfl (zk rfl) rfl rfl rfl (fun u H hH _ _ => zkm (by omega) hH)) rfl ?_;refine q8 (zao L 900 (zab b (uC (Go.Sort.sort lt d) ++ rest) tyU) (r:=zab b (uC d ++ rest) tyU) rfl rfl rfl rfl rfl (fun u H C hH _ hr hC => by have h:=zzt (rest:=rest) (cap:=cap) (m:=m) (d:=d) (a:=0) (e:=m) (lim:=bitsLen m) (m + 1) (by omega) (by omega) (by omega) hm hm1 (by omega) (Or.inl rfl) hH hr hC; unfold Go.Sort.sort; rw [hm]; exact h)) ?_;refine zi ?_
 exact zav L 900 (r:=zab b _ tyU) rfl (fun _ _ h => h) Since.refl rfl rfl
end Go.V.So
set_option maxRecDepth 20000
namespace Go.V.L10
open Go.Proofs Go.RowKit Go.V
theorem _root_.Go.V.ZfE {A B:Prop} (h:B) (t:Wr B → A:=by intro h; refine z7 (yf L (vs:=[_, _]) rfl rfl rfl rfl rfl ⟨_, rfl⟩) rfl ?_;exact h.h):A:=t ⟨h⟩
theorem _root_.Go.V.ZdQ {A B:Prop} (h:B) (t:Wr B → A:=by intro h; refine Zb ?_;refine Zdj ?_;exact h.h):A:=t ⟨h⟩
abbrev z4n:TypeId:=264
abbrev z06:TypeId:=63
def pnc (p:Int × Int):List Value:=[.int .u64 p.1, .int .i64 p.2]
theorem zzn (p:Int × Int):(pnc p).length = 2:=rfl
abbrev PsV (l:List (Int × Int)):Value → Heap → Prop:=SlV z4n 2 (l.flatMap pnc) l.length false
theorem zzo {l:List (Int × Int)} {i:Nat} {x:Int × Int} (h:l[i]? = some x):((l.flatMap pnc).drop (i * 2)).take 2 = [.int .u64 x.1, .int .i64 x.2]:=zf2 zzn l i x h
abbrev RsV (l:List Int) (fu:Bool):Value → Heap → Prop:=SlV z06 1 (l.map (Value.int .u64)) l.length fu
theorem z3g {l:List Int} {i:Nat} {x:Int} (h:l[i]? = some x):((l.map (Value.int .u64)).drop (i * 1)).take 1 = [.int .u64 x]:=by
 rw [Nat.mul_one, List.take_one]
 simp [List.head?_drop, h]
attribute [local irreducible] V N X VO Par StepOK Has Ret RetL RetO zbd RetX Src
theorem cmpU_ret (a b:Int) {w:World} {B:Heap} (hB:B.Le (hp w)):Ret Tryz.prog 213 [.int .u64 a, .int .u64 b] w B (fun v _ => v = .int .i64 (cP a b)):=by
 unfold cP
 refine qt Tryz.func213 rfl Tryz.ntmps213 (Nat.le_of_ble_eq_true rfl) hB ?_
 by_cases h:a < b
 ·rw [if_pos h]
  refine Zbp ?_;refine z7 (zp L rfl rfl (zk rfl) rfl rfl rfl (fun u H hH _ _ => So.isnanU _ hH)) rfl ?_;refine Za0 ?_;refine z7 (zp L rfl rfl (zk rfl) rfl rfl rfl (fun u H hH _ _ => So.isnanU _ hH)) rfl ?_;refine Zf ?_;refine Zk ?_;refine ZB ?_;refine ZC ?_;refine ZB ?_;refine ZcO ?_;refine Zac ?_;refine Zv ?_;refine Zap ?_;refine Zc ?_
  refine qq L (rs:=[.tmp 4]) rfl (fun _ _ h => h) Since.refl fun u H hH hle => ?_
  rfl
 ·rw [if_neg h]
  by_cases h2:b < a
  ·rw [if_pos h2]
   refine Zbp ?_;refine z7 (zp L rfl rfl (zk rfl) rfl rfl rfl (fun u H hH _ _ => So.isnanU _ hH)) rfl ?_;refine Za0 ?_;refine z7 (zp L rfl rfl (zk rfl) rfl rfl rfl (fun u H hH _ _ => So.isnanU _ hH)) rfl ?_;refine Zf ?_;refine Zk ?_;refine ZB ?_;refine ZC ?_;refine ZB ?_;refine Zah ?_;refine Za8 ?_;refine ZB ?_;refine ZE ?_;refine Zbe ?_;refine Zv ?_;refine ZN ?_;refine Zc ?_
   refine qq L (rs:=[.tmp 4]) rfl (fun _ _ h => h) Since.refl fun u H hH hle => ?_
   rfl
  ·rw [if_neg h2]
   refine Zbp ?_;refine z7 (zp L rfl rfl (zk rfl) rfl rfl rfl (fun u H hH _ _ => So.isnanU _ hH)) rfl ?_;refine Za0 ?_;refine z7 (zp L rfl rfl (zk rfl) rfl rfl rfl (fun u H hH _ _ => So.isnanU _ hH)) rfl ?_;refine Zf ?_;refine Zk ?_;refine ZB ?_;refine ZC ?_;refine ZB ?_;refine Zah ?_;refine Za8 ?_;refine ZB ?_;refine ZE ?_;refine Zb ?_;refine ZaX ?_;refine ZbO ?_;refine Zc ?_
   refine qq L (rs:=[.tmp 4]) rfl (fun _ _ h => h) Since.refl fun u H hH hle => ?_
   rfl
theorem zg4 (a n b:Int) {w:World} {B:Heap} (hB:B.Le (hp w)):Ret Tryz.prog 212 [.agg #[.int .u64 a, .int .i64 n], .int .u64 b] w B (fun v _ => v = .int .i64 (cP a b)):=by
 refine qt Tryz.func212 rfl Tryz.ntmps212 (Nat.le_of_ble_eq_true rfl) hB ?_
 refine Zbk ?_;refine Zb4 ?_;refine Zaq ?_;refine Za ?_;refine z7 (zp L rfl rfl (zk rfl) rfl rfl rfl (fun u H hH _ _ => cmpU_ret _ _ hH)) rfl ?_;refine Zc ?_
 refine qq L (rs:=[.tmp 4]) rfl (fun _ _ h => h) Since.refl fun u H hH hle => ?_
 rfl
abbrev BSP:Nat:=211
abbrev fvP:Value:=.func (.func 212) #[] #[]
set_option maxHeartbeats 2000000 in
theorem z0r {L0:List Int} {r:Int} (hz:(zc9 L0).length ≤ 100000) {v:Value} {w:World} {B:Heap} (hB:B.Le (hp w)) (hv:PsV (zc9 L0) v B) :
  Ret Tryz.prog BSP [v, .int .u64 r, fvP] w B (fun v _ => v = .tuple #[.int .i64 (zyr cP r (zfc L0):Nat), .bool (decide (r ∈ zfc L0))]):=by
 have hs:=zno L0
 obtain ⟨l, hl⟩:∃ l, l = zfc L0:=⟨_, rfl⟩
 obtain ⟨ps, hps⟩:∃ ps, ps = zc9 L0:=⟨_, rfl⟩
 have hat:∀ (i:Nat) (x:Int), l[i]? = some x → ps[i]? = some (x, (L0.count x:Int)):=fun i x h => by subst hl hps; exact znz h
 have hlen:ps.length = l.length:=by subst hl hps; exact zgu L0
 rw [← hl] at hs ⊢
 rw [← hps] at hv hz
 clear hl hps
 refine qt Tryz.func211 rfl Tryz.ntmps211 (Nat.le_of_ble_eq_true rfl) hB ?_
 refine zbl 0 (PsV ps) rfl SlV.mono hv ?_
 refine ZcU ?_;refine Zb3 ?_;refine Za0 ?_;refine Zau ?_;refine q6 ?_
 refine zan (fun s:Nat × Nat => [(0, .sat (PsV ps)), (2, .is fvP), (1, .is (.int .u64 r)), (8, .is (.int .i64 ps.length)), (9, .is (.int .i64 s.1)), (10, .is (.int .i64 s.2))])
  (fun s => s.1 ≤ s.2 ∧ s.2 ≤ l.length ∧ (∀ (k:Nat) (x:Int), k < s.1 → l[k]? = some x → cP x r < 0) ∧ ∀ (k:Nat) (x:Int), s.2 ≤ k → l[k]? = some x → ¬ cP x r < 0) (fun s => s.2 - s.1) (0, ps.length) ⟨Nat.zero_le _, Nat.le_of_eq hlen, fun k x h => (by cases h), fun k x h hx => (by rw [List.getElem?_eq_none (by dsimp only at h; omega)] at hx; cases hx)⟩ ⟨rfl, rfl, rfl, rfl, rfl, rfl, trivial⟩ ?_
 rintro ⟨i, j⟩ ⟨hij, hjl, hlo, hhi⟩
 dsimp only at hij hjl hlo hhi ⊢
 by_cases hlt:i < j
 ·obtain ⟨h, hh⟩:∃ h, h = (i + j) / 2:=⟨_, rfl⟩
  have hsh:((i:Int) + (j:Int)).fdiv (2 ^ min (1:Int).toNat IntKind.u64.bits) = (h:Int):=by
   show ((i:Int) + (j:Int)).fdiv 2 = (h:Int)
   rw [Int.fdiv_eq_ediv_of_nonneg _ (by decide)]
   omega
  obtain ⟨y, hy⟩:=zaw (show h < l.length by omega)
  have hc:=zzo (hat h y hy)
  by_cases hcm:cP y r < 0
  ·refine ZdW ?_;refine Zcw ?_;refine Zc9 ?_;refine Zp ?_;refine ZdQ ?_;refine z7 (za2 rfl rfl rfl zbm.1 zbm.2 (wrap_u64 (by omega) (by omega))) rfl ?_;refine Zd2 ?_;refine z7 (za2 rfl rfl rfl zbn.1 zbn.2 (zaa (by omega) (by omega))) rfl ?_;refine Zcf ?_;refine ZbZ ?_;refine ZaU ?_;refine ZfE ?_;refine Za ?_;refine z7 (zp L rfl rfl (zk rfl) rfl rfl rfl (fun u H hH _ _ => zg4 _ _ _ hH)) rfl ?_;refine Zcl ?_;refine ZJ ?_;refine Zdj ?_;refine ZG ?_
   exact qy (x:=(i, j)) (h + 1, j) ⟨by dsimp only; omega, hjl, fun k x hk hx => zk7 zg9 hs hy hx (by dsimp only at hk; omega) hcm, hhi⟩ (by dsimp only; omega) ⟨rfl, rfl, rfl, rfl, rfl, rfl, trivial⟩
  ·refine ZdW ?_;refine Zcw ?_;refine Zc9 ?_;refine Zp ?_;refine ZdQ ?_;refine z7 (za2 rfl rfl rfl zbm.1 zbm.2 (wrap_u64 (by omega) (by omega))) rfl ?_;refine Zd2 ?_;refine z7 (za2 rfl rfl rfl zbn.1 zbn.2 (zaa (by omega) (by omega))) rfl ?_;refine Zcf ?_;refine ZbZ ?_;refine ZaU ?_;refine ZfE ?_;refine Za ?_;refine z7 (zp L rfl rfl (zk rfl) rfl rfl rfl (fun u H hH _ _ => zg4 _ _ _ hH)) rfl ?_;refine Z7 ?_;refine Zdk ?_;refine ZC ?_;refine ZG ?_
   exact qy (x:=(i, j)) (i, h) ⟨by dsimp only; omega, by dsimp only; omega, hlo, fun k x hk hx hcx => hcm (zk7 zg9 hs hx hy hk hcx)⟩ (by dsimp only; omega) ⟨rfl, rfl, rfl, rfl, rfl, rfl, trivial⟩
 ·obtain rfl:i = j:=by omega
  rw [zt6 zg9 hs hlo hhi hjl]
  by_cases hin:i < l.length
  ·obtain ⟨y, hy⟩:=zaw hin
   have hc:=zzo (hat i y hy)
   have hm:=z2b zg9 hs hlo hy hhi
   by_cases hcm:cP y r = 0
   ·rw [decide_eq_true (hm.2 hcm)]
    refine ZdW ?_;refine Za8 ?_;refine Zbd ?_;refine ZA ?_;refine Zr ?_;refine Zac ?_;refine Zb ?_;refine ZbZ ?_;refine ZaU ?_;refine ZfE ?_;refine Za ?_;refine z7 (zp L rfl rfl (zk rfl) rfl rfl rfl (fun u H hH _ _ => zg4 _ _ _ hH)) rfl ?_;refine Z9 ?_;refine Zg ?_;refine Zy ?_
    refine qq L (rs:=[.tmp 6, .tmp 7]) rfl (fun _ _ h => h) Since.refl fun u H hH hle => ?_
    rfl
   ·rw [decide_eq_false fun h => hcm (hm.1 h)]
    refine ZdW ?_;refine Za8 ?_;refine Zbd ?_;refine ZA ?_;refine Zr ?_;refine Zac ?_;refine Zb ?_;refine ZbZ ?_;refine ZaU ?_;refine ZfE ?_;refine Za ?_;refine z7 (zp L rfl rfl (zk rfl) rfl rfl rfl (fun u H hH _ _ => zg4 _ _ _ hH)) rfl ?_;refine ZL ?_;refine Zg ?_;refine Zy ?_
    refine qq L (rs:=[.tmp 6, .tmp 7]) rfl (fun _ _ h => h) Since.refl fun u H hH hle => ?_
    rfl
  ·obtain rfl:i = l.length:=by omega
   rw [decide_eq_false (zpv zg9 hlo)]
   refine ZdW ?_;refine Za8 ?_;refine Zbd ?_;refine ZA ?_;refine Zr ?_;refine Z7 ?_;refine Zdp ?_;refine Zcd ?_;refine Zg ?_;refine Zy ?_
   refine qq L (rs:=[.tmp 6, .tmp 7]) rfl (fun _ _ h => h) Since.refl fun u H hH hle => ?_
   rfl
abbrev pnv (s:Value) (t:Nat):Value:=.agg #[s, .int .i64 t]
set_option maxHeartbeats 1000000 in
theorem zq7 {L0:List Int} {r:Int} {t:Nat} (hz:L0.length ≤ 100000) {s:Value} {w:World} {B:Heap} (hB:B.Le (hp w)) (hv:PsV (zc9 L0) s B) :
  Ret Tryz.prog 143 [pnv s t, .int .u64 r] w B (fun v _ => v = .tuple #[.int .i64 (zyr cP r (zfc L0):Nat), .bool (decide (r ∈ zfc L0))]):=by
 have hz2:(zc9 L0).length ≤ 100000:=by rw [zgu]; exact Nat.le_trans (zok _) hz
 obtain ⟨p, c, rfl⟩:=zcj hv
 refine qt Tryz.func143 rfl Tryz.ntmps143 (Nat.le_of_ble_eq_true rfl) hB ?_
 refine Za3 ?_;refine Zau ?_;refine Zb4 ?_;refine Zaq ?_;refine Za ?_;refine z7 (zp L rfl rfl (zk rfl) rfl rfl rfl (fun u H hH hle _ => z0r hz2 hH (hv.le hle))) rfl ?_;refine ZdU ?_;refine Zy ?_
 refine qq L (rs:=[.tmp 4, .tmp 5]) rfl (fun _ _ h => h) Since.refl fun u H hH hle => ?_
 rfl
theorem zsn {L0:List Int} {r:Int} (h:r ∈ zfc L0):(zc9 L0)[zyr cP r (zfc L0)]? = some (r, (L0.count r:Int)):=znz (zt5 zg9 (zno L0) h)
set_option maxHeartbeats 1000000 in
theorem count_ret {L0:List Int} {r:Int} {t:Nat} (hz:L0.length ≤ 100000) {s:Value} {w:World} {B:Heap} (hB:B.Le (hp w)) (hv:PsV (zc9 L0) s B) :
  Ret Tryz.prog 88 [pnv s t, .int .u64 r] w B (fun v _ => v = .int .i64 (L0.count r:Nat)):=by
 obtain ⟨p, c, rfl⟩:=zcj hv
 refine qt Tryz.func88 rfl Tryz.ntmps88 (Nat.le_of_ble_eq_true rfl) hB ?_
 by_cases h:r ∈ zfc L0
 ·have hf:decide (r ∈ zfc L0) = true:=decide_eq_true h
  have hp:=zsn h
  have hlt:=get_lt hp
  have hc:=zzo hp
  refine Za3 ?_;refine Zf ?_;refine Zn ?_;refine Zc2 ?_;refine Za ?_;refine z7 (zp L rfl rfl (zk rfl) rfl rfl rfl (fun u H hH hle _ => hf ▸ zq7 (t:=t) hz hH (hv.le hle))) rfl ?_;refine ZP ?_;refine Z2 ?_;refine Zv ?_;refine Zo ?_;refine ZaV ?_;refine z7 (StepOK.seeV (q9 L (qo rfl) rfl rfl rfl rfl) (by assumption)) rfl ?_;refine Za ?_;refine ZaU ?_;refine Zfs ?_;refine ZeM ?_;refine Zc ?_
  refine qq L (rs:=[.tmp 4]) rfl (fun _ _ h => h) Since.refl fun u H hH hle => ?_
  rfl
 ·have hf:decide (r ∈ zfc L0) = false:=decide_eq_false h
  have hc0:L0.count r = 0:=List.count_eq_zero.2 fun hm => h (zuz.2 hm)
  rw [hc0]
  refine Za3 ?_;refine Zf ?_;refine Zn ?_;refine Zc2 ?_;refine Za ?_;refine z7 (zp L rfl rfl (zk rfl) rfl rfl rfl (fun u H hH hle _ => hf ▸ zq7 (t:=t) hz hH (hv.le hle))) rfl ?_;refine ZP ?_;refine Z2 ?_;refine Zt ?_;refine Zp ?_;refine Zc ?_
  refine qq L (rs:=[.tmp 4]) rfl (fun _ _ h => h) Since.refl fun u H hH hle => ?_
  rfl
end Go.V.L10
set_option maxRecDepth 20000
namespace Go.V.L10
open Go.Proofs Go.RowKit Go.V
attribute [local irreducible] V N X VO Par StepOK Has Ret RetL RetO zbd RetX Src
end Go.V.L10
set_option maxRecDepth 20000
namespace Go.V.L10
open Go.Proofs Go.RowKit Go.V
section
variable {A Bq R X Z:List Value} {a b:Nat}
end
attribute [local irreducible] V N X VO Par StepOK Has Ret RetL RetO RetT zbd RetX Src
end Go.V.L10
set_option maxRecDepth 20000
namespace Go.V.L10
open Go.Proofs Go.RowKit Go.V
attribute [local irreducible] V N X VO Par StepOK Has Ret RetL RetO RetT zbd RetX Src
end Go.V.L10
set_option maxRecDepth 20000
namespace Go.V.L10
open Go.Proofs Go.RowKit Go.V Go.V.L2 Go.V.L8 Go.V.L6
theorem _root_.Go.V.Zbb {A B:Prop} (h:B) (t:Wr B → A:=by intro h; refine z7 (zy L (vs:=[_, _, _, _]) (qk rfl) rfl rfl rfl rfl ⟨_, rfl⟩) rfl ?_;exact h.h):A:=t ⟨h⟩
theorem _root_.Go.V.Zfd {A B:Prop} (h:B) (t:Wr B → A:=by intro h; refine zcu 900 901 rfl rfl (zas _) ?_;exact h.h):A:=t ⟨h⟩
abbrev tyS:TypeId:=205
abbrev Ent:=List (Int × (List U × Value))
abbrev vcE (p:List U × Value):Value:=p.2
abbrev stc (n m:Nat) (s:Value) (t:Nat):List Value:=[.int .u64 n, .map (some m), s, .int .i64 t]
abbrev StO (b n m:Nat) (s:Value) (t:Nat) (es:Ent):GR:=zfv (zab b (stc n m s t) tyS) (z35 m .u64 vcE es)
theorem zpb (b n m:Nat) (s:Value) (t:Nat) (es:Ent):(StO b n m s t es).res = zhf (zaj b (stc n m s t) tyS) (zo1 m .u64 vcE es):=rfl
def EsV (es:Ent) (H:Heap):Prop:=∀ e ∈ es, SetV e.2.1 e.2.2 H
theorem EsV.le {es:Ent} {H H':Heap} (h:EsV es H) (hle:H.Le H'):EsV es H':=fun e he => (h e he).le hle
theorem zlj {b:Nat} {cs:List Value} {ty:TypeId}:∀ v H u C, (zaj b cs ty).P v H u C → joinH H u C b = some (.cells cs.toArray ty):=fun _ _ _ _ ⟨hb, hC⟩ => (zix ((hC b).2 rfl)).trans hb
theorem z1a {P:Program} (L:Tabs P) {e:TypeId} {z:Value} (hz:L.zr e = some z) (w:World):(zeroValue e).run P w = .ok z w:=by
 have h:=Tabs.zr_spec hz
 unfold zrI at h
 split at h
 ·rename_i it hit; simp [zeroValue, typeInfo, hit, h]
 ·cases h
abbrev z4o:TypeId:=203
abbrev tySt:TypeId:=91
theorem mpS:Tryz.prog.underlying z4o = some (.map z06 tySt):=by kernel_rfl
theorem kyS:Tryz.prog.underlying z06 = some (.int .u64):=by kernel_rfl
theorem zrS (w:World):(zeroValue tySt).run Tryz.prog w = .ok nilSet w:=z1a L rfl w
attribute [local irreducible] V N X VO Par StepOK Has Ret RetL RetO RetT zbd RetX RetY Src
theorem none_ret {b n:Nat} {rest:List Value} (hn:n ≠ 0) {w:World} {B:Heap} (hb:B b = some (.cells (Value.int .u64 n :: rest).toArray tyS)) (hB:B.Le (hp w)) :
  Ret Tryz.prog 111 [.pointer (some ⟨b, 0, none⟩)] w B (fun v _ => v = .bool false):=by
 refine qt Tryz.func111 rfl Tryz.ntmps111 (Nat.le_of_ble_eq_true rfl) hB ?_
 refine Zbp ?_;refine z7 (zck rfl rfl rfl rfl z39 rfl) rfl ?_;refine Zb ?_;refine ZbU ?_;refine ZL ?_;refine Zg ?_;refine Zc ?_
 refine qq L (rs:=[.tmp 2]) rfl (fun _ _ h => h) Since.refl fun u H hH hle => ?_
 rfl
theorem pins_ret {b n m t:Nat} {s:Value} (hs:∃ p k c, s = .slice p k c) (hn:n ≠ 0) {w:World} {B:Heap} (hb:B b = some (.cells (stc n m s t).toArray tyS)) (hB:B.Le (hp w)) :
  Ret Tryz.prog 43 [.pointer (some ⟨b, 0, none⟩)] w B (fun v _ => v = pnv s t):=by
 obtain ⟨p, k, c, rfl⟩:=hs
 refine qt Tryz.func43 rfl Tryz.ntmps43 (Nat.le_of_ble_eq_true rfl) hB ?_
 refine ZaK ?_;refine Zaw ?_;refine Z4 ?_;refine z7 (zp L rfl rfl (zk rfl) rfl rfl rfl (fun u H hH hle _ => none_ret hn (hle _ _ hb) hH)) rfl ?_;refine Zt ?_;refine Zk ?_;refine Zar ?_;refine z7 (zy L (vs:=[_, _]) (qm rfl (by assumption)) rfl rfl rfl rfl ⟨_, rfl⟩) rfl ?_;refine ZaY ?_
 refine qq L (rs:=[.cell 2 112]) rfl (fun _ _ h => h) Since.refl fun u H hH hle => ?_
 exact ⟨_, qk rfl, rfl, rfl⟩
set_option maxHeartbeats 1000000 in
theorem ztp {S:Sto} {b m t:Nat} {s:Value} {es:Ent} {r:Int} (hm:MapOK es S.R) (hn:S.R.length ≠ 0) {w:World} {B:Heap} {C:Nat → Prop} (hes:EsV es B) (hB:B.Le (hp w)) (hr:(StO b S.R.length m s t es).P B w C) (hC:∀ k, C k → k < w.heap.size ∧ B k = none) :
  RetY Tryz.prog 87 [.pointer (some ⟨b, 0, none⟩), .int .u64 r] w B C (StO b S.R.length m s t es) (WithP (atS S r).1 (atS S r).2):=by
 unfold RetY
 refine zah 900 (StO b S.R.length m s t es) Tryz.func87 rfl Tryz.ntmps87 (Nat.le_of_ble_eq_true rfl) hB hr hC ?_
 rw [zpb]
 refine zdi 900 901 rfl (zas _) ?_
 obtain ⟨k, hk⟩:∃ k, k = if r = 0 then (S.R.length:Int) else r:=⟨_, rfl⟩
 have hat:atS S r = match kpt S.R k with | some t => (t, 0) | none => ([], 14):=by rw [hk]; rfl
 have hg:=hm.get k
 by_cases hr0:r = 0
 ·rw [if_pos hr0] at hk
  subst hr0
  subst hk
  cases hgk:zhg (S.R.length:Int) es with
  | none =>
   rw [hgk] at hg
   rw [hat, ← hg]
   have q1:(zhg (S.R.length:Int) es).elim nilSet vcE = nilSet:=by rw [hgk]; rfl
   have q2:(zhg (S.R.length:Int) es).isSome = false:=by rw [hgk]; rfl
   refine ZcI ?_;refine qw (zb8 L 900 (Φ:=fun H => H b = some (.cells (stc S.R.length m s t).toArray tyS)) (c:=.bool false) rfl rfl (zk rfl) rfl rfl rfl rfl rfl zlj (fun u H hH hle hb => none_ret hn hb hH)) ?_;refine ZB ?_;refine Zk ?_;refine Z9 ?_;refine Zz ?_;refine Zi ?_;refine Z0 ?_;refine Zcf ?_;refine Z0 ?_;refine Za ?_;refine qw (zfx (q:=901) (vc:=vcE) (S.R.length:Int) mpS kyS zrS rfl rfl rfl rfl rfl q1 q2) ?_;refine ZaG ?_;refine ZJ ?_;refine Zu ?_;refine Zv ?_;refine ZH ?_;refine Zcs ?_;refine ZaL ?_
   refine Zfd ?_
   exact zlu L 900 (r:=StO b S.R.length m s t es) (rs:=[.cell 4 91, .tmp 5]) rfl (fun _ _ h => h) Since.refl rfl rfl (fun H hle => ⟨_, qk rfl, rfl, _, rfl, SetV.nil⟩)
  | some x =>
   obtain ⟨l, sv⟩:=x
   rw [hgk] at hg
   rw [hat, ← hg]
   have hx:SetV l sv B:=hes _ (zmo hgk)
   obtain ⟨f1, p1, f2, p2, rfl, hpl⟩:=hx.shape
   have q1:(zhg (S.R.length:Int) es).elim nilSet vcE = .agg #[f1, .pointer p1, f2, .pointer p2]:=by rw [hgk]; rfl
   have q2:(zhg (S.R.length:Int) es).isSome = true:=by rw [hgk]; rfl
   refine ZcI ?_;refine qw (zb8 L 900 (Φ:=fun H => H b = some (.cells (stc S.R.length m s t).toArray tyS)) (c:=.bool false) rfl rfl (zk rfl) rfl rfl rfl rfl rfl zlj (fun u H hH hle hb => none_ret hn hb hH)) ?_;refine ZB ?_;refine Zk ?_;refine Z9 ?_;refine Zz ?_;refine Zi ?_;refine Z0 ?_;refine Zcf ?_;refine Z0 ?_;refine Za ?_;refine qw (zfx (q:=901) (vc:=vcE) (S.R.length:Int) mpS kyS zrS rfl rfl rfl rfl rfl q1 q2) ?_;refine Zci ?_;refine Z6 ?_;refine ZbY ?_;refine ZcB ?_;refine Zu ?_;refine Zt ?_;refine ZA ?_;refine Zbb ?_;refine ZbY ?_;refine Zc ?_
   refine Zfd ?_
   exact zlu L 900 (r:=StO b S.R.length m s t es) (rs:=[.cell 4 91, .tmp 5]) rfl (fun _ _ h => h) Since.refl rfl rfl (fun H hle => ⟨_, qk rfl, rfl, _, rfl, hx.le hle⟩)
 ·rw [if_neg hr0] at hk
  subst hk
  cases hgk:zhg k es with
  | none =>
   rw [hgk] at hg
   rw [hat, ← hg]
   have q1:(zhg k es).elim nilSet vcE = nilSet:=by rw [hgk]; rfl
   have q2:(zhg k es).isSome = false:=by rw [hgk]; rfl
   refine ZcI ?_;refine qw (zb8 L 900 (Φ:=fun H => H b = some (.cells (stc S.R.length m s t).toArray tyS)) (c:=.bool false) rfl rfl (zk rfl) rfl rfl rfl rfl rfl zlj (fun u H hH hle hb => none_ret hn hb hH)) ?_;refine ZB ?_;refine Zk ?_;refine ZaN ?_;refine ZY ?_;refine Z0 ?_;refine Za ?_;refine qw (zfx (q:=901) (vc:=vcE) k mpS kyS zrS rfl rfl rfl rfl rfl q1 q2) ?_;refine ZaG ?_;refine ZJ ?_;refine Zu ?_;refine Zv ?_;refine ZH ?_;refine Zcs ?_;refine ZaL ?_
   refine Zfd ?_
   exact zlu L 900 (r:=StO b S.R.length m s t es) (rs:=[.cell 4 91, .tmp 5]) rfl (fun _ _ h => h) Since.refl rfl rfl (fun H hle => ⟨_, qk rfl, rfl, _, rfl, SetV.nil⟩)
  | some x =>
   obtain ⟨l, sv⟩:=x
   rw [hgk] at hg
   rw [hat, ← hg]
   have hx:SetV l sv B:=hes _ (zmo hgk)
   obtain ⟨f1, p1, f2, p2, rfl, hpl⟩:=hx.shape
   have q1:(zhg k es).elim nilSet vcE = .agg #[f1, .pointer p1, f2, .pointer p2]:=by rw [hgk]; rfl
   have q2:(zhg k es).isSome = true:=by rw [hgk]; rfl
   refine ZcI ?_;refine qw (zb8 L 900 (Φ:=fun H => H b = some (.cells (stc S.R.length m s t).toArray tyS)) (c:=.bool false) rfl rfl (zk rfl) rfl rfl rfl rfl rfl zlj (fun u H hH hle hb => none_ret hn hb hH)) ?_;refine ZB ?_;refine Zk ?_;refine ZaN ?_;refine ZY ?_;refine Z0 ?_;refine Za ?_;refine qw (zfx (q:=901) (vc:=vcE) k mpS kyS zrS rfl rfl rfl rfl rfl q1 q2) ?_;refine Zci ?_;refine Z6 ?_;refine ZbY ?_;refine ZcB ?_;refine Zu ?_;refine Zt ?_;refine ZA ?_;refine Zbb ?_;refine ZbY ?_;refine Zc ?_
   refine Zfd ?_
   exact zlu L 900 (r:=StO b S.R.length m s t es) (rs:=[.cell 4 91, .tmp 5]) rfl (fun _ _ h => h) Since.refl rfl rfl (fun H hle => ⟨_, qk rfl, rfl, _, rfl, hx.le hle⟩)
end Go.V.L10
set_option maxRecDepth 20000
namespace Go.V.L11
open Go.Proofs Go.RowKit Go.V Go.V.L4
theorem _root_.Go.V.ZeG {A B:Prop} (h:B) (t:Wr B → A:=by intro h; refine zd (q9 L (zji rfl (List.Mem.head _)) rfl rfl rfl rfl) rfl ?_;exact h.h):A:=t ⟨h⟩
attribute [local irreducible] V N X VO Par XP StepOK Has Ret RetL RetO RetT zbd RetX RetY Pan Src
theorem zsu {a e:Int} {w:World} {B:Heap} (hB:B.Le (hp w)):Ret Tryz.prog 71 [wrV a e] w B (fun v _ => v = .tuple #[.int .i64 a, .int .i64 e]):=by
 refine qt Tryz.func71 rfl Tryz.ntmps71 (Nat.le_of_ble_eq_true rfl) hB ?_
 refine Zbz ?_;refine Z4 ?_;refine z7 (zse rfl rfl rfl (by kernel_rfl)) rfl ?_;refine ZeX ?_;refine Zd ?_
 refine zfu 4 rfl fun b4 _ => ?_
 refine Z2 ?_;refine Zv ?_;refine Zet ?_;refine ZbM ?_;refine ZeG ?_;refine ZbM ?_;refine ZeG ?_;refine Za2 ?_;refine ZK ?_
 refine qq L (rs:=[.tmp 2, .tmp 3]) rfl (fun _ _ h => h) Since.refl fun u H hH hle => ?_
 rfl
end Go.V.L11
set_option maxRecDepth 20000
namespace Go.V.L11
open Go.Proofs Go.RowKit Go.V Go.V.L4
abbrev zv9:TypeId:=3
abbrev zo3:TypeId:=43
abbrev tyPS:TypeId:=71
abbrev G3 (ba be bs:Nat) (x y z:Value):GR:=zfv (zab ba [x] zv9) (zfv (zab be [y] zo3) (zab bs [z] tyPS))
attribute [local irreducible] V N X VO Par XP StepOK Has Ret RetL RetO RetT zbd RetX RetY Pan zs3 Src
theorem zu9 {ba be bs:Nat} {x y z v:Value} {a e:Int} {m m':FrameMode} (hm:RecM m m' v) (hcv:∀ (u:World) (H:Heap), H.Le (hp u) → Ret Tryz.prog 71 [v] u H (fun r _ => r = .tuple #[.int .i64 a, .int .i64 e])) {w:World} {B:Heap} {C:Nat → Prop} (hB:B.Le (hp w)) (hr:(G3 ba be bs x y z).P B w C) (hC:∀ k, C k → k < w.heap.size ∧ B k = none) :
  zs3 Tryz.prog 70 [za3 ba, za3 be, za3 bs] w B C m m' (G3 ba be bs (.int .i64 a) (.int .i64 e) (if e = 0 then z else .pointer none)):=by
 refine zya 900 (G3 ba be bs x y z) _ hm Tryz.func70 rfl Tryz.ntmps70 (Nat.le_of_ble_eq_true rfl) rfl rfl rfl rfl hB hr hC ?_
 refine ztc (r1:=zaj ba [x] zv9) (r2:=(zfv (zab be [y] zo3) (zab bs [z] tyPS)).res) 900 901 rfl (zas _) ?_
 refine ztc (r1:=zaj be [y] zo3) (r2:=zaj bs [z] tyPS) 901 902 rfl (zf1 _ _ _) ?_
 refine z7 (zp L rfl rfl (zk rfl) rfl rfl rfl (fun u H hH _ _ => hcv u H hH)) rfl ?_;refine Zci ?_;refine zam (qs L (q:=900) (cs':=[.int .i64 a]) rfl rfl rfl rfl rfl rfl rfl rfl rfl) ?_;refine zam (qs L (q:=901) (cs':=[.int .i64 e]) rfl rfl rfl rfl rfl rfl rfl rfl rfl) ?_
 refine zi ?_
 refine zj ?_
 by_cases he:e = 0
 ·rw [if_pos he]
  refine zh ?_;refine Zn ?_;refine Ze1 ?_;refine Zal ?_;refine ZX ?_
  refine zks 901 902 rfl rfl (zf1 _ _ _) ?_
  refine zks 900 901 rfl rfl (zas (zfv (zab be [.int .i64 e] zo3) (zab bs [z] tyPS))) ?_
  exact zv7 L 900 (r:=G3 ba be bs (.int .i64 a) (.int .i64 e) z) rfl rfl rfl Since.refl
 ·rw [if_neg he]
  refine zh ?_;refine Zn ?_;refine Ze1 ?_;refine Zam ?_;refine Zz ?_;refine Z5 ?_;refine zam (qs L (q:=902) (cs':=[.pointer none]) rfl rfl rfl rfl rfl rfl rfl rfl rfl) ?_;refine zi ?_
  refine zks 901 902 rfl rfl (zf1 _ _ _) ?_
  refine zks 900 901 rfl rfl (zas (zfv (zab be [.int .i64 e] zo3) (zab bs [.pointer none] tyPS))) ?_
  exact zv7 L 900 (r:=G3 ba be bs (.int .i64 a) (.int .i64 e) (.pointer none)) rfl rfl rfl Since.refl
end Go.V.L11
set_option maxRecDepth 20000
namespace Go.V.L11
open Go.Proofs Go.RowKit Go.V Go.V.L4
theorem zlw {F:Fr} {B:Heap} {n:Nat} {O:Boxes} {κ:Kap} {pv:Value} {Q:Exit → Act → World → Prop} (l:List (Nat × Kn)) (hl:LiveOK l κ) (h:XP F B n O (ofL l) pv Q):XP F B n O κ pv Q:=fun a u hh => h a u (hh.live hl)
attribute [local irreducible] V N X VO Par XP LV StepOK Has Ret RetL RetO RetT zbd RetX RetY Pan zs3 Src
abbrev FLd (w:World) (ba be bs:Nat):Fr:=⟨w, none, [.u (dfd 70 [za3 ba, za3 be, za3 bs])], noL⟩
abbrev KLd (ba be bs:Nat) (x y z:Value):List (Nat × Kn):=[(2, .is (za3 bs)), (3, .is (za3 ba)), (4, .is (za3 be)), (910, .own (zaj bs [z] tyPS)), (911, .own (zaj ba [x] zv9)), (912, .own (zaj be [y] zo3))]
theorem ziu {w:World} {B0 B:Heap} {n:Nat} {O:Boxes} {ba be bs:Nat} {x y z:Value} {a e:Int} (he:e ≠ 0) (hs:Since (FLd w ba be bs) B0 B) :
  XP (FLd w ba be bs) B n O (ofL (KLd ba be bs x y z)) (wrV a e) (bodyPostM Fence.wide 0 Tryz.prog Tryz.f26 (ze7 w B0 noL fun v _ _ => v = .tuple #[.pointer none, .int .i64 a, .int .i64 e])):=by
 refine zqc 912 910 rfl rfl (zf1 _ _ _) ?_
 refine zqc 911 912 rfl rfl (zas (zfv (zab be [y] zo3) (zab bs [z] tyPS))) ?_
 refine zy7 L 911 (r:=G3 ba be bs x y z) (r':=G3 ba be bs (.int .i64 a) (.int .i64 e) (if e = 0 then z else .pointer none)) rfl rfl rfl (fun u H C hH _ hr hC => zu9 (RecM.caught _) (fun u H hH => zsu hH) hH hr hC) ?_ (fun _ _ h => h)
 rw [if_neg he]
 refine zu4 (r1:=zaj ba [.int .i64 a] zv9) (r2:=(zfv (zab be [.int .i64 e] zo3) (zab bs [.pointer none] tyPS)).res) 911 912 rfl (zas _) ?_
 refine zu4 (r1:=zaj be [.int .i64 e] zo3) (r2:=zaj bs [.pointer none] tyPS) 912 910 rfl (zf1 _ _ _) ?_
 refine zhu 3 911 rfl rfl ?_
 refine zhu 4 912 rfl rfl ?_
 refine zhu 2 910 rfl rfl ?_
 exact z2c L (rs:=[.cell 2 tyPS, .cell 3 zv9, .cell 4 zo3]) rfl hs (fun u H _ _ => zbc (qk rfl) rfl (zbc (qk rfl) rfl (zbc (qk rfl) rfl rfl)))
end Go.V.L11
set_option maxRecDepth 20000
namespace Go.V
open Go.RowKit
def zy8 (ops:Array Oper) (K:Nat):Bool :=
 let b:=Region.before ops
 (List.range ops.size).all fun i => Nat.ble i K || (b.getD i 0).testBit K
section sound
variable {P:Program} {St:Kap → Act → World → Prop} {ops:Array Oper} {ex:Exs}
def zrp (P:Program) (St:Kap → Act → World → Prop) (ops:Array Oper) (ex:Exs) (r:Option Nat) (Q:Exit → Act → World → Prop) (K:Nat) (o:Oper) (κ:Kap):Prop :=
 ∀ κ' a u, (∀ t ∈ lks ops ex o, κ' t = κ t) → St κ' a u → ∀ Kk, wpOpIn (FW r) 0 P ops Q K Kk a u
theorem zk5 {r:Option Nat} {Q:Exit → Act → World → Prop} {K:Nat} {o:Oper}:∀ (l:List Nat) {κ:Kap}, (∀ j ∈ l, ∀ x, ops[j]? = some x → zn9 (tch ex x) (lks ops ex o) = true) →
  ParI P St ops ex (zrp P St ops ex r Q K o) l κ → zrp P St ops ex r Q K o κ
 | [], κ, _, h => h
 | j :: l, κ, hap, ⟨x, us, hx, hd, sx, rest⟩ => fun κ' a u hl hh => by
  have h2:=ze0 (hap j (List.mem_cons_self ..) x hx)
  exact zk5 l (fun m hm => hap m (List.mem_cons_of_mem _ hm)) rest κ' a u (fun t ht => (hl t ht).trans (zbv us κ t fun p hp e => h2 p.1 (hd p hp) (e ▸ ht)).symm) hh
theorem zs9 {r:Option Nat} {Q:Exit → Act → World → Prop} (hsep:zzh ops ex = true) {K:Nat} {o:Oper} (hw:zy8 ops K = true) (hoK:ops[K]? = some o) (hK:K < ops.size):∀ (fuel:Nat) (listed:Array Bool) (l:List Nat) (κ:Kap) (a:Act) (u:World),
  l.length < fuel → l.Pairwise (· < ·) → listed.size = ops.size → (∀ i, (i ∈ l ∨ (K ≤ i ∧ i < ops.size)) ↔ i < ops.size ∧ listed.getD i true = false) → zqb ops listed → (∀ i ∈ l, i < K) →
  ParI P St ops ex (zrp P St ops ex r Q K o) l κ → St κ a u → wpAnyIn (FW r) 0 P .any ops Q fuel listed a u:=by
 intro fuel
 induction fuel with
 | zero => intro listed l κ a u hlen; omega
 | succ fuel ih =>
  intro listed l κ a u hlen hsort hsz hmem hcl hlK hp hh
  have hsep':=hsep
  simp only [zzh, List.all_eq_true, Bool.and_eq_true] at hsep'
  have hedge:∀ i (hi:i < ops.size), ∀ e ∈ (ops[i]'hi).after, Region.binds .any e = true → e.on < i:=fun i hi e he hb => by
   have h1:=(hsep' i (by simpa using hi)).1
   rw [Array.getD_eq_getD_getElem?, Array.getElem?_eq_getElem hi, Option.getD_some, Array.all_eq_true'] at h1
   have:=h1 e he
   simp [hb] at this
   exact this
  have hlow:∀ j, j < ops.size → listed.getD j true = false → (∀ i ∈ l, j ≤ i) → j ≤ K → j ∈ Region.ready .any ops listed:=fun j hj hjl hmin hjK => by
   refine mem_ready.2 ⟨hjl, ops[j], by simp [hj], fun e he hb => ?_⟩
   have hlt:=hedge j hj e he hb
   cases hle:listed.getD e.on true
   ·rcases (hmem e.on).2 ⟨by omega, hle⟩ with h | h
    ·have:=hmin _ h; omega
    ·omega
   ·rw [Array.getD_eq_getD_getElem?, Array.getElem?_eq_getElem (by omega)] at hle ⊢
    simpa using hle
  have hKl:=((hmem K).1 (.inr ⟨Nat.le_refl _, hK⟩)).2
  constructor
  ·intro hr
   exfalso
   have:∃ j, j ∈ Region.ready .any ops listed:=by
    cases l with
    | nil => exact ⟨K, hlow K hK hKl (fun i hi => by cases hi) (Nat.le_refl _)⟩
    | cons j0 l0 =>
     obtain ⟨h1, h2⟩:=(hmem j0).1 (.inl (List.mem_cons_self ..))
     refine ⟨j0, hlow j0 h1 h2 (fun i hi => ?_) (Nat.le_of_lt (hlK j0 (List.mem_cons_self ..)))⟩
     rcases List.mem_cons.1 hi with rfl | hi
     ·exact Nat.le_refl _
     ·exact Nat.le_of_lt (List.rel_of_pairwise_cons hsort hi)
   obtain ⟨j, hj⟩:=this
   rw [hr] at hj
   cases hj
  ·intro i hi
   obtain ⟨hli, oi, ho, hall⟩:=mem_ready.1 hi
   have hisz:i < ops.size:=by
    rcases Nat.lt_or_ge i ops.size with h | h
    ·exact h
    ·rw [Array.getElem?_eq_none h] at ho; cases ho
   have hio:ops[i] = oi:=by rw [Array.getElem?_eq_getElem hisz] at ho; exact Option.some.inj ho
   have hwait:∀ j, j < ops.size → ((Region.before ops).getD i 0).testBit j = true → listed.getD j true = false → False:=fun j hjs h2 hjl => by
    have:=zg8 hsz hcl i hisz (fun e he hb => by rw [hio] at he; exact hall e he hb) j h2
    rw [Array.getD_eq_getD_getElem?, Array.getElem?_eq_getElem (by omega)] at this hjl
    simp at this hjl
    rw [this] at hjl; cases hjl
   have hapart:∀ j ∈ l, j < i → ∀ x y, ops[j]? = some x → ops[i]? = some y → zic ops ex x y = true:=fun j hj hji x y hx hy => by
    obtain ⟨hjs, hjl⟩:=(hmem j).1 (.inl hj)
    have h2:=(hsep' i (by simpa using hisz)).2 j (by simpa using hji)
    rw [Bool.or_eq_true] at h2
    rcases h2 with h2 | h2
    ·exact (hwait j hjs h2 hjl).elim
    ·rw [Array.getD_eq_getD_getElem?, Array.getD_eq_getD_getElem?, hx, hy] at h2
     exact h2
   rcases (hmem i).2 ⟨hisz, hli⟩ with hil | ⟨hKi, _⟩
   ·obtain ⟨l1, l3, rfl⟩:=List.append_of_mem hil
    have hap:∀ j ∈ l1, ∀ x y, ops[j]? = some x → ops[i]? = some y → zic ops ex x y = true:=fun j hj =>
     hapart j (List.mem_append_left _ hj) ((List.pairwise_append.1 hsort).2.2 j hj i (List.mem_cons_self ..))
    obtain ⟨o', us, ho', hd, sx, rest⟩:=ParI.front l1 hap hp
    obtain rfl:oi = o':=by rw [ho] at ho'; exact Option.some.inj ho'
    have hst:=sx κ a u (fun _ _ => rfl) hh
    refine After.wpOpIn ho ?_
    refine After.mono (fun a' u' hh' => ?_) hst
    have hli':i < listed.size:=by omega
    have hiK:=hlK i hil
    refine ih (listed.setIfInBounds i true) (l1 ++ l3) _ a' u' (by simp at hlen ⊢; omega) ?_ (by simpa using hsz) ?_ ?_ (fun j hj => hlK j (by rcases List.mem_append.1 hj with h | h; exact List.mem_append_left _ h; exact List.mem_append_right _ (List.mem_cons_of_mem _ h))) rest hh'
    ·rw [List.pairwise_append] at hsort ⊢
     exact ⟨hsort.1, (List.pairwise_cons.1 hsort.2.1).2, fun x hx y hy => hsort.2.2 x hx y (List.mem_cons_of_mem _ hy)⟩
    ·intro j
     rw [ziz true hli']
     have hnd:i ∉ l1 ++ l3:=by
      rw [List.pairwise_append] at hsort
      intro hm
      rcases List.mem_append.1 hm with hm | hm
      ·have:=hsort.2.2 i hm i (List.mem_cons_self ..); omega
      ·have:=(List.pairwise_cons.1 hsort.2.1).1 i hm; omega
     by_cases hij:i = j
     ·subst hij; simp [hnd]; omega
     ·rw [if_neg hij, ← hmem j]
      simp only [List.mem_append, List.mem_cons]
      constructor
      ·rintro ((h | h) | h); exact .inl (.inl h); exact .inl (.inr (.inr h)); exact .inr h
      ·rintro ((h | h | h) | h); exact .inl (.inl h); exact absurd h.symm hij; exact .inl (.inr h); exact .inr h
    ·intro k hk hkl e he hb
     rw [ziz _ hli'] at hkl ⊢
     by_cases hie:i = e.on
     ·rw [if_pos hie]
     ·rw [if_neg hie]
      by_cases hik:i = k
      ·subst hik; rw [hio] at he; exact hall e he hb
      ·rw [if_neg hik] at hkl; exact hcl k hk hkl e he hb
   ·by_cases hKe:i = K
    ·subst hKe
     obtain rfl:oi = o:=by rw [ho] at hoK; exact Option.some.inj hoK
     refine zk5 l (fun j hj x hx => ?_) hp κ a u (fun _ _ => rfl) hh _
     have:=hapart j hj (hlK j hj) x oi hx ho
     simp only [zic, Bool.and_eq_true] at this
     exact this.1
    ·exfalso
     simp only [zy8, List.all_eq_true, Bool.or_eq_true] at hw
     rcases hw i (by simpa using hisz) with h | h
     ·have:=Nat.le_of_ble_eq_true h; omega
     ·exact hwait K hK h hKl
end sound
section code
variable {P:Program} {F:Fr} {B:Heap} {n:Nat} {O:Boxes} {κ:Kap} {Q:Exit → Act → World → Prop} {ops:Array Oper} {ex:Exs} {os:List Oper}
def z3c (P:Program) (F:Fr) (B:Heap) (n:Nat) (O:Boxes) (ops:Array Oper) (ex:Exs) (K:Nat) (o:Oper) (κ:Kap) (os:List Oper) (Q:Exit → Act → World → Prop):Prop :=
 z09 P (Has F B O n) ops ex (zrp P (Has F B O n) ops ex F.r Q K o) os κ
theorem zsy {id:Nat} {l:List Oper} {o:Oper} (K:Nat) (ex:Exs) (hm:P.follows .mixedOrders = true) (ho:l[K]? = some o) (hs:(zzh l.toArray ex && zy8 l.toArray K) = true)
  (h:z3c P F B n O l.toArray ex K o κ (l.take K) Q):V P F B n O κ (.region id l.toArray true) Q:=fun a u hh => by
 rw [Bool.and_eq_true] at hs
 have hK:K < l.length:=by
  rcases Nat.lt_or_ge K l.length with h | h
  ·exact h
  ·rw [List.getElem?_eq_none h] at ho; cases ho
 refine wpIn_region_any hm (zs9 (St:=Has F B O n) (ex:=ex) (o:=o) hs.1 hs.2 (by simpa using ho) (by simpa using hK) l.toArray.size _ (List.range' 0 K) κ a _ (by simpa using hK) List.pairwise_lt_range' (by simp) ?_ ?_ (fun i hi => by have:=List.mem_range'_1.1 hi; omega) ?_ hh.drew)
 ·intro i
  constructor
  ·rintro (h | h)
   ·have:=List.mem_range'_1.1 h
    refine ⟨by simp; omega, ?_⟩
    have:i < l.length:=by omega
    simp [this]
   ·have:i < l.length:=by simpa using h.2
    refine ⟨h.2, ?_⟩
    simp [this]
  ·rintro ⟨h, _⟩
   by_cases hi:i < K
   ·exact .inl (List.mem_range'_1.2 ⟨Nat.zero_le _, by omega⟩)
   ·exact .inr ⟨by omega, h⟩
 ·intro k hk hkl; simp at hk; simp [hk] at hkl
 ·refine zlb K 0 (by simp; omega) ?_
  rw [List.drop_zero]
  exact h
theorem zjt {K:Nat} {ok o:Oper} {d:Nat} {k:Kn} (hs:StepOK P F B n ops O κ o d k) (hd:vd o = some d) (h:z3c P F B n O ops ex K ok (upd κ d k) os Q):z3c P F B n O ops ex K ok κ (o :: os) Q :=
 ⟨[(d, k)], fun p hp => by simp at hp; subst hp; simp [tch, hd], hs.stepG, h⟩
theorem zw5 {K:Nat} {o:Oper} (ll:List (Nat × Kn)) (hin:(ll.all fun p => (lks ops ex o).contains p.1) = true) (hl:LiveOK ll κ) (h:N F B n O (ofL ll) (QX P F ops K Q)):z3c P F B n O ops ex K o κ [] Q:=fun κ' a u hag hh Kk => by
 have key:∀ l:List (Nat × Kn), (l.all fun p => (lks ops ex o).contains p.1) = true → LiveOK l κ → LiveOK l κ':=by
  intro l
  induction l with
  | nil => intro _ _; trivial
  | cons p l ih =>
   intro h1 h2
   rw [List.all_cons, Bool.and_eq_true] at h1
   exact ⟨(hag p.1 (by simpa using h1.1)).trans h2.1, ih h1.2 h2.2⟩
 exact h a u (hh.live (key ll hin hl)) Kk
end code
end Go.V
set_option maxRecDepth 20000
namespace Go.V.L11
open Go.Proofs Go.RowKit Go.V Go.V.L4
theorem _root_.Go.V.ZfF {A B:Prop} (h:B) (t:Wr B → A:=by intro h; refine z7 (y6 (cs:=[_, _]) rfl rfl z3o rfl rfl) rfl ?_;exact h.h):A:=t ⟨h⟩
theorem zts {sb rb:Nat} {bs:List Nat} {fu:Bool} {sv:Value} {fr:Int} {R:Rd} (hb:∀ b ∈ bs, b ≤ 255) (hl:bs.length ≤ 1099511627776) (hat:R.at_ ≤ bs.length) {w:World} {B:Heap} {C:Nat → Prop} (hB:B.Le (hp w)) (hs:BsV bs fu sv B) (hr:(zbh sb rb sv fr R).P B w C) (hC:∀ k, C k → k < w.heap.size ∧ B k = none) :
  RetX Tryz.prog 76 [za3 rb] w B C (zbh sb rb sv fr (zut bs R).2) (.int .u64 ((zut bs R).1:Nat)) :=
 RetL.mono (RetY.conv (RetY.frame (zvk hr) hC fun C1 h1 hC1 => (zpg hb hl hat hB hs h1 hC1).toY) fun _ _ _ h => zvk h:RetY _ _ _ _ _ _ (zbh sb rb sv fr (zut bs R).2) fun x _ => x = .int .u64 ((zut bs R).1:Nat)) fun _ _ _ _ h => h
attribute [local irreducible] V N X VO Par XP LV StepOK Has Ret RetL RetO RetT zbd RetX RetY Pan zs3 Src
theorem zu7 {bs:List Nat} {R1:Rd} {fu:Bool} (hb:∀ b ∈ bs, b ≤ 255) (hz:bs.length ≤ 1099511627776) (hz1:zgk bs 1024 ⟨0, 0, 0⟩ = (0, R1)) (h1:R1.err = 0) {v:Value} {w:World} {B:Heap} (hB:B.Le (hp w)) (hv:BsV bs fu v B) :
  Ret Tryz.prog 26 [v] w B (fun r _ => r = .tuple #[.pointer none, .int .i64 0, .int .i64 5]):=by
 obtain ⟨p0, c0, rfl⟩:=zcj hv
 refine qt Tryz.func26 rfl Tryz.ntmps26 (Nat.le_of_ble_eq_true rfl) hB ?_
 refine ZaK ?_;refine Z6 ?_;refine Zb0 ?_
 refine za5 2 910 rfl fun bs0 => ?_
 refine za5 3 911 rfl fun ba => ?_
 refine za5 4 912 rfl fun be => ?_
 refine zhb (id:=1) 1 rfl ?_;refine Zby ?_;refine zi ?_;(refine zmm (K:=1) rfl rfl rfl rfl ?_;refine zi ?_); refine ZbH ?_
 refine Z2 ?_;refine z7 (zc5 L rfl rfl (zk rfl) rfl rfl rfl (fun u H hH hle _ => zqt hz hH (hv.le hle))) rfl ?_;refine zfe 15 922 rfl fun rb => ?_;refine zl1 (X:=Value) 922 (r:=fun sv => (GRd rb sv ⟨0, 0, 0⟩).res) (φ:=fun sv H => BsV bs false sv H) (hφ:=fun _ _ _ h hle => h.le hle) rfl fun sv H1 hs1 hsv => ?_;refine ZfF ?_;refine Zd0 ?_;refine q8 (zal (.inr rfl) rfl rfl rfl rfl) ?_;refine Zj ?_
 refine za5 5 921 rfl fun sb => ?_
 refine zcu 921 922 rfl rfl (zas (GRd rb sv ⟨0, 0, 0⟩)) ?_
 refine Zk ?_;refine q8 (y3 L 921 (zbh sb rb sv 0 R1) (.int .i64 0) (r:=zbh sb rb sv 0 ⟨0, 0, 0⟩) rfl rfl rfl rfl rfl (fun u H C hH hle hr hC => by have h:=size_ret (lim:=1024) hb hz (Nat.zero_le _) (by omega) (by rw [hz1]; exact h1) hH (hsv.le hle) hr hC; rw [hz1] at h; exact h)) ?_;refine Zd ?_
 refine zd4 (id:=4) 3 rfl ?_;refine Zb ?_;refine Z3 ?_;refine zi ?_;refine zfl (r:=(zbh sb rb sv 0 R1).res) (K:=3) L 921 rfl rfl rfl rfl rfl (fun u H C hH hle hr hC => zqw hH hr hC) (fun _ _ _ _ h => h) ?_
 repeat (first | refine zfd ?_ | refine zd6 ?_)
 refine zlw (KLd ba be bs0 _ _ _) ⟨rfl, rfl, rfl, rfl, rfl, rfl, trivial⟩ ?_
 exact ziu (by decide) hs1
set_option maxRecDepth 20000 in
theorem zsi {bs:List Nat} {n1 x:Int} {st:Nat} {R1 R2 R3:Rd} {fu:Bool} (hb:∀ b ∈ bs, b ≤ 255) (hz:bs.length ≤ 1099511627776) (hz1:zgk bs 1024 ⟨0, 0, 0⟩ = (n1, R1)) (h1:R1.err = 0) (hn1:0 < n1) (ha1:R1.at_ ≤ bs.length)
  (hz2:zut bs R1 = (st, R2)) (h2:R2.err = 0) (hst:0 < st) (hst2:st < 18446744073709551616) (ha2:R2.at_ ≤ bs.length) (hz3:zgk bs 4096 R2 = (x, R3)) (h3:R3.err ≠ 0) {v:Value} {w:World} {B:Heap} (hB:B.Le (hp w)) (hv:BsV bs fu v B) :
  Ret Tryz.prog 26 [v] w B (fun r _ => r = .tuple #[.pointer none, .int .i64 R3.bad, .int .i64 R3.err]):=by
 obtain ⟨p0, c0, rfl⟩:=zcj hv
 refine qt Tryz.func26 rfl Tryz.ntmps26 (Nat.le_of_ble_eq_true rfl) hB ?_
 refine ZaK ?_;refine Z6 ?_;refine Zb0 ?_
 refine za5 2 910 rfl fun bs0 => ?_
 refine za5 3 911 rfl fun ba => ?_
 refine za5 4 912 rfl fun be => ?_
 refine zhb (id:=1) 1 rfl ?_;refine Zby ?_;refine zi ?_;(refine zmm (K:=1) rfl rfl rfl rfl ?_;refine zi ?_); refine ZbH ?_
 refine Z2 ?_;refine z7 (zc5 L rfl rfl (zk rfl) rfl rfl rfl (fun u H hH hle _ => zqt hz hH (hv.le hle))) rfl ?_;refine zfe 15 922 rfl fun rb => ?_;refine zl1 (X:=Value) 922 (r:=fun sv => (GRd rb sv ⟨0, 0, 0⟩).res) (φ:=fun sv H => BsV bs false sv H) (hφ:=fun _ _ _ h hle => h.le hle) rfl fun sv H1 hs1 hsv => ?_;refine ZfF ?_;refine Zd0 ?_;refine q8 (zal (.inr rfl) rfl rfl rfl rfl) ?_;refine Zj ?_
 refine za5 5 921 rfl fun sb => ?_
 refine zcu 921 922 rfl rfl (zas (GRd rb sv ⟨0, 0, 0⟩)) ?_
 refine Zk ?_;refine q8 (y3 L 921 (zbh sb rb sv 0 R1) (.int .i64 n1) (r:=zbh sb rb sv 0 ⟨0, 0, 0⟩) rfl rfl rfl rfl rfl (fun u H C hH hle hr hC => by have h:=size_ret (lim:=1024) hb hz (Nat.zero_le _) (by omega) (by rw [hz1]; exact h1) hH (hsv.le hle) hr hC; rw [hz1] at h; exact h)) ?_;refine Zd ?_;refine Zp ?_;refine Zbe ?_;refine q8 (zao L 921 (zbh sb rb sv 0 R1) (r:=zbh sb rb sv 0 R1) rfl rfl rfl rfl rfl (fun u H C hH _ hr hC => zfy hH hr hC)) ?_;refine Zj ?_;refine Zw ?_;refine Zdn ?_;refine Zd ?_;refine ZH ?_;refine Zb0 ?_;refine ZA ?_;refine Zcs ?_;refine Z6 ?_;refine ZaQ ?_;refine Zan ?_;refine Zaw ?_;refine ZcO ?_;refine ZbI ?_
 refine zan (fun i:Nat => [(2, .is (za3 bs0)), (3, .is (za3 ba)), (4, .is (za3 be)), (910, .own (zaj bs0 [.pointer none] tyPS)), (911, .own (zaj ba [.int .i64 0] zv9)), (912, .own (zaj be [.int .i64 0] zo3)), (5, .is (za3 sb)), (9, .own (zed [.slice none 0 0, .int .i64 0] 112)), (10, .is (.int .u64 0)), (25, .is (.int .i64 n1)), (26, .is (.int .i64 i)), (921, .own (zbh sb rb sv 0 R1).res)]) (fun i => i = 0) (fun i => 1 - i) 0 rfl ⟨rfl, rfl, rfl, rfl, rfl, rfl, rfl, rfl, rfl, rfl, rfl, rfl, trivial⟩ ?_
 rintro i rfl
 refine zdi (r1:=zaj sb [za3 rb, .int .i64 0] zwj) (r2:=(GRd rb sv R1).res) 921 922 rfl (zas _) ?_
 have hws:IntKind.u64.wrap (18446744073709551615 - 0) = 18446744073709551615:=by decide
 have hwa:IntKind.u64.wrap (0 + (st:Int)) = (st:Int):=(wrap_u64 (by omega) (by omega)).trans (by omega)
 refine zh ?_;refine Zap ?_;refine ZT ?_;refine ZE ?_;refine Zb ?_;refine Zar ?_;refine qw (zx L (q:=921) rfl rfl rfl rfl rfl rfl) ?_;refine zik 921 922 rfl rfl (zas (GRd rb sv R1)) ?_;refine Zby ?_;refine q8 (y3 L 921 (zbh sb rb sv R1.at_ R2) (.int .u64 st) (r:=zbh sb rb sv 0 R1) rfl rfl rfl rfl rfl (fun u H C hH hle hr hC => zgh (fst:=[za3 rb]) (cap:=[]) rfl h2 hH hr hC (fun u3 H3 C3 hH3 hle3 hr3 hC3 => by have h:=zts hb hz ha1 hH3 ((hsv.le hle).le hle3) hr3 hC3; rw [hz2] at h; exact h))) ?_;refine Zd ?_;refine ZN ?_;refine Zbe ?_;refine Zr ?_;refine ZQ ?_;refine Zbo ?_;refine Zg ?_;refine q8 (zao L 921 (zbh sb rb sv R1.at_ R2) (r:=zbh sb rb sv R1.at_ R2) rfl rfl rfl rfl rfl (fun u H C hH _ hr hC => zfy hH hr hC)) ?_;refine Zj ?_;refine ZbO ?_;refine ZbS ?_;refine Zd ?_
 refine zsy (id:=14) 3 [(52, [921]), (200052, [2, 3, 4, 910, 911, 912])] mixed rfl (by kernel_rfl) ?_
 refine zjt (zy L (vs:=[_, _]) (qk rfl) rfl rfl rfl rfl ⟨_, rfl⟩) rfl ?_
 refine zjt (z8 rfl rfl rfl) rfl ?_
 refine zjt (z8 rfl rfl rfl) rfl ?_
 refine zw5 [(2, .is (za3 bs0)), (3, .is (za3 ba)), (4, .is (za3 be)), (910, .own (zaj bs0 [.pointer none] tyPS)), (911, .own (zaj ba [.int .i64 0] zv9)), (912, .own (zaj be [.int .i64 0] zo3)), (51, .is (za3 sb)), (921, .own (zbh sb rb sv R1.at_ R2).res)] (by kernel_rfl) ⟨rfl, rfl, rfl, rfl, rfl, rfl, rfl, rfl, trivial⟩ ?_
 refine zfl (r:=(zbh sb rb sv R1.at_ R2).res) (K:=3) L 921 rfl rfl rfl rfl rfl (fun u H C hH hle hr hC => by have h:=zw1 (lim:=4096) hb hz ha2 (by omega) (by rw [hz3]; exact h3) hH (hsv.le hle) hr hC; rw [hz3] at h; exact h) (fun _ _ _ _ h => h) ?_
 repeat (first | refine zfd ?_ | refine zd6 ?_)
 refine zlw (KLd ba be bs0 _ _ _) ⟨rfl, rfl, rfl, rfl, rfl, rfl, trivial⟩ ?_
 exact ziu h3 hs1
set_option maxRecDepth 20000 in
theorem zu6 {bs:List Nat} {n1:Int} {R1 R2:Rd} {fu:Bool} (hb:∀ b ∈ bs, b ≤ 255) (hz:bs.length ≤ 1099511627776) (hz1:zgk bs 1024 ⟨0, 0, 0⟩ = (n1, R1)) (h1:R1.err = 0) (hn1:0 < n1) (ha1:R1.at_ ≤ bs.length)
  (hz2:zut bs R1 = (0, R2)) (h2:R2.err = 0) {v:Value} {w:World} {B:Heap} (hB:B.Le (hp w)) (hv:BsV bs fu v B) :
  Ret Tryz.prog 26 [v] w B (fun r _ => r = .tuple #[.pointer none, .int .i64 R1.at_, .int .i64 5]):=by
 obtain ⟨p0, c0, rfl⟩:=zcj hv
 refine qt Tryz.func26 rfl Tryz.ntmps26 (Nat.le_of_ble_eq_true rfl) hB ?_
 refine ZaK ?_;refine Z6 ?_;refine Zb0 ?_
 refine za5 2 910 rfl fun bs0 => ?_
 refine za5 3 911 rfl fun ba => ?_
 refine za5 4 912 rfl fun be => ?_
 refine zhb (id:=1) 1 rfl ?_;refine Zby ?_;refine zi ?_;(refine zmm (K:=1) rfl rfl rfl rfl ?_;refine zi ?_); refine ZbH ?_
 refine Z2 ?_;refine z7 (zc5 L rfl rfl (zk rfl) rfl rfl rfl (fun u H hH hle _ => zqt hz hH (hv.le hle))) rfl ?_;refine zfe 15 922 rfl fun rb => ?_;refine zl1 (X:=Value) 922 (r:=fun sv => (GRd rb sv ⟨0, 0, 0⟩).res) (φ:=fun sv H => BsV bs false sv H) (hφ:=fun _ _ _ h hle => h.le hle) rfl fun sv H1 hs1 hsv => ?_;refine ZfF ?_;refine Zd0 ?_;refine q8 (zal (.inr rfl) rfl rfl rfl rfl) ?_;refine Zj ?_
 refine za5 5 921 rfl fun sb => ?_
 refine zcu 921 922 rfl rfl (zas (GRd rb sv ⟨0, 0, 0⟩)) ?_
 refine Zk ?_;refine q8 (y3 L 921 (zbh sb rb sv 0 R1) (.int .i64 n1) (r:=zbh sb rb sv 0 ⟨0, 0, 0⟩) rfl rfl rfl rfl rfl (fun u H C hH hle hr hC => by have h:=size_ret (lim:=1024) hb hz (Nat.zero_le _) (by omega) (by rw [hz1]; exact h1) hH (hsv.le hle) hr hC; rw [hz1] at h; exact h)) ?_;refine Zd ?_;refine Zp ?_;refine Zbe ?_;refine q8 (zao L 921 (zbh sb rb sv 0 R1) (r:=zbh sb rb sv 0 R1) rfl rfl rfl rfl rfl (fun u H C hH _ hr hC => zfy hH hr hC)) ?_;refine Zj ?_;refine Zw ?_;refine Zdn ?_;refine Zd ?_;refine ZH ?_;refine Zb0 ?_;refine ZA ?_;refine Zcs ?_;refine Z6 ?_;refine ZaQ ?_;refine Zan ?_;refine Zaw ?_;refine ZcO ?_;refine ZbI ?_
 refine zan (fun i:Nat => [(2, .is (za3 bs0)), (3, .is (za3 ba)), (4, .is (za3 be)), (910, .own (zaj bs0 [.pointer none] tyPS)), (911, .own (zaj ba [.int .i64 0] zv9)), (912, .own (zaj be [.int .i64 0] zo3)), (5, .is (za3 sb)), (10, .is (.int .u64 0)), (25, .is (.int .i64 n1)), (26, .is (.int .i64 i)), (921, .own (zbh sb rb sv 0 R1).res)]) (fun i => i = 0) (fun i => 1 - i) 0 rfl ⟨rfl, rfl, rfl, rfl, rfl, rfl, rfl, rfl, rfl, rfl, rfl, trivial⟩ ?_
 rintro i rfl
 refine zdi (r1:=zaj sb [za3 rb, .int .i64 0] zwj) (r2:=(GRd rb sv R1).res) 921 922 rfl (zas _) ?_
 refine zh ?_;refine Zap ?_;refine ZT ?_;refine ZE ?_;refine Zb ?_;refine Zar ?_;refine qw (zx L (q:=921) rfl rfl rfl rfl rfl rfl) ?_;refine zik 921 922 rfl rfl (zas (GRd rb sv R1)) ?_;refine Zby ?_;refine q8 (y3 L 921 (zbh sb rb sv R1.at_ R2) (.int .u64 0) (r:=zbh sb rb sv 0 R1) rfl rfl rfl rfl rfl (fun u H C hH hle hr hC => zgh (fst:=[za3 rb]) (cap:=[]) rfl h2 hH hr hC (fun u3 H3 C3 hH3 hle3 hr3 hC3 => by have h:=zts hb hz ha1 hH3 ((hsv.le hle).le hle3) hr3 hC3; rw [hz2] at h; exact h))) ?_;refine Zd ?_;refine zd4 (id:=12) 9 rfl ?_;refine Zb ?_;refine Z3 ?_;refine Zdo ?_;refine zi ?_;refine zfl (r:=(zbh sb rb sv R1.at_ R2).res) (K:=9) L 921 rfl rfl rfl rfl rfl (fun u H C hH hle hr hC => zqw hH hr hC) (fun _ _ _ _ h => h) ?_
 repeat (first | refine zfd ?_ | refine zd6 ?_)
 refine zlw (KLd ba be bs0 _ _ _) ⟨rfl, rfl, rfl, rfl, rfl, rfl, trivial⟩ ?_
 exact ziu (by decide) hs1
end Go.V.L11
set_option maxRecDepth 20000
namespace Go.V.L11
open Go.Proofs Go.RowKit Go.V Go.V.L2 Go.V.L4 Go.V.L6
theorem _root_.Go.V.Ze2 {A B:Prop} (h:B) (t:Wr B → A:=by intro h; refine zd (zy L (vs:=[_, _, _, _]) (qk rfl) rfl rfl rfl rfl ⟨_, rfl⟩) rfl ?_;exact h.h):A:=t ⟨h⟩
attribute [local irreducible] V N X VO Par XP LV StepOK Has Ret RetL RetO RetT zbd RetX RetY Pan zs3 Src
abbrev tySt:TypeId:=91
theorem zuv {r:Int} (hr:r ≠ 0) {p:Option Addr} {k c:Nat} {t:Int} {w:World} {B:Heap} (hB:B.Le (hp w)) :
  Ret Tryz.prog 77 [.agg #[.slice p k c, .int .i64 t], .int .u64 r, .int .i64 0] w B (fun v _ => v = .tuple #[.agg #[.slice p k c, .int .i64 t], .int .i64 0]):=by
 refine qt Tryz.func77 rfl Tryz.ntmps77 (Nat.le_of_ble_eq_true rfl) hB ?_
 refine Za3 ?_;refine Z6 ?_;refine Zd ?_;refine ZI ?_;refine Z4 ?_;refine Z7 ?_;refine ZcE ?_;refine Zk ?_;refine ZbF ?_;refine ZY ?_;refine Z9 ?_;refine ZeZ ?_;refine ZbR ?_;refine Zc2 ?_;refine ZaL ?_
 refine qq L (rs:=[.cell 6 112, .tmp 7]) rfl (fun _ _ h => h) Since.refl fun u H hH hle => ?_
 exact ⟨_, qk rfl, rfl, rfl⟩
set_option maxRecDepth 20000 in
theorem zoq {sb rb:Nat} {sv:Value} {R R2:Rd} {fr0:Int} {bs:List Nat} {fu:Bool} (hb:∀ b ∈ bs, b ≤ 255) (hl:bs.length ≤ 1099511627776) (hat:R.at_ ≤ bs.length) (hz1:zgk bs 8192 R = (0, R2)) (h1:R2.err = 0) {w:World} {B:Heap} {C:Nat → Prop} (hB:B.Le (hp w)) (hs:BsV bs fu sv B) (hr:(zbh sb rb sv fr0 R).P B w C) (hC:∀ k, C k → k < w.heap.size ∧ B k = none) :
  RetX Tryz.prog 78 [za3 sb, nilSet] w B C (zbh sb rb sv R.at_ R2) nilSet:=by
 unfold RetX
 refine zah 900 (zbh sb rb sv fr0 R) Tryz.func78 rfl Tryz.ntmps78 (Nat.le_of_ble_eq_true rfl) hB hr hC ?_
 refine ZaF ?_;refine Zb0 ?_;refine Zn ?_;refine Zau ?_;refine Z5 ?_;refine Zb0 ?_;refine Zk ?_;refine q8 (y3 L 900 (zbh sb rb sv R.at_ R2) (.int .i64 0) (r:=zbh sb rb sv fr0 R) rfl rfl rfl rfl rfl (fun u H C2 hH hle hr2 hC2 => by have h:=size_ret (lim:=8192) hb hl hat (by omega) (by rw [hz1]; exact h1) hH (hs.le hle) hr2 hC2; rw [hz1] at h; exact h)) ?_;refine Zd ?_
 refine zdi (r1:=zaj sb [za3 rb, .int .i64 R.at_] zwj) (r2:=(GRd rb sv R2).res) 900 901 rfl (zas _) ?_
 refine Zi ?_;refine Z0 ?_;refine Zf ?_;refine Zw ?_;refine Zb ?_;refine ZbI ?_
 refine zan (fun _:Nat => [(0, .is (za3 sb)), (3, .own (zed [.nilFunc, .pointer none, .nilFunc, .pointer none] tySt)), (4, .own (zed [.nilFunc, .pointer none, .nilFunc, .pointer none] tySt)), (5, .is (.slice none 0 0)), (6, .is (.slice none 0 0)), (9, .is (.int .i64 R.at_)), (20, .is (.int .i64 0)), (21, .is (.int .i64 0)), (900, .own (zaj sb [za3 rb, .int .i64 R.at_] zwj)), (901, .own (GRd rb sv R2).res)]) (fun _ => True) (fun i => i) 0 trivial ⟨rfl, rfl, rfl, rfl, rfl, rfl, rfl, rfl, rfl, rfl, trivial⟩ ?_
 rintro _ _
 refine ZbR ?_;refine ZaD ?_;refine Zb1 ?_;refine Zb ?_;refine Zar ?_;refine zam (qs L (q:=900) (cs':=[za3 rb, .int .i64 R.at_]) rfl rfl rfl rfl rfl rfl rfl rfl rfl) ?_;refine Zj ?_;refine Zcu ?_;refine Zbb ?_;refine z7 (zp L rfl rfl (zk rfl) rfl rfl rfl (fun u H hH _ _ => zdj (l:=[]) (n:=0) rfl hH SetV.nil)) rfl ?_;refine Za ?_;refine Zdy ?_;refine Zdj ?_;refine Za ?_;refine Zdy ?_;refine Zbu ?_;refine Zbo ?_;refine zik 900 901 rfl rfl (zas (GRd rb sv R2)) ?_;refine q8 (zao L 900 (zbh sb rb sv R.at_ R2) (r:=zbh sb rb sv R.at_ R2) rfl rfl rfl rfl rfl (fun u H C2 hH _ hr2 hC2 => zfy hH hr2 hC2)) ?_;refine Zaw ?_
 refine zge 6 42 7 rfl ?_
 refine zbl 5 (SlV 42 7 [] 0 true) rfl SlV.mono SlV.nil ?_
 refine ZdF ?_;refine q8 (zal (.inl rfl) rfl rfl rfl rfl) ?_;refine Zl ?_;refine q8 (zce L rfl rfl rfl (z0v rfl) rfl z2o rfl rfl (by omega) (by omega)) ?_;refine z7 (zzy L rfl rfl rfl rfl) rfl ?_;refine Zfi ?_
 refine zan (fun _:Nat => [(3, .own (zed [.nilFunc, .pointer none, .nilFunc, .pointer none] tySt)), (4, .own (zed [.nilFunc, .pointer none, .nilFunc, .pointer none] tySt)), (88, .is (.int .i64 0)), (89, .is (.int .i64 0)), (900, .own (zbh sb rb sv R.at_ R2).res)]) (fun _ => True) (fun i => i) 0 trivial ⟨rfl, rfl, rfl, rfl, rfl, trivial⟩ ?_
 rintro _ _
 refine zh ?_;refine Za1 ?_;refine ZaD ?_;refine ZbG ?_;refine Zbb ?_;refine ZaY ?_
 exact za4 L 900 (r:=zbh sb rb sv R.at_ R2) (rs:=[.cell 4 tySt]) rfl (fun _ _ h => h) Since.refl rfl rfl (fun _ => ⟨_, qk rfl, rfl, rfl⟩)
set_option maxRecDepth 20000 in
set_option maxHeartbeats 1000000 in
theorem zu8 {bs:List Nat} {st:Nat} {R1 R2 R3 R4:Rd} {fu:Bool} (hb:∀ b ∈ bs, b ≤ 255) (hz:bs.length ≤ 1099511627776) (hz1:zgk bs 1024 ⟨0, 0, 0⟩ = (1, R1)) (h1:R1.err = 0) (ha1:R1.at_ ≤ bs.length)
  (hz2:zut bs R1 = (st, R2)) (h2:R2.err = 0) (hst:0 < st) (hst2:st < 18446744073709551616) (ha2:R2.at_ ≤ bs.length) (hz3:zgk bs 4096 R2 = (0, R3)) (h3:R3.err = 0) (ha3:R3.at_ ≤ bs.length) (hz4:zgk bs 8192 R3 = (0, R4)) (h4:R4.err = 0) (ha4:R4.at_ ≤ bs.length) (h5:(zvo bs R4).2 ≠ 0) {v:Value} {w:World} {B:Heap} (hB:B.Le (hp w)) (hv:BsV bs fu v B) :
  Ret Tryz.prog 26 [v] w B (fun r _ => r = .tuple #[.pointer none, .int .i64 (zvo bs R4).1, .int .i64 (zvo bs R4).2]):=by
 obtain ⟨p0, c0, rfl⟩:=zcj hv
 refine qt Tryz.func26 rfl Tryz.ntmps26 (Nat.le_of_ble_eq_true rfl) hB ?_
 refine ZaK ?_;refine Z6 ?_;refine Zb0 ?_
 refine za5 2 910 rfl fun bs0 => ?_
 refine za5 3 911 rfl fun ba => ?_
 refine za5 4 912 rfl fun be => ?_
 refine zhb (id:=1) 1 rfl ?_;refine Zby ?_;refine zi ?_;(refine zmm (K:=1) rfl rfl rfl rfl ?_;refine zi ?_); refine ZbH ?_
 refine Z2 ?_;refine z7 (zc5 L rfl rfl (zk rfl) rfl rfl rfl (fun u H hH hle _ => zqt hz hH (hv.le hle))) rfl ?_;refine zfe 15 922 rfl fun rb => ?_;refine zl1 (X:=Value) 922 (r:=fun sv => (GRd rb sv ⟨0, 0, 0⟩).res) (φ:=fun sv H => BsV bs false sv H) (hφ:=fun _ _ _ h hle => h.le hle) rfl fun sv H1 hs1 hsv => ?_;refine ZfF ?_;refine Zd0 ?_;refine q8 (zal (.inr rfl) rfl rfl rfl rfl) ?_;refine Zj ?_
 refine za5 5 921 rfl fun sb => ?_
 refine zcu 921 922 rfl rfl (zas (GRd rb sv ⟨0, 0, 0⟩)) ?_
 refine Zk ?_;refine q8 (y3 L 921 (zbh sb rb sv 0 R1) (.int .i64 1) (r:=zbh sb rb sv 0 ⟨0, 0, 0⟩) rfl rfl rfl rfl rfl (fun u H C hH hle hr hC => by have h:=size_ret (lim:=1024) hb hz (Nat.zero_le _) (by omega) (by rw [hz1]; exact h1) hH (hsv.le hle) hr hC; rw [hz1] at h; exact h)) ?_;refine Zd ?_;refine Zp ?_;refine Zbe ?_;refine q8 (zao L 921 (zbh sb rb sv 0 R1) (r:=zbh sb rb sv 0 R1) rfl rfl rfl rfl rfl (fun u H C hH _ hr hC => zfy hH hr hC)) ?_;refine Zj ?_;refine Zw ?_;refine Zdn ?_;refine Zd ?_;refine ZH ?_;refine Zb0 ?_;refine ZA ?_;refine Zcs ?_;refine Z6 ?_;refine ZaQ ?_;refine Zan ?_;refine Zaw ?_;refine ZcO ?_;refine ZbI ?_
 refine zan (fun i:Nat => match i with
  | 0 => [(2, .is (za3 bs0)), (3, .is (za3 ba)), (4, .is (za3 be)), (910, .own (zaj bs0 [.pointer none] tyPS)), (911, .own (zaj ba [.int .i64 0] zv9)), (912, .own (zaj be [.int .i64 0] zo3)), (5, .is (za3 sb)), (7, .is (.slice none 0 0)), (8, .is (.slice none 0 0)), (9, .own (zed [.slice none 0 0, .int .i64 0] 112)), (10, .is (.int .u64 0)), (11, .own (zed [.nilFunc, .pointer none, .nilFunc, .pointer none] tySt)), (25, .is (.int .i64 1)), (26, .is (.int .i64 0)), (921, .own (zbh sb rb sv 0 R1).res)]
  | _ + 1 => [(2, .is (za3 bs0)), (3, .is (za3 ba)), (4, .is (za3 be)), (910, .own (zaj bs0 [.pointer none] tyPS)), (911, .own (zaj ba [.int .i64 0] zv9)), (912, .own (zaj be [.int .i64 0] zo3)), (5, .is (za3 sb)), (25, .is (.int .i64 1)), (26, .is (.int .i64 1)), (921, .own (zbh sb rb sv R3.at_ R4).res)]) (fun i => i ≤ 1) (fun i => 1 - i) 0 (by decide) ⟨rfl, rfl, rfl, rfl, rfl, rfl, rfl, rfl, rfl, rfl, rfl, rfl, rfl, rfl, rfl, trivial⟩ ?_
 rintro i hi
 cases i with
 | succ i =>
  dsimp only
  refine zh ?_;refine Zap ?_;refine ZaD ?_;refine zd4 (id:=18) 1 rfl ?_;refine Zdm ?_;refine zfl (r:=(zbh sb rb sv R3.at_ R4).res) (K:=1) L 921 rfl rfl rfl rfl rfl (fun u H C hH hle hr hC => zrz hz ha4 h5 hH (hsv.le hle) hr hC) (fun _ _ _ _ h => h) ?_
  repeat (first | refine zfd ?_ | refine zd6 ?_)
  refine zlw (KLd ba be bs0 _ _ _) ⟨rfl, rfl, rfl, rfl, rfl, rfl, trivial⟩ ?_
  exact ziu h5 hs1
 | zero =>
  dsimp only
  refine zdi (r1:=zaj sb [za3 rb, .int .i64 0] zwj) (r2:=(GRd rb sv R1).res) 921 922 rfl (zas _) ?_
  have hws:IntKind.u64.wrap (18446744073709551615 - 0) = 18446744073709551615:=by decide
  have hwa:IntKind.u64.wrap (0 + (st:Int)) = (st:Int):=(wrap_u64 (by omega) (by omega)).trans (by omega)
  have hst3:(st:Int) ≠ 0:=by omega
  refine zh ?_;refine Zap ?_;refine ZT ?_;refine ZE ?_;refine Zb ?_;refine Zar ?_;refine qw (zx L (q:=921) rfl rfl rfl rfl rfl rfl) ?_;refine zik 921 922 rfl rfl (zas (GRd rb sv R1)) ?_;refine Zby ?_;refine q8 (y3 L 921 (zbh sb rb sv R1.at_ R2) (.int .u64 st) (r:=zbh sb rb sv 0 R1) rfl rfl rfl rfl rfl (fun u H C hH hle hr hC => zgh (fst:=[za3 rb]) (cap:=[]) rfl h2 hH hr hC (fun u3 H3 C3 hH3 hle3 hr3 hC3 => by have h:=zts hb hz ha1 hH3 ((hsv.le hle).le hle3) hr3 hC3; rw [hz2] at h; exact h))) ?_;refine Zd ?_;refine ZN ?_;refine Zbe ?_;refine Zr ?_;refine ZQ ?_;refine Zbo ?_;refine Zg ?_;refine q8 (zao L 921 (zbh sb rb sv R1.at_ R2) (r:=zbh sb rb sv R1.at_ R2) rfl rfl rfl rfl rfl (fun u H C hH _ hr hC => zfy hH hr hC)) ?_;refine Zj ?_;refine ZbO ?_;refine ZbS ?_;refine Zd ?_
  refine q4 (id:=14) [(52, [921])] mixed (by kernel_rfl) ?_;refine Zfk ?_;refine Zs ?_;refine zbi (y3 L 921 (zbh sb rb sv R2.at_ R3) (.int .i64 0) (r:=zbh sb rb sv R1.at_ R2) rfl rfl rfl rfl rfl (fun u H C hH hle hr hC => by have h:=size_ret (lim:=4096) hb hz ha2 (by omega) (by rw [hz3]; exact h3) hH (hsv.le hle) hr hC; rw [hz3] at h; exact h)) rfl rfl ?_;refine zd (zp L rfl rfl (zk rfl) rfl rfl rfl (fun u H hH _ _ => zuv hst3 hH)) rfl ?_;refine Zh ?_;refine zd (zn rfl rfl rfl rfl) rfl ?_;refine zd (zn rfl rfl rfl rfl) rfl ?_;refine ZdX ?_;refine ZaW ?_
  refine Zag ?_;refine Za ?_;refine Zbb ?_;refine q8 (y3 L 921 (zbh sb rb sv R3.at_ R4) nilSet (r:=zbh sb rb sv R2.at_ R3) rfl rfl rfl rfl rfl (fun u H C hH hle hr hC => zoq hb hz ha3 hz4 h4 hH (hsv.le hle) hr hC)) ?_;refine ZaY ?_
  refine zge 7 63 1 rfl ?_
  refine zge 8 tySt 4 rfl ?_
  have hpl:[Value.nilFunc, .pointer none, .nilFunc, .pointer none].all zdh = true:=rfl
  refine q4 (id:=16) [(59, [7]), (62, [59]), (63, [8]), (66, [63]), (7, [62]), (8, [66])] mixed (by kernel_rfl) ?_;refine zbi (zal (.inl rfl) rfl rfl rfl rfl) rfl rfl ?_;refine Zh ?_;refine ZeN ?_;refine zbi (zce L rfl rfl rfl (zkw rfl) rfl z3s rfl rfl (by omega) (by omega)) rfl rfl ?_;refine zbi (zal (.inl rfl) rfl rfl rfl rfl) rfl rfl ?_;refine Ze2 ?_;refine ZeN ?_;refine zbi (zce L rfl rfl rfl (zkw rfl) rfl z43 rfl rfl (by omega) (by omega)) rfl rfl ?_;refine zbi (zal (.inr rfl) rfl rfl rfl rfl) rfl rfl ?_;refine zbi (zal (.inr rfl) rfl rfl rfl rfl) rfl rfl ?_;refine Zco ?_;refine Zb1 ?_;refine ZbJ ?_
  exact qy (x:=0) 1 (by decide) (by decide) ⟨rfl, rfl, rfl, rfl, rfl, rfl, rfl, rfl, rfl, rfl, trivial⟩
end Go.V.L11
set_option maxRecDepth 20000
namespace Go.V.L3
open Go.Proofs Go.RowKit Go.V Go.V.L2
attribute [local irreducible] V N X VO Par StepOK Has Ret RetL RetO RetT Src
end Go.V.L3
set_option maxRecDepth 20000
namespace Go.V.L3
open Go.Proofs Go.RowKit Go.V Go.V.L2
attribute [local irreducible] V N X VO Par StepOK Has Ret RetL RetO RetT Src
end Go.V.L3
set_option maxRecDepth 20000
namespace Go.V.L3
open Go.Proofs Go.RowKit Go.V Go.V.L2
abbrev tyI:TypeId:=3
attribute [local irreducible] V N X VO Par StepOK Has Ret RetL RetO RetT Src
end Go.V.L3
set_option maxRecDepth 20000
namespace Go.V.L3
open Go.Proofs Go.RowKit Go.V Go.V.L2
attribute [local irreducible] V N X VO Par StepOK Has Ret RetL RetO RetT Src
end Go.V.L3
set_option maxRecDepth 20000
namespace Go.V
open Go.Proofs Go.RowKit
def idS (n:Nat):ByteArray:=match n % 5 with
 | 0 => ⟨#[97]⟩
 | 1 => ⟨#[98]⟩
 | 2 => ⟨#[99, 49]⟩
 | 3 => ⟨#[100]⟩
 | _ => ⟨#[114, 111, 111, 116]⟩
end Go.V
set_option maxRecDepth 20000
namespace Go.V
open Go.Proofs Go.RowKit
theorem _root_.Go.V.Zfu {A B:Prop} (h:B) (t:Wr B → A:=by intro h; refine z7 (z1x rfl rfl rfl rfl (by omega) (by assumption)) rfl ?_;exact h.h):A:=t ⟨h⟩
attribute [local irreducible] V N X VO Par StepOK Has Ret RetL Src
theorem id_ret (n:Nat) {w:World} {B:Heap} (hB:B.Le (hp w)):Ret Tryz.prog 68 [.int .i64 n] w B (fun v _ => v = .string (idS n)):=by
 unfold idS
 have e:Int.tmod (n:Int) 5 = ((n % 5:Nat):Int):=rfl
 refine qt Tryz.func68 rfl Tryz.ntmps68 (Nat.le_of_ble_eq_true rfl) hB ?_
 have hlt:=Nat.mod_lt n (show 0 < 5 by decide)
 rcases (by omega:n % 5 = 0 ∨ n % 5 = 1 ∨ n % 5 = 2 ∨ n % 5 = 3 ∨ n % 5 = 4) with h | h | h | h | h
 ·have e0:Int.tmod (n:Int) 5 = 0:=by rw [e, h]; rfl
  rw [h]
  refine ZZ ?_;refine ZR ?_;refine Za ?_;refine Zfu ?_;refine z7 (zcn L 0 rfl rfl rfl rfl rfl rfl rfl (by omega)) rfl ?_;refine Zaq ?_;refine Zc ?_
  refine qq L (rs:=[.tmp 2]) rfl (fun _ _ h => h) Since.refl fun u H hH hle => ?_
  rfl
 ·have e0:Int.tmod (n:Int) 5 = 1:=by rw [e, h]; rfl
  rw [h]
  refine ZZ ?_;refine ZR ?_;refine Za ?_;refine Zfu ?_;refine z7 (zcn L 1 rfl rfl rfl rfl rfl rfl rfl (by omega)) rfl ?_;refine Zaq ?_;refine Zc ?_
  refine qq L (rs:=[.tmp 2]) rfl (fun _ _ h => h) Since.refl fun u H hH hle => ?_
  rfl
 ·have e0:Int.tmod (n:Int) 5 = 2:=by rw [e, h]; rfl
  rw [h]
  refine ZZ ?_;refine ZR ?_;refine Za ?_;refine Zfu ?_;refine z7 (zcn L 2 rfl rfl rfl rfl rfl rfl rfl (by omega)) rfl ?_;refine Zaq ?_;refine Zc ?_
  refine qq L (rs:=[.tmp 2]) rfl (fun _ _ h => h) Since.refl fun u H hH hle => ?_
  rfl
 ·have e0:Int.tmod (n:Int) 5 = 3:=by rw [e, h]; rfl
  rw [h]
  refine ZZ ?_;refine ZR ?_;refine Za ?_;refine Zfu ?_;refine z7 (zcn L 3 rfl rfl rfl rfl rfl rfl rfl (by omega)) rfl ?_;refine Zaq ?_;refine Zc ?_
  refine qq L (rs:=[.tmp 2]) rfl (fun _ _ h => h) Since.refl fun u H hH hle => ?_
  rfl
 ·have e0:Int.tmod (n:Int) 5 = 4:=by rw [e, h]; rfl
  rw [h]
  refine ZZ ?_;refine ZR ?_;refine Za ?_;refine Zfu ?_;refine z7 (zcn L 4 rfl rfl rfl rfl rfl rfl rfl (by omega)) rfl ?_;refine Zaq ?_;refine Zc ?_
  refine qq L (rs:=[.tmp 2]) rfl (fun _ _ h => h) Since.refl fun u H hH hle => ?_
  rfl
end Go.V
set_option maxRecDepth 20000
namespace Go.V.L2
open Go.Proofs Go.RowKit Go.V
abbrev ty2:TypeId:=64
attribute [local irreducible] V N X VO Par StepOK Has Ret RetL Src
end Go.V.L2
set_option maxRecDepth 20000
namespace Go.V.L3
open Go.Proofs Go.RowKit Go.V Go.V.L2
attribute [local irreducible] V N X VO Par StepOK Has Ret RetL RetO RetT Src
end Go.V.L3
set_option maxRecDepth 20000
namespace Go.V.L3
open Go.Proofs Go.RowKit Go.V Go.V.L2
attribute [local irreducible] V N X VO Par StepOK Has Ret RetL RetO RetT Src
end Go.V.L3
set_option maxRecDepth 20000
namespace Go.V.L3
open Go.Proofs Go.RowKit Go.V Go.V.L2
attribute [local irreducible] V N X VO Par StepOK Has Ret RetL RetO RetT Src
end Go.V.L3
set_option maxRecDepth 20000
namespace Go.V.L3
open Go.Proofs Go.RowKit Go.V Go.V.L2
attribute [local irreducible] V N X VO Par StepOK Has Ret RetL RetO RetT Src
end Go.V.L3
set_option maxRecDepth 20000
namespace Go.V.L6
open Go.Proofs Go.RowKit Go.V Go.V.L2 Go.V.L3
abbrev d0:U:=(((⟨#[100, 111, 99]⟩, ⟨#[97]⟩), ⟨#[118, 105, 101, 119, 101, 114]⟩), ((⟨#[117, 115, 101, 114]⟩, ⟨#[120]⟩), ⟨#[]⟩))
abbrev d1:U:=(((⟨#[100, 111, 99]⟩, ⟨#[97]⟩), ⟨#[118, 105, 101, 119, 101, 114]⟩), ((⟨#[103, 114, 111, 117, 112]⟩, ⟨#[103]⟩), ⟨#[109, 101, 109, 98, 101, 114]⟩))
abbrev d2:U:=(((⟨#[100, 111, 99]⟩, ⟨#[98]⟩), ⟨#[118, 105, 101, 119, 101, 114]⟩), ((⟨#[117, 115, 101, 114]⟩, ⟨#[120]⟩), ⟨#[]⟩))
def tzB (t:U):Bool:=decide (t.1.1.1.size ≤ 1000) && decide (t.1.1.2.size ≤ 1000) && decide (t.1.2.size ≤ 1000) && decide (t.2.1.1.size ≤ 1000) && decide (t.2.1.2.size ≤ 1000) && decide (t.2.2.size ≤ 1000)
theorem zyn {t:U} (h:tzB t = true):TZ t:=by
 unfold tzB at h
 simp only [Bool.and_eq_true, decide_eq_true_eq] at h
 unfold TZ; omega
attribute [local irreducible] V N X VO Par StepOK Has Ret RetL RetO RetT Src
end Go.V.L6
set_option maxRecDepth 20000
namespace Go.V.L6
open Go.Proofs Go.RowKit Go.V Go.V.L2 Go.V.L3
abbrev C3:=Nat × Nat × Nat
attribute [local irreducible] V N X VO Par StepOK Has Ret RetL RetO RetT Src
end Go.V.L6
set_option maxRecDepth 20000
namespace Go.V.L6
open Go.Proofs Go.RowKit Go.V Go.V.L2 Go.V.L3
end Go.V.L6
set_option maxRecDepth 20000
namespace Go.V.L8
open Go.Proofs Go.RowKit Go.V Go.V.L2 Go.V.L3 Go.V.L6
theorem zvm {s:List U} {l:List CH} (h0:cE 32 l = 0) {i:Nat} {c:CH} (h:∀ (j:Nat) x, j < i → l[j]? = some x → zii s x = true) (hc:l[i]? = some c) (hh:zii s c = false):zg3 s l = (i, 13):=by
 unfold zg3; rw [if_pos h0]; exact zsp h hc hh
theorem zso {s:List U} {l:List CH} (h0:cE 32 l = 0) (h:∀ (j:Nat) x, l[j]? = some x → zii s x = true):zg3 s l = (l.length, 0):=by
 unfold zg3; rw [if_pos h0]; exact zsq fun x hx => let ⟨j, hj⟩:=List.getElem?_of_mem hx; h j x hj
attribute [local irreducible] V N X VO Par StepOK Has Ret RetL RetO RetT Src
theorem zm2 {l:List CH} {fu:Bool} (hz:∀ c ∈ l, TM c.1) (hl:l.length ≤ 9223372036854775807) {e:Int} (he:cE 32 l = e) {v:Value} {w:World} {B:Heap} (hB:B.Le (hp w)) (hv:KS tyC l fu v B) :
  Ret Tryz.prog 192 [v] w B (fun r _ => r = .int .i64 e):=by
 obtain ⟨p, m, c, rfl⟩:=znp hv
 refine qt Tryz.func192 rfl Tryz.ntmps192 (Nat.le_of_ble_eq_true rfl) hB ?_
 refine Zbk ?_
 refine zkq 1 rfl fun q H1 hs1 ⟨b, hpb, hb1⟩ => ?_
 subst hpb
 refine Zn ?_;refine Zee ?_;refine zl0 3 (KS tyC l fu) rfl SlV.mono (hv.le hs1.le) ?_;refine Zfy ?_;refine Zby ?_;refine z7 (zp L rfl rfl (zk rfl) rfl rfl rfl (fun u H hH hle _ => zlg (caps:=[.pointer (some ⟨b, 0, none⟩)]) hz hl rfl he hH (fun i c hc u' H' hH' hle' => z0o hc hH' (hle' _ _ (hle _ _ hb1)) ((hv.le hs1.le).le (Heap.Le.trans hle hle'))))) rfl ?_;refine Zc ?_
 refine qq L (rs:=[.tmp 2]) rfl (fun _ _ h => h) hs1 fun u H hH hle => ?_
 rfl
theorem zoj {s:List U} {c:CH} {b:Bool} (hb:zii s c = b) {v:Value} {w:World} {B:Heap} (hB:B.Le (hp w)) (hv:SetV s v B):Ret Tryz.prog 254 [v, chv c.1 c.2] w B (fun r _ => r = .bool b):=by
 subst hb
 obtain ⟨x, d⟩:=c
 obtain ⟨f1, p1, f2, q1, rfl, hpl⟩:=hv.shape
 obtain ⟨h, hh⟩:∃ h, decide (x ∈ s) = h:=⟨_, rfl⟩
 unfold zii
 dsimp only
 rw [hh]
 refine qt Tryz.func254 rfl Tryz.ntmps254 (Nat.le_of_ble_eq_true rfl) hB ?_
 refine Zae ?_;refine Zd ?_;refine Zbt ?_;refine Zex ?_;refine Zbc ?_;refine ZbD ?_;refine zd (zp L rfl rfl (zk rfl) rfl rfl rfl (fun u H hH hle _ => zc2 hh hH (hv.le hle))) rfl ?_;refine Zf8 ?_;refine ZK ?_
 refine qq L (rs:=[.tmp 4]) rfl (fun _ _ h => h) Since.refl fun u H hH hle => ?_
 cases h <;> cases d <;> rfl
set_option maxHeartbeats 1000000 in
theorem first_ret {s:List U} {l:List CH} {fu:Bool} (hz:∀ c ∈ l, TM c.1) (hl:l.length ≤ 9223372036854775807) {r:Nat} {e:Int} (hr:zg3 s l = (r, e)) {sv v:Value} {w:World} {B:Heap} (hB:B.Le (hp w)) (hs:SetV s sv B) (hv:KS tyM l fu v B) :
  Ret Tryz.prog 193 [sv, v] w B (fun x _ => x = .tuple #[.int .i64 r, .int .i64 e]):=by
 obtain ⟨f1, p1, f2, q1, rfl, hpl⟩:=hs.shape
 refine qt Tryz.func193 rfl Tryz.ntmps193 (Nat.le_of_ble_eq_true rfl) hB ?_
 refine zbl 1 (KS tyM l fu) rfl SlV.mono hv ?_
 by_cases h0:cE 32 l = 0
 ·refine Za3 ?_;refine ZaJ ?_;refine Zda ?_;refine z7 (zp L rfl rfl (zk rfl) rfl rfl rfl (fun u H hH _ _ v1 h1 => zfz hz hl h0 hH h1)) rfl ?_;refine Za0 ?_;refine Zcp ?_;refine Zp ?_;refine ZbK ?_
  refine zan (fun i:Nat => [(1, .sat (KS tyM l fu)), (2, .sat (At [f1, .pointer p1, f2, .pointer q1] znc 0)), (14, .sat (KS tyM l fu)), (15, .is (.int .i64 l.length)), (16, .is (.int .i64 i))]) (fun i => i ≤ l.length ∧ ∀ (j:Nat) x, j < i → l[j]? = some x → zii s x = true) (fun i => l.length - i) 0 ⟨Nat.zero_le _, fun j c h => absurd h (Nat.not_lt_zero _)⟩ ⟨rfl, rfl, rfl, rfl, rfl, trivial⟩ ?_
  rintro i ⟨hi, hok⟩
  by_cases hlt:i < l.length
  ·obtain ⟨c, hc0⟩:=zaw hlt
   have hc:=zka hc0
   cases hh:zii s c
   ·rw [zvm h0 hok hc0 hh] at hr
    cases hr
    refine Zbq ?_;refine ZT ?_;refine ZJ ?_;refine ZcK ?_;refine Z6 ?_;refine ZaQ ?_;refine Zan ?_;refine Zj ?_;refine ZH ?_;refine Zdf ?_;refine ZdD ?_;refine z7 (zp L rfl rfl (zk rfl) rfl rfl rfl (fun u H hH hle _ => zoj hh hH (hs.le hle))) rfl ?_;refine Zu ?_;refine Zv ?_;refine ZS ?_;refine Zy ?_
    refine qq L (rs:=[.tmp 4, .tmp 5]) rfl (fun _ _ h => h) Since.refl fun u H hH hle => ?_
    rfl
   ·refine Zbq ?_;refine ZT ?_;refine ZJ ?_;refine ZcK ?_;refine Z6 ?_;refine ZaQ ?_;refine Zan ?_;refine Zj ?_;refine ZH ?_;refine Zdf ?_;refine ZdD ?_;refine z7 (zp L rfl rfl (zk rfl) rfl rfl rfl (fun u H hH hle _ => zoj hh hH (hs.le hle))) rfl ?_;refine Zu ?_;refine Zbj ?_;refine Zah ?_;refine ZbJ ?_
    exact qy (x:=i) (i + 1) ⟨hlt, fun j c' hj hc' => by
     rcases Nat.lt_or_ge j i with h | h
     ·exact hok j c' h hc'
     ·have:j = i:=by omega
      subst this; rw [hc0] at hc'; cases hc'; exact hh⟩ (by omega) ⟨rfl, rfl, rfl, rfl, rfl, trivial⟩
  ·rw [zso h0 (fun j x hj => hok j x (by have:=get_lt hj; omega) hj)] at hr
   cases hr
   refine Zbq ?_;refine ZaD ?_;refine Zap ?_;refine Zx ?_;refine Zy ?_
   refine qq L (rs:=[.tmp 4, .tmp 5]) rfl (fun _ _ h => h) Since.refl fun u H hH hle => ?_
   rfl
 ·have:zg3 s l = (0, cE 32 l):=if_neg h0
  rw [this] at hr
  cases hr
  refine Za3 ?_;refine ZaJ ?_;refine Zda ?_;refine z7 (zp L rfl rfl (zk rfl) rfl rfl rfl (fun u H hH _ _ v1 h1 => zfz hz hl rfl hH h1)) rfl ?_;refine Za0 ?_;refine ZF ?_;refine Zk ?_;refine Zy ?_
  refine qq L (rs:=[.tmp 4, .tmp 5]) rfl (fun _ _ h => h) Since.refl fun u H hH hle => ?_
  rfl
end Go.V.L8
set_option maxRecDepth 20000
namespace Go.V.L8
open Go.Proofs Go.RowKit Go.V Go.V.L2 Go.V.L3 Go.V.L6
attribute [local irreducible] V N X VO Par StepOK Has Ret RetL RetO RetT Src
end Go.V.L8
