/- Texts on the way to WiresSet, part 2: one behind another. -/
import Derived.Test.YtefilnnomholbaaGreatWiresSetM1
import Derived.Shelf.SlSortCmp.NoneTotal
import Derived.Laws.Bits64b
import Derived.Test.YtefilnnomholbaaGreatProg
import Derived.Shelf.Strings.Builder1
import Derived.Shelf.Small.Bits
import Derived.Shelf.Small.Strs
import Derived.Shelf.Small.Wraps
import Derived.Shelf.Utf8.RuneCount
import Derived.Shelf.Strconv.Itoa0
import Derived.Shelf.Strings.Search1
import Derived.Shelf.Strings.Search2
import Derived.Shelf.Strings.Search3
import Derived.Shelf.Strings.Cut
import Derived.Shelf.Strings.Count
import Derived.Shelf.LaysM
import Derived.Shelf.Strings.Shaped
import Derived.Shelf.Strings.Prefix
import Derived.Shelf.Strings.Split
import Derived.Shelf.Strings.RuneCount
import Derived.Sort.AssemblyPlain
import Derived.Lib.AppendZeros
import Derived.Laws.RangeString
import Derived.Laws.Runes
import Derived.Scope
import Derived.Lib.AppendZerosOnto
import Derived.Lib.Overlaps
import Derived.Laws.Externs
set_option linter.unusedVariables false
set_option linter.unusedSimpArgs false
set_option maxRecDepth 20000
namespace Go.V
open Go.RowKit
def zh7 {X:Type} (φ:X → Heap → Prop):Prop:=∀ x H H', φ x H → Heap.Le H H' → φ x H'
def ExR {X:Type} (r:X → Res) (φ:X → Heap → Prop) (hφ:zh7 φ):Res where
 P v H u C:=∃ x, φ x H ∧ (r x).P v H u C
 st:=fun ⟨x, h1, h2⟩ hle hs hon hk => ⟨x, hφ _ _ _ h1 hle, (r x).st h2 hle hs hon hk⟩
section
variable {P:Program} {F:Fr} {B:Heap} {O:Boxes} {n:Nat} {ops:Array Oper} {κ:Kap} {a:Act} {u:World} {H:Heap} {fp:Nat → Nat → Prop} {os:List Oper} {Q:Exit → Act → World → Prop}
theorem HasH.turnR {t:Nat} {r r':Res} (h:HasH F B O n κ a u H fp) (hk:κ t = some (.own r)) (hr:r'.P (a.eval (.tmp t)) H u (fp t)):HasH F B O n (upd κ t (.own r')) a u H fp:=by
 refine ⟨h.size, h.defers, h.nodup, h.marks, h.lent, h.keep, h.sub, h.base, h.fresh, h.boxes, h.apart, fun s k hs => ?_, fun s q r1 r2 hsq h1 h2 => ?_, fun s k hs => ?_⟩
 ·by_cases hst:s = t
  ·subst hst; rw [zah] at hs; cases hs; exact ⟨hr, (h.slot s _ hk).2⟩
  ·rw [zab _ _ hst] at hs; exact h.slot s k hs
 ·have key:∀ x r, upd κ t (.own r') x = some (.own r) → ∃ r2, κ x = some (.own r2):=fun x r hx => by
   by_cases hxd:x = t
   ·subst hxd; exact ⟨_, hk⟩
   ·rw [zab _ _ hxd] at hx; exact ⟨_, hx⟩
  obtain ⟨_, k1⟩:=key _ _ h1
  obtain ⟨_, k2⟩:=key _ _ h2
  exact h.owns s q _ _ hsq k1 k2
 ·by_cases hst:s = t
  ·subst hst; rw [zah] at hs; cases hs; trivial
  ·rw [zab _ _ hst] at hs; exact h.mono s k hs
theorem Has.opnX {X:Type} {t:Nat} {r:X → Res} {φ:X → Heap → Prop} {hφ:zh7 φ} (hk:κ t = some (.own (ExR r φ hφ))) (h:Has F B O n κ a u):∃ x H, Since F B H ∧ φ x H ∧ Has F H O n (upd κ t (.own (r x))) a u:=by
 obtain ⟨H, fp, h⟩:=h
 obtain ⟨⟨x, h1, h2⟩, _⟩:=h.slot t _ hk
 exact ⟨x, H, h.isSince, h1, H, fp, (h.turnR hk h2).rebase⟩
theorem Has.clsX {X:Type} {t:Nat} {r:X → Res} {φ:X → Heap → Prop} (hφ:zh7 φ) (x:X) (hx:φ x B) (hk:κ t = some (.own (r x))) (h:Has F B O n κ a u):Has F B O n (upd κ t (.own (ExR r φ hφ))) a u:=by
 obtain ⟨H, fp, h⟩:=h
 exact ⟨H, fp, h.turnR hk ⟨x, hφ _ _ _ hx h.base, (h.slot t _ hk).1⟩⟩
theorem zgu {X:Type} (t:Nat) {r:X → Res} {φ:X → Heap → Prop} {hφ:zh7 φ} {c:Code} (hk:κ t = some (.own (ExR r φ hφ))) (h:∀ x H, Since F B H → φ x H → V P F H n O (upd κ t (.own (r x))) c Q):V P F B n O κ c Q:=fun a u hh => by
 obtain ⟨x, H, hs, hx, hh'⟩:=hh.opnX hk
 exact h x H hs hx a u hh'
theorem zka {X:Type} (t:Nat) {r:X → Res} {φ:X → Heap → Prop} {hφ:zh7 φ} (hk:κ t = some (.own (ExR r φ hφ))) (h:∀ x H, Since F B H → φ x H → VO P F H n O ops (upd κ t (.own (r x))) os Q):VO P F B n O ops κ os Q:=fun a u hh => by
 obtain ⟨x, H, hs, hx, hh'⟩:=hh.opnX hk
 exact h x H hs hx a u hh'
theorem zjc {X:Type} (t:Nat) {r:X → Res} {φ:X → Heap → Prop} (hφ:zh7 φ) (x:X) {c:Code} (hx:φ x B) (hk:κ t = some (.own (r x))) (h:V P F B n O (upd κ t (.own (ExR r φ hφ))) c Q):V P F B n O κ c Q:=fun a u hh => h a u (hh.clsX hφ x hx hk)
theorem zlw {X:Type} (t:Nat) {r:X → Res} {φ:X → Heap → Prop} (hφ:zh7 φ) (x:X) (hx:φ x B) (hk:κ t = some (.own (r x))) (h:N F B n O (upd κ t (.own (ExR r φ hφ))) Q):N F B n O κ Q:=fun a u hh => h a u (hh.clsX hφ x hx hk)
end
theorem zd8 {α:Type} {f:α → List Value} {s:Nat} (hf:∀ a, (f a).length = s):∀ (l:List α) (i:Nat) (a:α), l[i]? = some a → ((l.flatMap f).drop (i * s)).take s = f a
 | [], _, _, h => by simp at h
 | z :: l, 0, a, h => by simp at h; subst h; rw [Nat.zero_mul, List.drop_zero, List.flatMap_cons, List.take_append_of_le_length (by rw [hf]; exact Nat.le_refl _), List.take_of_length_le (by rw [hf]; exact Nat.le_refl _)]
 | z :: l, i + 1, a, h => by
  simp only [List.getElem?_cons_succ] at h
  rw [← zd8 hf l i a h, List.flatMap_cons]
  congr 1
  have e:(i + 1) * s = (f z).length + i * s:=by rw [hf, Nat.succ_mul]; omega
  rw [e, ← List.drop_drop, List.drop_left]
theorem zlk {α:Type} {f:α → List Value} {s:Nat} (hf:∀ a, (f a).length = s) (l:List α):(l.flatMap f).length = l.length * s:=by
 induction l with
 | nil => simp
 | cons a l ih => rw [List.flatMap_cons, List.length_append, ih, hf, List.length_cons, Nat.succ_mul, Nat.add_comm]
theorem zaw {α:Type} {l:List α} {i:Nat} (h:i < l.length):∃ a, l[i]? = some a:=⟨l[i], List.getElem?_eq_getElem h⟩
theorem get_lt {α:Type} {l:List α} {i:Nat} {a:α} (h:l[i]? = some a):i < l.length:=by
 rcases Nat.lt_or_ge i l.length with h' | h'
 ·exact h'
 ·rw [List.getElem?_eq_none h'] at h; cases h
theorem zbt {e:TypeId} {s n:Nat} {xs:List Value} {fu:Bool} {v:Value} {H:Heap} (h:SlV e s xs n fu v H):∃ p c, v = .slice p n c:=by
 obtain ⟨_, ⟨h0, p, rfl⟩ | ⟨b, off, cap, cs, ty0, fr, rfl, _⟩⟩:=h
 ·exact ⟨p, 0, by rw [h0]⟩
 ·exact ⟨_, _, rfl⟩
theorem zs6 {e:TypeId} {s n c:Nat} {xs:List Value} {fu:Bool} {H:Heap} (h:SlV e s xs n fu (.slice none n c) H):n = 0 ∧ c = 0:=by
 obtain ⟨_, ⟨h0, p, e⟩ | ⟨b, off, cap, cs, ty0, fr, e, _⟩⟩:=h
 ·cases e; exact ⟨h0, rfl⟩
 ·cases e
end Go.V
set_option maxRecDepth 20000
namespace Go.V
open Go.RowKit
variable {P:Program} {F:Fr} {B:Heap} {n:Nat} {O:Boxes} {κ:Kap} {Q R:Exit → Act → World → Prop}
def z69 (P:Program) (F:Fr) (_:Heap) (_:Nat) (R:Exit → Act → World → Prop) (y:Code) (Q:Exit → Act → World → Prop):Prop :=
 (∀ a u, R .normal a u → y.wpIn (FW F.r) 0 P Q a u) ∧ ∀ e a u, e ≠ .normal → R e a u → Q e a u
theorem z0w {T:Type} (Fk:T → List (Nat × Kn)) (I:T → Prop) (Ob:T → Boxes) {y:Code} (hy:∀ t, I t → V P F B n (Ob t) (ofL (Fk t)) y Q) :
  z69 P F B n (Exit.then (fun a u => ∃ t, I t ∧ Has F B (Ob t) n (ofL (Fk t)) a u) Q) y Q :=
 ⟨fun a u ⟨t, hI, hh⟩ => hy t hI a u hh, fun e a u he h => by cases e <;> first | exact absurd rfl he | exact h⟩
theorem zq6 {T:Type} {B0:Heap} {Fk:T → List (Nat × Kn)} {I:T → Prop} {Ob:T → Boxes} (t:T) (hs:Since F B0 B) (hI:I t) (hO:O = Ob t) (hl:LiveOK (Fk t) κ) :
  N F B n O κ (Exit.then (fun a u => ∃ t, I t ∧ Has F B0 (Ob t) n (ofL (Fk t)) a u) Q):=fun _ _ hh => ⟨t, hI, hO ▸ (hh.live hl).since hs⟩
section
variable {ops:Array Oper} {ty:TypeId} {pos:String} {aft:Array Edge} {g:Option (Nat × Bool)}
theorem zk3 (L:Tabs P) {t t':TypeId} {s q:Nat} {ag:Bool} {z:Nat} {cs:List Value} {φ:Value → Heap → Prop} {X:Type} (f:X → List Value) (ψ:X → Heap → Prop) (hψ:zh7 ψ)
  (hφ:∀ v H, φ v H → ∃ x, ψ x H ∧ za5 v = f x) (hf:∀ x, (f x).length = z ∧ (f x).all zdv = true)
  (hg:gK ops κ ⟨none, .store t (.tmp s) (.tmp q), ty, pos, aft, g⟩ = some true) (hk:κ s = some (.own (Cell cs t'))) (hx:κ q = some (.sat φ))
  (hl:L.ld t = some (ag, z)) (hcs:cs.length = z) :
  StepOK P F B n ops O κ ⟨none, .store t (.tmp s) (.tmp q), ty, pos, aft, g⟩ s (.own (ExR (fun x => Cell (f x) t') ψ hψ)):=by
 rintro κ' a u hlk ⟨H, fp, hh⟩
 unfold After
 rw [if_pos (zae hh hlk hg)]
 have e:=hh.env hlk
 obtain ⟨x, hx1, hx2⟩:=hφ _ _ (e.sat_ q _ (by simp [Op.operands]) hx)
 have hks:κ' s = some (.own (Cell cs t')):=(hlk s (zd5 (by simp [Op.operands]))).trans hk
 obtain ⟨⟨b, hes, hb, hC⟩, hM⟩:=hh.slot s _ hks
 have hrun:(execOp a.eval ⟨none, .store t (.tmp s) (.tmp q), ty, pos, aft, g⟩).run P u = .ok .skip (u.setRow b (f x).toArray):=by
  simp only [execOp, hes, Instr.storeAt, Instr.sureAddr, Sem.run_bind, Sem.run_pure, Result.andThen_ok]
  have:=zdd (P:=P) (off:=0) (v:=a.eval (.tmp q)) (Tabs.ld_spec hl) hb (by rw [hx2]; exact (hf x).1) (by omega) (by rw [hx2]; exact (hf x).2)
  rw [this, hx2, List.drop_of_length_le (by omega)]
  simp
 rw [hrun]
 simp only [Upon, Act.put]
 have hset:=setRow_heap u b cs.toArray (f x).toArray t' (0, 0) hb
 have hbm:=hM b ((hC b).2 rfl)
 have:=hh.usePut (d:=s) (a':=a) (r':=ExR (fun x => Cell (f x) t') ψ hψ) (C:=fun k => k = b) hks (zdl hh.sub hb ((hC b).2 rfl) hbm.2.1 _) rfl rfl (fun _ _ => rfl) ⟨x, hx1, b, hes, hset, fun _ => Iff.rfl⟩ (fun k hk => by
  subst hk; exact ⟨.inl ((hC k).2 rfl), by rw [setRow_size]; exact hbm.1, hbm.2.1⟩)
 rw [zbr] at this
 exact ⟨H, _, this⟩
end
end Go.V
set_option maxRecDepth 20000
namespace Go.V
open Go.RowKit
def zsL (P:Program) (e:TypeId) (k:Nat):List Value:=match P.info? e with
 | some i => match i.zero with
  | some z => (madeCells z.cells k).toList
  | none => []
 | none => []
theorem zl0 {P:Program} {e:TypeId} {s by_ k:Nat} (h:elI P e = some (s, by_)):(zsL P e k).length = k:=by
 obtain ⟨i, z, hi, hz, _, _, _, _⟩:=zer h
 unfold zsL
 rw [hi]; dsimp only; rw [hz]
 simp [size_madeCells]
def SlE (e:TypeId) (s n:Nat) (xs:List Value):Res where
 P x _ u C:=xs.length = n * s ∧ ((n = 0 ∧ x = .slice none 0 0 ∧ ∀ k, ¬ C k) ∨ ∃ b, x = .slice (some ⟨b, 0, none⟩) n n ∧ u.heap[b]? = some (.cells xs.toArray e) ∧ n ≤ maxLen ∧ ∀ k, C k ↔ k = b)
 st:=fun ⟨hl, h⟩ _ _ _ hk => ⟨hl, by
  rcases h with h | ⟨b, h1, h2, h3, h4⟩
  ·exact .inl h
  ·exact .inr ⟨b, h1, (hk b ((h4 b).2 rfl)).trans h2, h3, h4⟩⟩
section
variable {P:Program} {F:Fr} {B:Heap} {O:Boxes} {n:Nat} {ops:Array Oper} {κ:Kap} {d:Nat} {ty:TypeId} {pos:String} {aft:Array Edge} {g:Option (Nat × Bool)} {a:Act} {u:World} {H:Heap} {fp:Nat → Nat → Prop} {os:List Oper} {Q:Exit → Act → World → Prop} {ex:Exs}
theorem znz (L:Tabs P) {t e:TypeId} {x y:Operand} {kl kc:IntKind} {s by_:Nat} (c:Nat) {p q:Int} (hn:Nat.blt d n = true) (hg:gK ops κ ⟨some d, .makeSlice t x y, ty, pos, aft, g⟩ = some true) (ht:L.sl t = some e) (he:elI P e = some (s, by_))
  (hx:evK κ x = some (.int kl q)) (hy:evK κ y = some (.int kc p)) (hq:q = c) (hp:p = c) (hb:by_ * c ≤ 281474976710656) (hc:c ≤ maxLen):StepOK P F B n ops O κ ⟨some d, .makeSlice t x y, ty, pos, aft, g⟩ d (.own (SlE e s c (zsL P e (c * s)))):=by
 rintro κ' a u hl ⟨H, fp, hh⟩
 unfold After
 rw [if_pos (zae hh hl hg)]
 have en:=hh.env hl
 have hzl:=zl0 (k:=c * s) he
 obtain ⟨i, z, hi, hz, hs1, hs2, hs3, hs4⟩:=zer he
 have h1:=en.is_ x _ (by simp [Op.operands]) hx
 have h2:=en.is_ y _ (by simp [Op.operands]) hy
 subst hp
 subst hq
 have hb':(i.bytes:Int) * (c:Int) ≤ 281474976710656:=by
  have h:((by_ * c:Nat):Int) ≤ 281474976710656:=by omega
  rw [hs2]; rwa [Int.natCast_mul] at h
 have h63:(c:Int) ≤ 9223372036854775807:=by simp [maxLen] at hc; omega
 have hr:=run_make (P:=P) u t e i z (Tabs.sl_spec ht) hi hz kl kc c c (by omega) (by omega) hb' h63
 simp only [Int.toNat_natCast] at hr
 have hrun:(execOp a.eval ⟨some d, .makeSlice t x y, ty, pos, aft, g⟩).run P u = .ok (.value (.slice (some ⟨u.heap.size, 0, none⟩) c c)) (u.alloc (.cells (madeCells z.cells (c * i.size)) e)):=by
  simp only [execOp, h1, h2, Sem.run_bind, hr, Result.andThen_ok]; rfl
 rw [hrun]
 simp only [Upon]
 have hzs:zsL P e (c * s) = (madeCells z.cells (c * i.size)).toList:=by
  unfold zsL
  rw [hi]; dsimp only; rw [hz, hs1]
 have hg2:=hh.grow (Grow.hid hh.sub (.cells (madeCells z.cells (c * i.size)) e))
 refine ⟨H, _, hg2.putR (C:=fun k => k = u.heap.size) (by simp [Act.put]) rfl (fun t ht => zap ht) ⟨hzl, .inr ⟨u.heap.size, zat (by rw [hh.size]; exact zn hn), by rw [zak, hzs], hc, fun _ => Iff.rfl⟩⟩ (fun k hk => ?_) fun t r' _ ht k hf hk => ?_⟩
 ·subst hk
  exact ⟨zaa (zak u _), za8 hh.sub (Nat.le_refl _), .inl hh.keep.size, fun y hy e => by have:=zaa (hh.boxes y hy).1; omega⟩
 ·have:=((hh.slot t _ ht).2 k hf).1
  omega
theorem Has.boxE {t:Nat} {e:TypeId} {s m:Nat} {xs:List Value} (hm:0 < m) (hk:κ t = some (.own (SlE e s m xs))) (h:Has F B O n κ a u) :
  ∃ b, (xs.length = m * s ∧ m ≤ maxLen) ∧ Has F B (bx b xs e :: O) n (upd κ t (.is (.slice (some ⟨b, 0, none⟩) m m))) a u:=by
 obtain ⟨H, fp, h⟩:=h
 obtain ⟨⟨hl, hv⟩, hM⟩:=h.slot t _ hk
 rcases hv with ⟨h0, _, _⟩ | ⟨b, hv, hb, h4, hC⟩
 ·omega
 ·have:=h.toBox hk hb ((hC b).2 rfl)
  rw [hv] at this
  exact ⟨b, ⟨hl, h4⟩, H, fp, this⟩
theorem Has.unboxE {t b m:Nat} {e:TypeId} {s:Nat} {xs:List Value} {O1 O2:Boxes} (hO:O = O1 ++ bx b xs e :: O2) (hd:F.ds = []) (hk:κ t = some (.is (.slice (some ⟨b, 0, none⟩) m m))) (hl:xs.length = m * s) (h4:m ≤ maxLen)
  (h:Has F B O n κ a u):Has F B (O1 ++ O2) n (upd κ t (.own (SlE e s m xs))) a u:=by
 obtain ⟨H, fp, h⟩:=h
 subst hO
 have hb:=(h.boxes (bx b xs e) (by simp)).1
 exact ⟨H, _, h.ofBox (by rw [hd]; simp) ⟨hl, .inr ⟨b, h.slot t _ hk, hb, h4, fun _ => Iff.rfl⟩⟩⟩
theorem z68 (t:Nat) {e:TypeId} {s m:Nat} {xs:List Value} {c:Code} (hm:0 < m) (hk:κ t = some (.own (SlE e s m xs)))
  (h:∀ b, (xs.length = m * s ∧ m ≤ maxLen) → V P F B n (bx b xs e :: O) (upd κ t (.is (.slice (some ⟨b, 0, none⟩) m m))) c Q):V P F B n O κ c Q:=fun a u hh =>
 let ⟨b, h1, h'⟩:=hh.boxE hm hk; h b h1 a u h'
theorem z1n (t:Nat) {b m:Nat} {e:TypeId} {s:Nat} {xs:List Value} (O1:Boxes) {O2:Boxes} {c:Code} (hO:O = O1 ++ bx b xs e :: O2) (hk:κ t = some (.is (.slice (some ⟨b, 0, none⟩) m m))) (hl:xs.length = m * s) (h4:m ≤ maxLen)
  (h:V P F B n (O1 ++ O2) (upd κ t (.own (SlE e s m xs))) c Q) (hd:F.ds = []:=by rfl):V P F B n O κ c Q:=fun a u hh => h a u (hh.unboxE hO hd hk hl h4)
theorem z75 (L:Tabs P) {q:Nat} {tt e e':TypeId} {s m:Nat} {xs:List Value} (hn:Nat.blt d n = true) (hg:gK ops κ ⟨some d, .call ⟨.builtin .len, #[.tmp q], #[tt]⟩, ty, pos, aft, g⟩ = some true) (hx:κ q = some (.own (SlE e' s m xs))) (ht:L.sl tt = some e) :
  StepOK P F B n ops O κ ⟨some d, .call ⟨.builtin .len, #[.tmp q], #[tt]⟩, ty, pos, aft, g⟩ d (.is (.int .i64 m)) :=
 zan rfl (zn hn) hg trivial fun a u H fp en => ⟨_, by
  obtain ⟨⟨_, ⟨rfl, h1, _⟩ | ⟨b, h1, _⟩⟩, _⟩:=en.own_ q _ (by simp [Op.operands, Call.operands]) hx
  ·simp [execOp, resolve, h1, invoke, builtin, Builtin.len_, run_underlying (Tabs.sl_spec ht), goInt]
  ·simp [execOp, resolve, h1, invoke, builtin, Builtin.len_, run_underlying (Tabs.sl_spec ht), goInt], rfl⟩
theorem z77 (L:Tabs P) {q:Nat} {tt e e':TypeId} {s m:Nat} {xs:List Value} (hn:Nat.blt d n = true) (hg:gK ops κ ⟨some d, .call ⟨.builtin .cap, #[.tmp q], #[tt]⟩, ty, pos, aft, g⟩ = some true) (hx:κ q = some (.own (SlE e' s m xs))) (ht:L.sl tt = some e) :
  StepOK P F B n ops O κ ⟨some d, .call ⟨.builtin .cap, #[.tmp q], #[tt]⟩, ty, pos, aft, g⟩ d (.is (.int .i64 m)) :=
 zan rfl (zn hn) hg trivial fun a u H fp en => ⟨_, by
  obtain ⟨⟨_, ⟨rfl, h1, _⟩ | ⟨b, h1, _⟩⟩, _⟩:=en.own_ q _ (by simp [Op.operands, Call.operands]) hx
  ·simp [execOp, resolve, h1, invoke, builtin, Builtin.cap_, run_underlying (Tabs.sl_spec ht), goInt]
  ·simp [execOp, resolve, h1, invoke, builtin, Builtin.cap_, run_underlying (Tabs.sl_spec ht), goInt], rfl⟩
theorem Has.pubE {t:Nat} {e:TypeId} {s m:Nat} {xs:List Value} (hk:κ t = some (.own (SlE e s m xs))) (h:Has F B O n κ a u):Has F B O n (upd κ t (.sat (SlV e s xs m true))) a u:=by
 obtain ⟨H, fp, h⟩:=h
 obtain ⟨⟨hl, hv⟩, hM⟩:=h.slot t _ hk
 rcases hv with ⟨rfl, hv, hC⟩ | ⟨b, hv, hb, h4, hC⟩
 ·have hx:xs = []:=List.eq_nil_of_length_eq_zero (by simpa using hl)
  subst hx
  have h2:=h.name t
  rw [hv] at h2
  have h3:Has F B O n (upd κ t (.is (.slice none 0 0))) a u:=⟨H, fp, h2⟩
  have h4:=h3.seen (t:=t) (SlV e s [] 0 true) (zah _ _ _) SlV.mono ⟨by simp, .inl ⟨rfl, _, rfl⟩⟩
  rw [zbr] at h4
  exact h4
 ·obtain ⟨H', h'⟩:=h.pub (φ:=SlV e s xs m true) hk hb ((hC b).2 rfl) SlV.mono fun H' _ hb' => ⟨hl, .inr ⟨b, 0, m, _, _, (0, 0), hv, hb', by simp, Nat.le_refl _, fun _ => rfl⟩⟩
  exact ⟨H', fp, h'⟩
theorem z2q (t:Nat) {e:TypeId} {s m:Nat} {xs:List Value} {c:Code} (hk:κ t = some (.own (SlE e s m xs))) (h:V P F B n O (upd κ t (.sat (SlV e s xs m true))) c Q):V P F B n O κ c Q:=fun a u hh => h a u (hh.pubE hk)
theorem z5k {α:Type} {f:α → List Value} {s:Nat} (hf:∀ a, (f a).length = s) (l:List α) (k m:Nat) (zs:List Value) (y:α) (hl:l.length = k) (hz:zs.length = (m - k) * s) (hk:k < m) :
  (l.flatMap f ++ zs).take (k * s) ++ (f y ++ (l.flatMap f ++ zs).drop (k * s + s)) = (l ++ [y]).flatMap f ++ zs.drop s:=by
 have h1:(l.flatMap f).length = k * s:=by
  subst hl
  clear hz hk
  induction l with
  | nil => simp
  | cons x l ih => rw [List.flatMap_cons, List.length_append, hf, ih, List.length_cons, Nat.add_mul, Nat.one_mul]; omega
 have h2:s ≤ zs.length:=by rw [hz]; exact Nat.le_mul_of_pos_left _ (by omega)
 rw [← h1, List.take_left', List.drop_append]
 ·rw [List.drop_eq_nil_of_le (by omega), List.nil_append, show (l.flatMap f).length + s - (l.flatMap f).length = s by omega, List.flatMap_append]
  simp
 ·rfl
def z7k (w:World) (r:Res) (v:Value) (H:Heap) (u:World):Prop:=∃ C:Nat → Prop, r.P v H u C ∧ ∀ k, C k → w.heap.size ≤ k ∧ k < u.heap.size ∧ H k = none
def RetO (P:Program) (f:FuncId) (args:List Value) (w:World) (B:Heap) (r:Res):Prop:=RetL P f args w B noL (z7k w r)
theorem zbz (L:Tabs P) {o:Oper} {d f:Nat} {args:Array Operand} {at_:Array TypeId} {cap:List Value} {r:Res} {fo:Operand}
  (hop:o.op = .call { callee:=.value fo, args:=args, argTypes:=at_ }) (hd:o.dst = some d) (hn:d < n) (hg:gK ops κ o = some true)
  (hf:evK κ fo = some (.func (.func f) #[] cap.toArray)) (hfn:L.fn f = some ())
  (h:∀ u H, H.Le (hp u) → B.Le H → Below F.w0.heap.size F.w0 F.w0 → Args κ H args.toList [] (fun vs => RetO P f (vs ++ cap) u H r)) :
  StepOK P F B n ops O κ o d (.own r):=by
 rintro κ' a u hl ⟨H, fp, hh⟩
 unfold After
 rw [if_pos (zae hh hl hg)]
 have e:=hh.env hl
 have hfe:a.eval fo = .func (.func f) #[] cap.toArray:=e.is_ fo _ (by simp [hop, Op.operands, Call.operands]) hf
 have hc:=Args.use e args.toList [] (fun x hx => by simp [hop, Op.operands, Call.operands] at hx ⊢; exact .inr hx) (h u H e.sub e.base (Below.refl _ _))
 simp only [List.reverse_nil, List.nil_append] at hc
 rw [zdp L hop hfe hfn]
 simp only [Upon]
 refine Calls.mono hc fun e' u' hp => ?_
 obtain ⟨v, rfl, H', g', C, hv, hC⟩:=hp
 have h2:=hh.grow g'
 refine ⟨v, rfl, ?_⟩
 simp only [hd]
 refine ⟨H', _, h2.putR (C:=C) (by simp [Act.put]) rfl (fun t ht => zap ht) (by rw [zat (by rw [hh.size]; exact hn)]; exact hv) (fun k hk => ?_) fun t r' _ ht k hf hk => ?_⟩
 ·obtain ⟨h3, h4, h5⟩:=hC k hk
  exact ⟨h4, h5, .inl (Nat.le_trans hh.keep.size h3), fun y hy e => by have:=zaa (hh.boxes y hy).1; omega⟩
 ·have h3:=(hC k hk).1
  have:=((hh.slot t _ ht).2 k hf).1
  omega
theorem zfq {fn:Func} {B0:Heap} {t:Nat} {r:Res} (hrs:fn.results = #[.tmp t]) (hQ:∀ a u, bodyPostM Fence.wide 0 P fn (zff F.w0 B0 F.L (z7k F.w0 r)) .ret a u → Q .ret a u) (hs:Since F B0 B) (hk:κ t = some (.own r)) (hL:F.L = noL:=by rfl) (hm:zzl F.ds = true:=by rfl):V P F B n O κ .ret Q :=
 zua hQ hs (hm:=hm) fun O' a u H fp _ hh => by
  obtain ⟨hown, hM⟩:=hh.slot t _ hk
  refine ⟨a.eval (.tmp t), ?_, fp t, hown, fun k hk => ?_⟩
  ·simp [results, hrs, Act.eval]
  ·obtain ⟨h1, h2, h3, _⟩:=hM k hk
   refine ⟨?_, h1, h2⟩
   rcases h3 with h3 | h3
   ·exact h3
   ·have h3':F.L k:=h3
    rw [hL] at h3'; exact h3'.elim
open Classical in
noncomputable def joinH (H:Heap) (u:World) (C:Nat → Prop):Heap:=fun k => if C k then hp u k else H k
theorem zj1 {H:Heap} {u:World} {C:Nat → Prop} {k:Nat} (h:C k):joinH H u C k = hp u k:=if_pos h
theorem zef {H:Heap} {u:World} {C:Nat → Prop} {k:Nat} (h:¬ C k):joinH H u C k = H k:=if_neg h
theorem zhr {H:Heap} {u:World} {C:Nat → Prop} (h:H.Le (hp u)):(joinH H u C).Le (hp u):=fun k v hv => by
 by_cases hc:C k
 ·rwa [zj1 hc] at hv
 ·rw [zef hc] at hv; exact h _ _ hv
theorem zoe {H:Heap} {u:World} {C:Nat → Prop} (h:∀ k, C k → H k = none):H.Le (joinH H u C):=fun k v hv => by
 by_cases hc:C k
 ·rw [h k hc] at hv; cases hv
 ·rwa [zef hc]
def z7a (r:Res) (φ:Value → Heap → Prop):Prop:=∀ x H u C, r.P x H u C → φ x (joinH H u C)
theorem zob {e:TypeId} {s m:Nat} {xs:List Value}:z7a (SlR e s m xs) (SlV e s xs m false):=fun x H u C ⟨hl, h⟩ => ⟨hl, by
 rcases h with ⟨h0, hv, _⟩ | ⟨b, cap, rest, hv, hb, h3, _, _, hC⟩
 ·exact .inl ⟨h0, _, hv⟩
 ·refine .inr ⟨b, 0, cap, _, _, _, hv, (zj1 ((hC b).2 rfl)).trans hb, by simp, h3, fun h => by cases h⟩⟩
theorem ztu {e:TypeId} {s m:Nat} {xs:List Value}:z7a (SlE e s m xs) (SlV e s xs m true):=fun x H u C ⟨hl, h⟩ => ⟨hl, by
 rcases h with ⟨h0, hv, _⟩ | ⟨b, hv, hb, h3, hC⟩
 ·exact .inl ⟨h0, _, hv⟩
 ·exact .inr ⟨b, 0, m, _, _, _, hv, (zj1 ((hC b).2 rfl)).trans hb, by simp, Nat.le_refl _, fun _ => rfl⟩⟩
def z2b (q:Nat) (l:List Operand):Bool:=l.any fun x => match x with | .tmp t => Nat.beq t q | _ => false
theorem RetO.toRet {P:Program} {f:FuncId} {args:List Value} {w:World} {B:Heap} {r:Res} {φ:Value → Heap → Prop} (h:RetO P f args w B r) (hl:z7a r φ):Ret P f args w B φ :=
 Calls.mono h fun _ u ⟨v, he, H, g, C, h1, h2⟩ => ⟨v, he, joinH H u C, ⟨g.keep, zhr g.sub, fun k x hx => zoe (fun k hk => (h2 k hk).2.2) _ _ (g.le _ _ hx), fun k hk hn => (zef fun hc => by have:=(h2 k hc).1; omega).trans (g.fresh k hk hn)⟩, hl _ _ _ _ h1⟩
theorem zcd {f:FuncId} {fn:Func} {c:Code} {args:List Value} {w:World} {B:Heap} {r:Res} (hf:P.funcs[f]? = some fn) (hb:fn.body = some c) (hn:fn.ntmps = n)
  (hs:args.length ≤ n) (hB:B.Le (hp w)) (h:V P (Fr.pure w) B n [] (ziw 0 args) c (bodyPostM Fence.wide 0 P fn (zff w B noL (z7k w r)))):RetO P f args w B r :=
 zfb hf hb (h _ w ⟨B, fun _ => noL, by subst hn; exact ze9 noL (fun _ h => h.elim) hs hB _⟩)
end
end Go.V
set_option maxRecDepth 20000
namespace Go.V
open Go.RowKit
def zaj (b:Nat) (cs:List Value) (ty:TypeId):Res where
 P _ _ u C:=u.heap[b]? = some (.cells cs.toArray ty) ∧ ∀ k, C k ↔ k = b
 st:=fun ⟨h1, h2⟩ _ _ _ hk => ⟨(hk b ((h2 b).2 rfl)).trans h1, h2⟩
section
variable {P:Program} {F:Fr} {B:Heap} {O:Boxes} {n:Nat} {ops:Array Oper} {κ:Kap} {d:Nat} {ty:TypeId} {pos:String} {aft:Array Edge} {g:Option (Nat × Bool)} {a:Act} {u:World} {H:Heap} {fp:Nat → Nat → Prop} {os:List Oper} {Q:Exit → Act → World → Prop} {ex:Exs}
theorem Has.hold {t q:Nat} {cs:List Value} {ty:TypeId} (hk:κ t = some (.own (Cell cs ty))) (h:Has F B O n κ a u):∃ b, Has F B O n (upd (upd (upd κ t zed) q (.own (zaj b cs ty))) t (.is (.pointer (some ⟨b, 0, none⟩)))) a u:=by
 obtain ⟨H, fp, h⟩:=h
 obtain ⟨⟨b, hv, hb, hC⟩, hM⟩:=h.slot t _ hk
 have h2:=h.usePut (d:=q) (a':=a) (r':=zaj b cs ty) (C:=fp t) hk ⟨Keep.refl _ _, h.sub, Heap.Le.refl _, fun _ _ _ => rfl⟩ rfl rfl (fun _ _ => rfl) ⟨hb, hC⟩ fun k hk => ⟨.inl hk, (hM k hk).1, (hM k hk).2.1⟩
 have h3:=h2.name t
 rw [hv] at h3
 exact ⟨b, H, _, h3⟩
theorem Has.release {t q b:Nat} {cs:List Value} {ty:TypeId} (hk:κ q = some (.own (zaj b cs ty))) (ht:κ t = some (.is (.pointer (some ⟨b, 0, none⟩)))) (h:Has F B O n κ a u):Has F B O n (upd (upd κ q zed) t (.own (Cell cs ty))) a u:=by
 obtain ⟨H, fp, h⟩:=h
 obtain ⟨⟨hb, hC⟩, hM⟩:=h.slot q _ hk
 have hx:a.eval (.tmp t) = .pointer (some ⟨b, 0, none⟩):=h.slot t _ ht
 exact ⟨H, _, h.usePut (d:=t) (a':=a) (r':=Cell cs ty) (C:=fp q) hk ⟨Keep.refl _ _, h.sub, Heap.Le.refl _, fun _ _ _ => rfl⟩ rfl rfl (fun _ _ => rfl) ⟨b, hx, hb, hC⟩ fun k hk => ⟨.inl hk, (hM k hk).1, (hM k hk).2.1⟩⟩
theorem zax (t q:Nat) {cs:List Value} {ty:TypeId} {c:Code} (hk:κ t = some (.own (Cell cs ty))) (h:∀ b, V P F B n O (upd (upd (upd κ t zed) q (.own (zaj b cs ty))) t (.is (.pointer (some ⟨b, 0, none⟩)))) c Q):V P F B n O κ c Q:=fun a u hh => let ⟨b, h'⟩:=hh.hold (q:=q) hk; h b a u h'
theorem zb7 (t q:Nat) {b:Nat} {cs:List Value} {ty:TypeId} {c:Code} (hk:κ q = some (.own (zaj b cs ty))) (ht:κ t = some (.is (.pointer (some ⟨b, 0, none⟩)))) (h:V P F B n O (upd (upd κ q zed) t (.own (Cell cs ty))) c Q):V P F B n O κ c Q:=fun a u hh => h a u (hh.release hk ht)
def StepOKR (P:Program) (F:Fr) (B:Heap) (n:Nat) (ops:Array Oper) (O:Boxes) (κ:Kap) (o:Oper) (q d:Nat) (k:Kn):Prop :=
 ∀ κ' a u, (∀ t ∈ o.looksAt ops, κ' t = κ t) → κ' q = κ q → Has F B O n κ' a u → After P ops o (fun a' u' => Has F B O n (upd κ' d k) a' u') a u
theorem qy {o:Oper} {q d:Nat} {k:Kn} (hs:StepOKR P F B n ops O κ o q d k) (h:VO P F B n O ops (upd κ d k) os Q):VO P F B n O ops κ (o :: os) Q :=
 fun a u hh => After.mono (fun a' u' hh' => h a' u' hh') (hs κ a u (fun _ _ => rfl) rfl hh)
theorem yj {o:Oper} {q d:Nat} {k:Kn} (hs:StepOKR P F B n ops O κ o q d k) (hd:vd o = some d) (he:(exR ex o).contains q = true) (h:Par P F B n O ops ex (upd κ d k) os Q):Par P F B n O ops ex κ (o :: os) Q:=by
 have hm:q ∈ exR ex o:=by simpa using he
 refine ⟨[(d, k)], fun p hp => ?_, fun κ' a u hl hh => hs κ' a u (fun t ht => hl t (List.mem_append_left _ ht)) (hl q (List.mem_append_right _ (List.mem_append_right _ hm))) hh, h⟩
 simp only [List.mem_cons, List.mem_nil_iff, or_false] at hp
 subst hp
 exact List.mem_append_left _ (by simp [hd])
def zou (P:Program) (F:Fr) (B:Heap) (n:Nat) (ops:Array Oper) (O:Boxes) (κ:Kap) (o:Oper) (q:Nat) (k:Kn):Prop :=
 ∀ κ' a u, (∀ t ∈ o.looksAt ops, κ' t = κ t) → κ' q = κ q → Has F B O n κ' a u → After P ops o (fun a' u' => Has F B O n (upd κ' q k) a' u') a u
theorem ym {o:Oper} {q:Nat} {k:Kn} (hs:zou P F B n ops O κ o q k) (h:VO P F B n O ops (upd κ q k) os Q):VO P F B n O ops κ (o :: os) Q :=
 fun a u hh => After.mono (fun a' u' hh' => h a' u' hh') (hs κ a u (fun _ _ => rfl) rfl hh)
theorem zcu {o:Oper} {q:Nat} {k:Kn} (hs:zou P F B n ops O κ o q k) (he:(exO ex o).contains q = true) (h:Par P F B n O ops ex (upd κ q k) os Q):Par P F B n O ops ex κ (o :: os) Q:=by
 have hm:q ∈ exO ex o:=by simpa using he
 refine ⟨[(q, k)], fun p hp => ?_, fun κ' a u hl hh => hs κ' a u (fun t ht => hl t (List.mem_append_left _ ht)) (hl q (List.mem_append_right _ (List.mem_append_left _ hm))) hh, h⟩
 simp only [List.mem_cons, List.mem_nil_iff, or_false] at hp
 subst hp
 exact List.mem_append_right _ hm
theorem z36 {r:Res} {φ:Value → Heap → Prop} {x:Value} (h:z7a r φ):∀ v H u C, (AtV x r).P v H u C → φ x (joinH H u C):=fun _ H u C hp => h x H u C hp
theorem zcj (L:Tabs P) (q:Nat) {r:Res} {Φ:Heap → Prop} {o:Oper} {d f:Nat} {args:Array Operand} {at_:Array TypeId} {cap:List Value} {c:Value} {fo:Operand}
  (hop:o.op = .call { callee:=.value fo, args:=args, argTypes:=at_ }) (hd:o.dst = some d) (hn:d < n) (hg:gK ops κ o = some true)
  (hf:evK κ fo = some (.func (.func f) #[] cap.toArray)) (hfn:L.fn f = some ()) (hq:κ q = some (.own r)) (hm:z2b q o.op.operands.toList = false) (hl:∀ v H u C, r.P v H u C → Φ (joinH H u C))
  (h:∀ u H, H.Le (hp u) → B.Le H → Φ H → Args κ H args.toList [] (fun vs => Ret P f (vs ++ cap) u H (fun v _ => v = c))) :
  StepOKR P F B n ops O κ o q d (.is c):=by
 rintro κ' a u hlk hqk ⟨H, fp, hh⟩
 unfold After
 rw [if_pos (zae hh hlk hg)]
 have e:=hh.env hlk
 have hfe:a.eval fo = .func (.func f) #[] cap.toArray:=e.is_ fo _ (by simp [hop, Op.operands, Call.operands]) hf
 obtain ⟨hown, hM⟩:=hh.slot q _ (hqk.trans hq)
 have hle:H.Le (joinH H u (fp q)):=zoe fun k hk => (hM k hk).2.1
 have hqo:∀ t, Operand.tmp t ∈ o.op.operands → t ≠ q:=fun t ht e => by
  subst e
  have:z2b t o.op.operands.toList = true:=List.any_eq_true.2 ⟨Operand.tmp t, by simpa using ht, Nat.beq_refl t⟩
  rw [this] at hm; cases hm
 have e1:Env F B O κ o a u (joinH H u (fp q)) fp:=by
  refine ⟨e.is_, fun t ψ ht hk => ?_, fun t r' ht hk => ?_, zhr hh.sub, fun k v hv => hle _ _ (hh.base _ _ hv), fun y hy => ?_, hh.keep⟩
  ·have hk':κ' t = some (.sat ψ):=(hlk t (zd5 ht)).trans hk
   exact hh.mono t _ hk' _ _ _ (e.sat_ t ψ ht hk) hle
  ·obtain ⟨h1, h2⟩:=e.own_ t r' ht hk
   have hk':κ' t = some (.own r'):=(hlk t (zd5 ht)).trans hk
   refine ⟨r'.st h1 hle (zhr hh.sub) ⟨rfl, rfl, rfl, Nat.le_refl _, Nat.le_refl _⟩ fun _ _ => rfl, fun k hk2 => ?_⟩
   obtain ⟨g1, g2, g3, g4⟩:=h2 k hk2
   exact ⟨g1, (zef (hh.owns t q r' _ (hqo t ht) hk' (hqk.trans hq) k hk2)).trans g2, g3, g4⟩
  ·obtain ⟨h1, h2, h3⟩:=e.boxes y hy
   exact ⟨h1, (zef fun hc => (hM _ hc).2.2.2 y hy rfl).trans h2, h3⟩
 have hc:=Args.use e1 args.toList [] (fun x hx => by simp [hop, Op.operands, Call.operands] at hx ⊢; exact .inr hx) (h u (joinH H u (fp q)) e1.sub e1.base (hl _ _ _ _ hown))
 simp only [List.reverse_nil, List.nil_append] at hc
 rw [zdp L hop hfe hfn]
 simp only [Upon]
 refine Calls.mono hc fun e' u' hp => ?_
 obtain ⟨v, rfl, H', g', hv⟩:=hp
 refine ⟨v, rfl, ?_⟩
 simp only [hd]
 have g2:Grow noL u H u' H:=⟨g'.keep, fun k x hx => by
  have h1:=hh.sub _ _ hx
  exact (g'.keep.block k (zaa h1) fun h => h).trans h1, Heap.Le.refl _, fun _ _ _ => rfl⟩
 exact ⟨H, fp, (hh.grow g2).put (k:=.is c) hn trivial hv⟩
theorem zf5 (L:Tabs P) {x:Operand} {q b:Nat} {t t':TypeId} {s off:Nat} {cs vs:List Value} (hx:evK κ x = some (.pointer (some ⟨b, off, none⟩))) (hq:κ q = some (.own (zaj b cs t'))) (hn:Nat.blt d n = true) (hg:gK ops κ ⟨some d, .load t x, ty, pos, aft, g⟩ = some true)
  (hl:L.ld t = some (true, s)) (hlen:vs.length = s) (hc:∃ r, cs.drop off = vs ++ r):StepOKR P F B n ops O κ ⟨some d, .load t x, ty, pos, aft, g⟩ q d (.is (.agg vs.toArray)):=by
 rintro κ' a u hlk hqk ⟨H, fp, hh⟩
 unfold After
 rw [if_pos (zae hh hlk hg)]
 have e:=hh.env hlk
 have h1:=e.is_ x _ (by simp [Op.operands]) hx
 obtain ⟨⟨h2, hC⟩, hM⟩:=hh.slot q _ (hqk.trans hq)
 obtain ⟨r, hc⟩:=hc
 have hrun:(execOp a.eval ⟨some d, .load t x, ty, pos, aft, g⟩).run P u = .ok (.value (.agg vs.toArray)) u:=by
  simp only [execOp, h1, Instr.loadAt, Instr.sureAddr, Sem.run_bind, Sem.run_pure, Result.andThen_ok]
  rw [zcg (Tabs.ld_spec hl) u _ vs hlen (fun j v hj => by
   have h3:cs[off + j]? = some v:=by
    have:=congrArg (·[j]?) hc
    simp only [List.getElem?_drop] at this
    rw [this, List.getElem?_append_left (by
     rcases Nat.lt_or_ge j vs.length with h | h
     ·exact h
     ·rw [List.getElem?_eq_none h] at hj; cases hj)]
    exact hj
   show u.cell? (Addr.add ⟨b, off, none⟩ j) = some v
   have:Addr.add ⟨b, off, none⟩ j = ⟨b, off + j, none⟩:=by simp [Addr.add]
   rw [this, zas h2]; simpa using h3)]
  rfl
 rw [hrun]
 simp only [Upon]
 exact ⟨H, fp, hh.put (k:=.is (.agg vs.toArray)) (zn hn) trivial rfl⟩
theorem ql (L:Tabs P) {x:Operand} {q b:Nat} {t t':TypeId} {s off:Nat} {cs r:List Value} {v:Value} (hx:evK κ x = some (.pointer (some ⟨b, off, none⟩))) (hq:κ q = some (.own (zaj b cs t'))) (hn:Nat.blt d n = true) (hg:gK ops κ ⟨some d, .load t x, ty, pos, aft, g⟩ = some true)
  (hl:L.ld t = some (false, s)) (hc:cs.drop off = v :: r):StepOKR P F B n ops O κ ⟨some d, .load t x, ty, pos, aft, g⟩ q d (.is v):=by
 rintro κ' a u hlk hqk ⟨H, fp, hh⟩
 unfold After
 rw [if_pos (zae hh hlk hg)]
 have e:=hh.env hlk
 have h1:=e.is_ x _ (by simp [Op.operands]) hx
 obtain ⟨⟨h2, hC⟩, hM⟩:=hh.slot q _ (hqk.trans hq)
 have h3:cs[off]? = some v:=by
  have:=congrArg (·[0]?) hc
  simpa using this
 have hrun:(execOp a.eval ⟨some d, .load t x, ty, pos, aft, g⟩).run P u = .ok (.value v) u:=by
  simp only [execOp, h1, Instr.loadAt, Instr.sureAddr, Sem.run_bind, Sem.run_pure, Result.andThen_ok]
  rw [zde (Tabs.ld_spec hl) u _ v (by rw [zas h2]; simpa using h3)]
  rfl
 rw [hrun]
 simp only [Upon]
 exact ⟨H, fp, hh.put (k:=.is v) (zn hn) trivial rfl⟩
theorem yf (L:Tabs P) {t t':TypeId} {ag:Bool} {z b off q:Nat} {p x:Operand} {v:Value} {cs cs':List Value} (hg:gK ops κ ⟨none, .store t p x, ty, pos, aft, g⟩ = some true) (hp:evK κ p = some (.pointer (some ⟨b, off, none⟩))) (hq:κ q = some (.own (zaj b cs t'))) (hx:evK κ x = some v)
  (hl:L.ld t = some (ag, z)) (hlen:(za5 v).length = z) (hcs:Nat.ble (off + z) cs.length = true) (hpl:(za5 v).all zdv = true) (hr:cs.take off ++ (za5 v ++ cs.drop (off + z)) = cs') :
  zou P F B n ops O κ ⟨none, .store t p x, ty, pos, aft, g⟩ q (.own (zaj b cs' t')):=by
 rintro κ' a u hlk hqk ⟨H, fp, hh⟩
 subst hr
 unfold After
 rw [if_pos (zae hh hlk hg)]
 have e:=hh.env hlk
 have hev:=e.is_ x v (by simp [Op.operands]) hx
 have hes:=e.is_ p _ (by simp [Op.operands]) hp
 have hqs:=hqk.trans hq
 obtain ⟨⟨hb, hC⟩, hM⟩:=hh.slot q _ hqs
 have hrun:(execOp a.eval ⟨none, .store t p x, ty, pos, aft, g⟩).run P u = .ok .skip (u.setRow b (cs.take off ++ (za5 v ++ cs.drop (off + z))).toArray):=by
  simp only [execOp, hes, hev, Instr.storeAt, Instr.sureAddr, Sem.run_bind, Sem.run_pure, Result.andThen_ok]
  have:=zdd (P:=P) (off:=off) (Tabs.ld_spec hl) hb hlen (Nat.le_of_ble_eq_true hcs) hpl
  rw [this]
  simp
 rw [hrun]
 simp only [Upon, Act.put]
 have hset:=setRow_heap u b cs.toArray (cs.take off ++ (za5 v ++ cs.drop (off + z))).toArray t' (0, 0) hb
 have hbm:=hM b ((hC b).2 rfl)
 have:=hh.usePut (d:=q) (a':=a) (r':=zaj b (cs.take off ++ (za5 v ++ cs.drop (off + z))) t') (C:=fun k => k = b) hqs (zdl hh.sub hb ((hC b).2 rfl) hbm.2.1 _) rfl rfl (fun _ _ => rfl) ⟨hset, fun _ => Iff.rfl⟩ (fun k hk => by
  subst hk; exact ⟨.inl ((hC k).2 rfl), by rw [setRow_size]; exact hbm.1, hbm.2.1⟩)
 rw [zbr] at this
 exact ⟨H, _, this⟩
theorem z4q (t q:Nat) {e:TypeId} {s m:Nat} {xs:List Value} {c:Code} (hm:0 < m) (hk:κ t = some (.own (SlE e s m xs)))
  (h:∀ b, xs.length = m * s → V P F B n O (upd (upd (upd κ t zed) q (.own (zaj b xs e))) t (.is (.slice (some ⟨b, 0, none⟩) m m))) c Q):V P F B n O κ c Q:=fun a u hh => by
 obtain ⟨H, fp, hh⟩:=hh
 obtain ⟨⟨hl, hv⟩, hM⟩:=hh.slot t _ hk
 rcases hv with ⟨h0, _, _⟩ | ⟨b, hv, hb, h4, hC⟩
 ·omega
 ·have h2:=hh.usePut (d:=q) (a':=a) (r':=zaj b xs e) (C:=fp t) hk ⟨Keep.refl _ _, hh.sub, Heap.Le.refl _, fun _ _ _ => rfl⟩ rfl rfl (fun _ _ => rfl) ⟨hb, hC⟩ fun k hk => ⟨.inl hk, (hM k hk).1, (hM k hk).2.1⟩
  have h3:=h2.name t
  rw [hv] at h3
  exact h b hl a u ⟨H, _, h3⟩
theorem zmn (L:Tabs P) {t e:TypeId} {x y:Operand} {s by_ m:Nat} {news:List Value} (hn:Nat.blt d n = true) (hg:gK ops κ ⟨some d, .call ⟨.builtin .append, #[x, y], #[t, t]⟩, ty, pos, aft, g⟩ = some true)
  (hx:evK κ x = some (.slice none 0 0)) (hy:Apd F B O κ y m news) (ht:L.sl t = some e) (he:elI P e = some (s, by_)) (hl:news.length = m * s) (h1:news.all zdv = true) (hb:m * by_ ≤ 140737488355328) (h63:m ≤ 9223372036854775807) :
  StepOK P F B n ops O κ ⟨some d, .call ⟨.builtin .append, #[x, y], #[t, t]⟩, ty, pos, aft, g⟩ d (.own (SlR e s m news)):=by
 rintro κ' a u hlk ⟨H, fp, hh⟩
 unfold After
 rw [if_pos (zae hh hlk hg)]
 have en:=hh.env hlk
 obtain ⟨i, z, hi, hz, hs1, hs2, hs3, hs4⟩:=zer he
 have hxe:=en.is_ x _ (by simp [Op.operands, Call.operands]) hx
 obtain ⟨x', u', C', hr, hown', hgr, hC'⟩:=zze (C:=noL) (xs:=[]) (nn:=0) (x:=.slice none 0 0) u (aty:=ty) (Tabs.sl_spec ht) hi hz hs1 hs2 hs3 hs4 hh.sub ⟨by simp, .inl ⟨rfl, rfl, fun _ h => h⟩⟩ (fun k hk => hk.elim) (hy _ a u H fp (by simp [Op.operands, Call.operands]) en) hl (fun v hv => zky (List.all_eq_true.1 h1 v hv)) (by omega) (by rw [Nat.zero_add]; exact hb)
 rw [Nat.zero_add, List.nil_append] at hown'
 have hrun:(execOp a.eval ⟨some d, .call ⟨.builtin .append, #[x, y], #[t, t]⟩, ty, pos, aft, g⟩).run P u = .ok (.value x') u':=by
  simp only [execOp, resolve, invoke, builtin, Sem.run_bind, Sem.run_pure, Result.andThen_ok, List.map_toArray, List.map_cons, List.map_nil, hxe, hr]
 rw [hrun]
 simp only [Upon]
 have h2:=hh.grow hgr
 refine ⟨H, _, h2.putR (C:=C') (by simp [Act.put]) rfl (fun t ht => zap ht) (by rw [zat (by rw [hh.size]; exact zn hn)]; exact hown') (fun k hk => ?_) fun t r' _ ht k hf hk => ?_⟩
 ·obtain ⟨h3, h4, h5⟩:=hC' k hk
  have h3':u.heap.size ≤ k:=h3.resolve_left fun h => h
  exact ⟨h4, h5, .inl (Nat.le_trans hh.keep.size h3'), fun y hy e => by have:=zaa (hh.boxes y hy).1; omega⟩
 ·have h3':u.heap.size ≤ k:=(hC' k hk).1.resolve_left fun h => h
  have:=((hh.slot t _ ht).2 k hf).1
  omega
end
end Go.V
set_option maxRecDepth 20000
namespace Go.V
open Go.Proofs Go.RowKit
section
variable {α:Type} [Inhabited α] {enc:α → List Value} {k:Nat}
end
section
variable {P:Program} {F:Fr} {B:Heap} {O:Boxes} {n:Nat} {ops:Array Oper} {κ:Kap} {ty:TypeId} {pos:String} {aft:Array Edge} {g:Option (Nat × Bool)}
end
end Go.V
set_option maxRecDepth 20000
namespace Go.V
open Go.Proofs Go.RowKit
def z88 (w:World) (C:Nat → Prop) (r:Res) (v:Value) (H:Heap) (u:World):Prop:=∃ C':Nat → Prop, r.P v H u C' ∧ ∀ k, C' k → (C k ∨ w.heap.size ≤ k) ∧ k < u.heap.size ∧ H k = none
def RetT (P:Program) (f:FuncId) (args:List Value) (w:World) (B:Heap) (C:Nat → Prop) (r:Res):Prop:=RetL P f args w B C (z88 w C r)
section
variable {P:Program} {F:Fr} {B:Heap} {O:Boxes} {n:Nat} {ops:Array Oper} {κ:Kap} {d:Nat} {ty:TypeId} {pos:String} {aft:Array Edge} {g:Option (Nat × Bool)} {a:Act} {u:World} {H:Heap} {fp:Nat → Nat → Prop} {Q:Exit → Act → World → Prop}
theorem z63 {fn:Func} {B0:Heap} {t:Nat} {r:Res} (hrs:fn.results = #[.tmp t]) (hQ:∀ a u, bodyPostM Fence.wide 0 P fn (zff F.w0 B0 F.L (z88 F.w0 F.L r)) .ret a u → Q .ret a u) (hs:Since F B0 B) (hk:κ t = some (.own r)) (hm:zzl F.ds = true:=by rfl):V P F B n O κ .ret Q :=
 zua hQ hs (hm:=hm) fun O' a u H fp _ hh => by
  obtain ⟨hown, hM⟩:=hh.slot t _ hk
  refine ⟨a.eval (.tmp t), ?_, fp t, hown, fun k hk => ?_⟩
  ·simp [results, hrs, Act.eval]
  ·obtain ⟨h1, h2, h3, _⟩:=hM k hk
   exact ⟨h3.symm, h1, h2⟩
theorem z4p (t q:Nat) {e:TypeId} {s m:Nat} {xs:List Value} {c:Code} (hk:κ t = some (.own (SlR e s m xs)))
  (h0:m = 0 → xs = [] → V P F B n O (upd κ t (.is (.slice none 0 0))) c Q)
  (h:∀ b cap rest, xs.length = m * s → m ≤ cap → cap ≤ maxLen → (xs ++ rest).length = cap * s → V P F B n O (upd (upd (upd κ t zed) q (.own (zaj b (xs ++ rest) e))) t (.is (.slice (some ⟨b, 0, none⟩) m cap))) c Q):V P F B n O κ c Q:=fun a u hh => by
 obtain ⟨H, fp, hh⟩:=hh
 obtain ⟨⟨hl, hv⟩, hM⟩:=hh.slot t _ hk
 rcases hv with ⟨hm, hv, _⟩ | ⟨b, cap, rest, hv, hb, h3, h4, h5, hC⟩
 ·have h3:=hh.name t
  rw [hv] at h3
  subst hm
  exact h0 rfl (List.eq_nil_of_length_eq_zero (by simpa using hl)) a u ⟨H, _, h3⟩
 ·have h2:=hh.usePut (d:=q) (a':=a) (r':=zaj b (xs ++ rest) e) (C:=fp t) hk ⟨Keep.refl _ _, hh.sub, Heap.Le.refl _, fun _ _ _ => rfl⟩ rfl rfl (fun _ _ => rfl) ⟨hb, hC⟩ fun k hk => ⟨.inl hk, (hM k hk).1, (hM k hk).2.1⟩
  have h3':=h2.name t
  rw [hv] at h3'
  exact h b cap rest hl h3 h4 h5 a u ⟨H, _, h3'⟩
theorem zvq (t q:Nat) {b m cap:Nat} {e:TypeId} {s:Nat} {xs rest cs:List Value} {c:Code} (hcs:cs = xs ++ rest) (hk:κ q = some (.own (zaj b cs e))) (ht:κ t = some (.is (.slice (some ⟨b, 0, none⟩) m cap))) (hl:xs.length = m * s) (hm:m ≤ cap) (hc:cap ≤ maxLen) (hcl:cs.length = cap * s)
  (h:V P F B n O (upd (upd κ q zed) t (.own (SlR e s m xs))) c Q):V P F B n O κ c Q:=fun a u hh => by
 subst hcs
 obtain ⟨H, fp, hh⟩:=hh
 obtain ⟨⟨hb, hC⟩, hM⟩:=hh.slot q _ hk
 have hx:a.eval (.tmp t) = .slice (some ⟨b, 0, none⟩) m cap:=hh.slot t _ ht
 exact h a u ⟨H, _, hh.usePut (d:=t) (a':=a) (r':=SlR e s m xs) (C:=fp q) hk ⟨Keep.refl _ _, hh.sub, Heap.Le.refl _, fun _ _ _ => rfl⟩ rfl rfl (fun _ _ => rfl) ⟨hl, .inr ⟨b, cap, rest, hx, hb, hm, hc, hcl, hC⟩⟩ fun k hk => ⟨.inl hk, (hM k hk).1, (hM k hk).2.1⟩⟩
theorem zxj {t t':TypeId} {x y:Operand} {k k2:IntKind} {p q r:Int} (hn:Nat.blt d n = true) (hg:gK ops κ ⟨some d, .binOp .shr t x y t', ty, pos, aft, g⟩ = some true) (hx:evK κ x = some (.int k p)) (hy:evK κ y = some (.int k2 q)) (h0:0 ≤ q) (hb:p.fdiv (2 ^ min q.toNat k.bits) = r) :
  StepOK P F B n ops O κ ⟨some d, .binOp .shr t x y t', ty, pos, aft, g⟩ d (.is (.int k r)):=zb4 hn hg hx hy fun u => by subst hb; simp [eqGuard_shr, binOp_shr, Op.shift, Int.not_lt.2 h0]
theorem zgs (L:Tabs P) {t e:TypeId} {ag:Bool} {s:Nat} {z:Value} (hn:Nat.blt d n = true) (hg:gK ops κ ⟨some d, .buildSlice t 0 #[], ty, pos, aft, g⟩ = some true) (ht:L.sl t = some e) (hl:L.ld e = some (ag, s)) (hz:L.zr e = some z) :
  StepOK P F B n ops O κ ⟨some d, .buildSlice t 0 #[], ty, pos, aft, g⟩ d (.own (SlR e s 0 [])):=by
 rintro κ' a u hlk ⟨H, fp, hh⟩
 unfold After
 rw [if_pos (zae hh hlk hg)]
 have hrun:(execOp a.eval ⟨some d, .buildSlice t 0 #[], ty, pos, aft, g⟩).run P u = .ok (.value (.slice (some ⟨u.heap.size, 0, none⟩) 0 0)) (u.alloc (.cells #[] e)):=by
  have hzz:=Tabs.zr_spec hz
  unfold zrI at hzz
  split at hzz
  ·rename_i it hit
   have hzr:(zeroValue e).run P u = .ok z u:=by simp [zeroValue, typeInfo, hit, hzz]
   simp only [execOp, Sem.run_bind]
   have e0:(Array.map (fun x:Nat × Operand => (x.1, a.eval x.2)) #[]) = (#[]:Array (Nat × Value)):=by simp
   rw [e0]
   have hfill:Instr.fill (fun i => some (i * s, s)) #[] [] = some #[]:=by simp [Instr.fill]
   simp only [Instr.buildSlice, Sem.run_bind, run_underlying (Tabs.sl_spec ht), Result.andThen_ok, zbe (Tabs.ld_spec hl)]
   simp only [Nat.zero_mul, if_true, Sem.run_pure, Result.andThen_ok]
   have e1:(Array.range 0).map (fun _:Nat => (default:Value)) = #[]:=by simp
   simp [newRow, hfill, e1]
  ·cases hzz
 rw [hrun]
 simp only [Upon]
 have hg2:=hh.grow (Grow.hid hh.sub (.cells #[] e))
 refine ⟨H, _, hg2.putR (C:=fun k => k = u.heap.size) (by simp [Act.put]) rfl (fun t ht => zap ht) ⟨by simp, .inr ⟨u.heap.size, 0, [], zat (by rw [hh.size]; exact zn hn), zak _ _, Nat.le_refl _, by simp [maxLen], by simp, fun _ => Iff.rfl⟩⟩ (fun k hk => ?_) fun t r' _ ht k hf hk => ?_⟩
 ·subst hk
  exact ⟨zaa (zak u _), za8 hh.sub (Nat.le_refl _), .inl hh.keep.size, fun y hy e => by have:=zaa (hh.boxes y hy).1; omega⟩
 ·have:=((hh.slot t _ ht).2 k hf).1
  omega
end
end Go.V
set_option maxRecDepth 20000
namespace Go.V
open Go.Proofs Go.RowKit
section
variable {P:Program} {F:Fr} {B:Heap} {O:Boxes} {n:Nat} {ops:Array Oper} {κ:Kap} {d:Nat} {ty:TypeId} {pos:String} {aft:Array Edge} {g:Option (Nat × Bool)} {a:Act} {u:World} {H:Heap} {fp:Nat → Nat → Prop} {Q:Exit → Act → World → Prop}
end
end Go.V
set_option maxRecDepth 20000
namespace Go.V
open Go.Proofs Go.RowKit
section
variable {P:Program} {F:Fr} {B:Heap} {O:Boxes} {n:Nat} {ops:Array Oper} {κ:Kap} {d:Nat} {ty:TypeId} {pos:String} {aft:Array Edge} {g:Option (Nat × Bool)}
theorem z5y {t t':TypeId} {x y:Operand} {k:IntKind} {p q r:Int} (hn:Nat.blt d n = true) (hg:gK ops κ ⟨some d, .binOp .and t x y t', ty, pos, aft, g⟩ = some true) (hx:evK κ x = some (.int k p)) (hy:evK κ y = some (.int k q)) (hb:bits .and k p q = r) :
  StepOK P F B n ops O κ ⟨some d, .binOp .and t x y t', ty, pos, aft, g⟩ d (.is (.int k r)):=zb4 hn hg hx hy fun u => by subst hb; simp [eqGuard_and, binOp_and, intBits_and]
end
end Go.V
set_option maxRecDepth 20000
namespace Go.V
open Go.Proofs Go.RowKit
section
variable {P:Program} {F:Fr} {B:Heap} {O:Boxes} {n:Nat} {ops:Array Oper} {κ:Kap} {d:Nat} {ty:TypeId} {pos:String} {aft:Array Edge} {g:Option (Nat × Bool)}
theorem z74 {t t':TypeId} {x y:Operand} {k:IntKind} {p q r:Int} (hn:Nat.blt d n = true) (hg:gK ops κ ⟨some d, .binOp .or t x y t', ty, pos, aft, g⟩ = some true) (hx:evK κ x = some (.int k p)) (hy:evK κ y = some (.int k q)) (hb:bits .or k p q = r) :
  StepOK P F B n ops O κ ⟨some d, .binOp .or t x y t', ty, pos, aft, g⟩ d (.is (.int k r)):=zb4 hn hg hx hy fun u => by subst hb; simp [eqGuard_or, binOp_or, intBits_or]
end
theorem z4l {m:Nat} (h:m ≤ 255):bits .and .u8 m 127 = ((m % 128:Nat):Int):=by
 have:∀ x:Fin 256, bits .and .u8 (x.val:Int) 127 = ((x.val % 128:Nat):Int):=by decide +kernel
 exact this ⟨m, by omega⟩
theorem z2a {a b i:Nat} (ha:a < 2 ^ i):a ||| (b * 2 ^ i) = a + b * 2 ^ i:=by
 rw [Nat.or_comm, ← Nat.shiftLeft_eq, ← Nat.shiftLeft_add_eq_or_of_lt ha]
 omega
end Go.V
set_option maxRecDepth 20000
namespace Go.V
open Go.RowKit
def okB (c:UInt8):Bool:=(97 ≤ c && c ≤ 122) || (48 ≤ c && c ≤ 57)
def chk (s:ByteArray):Int:=if 1 ≤ s.size ∧ s.size ≤ 16 ∧ s.data.toList.all okB = true then 0 else 6
theorem zbl (s:ByteArray):chk s = 0 ∨ chk s = 6:=by unfold chk; split <;> simp
theorem zse {s:ByteArray} (h:¬ (1 ≤ s.size ∧ s.size ≤ 16)):chk s = 6:=by
 unfold chk; rw [if_neg]; intro h'; exact h ⟨h'.1, h'.2.1⟩
theorem zy8 {s:ByteArray} (h1:1 ≤ s.size) (h2:s.size ≤ 16) (h:s.data.toList.all okB = true):chk s = 0:=by
 unfold chk; rw [if_pos ⟨h1, h2, h⟩]
theorem zm0 {s:ByteArray} {k:Nat} {c:UInt8} (hc:s[k]? = some c) (h:okB c = false):chk s = 6:=by
 unfold chk; rw [if_neg]
 rintro ⟨_, _, hall⟩
 have hm:c ∈ s.data.toList:=by
  have:s.data[k]? = some c:=hc
  exact Array.mem_toList_iff.2 (Array.mem_of_getElem? this)
 rw [List.all_eq_true] at hall
 rw [hall c hm] at h; cases h
theorem getElem?_lt {s:ByteArray} {k:Nat} (h:k < s.size):∃ c, s[k]? = some c:=⟨s[k], by rw [getElem?_pos]⟩
theorem zjo {s:ByteArray} {k:Nat} {c:UInt8} (hc:s[k]? = some c) (h:okB c = true) (ha:(s.data.toList.take k).all okB = true):(s.data.toList.take (k + 1)).all okB = true:=by
 have hd:s.data.toList[k]? = some c:=by
  have:s.data[k]? = some c:=hc
  simpa using this
 rw [List.take_add_one, hd]
 simp [List.all_append, ha, h]
theorem za6 (s:ByteArray):s.data.toList.length = s.size:=by rw [Array.length_toList]; rfl
theorem zt7 {s:ByteArray} {k:Nat} (h:s.size ≤ k) (ha:(s.data.toList.take k).all okB = true):s.data.toList.all okB = true:=by
 rwa [List.take_of_length_le (by rw [za6]; exact h)] at ha
theorem z2x (c:UInt8):(c.toNat:Int) < 256:=by have:=c.toNat_lt; omega
theorem z55 {c:UInt8} (h1:(c.toNat:Int) < 97) (h2:(c.toNat:Int) < 48):okB c = false:=by
 simp [okB, UInt8.le_iff_toNat_le]; omega
theorem z54 {c:UInt8} (h1:(c.toNat:Int) < 97) (h2:57 < (c.toNat:Int)):okB c = false:=by
 simp [okB, UInt8.le_iff_toNat_le]; omega
theorem z52 {c:UInt8} (h1:122 < (c.toNat:Int)):okB c = false:=by
 simp [okB, UInt8.le_iff_toNat_le]; omega
theorem z50 {c:UInt8} (h1:¬ (c.toNat:Int) < 97) (h2:¬ 122 < (c.toNat:Int)):okB c = true:=by
 simp [okB, UInt8.le_iff_toNat_le]; omega
theorem z5z {c:UInt8} (h1:¬ (c.toNat:Int) < 48) (h2:¬ 57 < (c.toNat:Int)):okB c = true:=by
 simp [okB, UInt8.le_iff_toNat_le]; omega
theorem z13 {vs:List Value} {j:Nat} {v:Value} (h:vs[j]? = some v):(vs.drop (j * 1)).take 1 = [v]:=by
 obtain ⟨hl, he⟩:=List.getElem?_eq_some_iff.1 h
 rw [Nat.mul_one, List.drop_eq_getElem_cons hl, he]
 rfl
theorem z15 {l:List ByteArray} {j:Nat} {s:ByteArray} (h:l[j]? = some s):((l.map Value.string).drop (j * 1)).take 1 = [.string s]:=z13 (by simp [h])
end Go.V
namespace Go.V
open Go.Proofs
set_option maxRecDepth 100000
theorem mixed:Tryz.prog.follows .mixedOrders = true:=by kernel_rfl
def ldL:List (Nat × (Bool × Nat)):=[(1, (false, 1)), (2, (false, 1)), (3, (false, 1)), (4, (false, 1)), (5, (false, 1)), (6, (false, 1)), (7, (true, 4)), (8, (true, 4)), (9, (false, 1)), (10, (false, 1)), 
  (11, (false, 1)), (12, (false, 1)), (13, (true, 2)), (14, (true, 2)), (15, (false, 1)), (16, (false, 1)), (17, (false, 1)), (18, (true, 1)), (19, (true, 1)), (20, (false, 1)), 
  (21, (false, 1)), (22, (false, 1)), (23, (true, 1)), (24, (true, 1)), (25, (false, 1)), (26, (true, 1)), (27, (true, 1)), (28, (true, 2)), (29, (true, 2)), (30, (true, 3)), 
  (31, (true, 3)), (32, (true, 3)), (33, (true, 6)), (34, (true, 6)), (35, (false, 1)), (36, (false, 1)), (37, (false, 1)), (38, (false, 1)), (39, (false, 1)), (40, (false, 1)), 
  (41, (true, 7)), (42, (true, 7)), (43, (false, 1)), (45, (false, 1)), (46, (false, 1)), (48, (false, 1)), (49, (false, 1)), (51, (false, 1)), (53, (false, 1)), (54, (false, 1)), 
  (55, (false, 1)), (56, (false, 1)), (58, (false, 1)), (59, (false, 1)), (60, (false, 1)), (61, (false, 1)), (62, (false, 1)), (63, (false, 1)), (64, (true, 2)), (65, (true, 5)), 
  (66, (true, 5)), (67, (false, 1)), (68, (false, 1)), (69, (false, 1)), (70, (false, 1)), (71, (false, 1)), (73, (false, 1)), (74, (false, 1)), (76, (false, 1)), (78, (false, 1)), 
  (79, (false, 1)), (80, (false, 1)), (81, (true, 2)), (82, (true, 2)), (83, (false, 1)), (84, (false, 1)), (85, (false, 1)), (86, (true, 2)), (87, (true, 2)), (88, (true, 2)), 
  (89, (true, 2)), (90, (true, 4)), (91, (true, 4)), (93, (false, 1)), (94, (false, 1)), (96, (false, 1)), (97, (false, 1)), (98, (false, 1)), (99, (false, 1)), (101, (false, 1)), 
  (102, (false, 1)), (104, (false, 1)), (105, (false, 1)), (107, (false, 1)), (108, (false, 1)), (109, (false, 1)), (110, (false, 1)), (111, (true, 2)), (112, (true, 2)), 
  (113, (false, 1)), (114, (false, 1)), (115, (false, 1)), (116, (false, 1)), (117, (false, 1)), (118, (true, 1)), (119, (true, 1)), (120, (false, 1)), (121, (false, 1)), 
  (122, (false, 1)), (123, (false, 1)), (124, (true, 2)), (125, (true, 2)), (126, (true, 3)), (127, (true, 3)), (128, (false, 1)), (129, (false, 1)), (131, (false, 1)), 
  (132, (false, 1)), (133, (false, 1)), (134, (false, 1)), (135, (true, 3)), (136, (false, 1)), (137, (false, 1)), (138, (false, 1)), (139, (false, 1)), (140, (false, 1)), 
  (141, (false, 1)), (142, (false, 1)), (143, (false, 1)), (144, (false, 1)), (145, (false, 1)), (146, (false, 1)), (148, (false, 1)), (149, (false, 1)), (150, (false, 1)), 
  (152, (false, 1)), (153, (false, 1)), (154, (false, 1)), (155, (false, 1)), (156, (true, 2)), (157, (true, 2)), (158, (false, 1)), (159, (false, 1)), (160, (false, 1)), 
  (161, (false, 1)), (163, (false, 1)), (164, (false, 1)), (165, (true, 4)), (166, (true, 4)), (168, (false, 1)), (169, (false, 1)), (170, (true, 3)), (171, (true, 3)), 
  (172, (false, 1)), (174, (false, 1)), (176, (false, 1)), (177, (false, 1)), (178, (true, 1)), (179, (true, 1)), (180, (false, 1)), (181, (false, 1)), (182, (false, 1)), 
  (183, (false, 1)), (184, (false, 1)), (185, (false, 1)), (186, (false, 1)), (188, (false, 1)), (189, (false, 1)), (190, (false, 1)), (191, (false, 1)), (192, (false, 1)), 
  (193, (false, 1)), (194, (false, 1)), (195, (true, 0)), (197, (false, 1)), (198, (false, 1)), (200, (false, 1)), (201, (false, 1)), (202, (false, 1)), (203, (false, 1)), 
  (204, (true, 4)), (205, (true, 4)), (207, (false, 1)), (208, (false, 1)), (209, (false, 1)), (210, (false, 1)), (211, (false, 1)), (212, (false, 1)), (213, (false, 1)), 
  (214, (false, 1)), (215, (false, 1)), (216, (true, 1)), (217, (true, 1)), (218, (true, 5)), (219, (true, 5)), (220, (true, 2)), (221, (true, 2)), (222, (false, 1)), 
  (223, (false, 1)), (225, (false, 1)), (226, (false, 1)), (227, (true, 2)), (228, (true, 2)), (229, (false, 1)), (230, (false, 1)), (232, (false, 1)), (233, (false, 1)), 
  (234, (false, 1)), (235, (false, 1)), (236, (false, 1)), (237, (false, 1)), (238, (false, 1)), (239, (false, 1)), (240, (false, 1)), (242, (false, 1)), (244, (false, 1)), 
  (245, (false, 1)), (247, (false, 1)), (249, (false, 1)), (251, (true, 2)), (252, (true, 2)), (254, (false, 1)), (255, (true, 4)), (256, (true, 4)), (257, (false, 1)), 
  (258, (false, 1)), (259, (false, 1)), (261, (false, 1)), (262, (false, 1)), (263, (true, 2)), (264, (true, 2)), (265, (false, 1)), (266, (false, 1)), (267, (false, 1)), 
  (269, (false, 1)), (270, (false, 1)), (271, (false, 1)), (272, (false, 1)), (273, (false, 1)), (274, (false, 1)), (276, (false, 1)), (277, (false, 1)), (278, (false, 1)), 
  (279, (false, 1)), (280, (false, 1)), (281, (false, 1)), (282, (false, 1)), (283, (false, 1)), (284, (false, 1)), (285, (false, 1)), (286, (false, 1)), (287, (false, 1)), 
  (288, (false, 1)), (289, (false, 1)), (290, (false, 1)), (291, (false, 1)), (292, (true, 6)), (293, (true, 6)), (294, (false, 1)), (295, (false, 1)), (296, (false, 1)), 
  (298, (false, 1)), (299, (false, 1)), (300, (false, 1)), (301, (false, 1)), (302, (false, 1)), (303, (false, 1)), (304, (false, 1)), (305, (false, 1)), (307, (false, 1)), 
  (309, (false, 1)), (311, (false, 1)), (313, (false, 1)), (314, (false, 1)), (315, (false, 1)), (316, (false, 1)), (317, (false, 1)), (318, (false, 1)), (319, (false, 1)), 
  (320, (false, 1)), (321, (false, 1)), (322, (false, 1)), (323, (false, 1)), (325, (false, 1)), (326, (false, 1)), (327, (false, 1)), (328, (false, 1)), (329, (false, 1)), 
  (330, (false, 1)), (331, (false, 1)), (332, (false, 1)), (333, (false, 1)), (334, (false, 1)), (335, (false, 1)), (336, (false, 1)), (338, (false, 1)), (339, (false, 1)), 
  (340, (false, 1)), (341, (false, 1)), (342, (false, 1)), (343, (false, 1)), (344, (false, 1)), (345, (false, 1)), (346, (false, 1)), (347, (false, 1)), (348, (false, 1)), 
  (349, (false, 1)), (350, (false, 1)), (351, (true, 10)), (352, (true, 10)), (353, (false, 1)), (354, (false, 1)), (355, (false, 1)), (356, (false, 1)), (357, (false, 1)), 
  (359, (false, 1)), (360, (false, 1)), (361, (true, 7)), (362, (true, 7)), (364, (false, 1)), (365, (false, 1)), (367, (false, 1)), (368, (false, 1)), (369, (false, 1)), 
  (370, (false, 1)), (371, (false, 1)), (372, (false, 1)), (373, (false, 1)), (374, (false, 1)), (375, (false, 1)), (376, (false, 1)), (377, (false, 1)), (378, (false, 1)), 
  (379, (false, 1)), (381, (false, 1)), (382, (false, 1)), (383, (false, 1)), (384, (false, 1)), (385, (false, 1)), (386, (false, 1)), (387, (false, 1)), (388, (false, 1)), 
  (389, (false, 1)), (390, (false, 1)), (391, (false, 1)), (392, (false, 1)), (393, (false, 1)), (395, (false, 1)), (396, (false, 1)), (397, (false, 1)), (398, (false, 1)), 
  (399, (false, 1)), (400, (false, 1)), (401, (false, 1)), (402, (false, 1)), (403, (false, 1)), (404, (false, 1)), (405, (false, 1)), (406, (false, 1)), (407, (false, 1)), 
  (408, (false, 1)), (409, (false, 1)), (411, (false, 1)), (412, (false, 1)), (413, (false, 1)), (414, (true, 4)), (415, (true, 4)), (416, (true, 0)), (417, (true, 0)), 
  (418, (true, 0)), (419, (false, 1)), (420, (false, 1)), (421, (false, 1)), (422, (false, 1)), (423, (false, 1)), (424, (true, 11)), (425, (true, 11))]
def slL:List (Nat × Nat):=[(22, 64), (25, 135), (35, 9), (37, 34), (39, 42), (61, 66), (62, 5), (74, 171), (108, 63), (109, 91), (110, 264), (117, 219), (123, 221), (133, 3), (223, 362), (290, 293)]
def stL:List (Nat × Unit):=[(9, ()), (10, ()), (11, ())]
def foL:List ((Nat × Nat) × Nat):=[((7, 0), 0), ((7, 1), 1), ((7, 2), 2), ((7, 3), 3), ((8, 0), 0), ((8, 1), 1), ((8, 2), 2), ((8, 3), 3), ((13, 0), 0), ((13, 1), 1), ((14, 0), 0), ((14, 1), 1), ((18, 0), 0), 
  ((19, 0), 0), ((23, 0), 0), ((24, 0), 0), ((26, 0), 0), ((27, 0), 0), ((28, 0), 0), ((28, 1), 1), ((29, 0), 0), ((29, 1), 1), ((30, 0), 0), ((30, 1), 2), ((31, 0), 0), ((31, 1), 2), 
  ((32, 0), 0), ((32, 1), 2), ((33, 0), 0), ((33, 1), 3), ((34, 0), 0), ((34, 1), 3), ((41, 0), 0), ((41, 1), 6), ((42, 0), 0), ((42, 1), 6), ((65, 0), 0), ((65, 1), 1), ((65, 2), 2), 
  ((65, 3), 4), ((66, 0), 0), ((66, 1), 1), ((66, 2), 2), ((66, 3), 4), ((81, 0), 0), ((81, 1), 1), ((82, 0), 0), ((82, 1), 1), ((86, 0), 0), ((86, 1), 1), ((87, 0), 0), ((87, 1), 1), 
  ((88, 0), 0), ((89, 0), 0), ((90, 0), 0), ((90, 1), 2), ((91, 0), 0), ((91, 1), 2), ((111, 0), 0), ((111, 1), 1), ((112, 0), 0), ((112, 1), 1), ((118, 0), 0), ((119, 0), 0), 
  ((124, 0), 0), ((124, 1), 1), ((125, 0), 0), ((125, 1), 1), ((126, 0), 0), ((126, 1), 1), ((127, 0), 0), ((127, 1), 1), ((156, 0), 0), ((156, 1), 1), ((157, 0), 0), ((157, 1), 1), 
  ((165, 0), 0), ((165, 1), 1), ((165, 2), 2), ((165, 3), 3), ((166, 0), 0), ((166, 1), 1), ((166, 2), 2), ((166, 3), 3), ((170, 0), 0), ((170, 1), 1), ((170, 2), 2), ((171, 0), 0), 
  ((171, 1), 1), ((171, 2), 2), ((178, 0), 0), ((179, 0), 0), ((204, 0), 0), ((204, 1), 1), ((204, 2), 2), ((205, 0), 0), ((205, 1), 1), ((205, 2), 2), ((216, 0), 0), ((217, 0), 0), 
  ((218, 0), 0), ((218, 1), 1), ((218, 2), 2), ((218, 3), 3), ((218, 4), 4), ((219, 0), 0), ((219, 1), 1), ((219, 2), 2), ((219, 3), 3), ((219, 4), 4), ((220, 0), 0), ((220, 1), 1), 
  ((221, 0), 0), ((221, 1), 1), ((227, 0), 0), ((227, 1), 1), ((228, 0), 0), ((228, 1), 1), ((251, 0), 0), ((251, 1), 1), ((252, 0), 0), ((252, 1), 1), ((255, 0), 0), ((255, 1), 1), 
  ((255, 2), 2), ((255, 3), 3), ((256, 0), 0), ((256, 1), 1), ((256, 2), 2), ((256, 3), 3), ((263, 0), 0), ((263, 1), 1), ((264, 0), 0), ((264, 1), 1), ((292, 0), 0), ((293, 0), 0), 
  ((351, 0), 0), ((351, 1), 6), ((351, 2), 7), ((351, 3), 8), ((351, 4), 9), ((352, 0), 0), ((352, 1), 6), ((352, 2), 7), ((352, 3), 8), ((352, 4), 9), ((361, 0), 0), ((361, 1), 6), 
  ((362, 0), 0), ((362, 1), 6), ((414, 0), 0), ((414, 1), 1), ((414, 2), 2), ((414, 3), 3), ((415, 0), 0), ((415, 1), 1), ((415, 2), 2), ((415, 3), 3), ((424, 0), 0), ((424, 1), 1), 
  ((424, 2), 2), ((424, 3), 3), ((424, 4), 4), ((424, 5), 5), ((424, 6), 6), ((424, 7), 7), ((424, 8), 8), ((424, 9), 9), ((424, 10), 10), ((425, 0), 0), ((425, 1), 1), ((425, 2), 2), 
  ((425, 3), 3), ((425, 4), 4), ((425, 5), 5), ((425, 6), 6), ((425, 7), 7), ((425, 8), 8), ((425, 9), 9), ((425, 10), 10)]
def zrL:List (Nat × Value):=[(1, .nilFunc), (2, .int .i64 0), (3, .int .i64 0), (4, .bool false), (5, .int .u8 0), (6, .int .u8 0), (7, .agg #[.int .i64 0, .int .i64 0, .bool false, .int .u8 0]), 
  (8, .agg #[.int .i64 0, .int .i64 0, .bool false, .int .u8 0]), (9, .string ⟨#[]⟩), (10, .string ⟨#[]⟩), (11, .string ⟨#[]⟩), (12, .int .u64 0), 
  (13, .agg #[.string ⟨#[]⟩, .int .u64 0]), (14, .agg #[.string ⟨#[]⟩, .int .u64 0]), (15, .pointer none), (16, .pointer none), (17, .pointer none), (18, .agg #[.pointer none]), 
  (19, .agg #[.pointer none]), (20, .nilIface), (21, .int .i32 0), (22, .slice none 0 0), (23, .agg #[.slice none 0 0]), (24, .agg #[.slice none 0 0]), (25, .slice none 0 0), 
  (26, .agg #[.slice none 0 0]), (27, .agg #[.slice none 0 0]), (28, .agg #[.string ⟨#[]⟩, .string ⟨#[]⟩]), (29, .agg #[.string ⟨#[]⟩, .string ⟨#[]⟩]), 
  (30, .agg #[.string ⟨#[]⟩, .string ⟨#[]⟩, .string ⟨#[]⟩]), (31, .agg #[.string ⟨#[]⟩, .string ⟨#[]⟩, .string ⟨#[]⟩]), (32, .agg #[.string ⟨#[]⟩, .string ⟨#[]⟩, .string ⟨#[]⟩]), 
  (33, .agg #[.string ⟨#[]⟩, .string ⟨#[]⟩, .string ⟨#[]⟩, .string ⟨#[]⟩, .string ⟨#[]⟩, .string ⟨#[]⟩]), 
  (34, .agg #[.string ⟨#[]⟩, .string ⟨#[]⟩, .string ⟨#[]⟩, .string ⟨#[]⟩, .string ⟨#[]⟩, .string ⟨#[]⟩]), (35, .slice none 0 0), (36, .nilFunc), (37, .slice none 0 0), (38, .nilFunc), 
  (39, .slice none 0 0), (40, .nilFunc), (41, .agg #[.string ⟨#[]⟩, .string ⟨#[]⟩, .string ⟨#[]⟩, .string ⟨#[]⟩, .string ⟨#[]⟩, .string ⟨#[]⟩, .bool false]), 
  (42, .agg #[.string ⟨#[]⟩, .string ⟨#[]⟩, .string ⟨#[]⟩, .string ⟨#[]⟩, .string ⟨#[]⟩, .string ⟨#[]⟩, .bool false]), (43, .int .i64 0), (45, .nilFunc), (46, .nilFunc), 
  (48, .nilFunc), (49, .nilFunc), (51, .nilFunc), (53, .nilFunc), (54, .nilFunc), (55, .nilFunc), (56, .nilFunc), (58, .nilFunc), (59, .nilFunc), (60, .nilFunc), 
  (61, .slice none 0 0), (62, .slice none 0 0), (63, .int .u64 0), (64, .agg #[.int .u8 0, .int .u8 0]), 
  (65, .agg #[.int .u8 0, .int .u64 0, .int .u8 0, .int .u8 0, .slice none 0 0]), (66, .agg #[.int .u8 0, .int .u64 0, .int .u8 0, .int .u8 0, .slice none 0 0]), (67, .nilFunc), 
  (68, .nilFunc), (69, .nilFunc), (70, .nilFunc), (71, .pointer none), (73, .nilFunc), (74, .slice none 0 0), (76, .nilFunc), (78, .nilFunc), (79, .nilFunc), (80, .nilFunc), 
  (81, .agg #[.slice none 0 0, .slice none 0 0]), (82, .agg #[.slice none 0 0, .slice none 0 0]), (83, .int .u16 0), (84, .nilFunc), (85, .pointer none), 
  (86, .agg #[.nilFunc, .pointer none]), (87, .agg #[.nilFunc, .pointer none]), (88, .agg #[.nilFunc, .pointer none]), (89, .agg #[.nilFunc, .pointer none]), 
  (90, .agg #[.nilFunc, .pointer none, .nilFunc, .pointer none]), (91, .agg #[.nilFunc, .pointer none, .nilFunc, .pointer none]), (93, .nilFunc), (94, .nilFunc), (96, .nilFunc), 
  (97, .nilFunc), (98, .nilFunc), (99, .nilFunc), (101, .nilFunc), (102, .nilFunc), (104, .nilFunc), (105, .nilFunc), (107, .nilFunc), (108, .slice none 0 0), (109, .slice none 0 0), 
  (110, .slice none 0 0), (111, .agg #[.slice none 0 0, .int .i64 0]), (112, .agg #[.slice none 0 0, .int .i64 0]), (113, .nilFunc), (114, .nilFunc), (115, .nilFunc), (116, .nilFunc), 
  (117, .slice none 0 0), (118, .agg #[.slice none 0 0]), (119, .agg #[.slice none 0 0]), (120, .pointer none), (121, .nilFunc), (122, .nilFunc), (123, .slice none 0 0), 
  (124, .agg #[.slice none 0 0, .slice none 0 0]), (125, .agg #[.slice none 0 0, .slice none 0 0]), (126, .agg #[.pointer none, .slice none 0 0, .slice none 0 0]), 
  (127, .agg #[.pointer none, .slice none 0 0, .slice none 0 0]), (128, .nilFunc), (129, .nilFunc), (131, .nilFunc), (132, .nilFunc), (133, .slice none 0 0), (134, .nilFunc), 
  (135, .agg #[.int .u8 0, .int .u8 0, .int .u8 0]), (136, .nilFunc), (137, .nilFunc), (138, .nilFunc), (139, .nilFunc), (140, .nilFunc), (141, .nilFunc), (142, .nilFunc), 
  (143, .nilFunc), (144, .nilFunc), (145, .nilFunc), (146, .nilFunc), (148, .nilFunc), (149, .nilFunc), (150, .nilFunc), (152, .nilFunc), (153, .pointer none), (154, .pointer none), 
  (155, .nilFunc), (156, .agg #[.pointer none, .int .i64 0]), (157, .agg #[.pointer none, .int .i64 0]), (158, .nilFunc), (159, .nilFunc), (160, .nilFunc), (161, .nilFunc), 
  (163, .nilFunc), (164, .nilFunc), (165, .agg #[.slice none 0 0, .int .i64 0, .int .i64 0, .int .i64 0]), (166, .agg #[.slice none 0 0, .int .i64 0, .int .i64 0, .int .i64 0]), 
  (168, .nilFunc), (169, .nilFunc), (170, .agg #[.int .u64 0, .int .i64 0, .slice none 0 0]), (171, .agg #[.int .u64 0, .int .i64 0, .slice none 0 0]), (172, .nilFunc), 
  (174, .nilFunc), (176, .nilFunc), (177, .nilFunc), (178, .agg #[.slice none 0 0]), (179, .agg #[.slice none 0 0]), (180, .nilFunc), (181, .nilFunc), (182, .nilFunc), 
  (183, .nilFunc), (184, .nilFunc), (185, .nilFunc), (186, .nilFunc), (188, .nilFunc), (189, .nilFunc), (190, .nilFunc), (191, .nilFunc), (192, .nilFunc), (193, .nilFunc), 
  (194, .nilFunc), (195, .agg #[]), (197, .nilFunc), (198, .nilFunc), (200, .nilFunc), (201, .nilFunc), (202, .nilFunc), (203, .map none), 
  (204, .agg #[.int .u64 0, .map none, .slice none 0 0, .int .i64 0]), (205, .agg #[.int .u64 0, .map none, .slice none 0 0, .int .i64 0]), (207, .nilFunc), (208, .nilFunc), 
  (209, .nilFunc), (210, .nilFunc), (211, .nilFunc), (212, .nilFunc), (213, .nilFunc), (214, .nilFunc), (215, .nilFunc), (216, .agg #[.slice none 0 0]), 
  (217, .agg #[.slice none 0 0]), (218, .agg #[.int .u8 0, .slice none 0 0, .slice none 0 0, .int .u8 0, .int .i64 0]), 
  (219, .agg #[.int .u8 0, .slice none 0 0, .slice none 0 0, .int .u8 0, .int .i64 0]), (220, .agg #[.bool false, .slice none 0 0]), (221, .agg #[.bool false, .slice none 0 0]), 
  (222, .nilFunc), (223, .slice none 0 0), (225, .nilFunc), (226, .pointer none), (227, .agg #[.pointer none, .slice none 0 0]), (228, .agg #[.pointer none, .slice none 0 0]), 
  (229, .nilIface), (230, .nilIface), (232, .nilFunc), (233, .nilFunc), (234, .nilFunc), (235, .nilFunc), (236, .nilFunc), (237, .nilFunc), (238, .nilFunc), (239, .nilFunc), 
  (240, .nilFunc), (242, .nilFunc), (244, .nilFunc), (245, .nilFunc), (247, .nilFunc), (249, .nilFunc), (251, .agg #[.int .i64 0, .int .i64 0]), 
  (252, .agg #[.int .i64 0, .int .i64 0]), (254, .nilFunc), (255, .agg #[.slice none 0 0, .int .i64 0, .int .i64 0, .int .i64 0]), 
  (256, .agg #[.slice none 0 0, .int .i64 0, .int .i64 0, .int .i64 0]), (257, .nilFunc), (258, .nilFunc), (259, .nilFunc), (261, .nilFunc), (262, .nilFunc), 
  (263, .agg #[.int .u64 0, .int .i64 0]), (264, .agg #[.int .u64 0, .int .i64 0]), (265, .nilFunc), (266, .nilFunc), (267, .nilFunc), (269, .nilFunc), (270, .nilFunc), 
  (271, .nilFunc), (272, .nilFunc), (273, .pointer none), (274, .int .u64 0), (276, .nilFunc), (277, .nilFunc), (278, .nilFunc), (279, .nilFunc), (280, .nilFunc), (281, .nilFunc), 
  (282, .nilFunc), (283, .nilFunc), (284, .nilFunc), (285, .nilFunc), (286, .nilFunc), (287, .nilFunc), (288, .nilFunc), (289, .nilFunc), (290, .slice none 0 0), (291, .nilFunc), 
  (292, .agg #[.string ⟨#[]⟩, .string ⟨#[]⟩, .string ⟨#[]⟩, .string ⟨#[]⟩, .string ⟨#[]⟩, .string ⟨#[]⟩]), 
  (293, .agg #[.string ⟨#[]⟩, .string ⟨#[]⟩, .string ⟨#[]⟩, .string ⟨#[]⟩, .string ⟨#[]⟩, .string ⟨#[]⟩]), (294, .nilFunc), (295, .nilFunc), (296, .nilFunc), (298, .nilFunc), 
  (299, .nilFunc), (300, .nilFunc), (301, .nilFunc), (302, .nilFunc), (303, .nilFunc), (304, .nilFunc), (305, .nilFunc), (307, .nilFunc), (309, .nilFunc), (311, .nilFunc), 
  (313, .nilFunc), (314, .nilFunc), (315, .nilFunc), (316, .nilFunc), (317, .nilFunc), (318, .pointer none), (319, .nilFunc), (320, .nilFunc), (321, .nilFunc), (322, .nilFunc), 
  (323, .nilFunc), (325, .nilFunc), (326, .nilFunc), (327, .nilFunc), (328, .nilFunc), (329, .nilFunc), (330, .nilFunc), (331, .nilFunc), (332, .nilFunc), (333, .nilFunc), 
  (334, .nilFunc), (335, .nilFunc), (336, .nilFunc), (338, .nilFunc), (339, .nilFunc), (340, .nilFunc), (341, .nilFunc), (342, .nilFunc), (343, .nilFunc), (344, .nilFunc), 
  (345, .nilFunc), (346, .nilFunc), (347, .nilFunc), (348, .nilFunc), (349, .nilFunc), (350, .nilFunc), 
  (351, .agg #[.string ⟨#[]⟩, .string ⟨#[]⟩, .string ⟨#[]⟩, .string ⟨#[]⟩, .string ⟨#[]⟩, .string ⟨#[]⟩, .pointer none, .pointer none, .int .i64 0, .int .i64 0]), 
  (352, .agg #[.string ⟨#[]⟩, .string ⟨#[]⟩, .string ⟨#[]⟩, .string ⟨#[]⟩, .string ⟨#[]⟩, .string ⟨#[]⟩, .pointer none, .pointer none, .int .i64 0, .int .i64 0]), (353, .nilFunc), 
  (354, .nilFunc), (355, .nilFunc), (356, .nilFunc), (357, .nilFunc), (359, .nilFunc), (360, .nilFunc), 
  (361, .agg #[.string ⟨#[]⟩, .string ⟨#[]⟩, .string ⟨#[]⟩, .string ⟨#[]⟩, .string ⟨#[]⟩, .string ⟨#[]⟩, .bool false]), 
  (362, .agg #[.string ⟨#[]⟩, .string ⟨#[]⟩, .string ⟨#[]⟩, .string ⟨#[]⟩, .string ⟨#[]⟩, .string ⟨#[]⟩, .bool false]), (364, .nilFunc), (365, .nilFunc), (367, .nilFunc), 
  (368, .nilFunc), (369, .nilFunc), (370, .nilFunc), (371, .nilFunc), (372, .nilFunc), (374, .nilFunc), (375, .nilFunc), (376, .nilFunc), (377, .nilFunc), (378, .nilFunc), 
  (379, .int .i64 0), (381, .nilFunc), (382, .nilFunc), (383, .nilFunc), (384, .nilFunc), (385, .nilFunc), (386, .nilFunc), (387, .int .u32 0), (388, .nilFunc), (389, .nilFunc), 
  (390, .nilFunc), (391, .nilFunc), (392, .nilFunc), (393, .nilFunc), (395, .nilFunc), (396, .nilFunc), (397, .nilFunc), (398, .nilFunc), (399, .nilFunc), (400, .nilFunc), 
  (401, .nilFunc), (402, .int .u64 0), (403, .nilFunc), (404, .nilFunc), (405, .pointer none), (406, .nilFunc), (407, .nilFunc), (408, .nilFunc), (409, .nilFunc), (411, .nilFunc), 
  (412, .pointer none), (413, .nilFunc), (414, .agg #[.pointer none, .pointer none, .pointer none, .string ⟨#[]⟩]), 
  (415, .agg #[.pointer none, .pointer none, .pointer none, .string ⟨#[]⟩]), (416, .agg #[]), (417, .agg #[]), (418, .agg #[]), (419, .int .u8 0), (420, .int .u8 0), (421, .nilFunc), 
  (422, .int .i32 0), (423, .int .i32 0), 
  (424, .agg #[.int .u64 0, .int .u64 0, .int .u32 0, .int .u8 0, .int .u8 0, .int .u8 0, .int .u8 0, .nilFunc, .pointer none, .int .i32 0, .int .i32 0]), 
  (425, .agg #[.int .u64 0, .int .u64 0, .int .u32 0, .int .u8 0, .int .u8 0, .int .u8 0, .int .u8 0, .nilFunc, .pointer none, .int .i32 0, .int .i32 0])]
def fnL:List (Nat × Unit):=[(3, ()), (4, ()), (5, ()), (6, ()), (7, ()), (8, ()), (9, ()), (10, ()), (11, ()), (12, ()), (13, ()), (14, ()), (15, ()), (16, ()), (17, ()), (18, ()), (19, ()), (20, ()), 
  (21, ()), (22, ()), (23, ()), (24, ()), (25, ()), (26, ()), (27, ()), (28, ()), (29, ()), (30, ()), (31, ()), (32, ()), (33, ()), (34, ()), (35, ()), (36, ()), (37, ()), (38, ()), 
  (39, ()), (40, ()), (41, ()), (42, ()), (43, ()), (44, ()), (45, ()), (46, ()), (47, ()), (48, ()), (49, ()), (50, ()), (51, ()), (52, ()), (53, ()), (54, ()), (55, ()), (56, ()), 
  (57, ()), (58, ()), (59, ()), (60, ()), (61, ()), (62, ()), (63, ()), (64, ()), (65, ()), (66, ()), (67, ()), (68, ()), (69, ()), (70, ()), (71, ()), (72, ()), (73, ()), (74, ()), 
  (75, ()), (76, ()), (77, ()), (78, ()), (79, ()), (80, ()), (81, ()), (82, ()), (83, ()), (84, ()), (85, ()), (86, ()), (87, ()), (88, ()), (89, ()), (90, ()), (91, ()), (92, ()), 
  (93, ()), (94, ()), (95, ()), (96, ()), (97, ()), (98, ()), (99, ()), (100, ()), (101, ()), (102, ()), (103, ()), (104, ()), (105, ()), (106, ()), (107, ()), (108, ()), (109, ()), 
  (110, ()), (111, ()), (112, ()), (113, ()), (114, ()), (115, ()), (116, ()), (117, ()), (118, ()), (119, ()), (120, ()), (121, ()), (122, ()), (123, ()), (124, ()), (125, ()), 
  (126, ()), (127, ()), (128, ()), (129, ()), (130, ()), (131, ()), (132, ()), (133, ()), (134, ()), (135, ()), (136, ()), (137, ()), (138, ()), (139, ()), (140, ()), (141, ()), 
  (142, ()), (143, ()), (144, ()), (145, ()), (146, ()), (147, ()), (148, ()), (149, ()), (150, ()), (151, ()), (152, ()), (153, ()), (154, ()), (155, ()), (156, ()), (157, ()), 
  (158, ()), (159, ()), (160, ()), (161, ()), (162, ()), (163, ()), (164, ()), (165, ()), (166, ()), (167, ()), (168, ()), (169, ()), (170, ()), (171, ()), (172, ()), (173, ()), 
  (174, ()), (175, ()), (176, ()), (177, ()), (178, ()), (179, ()), (180, ()), (181, ()), (182, ()), (183, ()), (184, ()), (185, ()), (186, ()), (187, ()), (188, ()), (189, ()), 
  (190, ()), (191, ()), (192, ()), (193, ()), (194, ()), (195, ()), (196, ()), (197, ()), (198, ()), (199, ()), (202, ()), (203, ()), (204, ()), (205, ()), (206, ()), (207, ()), 
  (208, ()), (209, ()), (210, ()), (211, ()), (212, ()), (213, ()), (215, ()), (216, ()), (217, ()), (218, ()), (219, ()), (220, ()), (221, ()), (222, ()), (223, ()), (224, ()), 
  (225, ()), (226, ()), (227, ()), (228, ()), (229, ()), (230, ()), (231, ()), (232, ()), (233, ()), (234, ()), (235, ()), (236, ()), (237, ()), (238, ()), (239, ()), (240, ()), 
  (241, ()), (242, ()), (243, ()), (244, ()), (245, ()), (246, ()), (247, ()), (248, ()), (249, ()), (250, ()), (251, ()), (252, ()), (253, ()), (254, ()), (256, ()), (257, ()), 
  (258, ()), (261, ()), (262, ()), (263, ()), (264, ()), (265, ()), (266, ()), (267, ()), (268, ()), (269, ()), (270, ()), (271, ()), (272, ()), (273, ()), (274, ()), (275, ()), 
  (276, ()), (277, ()), (278, ()), (279, ()), (280, ()), (281, ()), (282, ()), (283, ()), (284, ()), (285, ()), (287, ()), (288, ()), (289, ()), (290, ()), (291, ()), (292, ()), 
  (293, ()), (294, ()), (295, ()), (296, ()), (297, ()), (302, ()), (304, ()), (305, ()), (306, ()), (307, ()), (308, ()), (309, ()), (310, ()), (311, ()), (313, ()), (314, ()), 
  (317, ()), (318, ()), (319, ())]
theorem z6f:ldL.all (fun p => ldI Tryz.prog p.1 == some p.2) = true:=by kernel_rfl
theorem z5i:slL.all (fun p => slI Tryz.prog p.1 == some p.2) = true:=by kernel_rfl
theorem z5g:stL.all (fun p => stI Tryz.prog p.1 == some p.2) = true:=by kernel_rfl
theorem z6k:foL.all (fun p => foI Tryz.prog p.1 == some p.2) = true:=by kernel_rfl
theorem z43:zrL.map (fun p => zrI Tryz.prog p.1) = zrL.map (fun p => some p.2):=by kernel_rfl
theorem z6l : fnL.all (fun p => match Tryz.prog.funcs[p.1]? with | some fn => fn.body.isSome && fn.name != "runtime.NumGoroutine" | none => false) = true := by kernel_rfl
def L:Tabs Tryz.prog:=⟨ldL, slL, stL, foL, zrL, fnL, z6f, z5i, z5g, z6k, z43, z6l⟩
theorem el5:elI Tryz.prog 5 = some (1, 1):=by kernel_rfl
theorem el9:elI Tryz.prog 9 = some (1, 16):=by kernel_rfl
theorem z4d:elI Tryz.prog 34 = some (6, 96):=by kernel_rfl
theorem z8e:elI Tryz.prog 42 = some (7, 104):=by kernel_rfl
theorem z8d:elI Tryz.prog 63 = some (1, 8):=by kernel_rfl
theorem z9p:elI Tryz.prog 91 = some (4, 32):=by kernel_rfl
theorem z6o:elI Tryz.prog 293 = some (6, 104):=by kernel_rfl
theorem z8x:PL Tryz.prog 29 [(0, 1), (1, 1)] [.string ⟨#[]⟩, .string ⟨#[]⟩]:=⟨by kernel_rfl, .agg #[.string ⟨#[]⟩, .string ⟨#[]⟩], by kernel_rfl, rfl⟩
theorem z7w:PL Tryz.prog 31 [(0, 2), (2, 1)] [.string ⟨#[]⟩, .string ⟨#[]⟩, .string ⟨#[]⟩]:=⟨by kernel_rfl, .agg #[.string ⟨#[]⟩, .string ⟨#[]⟩, .string ⟨#[]⟩], by kernel_rfl, rfl⟩
theorem z8w:PL Tryz.prog 32 [(0, 2), (2, 1)] [.string ⟨#[]⟩, .string ⟨#[]⟩, .string ⟨#[]⟩]:=⟨by kernel_rfl, .agg #[.string ⟨#[]⟩, .string ⟨#[]⟩, .string ⟨#[]⟩], by kernel_rfl, rfl⟩
theorem z7v:PL Tryz.prog 34 [(0, 3), (3, 3)] [.string ⟨#[]⟩, .string ⟨#[]⟩, .string ⟨#[]⟩, .string ⟨#[]⟩, .string ⟨#[]⟩, .string ⟨#[]⟩]:=⟨by kernel_rfl, .agg #[.string ⟨#[]⟩, .string ⟨#[]⟩, .string ⟨#[]⟩, .string ⟨#[]⟩, .string ⟨#[]⟩, .string ⟨#[]⟩], by kernel_rfl, rfl⟩
theorem z8v:PL Tryz.prog 42 [(0, 6), (6, 1)] [.string ⟨#[]⟩, .string ⟨#[]⟩, .string ⟨#[]⟩, .string ⟨#[]⟩, .string ⟨#[]⟩, .string ⟨#[]⟩, .bool false]:=⟨by kernel_rfl, .agg #[.string ⟨#[]⟩, .string ⟨#[]⟩, .string ⟨#[]⟩, .string ⟨#[]⟩, .string ⟨#[]⟩, .string ⟨#[]⟩, .bool false], by kernel_rfl, rfl⟩
theorem z8u:PL Tryz.prog 64 [(0, 1), (1, 1)] [.int .u8 0, .int .u8 0]:=⟨by kernel_rfl, .agg #[.int .u8 0, .int .u8 0], by kernel_rfl, rfl⟩
theorem z9h:PL Tryz.prog 87 [(0, 1), (1, 1)] [.nilFunc, .pointer none]:=⟨by kernel_rfl, .agg #[.nilFunc, .pointer none], by kernel_rfl, rfl⟩
theorem z9g:PL Tryz.prog 89 [(0, 2)] [.nilFunc, .pointer none]:=⟨by kernel_rfl, .agg #[.nilFunc, .pointer none], by kernel_rfl, rfl⟩
theorem z7t:PL Tryz.prog 91 [(0, 2), (2, 2)] [.nilFunc, .pointer none, .nilFunc, .pointer none]:=⟨by kernel_rfl, .agg #[.nilFunc, .pointer none, .nilFunc, .pointer none], by kernel_rfl, rfl⟩
theorem z73:PL Tryz.prog 157 [(0, 1), (1, 1)] [.pointer none, .int .i64 0]:=⟨by kernel_rfl, .agg #[.pointer none, .int .i64 0], by kernel_rfl, rfl⟩
theorem z71:PL Tryz.prog 166 [(0, 1), (1, 1), (2, 1), (3, 1)] [.slice none 0 0, .int .i64 0, .int .i64 0, .int .i64 0]:=⟨by kernel_rfl, .agg #[.slice none 0 0, .int .i64 0, .int .i64 0, .int .i64 0], by kernel_rfl, rfl⟩
theorem z5t:PL Tryz.prog 195 [] []:=⟨by kernel_rfl, .agg #[], by kernel_rfl, rfl⟩
theorem z7z:PL Tryz.prog 205 [(0, 1), (1, 1), (2, 2)] [.int .u64 0, .map none, .slice none 0 0, .int .i64 0]:=⟨by kernel_rfl, .agg #[.int .u64 0, .map none, .slice none 0 0, .int .i64 0], by kernel_rfl, rfl⟩
theorem z7y:PL Tryz.prog 252 [(0, 1), (1, 1)] [.int .i64 0, .int .i64 0]:=⟨by kernel_rfl, .agg #[.int .i64 0, .int .i64 0], by kernel_rfl, rfl⟩
theorem z7x:PL Tryz.prog 256 [(0, 1), (1, 1), (2, 1), (3, 1)] [.slice none 0 0, .int .i64 0, .int .i64 0, .int .i64 0]:=⟨by kernel_rfl, .agg #[.slice none 0 0, .int .i64 0, .int .i64 0, .int .i64 0], by kernel_rfl, rfl⟩
theorem z5s:PL Tryz.prog 293 [(0, 6), (6, 0)] [.string ⟨#[]⟩, .string ⟨#[]⟩, .string ⟨#[]⟩, .string ⟨#[]⟩, .string ⟨#[]⟩, .string ⟨#[]⟩]:=⟨by kernel_rfl, .agg #[.string ⟨#[]⟩, .string ⟨#[]⟩, .string ⟨#[]⟩, .string ⟨#[]⟩, .string ⟨#[]⟩, .string ⟨#[]⟩], by kernel_rfl, rfl⟩
theorem z7u:PL Tryz.prog 352 [(0, 6), (6, 1), (7, 1), (8, 1), (9, 1)] [.string ⟨#[]⟩, .string ⟨#[]⟩, .string ⟨#[]⟩, .string ⟨#[]⟩, .string ⟨#[]⟩, .string ⟨#[]⟩, .pointer none, .pointer none, .int .i64 0, .int .i64 0]:=⟨by kernel_rfl, .agg #[.string ⟨#[]⟩, .string ⟨#[]⟩, .string ⟨#[]⟩, .string ⟨#[]⟩, .string ⟨#[]⟩, .string ⟨#[]⟩, .pointer none, .pointer none, .int .i64 0, .int .i64 0], by kernel_rfl, rfl⟩
theorem bt4:Tryz.prog.underlying 4 = some .bool:=by kernel_rfl
theorem z9o:EqT Tryz.prog 29 [0, 0]:=⟨by kernel_rfl, by kernel_rfl, by kernel_rfl⟩
theorem z83:EqT Tryz.prog 31 [0, 0, 0]:=⟨by kernel_rfl, by kernel_rfl, by kernel_rfl⟩
theorem z8c:EqT Tryz.prog 34 [0, 0, 0, 0, 0, 0]:=⟨by kernel_rfl, by kernel_rfl, by kernel_rfl⟩
theorem z80:nkI Tryz.prog 39 = some 1:=by kernel_rfl
theorem z8z:nkI Tryz.prog 62 = some 1:=by kernel_rfl
theorem z8y:nkI Tryz.prog 71 = some 0:=by kernel_rfl
theorem z9i:nkI Tryz.prog 84 = some 3:=by kernel_rfl
theorem z78:nkI Tryz.prog 85 = some 0:=by kernel_rfl
theorem z0r:nkI Tryz.prog 154 = some 0:=by kernel_rfl
theorem z57:nkI Tryz.prog 226 = some 0:=by kernel_rfl
theorem z31:nkI Tryz.prog 273 = some 0:=by kernel_rfl
theorem zcb:(Tryz.prog.underlying 3).isSome = true ∧ ikI Tryz.prog 63 = some .u64:=⟨by kernel_rfl, by kernel_rfl⟩
theorem ziv:(Tryz.prog.underlying 3).isSome = true ∧ ikI Tryz.prog 274 = some .u64:=⟨by kernel_rfl, by kernel_rfl⟩
theorem z09:(Tryz.prog.underlying 5).isSome = true ∧ ikI Tryz.prog 3 = some .i64:=⟨by kernel_rfl, by kernel_rfl⟩
theorem zdi:(Tryz.prog.underlying 5).isSome = true ∧ ikI Tryz.prog 63 = some .u64:=⟨by kernel_rfl, by kernel_rfl⟩
theorem zt0:(Tryz.prog.underlying 63).isSome = true ∧ ikI Tryz.prog 3 = some .i64:=⟨by kernel_rfl, by kernel_rfl⟩
theorem zi8:(Tryz.prog.underlying 63).isSome = true ∧ ikI Tryz.prog 5 = some .u8:=⟨by kernel_rfl, by kernel_rfl⟩
theorem z2j:(Tryz.prog.underlying 83).isSome = true ∧ ikI Tryz.prog 3 = some .i64:=⟨by kernel_rfl, by kernel_rfl⟩
theorem zon:(Tryz.prog.underlying 274).isSome = true ∧ ikI Tryz.prog 3 = some .i64:=⟨by kernel_rfl, by kernel_rfl⟩
theorem z84:bsI Tryz.prog 62 9 = true:=by kernel_rfl
theorem z85:arI Tryz.prog 64 = some (2, 5):=by kernel_rfl
theorem z8k:arI Tryz.prog 135 = some (3, 5):=by kernel_rfl
end Go.V
set_option maxRecDepth 20000
namespace Go.V
open Go.Proofs Go.RowKit
structure _root_.Go.V.Wr (B:Prop):Prop where
 h:B
theorem _root_.Go.V.Za {A B:Prop} (h:B) (t:Wr B → A:=by intro h; refine z7 (zh rfl rfl rfl) rfl ?_;exact h.h):A:=t ⟨h⟩
theorem _root_.Go.V.Zq {A B:Prop} (h:B) (t:Wr B → A:=by intro h; refine z7 (zi rfl rfl rfl) rfl ?_;exact h.h):A:=t ⟨h⟩
theorem _root_.Go.V.ZfP {A B:Prop} (h:B) (t:Wr B → A:=by intro h; refine z7 (zw rfl (zn rfl) rfl) rfl ?_;exact h.h):A:=t ⟨h⟩
theorem _root_.Go.V.Ze {A B:Prop} (h:B) (t:Wr B → A:=by intro h; refine z7 (qb rfl rfl rfl rfl) rfl ?_;exact h.h):A:=t ⟨h⟩
theorem _root_.Go.V.ZB {A B:Prop} (h:B) (t:Wr B → A:=by intro h; refine z7 (qo rfl rfl rfl rfl (decide_eq_true (by omega))) rfl ?_;exact h.h):A:=t ⟨h⟩
theorem _root_.Go.V.Zef {A B:Prop} (h:B) (t:Wr B → A:=by intro h; refine z8 (id:=0) ?_;exact h.h):A:=t ⟨h⟩
theorem _root_.Go.V.ZcY {A B:Prop} (h:B) (t:Wr B → A:=by intro h; refine q7 rfl ?_;exact h.h):A:=t ⟨h⟩
theorem _root_.Go.V.Zx {A B:Prop} (h:B) (t:Wr B → A:=by intro h; refine z8 (id:=1) ?_;exact h.h):A:=t ⟨h⟩
theorem _root_.Go.V.Zo {A B:Prop} (h:B) (t:Wr B → A:=by intro h; refine z7 (qo rfl rfl rfl rfl (decide_eq_false (by omega))) rfl ?_;exact h.h):A:=t ⟨h⟩
theorem _root_.Go.V.ZeC {A B:Prop} (h:B) (t:Wr B → A:=by intro h; refine qf rfl ?_;exact h.h):A:=t ⟨h⟩
theorem _root_.Go.V.Zy {A B:Prop} (h:B) (t:Wr B → A:=by intro h; refine z8 (id:=2) ?_;exact h.h):A:=t ⟨h⟩
theorem _root_.Go.V.Zk {A B:Prop} (h:B) (t:Wr B → A:=by intro h; refine z8 (id:=3) ?_;exact h.h):A:=t ⟨h⟩
theorem _root_.Go.V.Zr {A B:Prop} (h:B) (t:Wr B → A:=by intro h; refine z8 (id:=4) ?_;exact h.h):A:=t ⟨h⟩
theorem _root_.Go.V.Zeg {A B:Prop} (h:B) (t:Wr B → A:=by intro h; refine z7 (yg rfl rfl rfl rfl (zad (by omega) (by omega))) rfl ?_;exact h.h):A:=t ⟨h⟩
theorem _root_.Go.V.Z2 {A B:Prop} (h:B) (t:Wr B → A:=by intro h; refine z7 (yi rfl rfl rfl rfl (decide_eq_true (by omega))) rfl ?_;exact h.h):A:=t ⟨h⟩
theorem _root_.Go.V.ZS {A B:Prop} (h:B) (t:Wr B → A:=by intro h; refine z7 (yi rfl rfl rfl rfl (decide_eq_false (by omega))) rfl ?_;exact h.h):A:=t ⟨h⟩
theorem _root_.Go.V.Zn {A B:Prop} (h:B) (t:Wr B → A:=by intro h; refine z8 (id:=5) ?_;exact h.h):A:=t ⟨h⟩
theorem _root_.Go.V.ZH {A B:Prop} (h:B) (t:Wr B → A:=by intro h; refine z7 (z3r L rfl rfl rfl rfl) rfl ?_;exact h.h):A:=t ⟨h⟩
theorem _root_.Go.V.ZN {A B:Prop} (h:B) (t:Wr B → A:=by intro h; refine z8 (id:=6) ?_;exact h.h):A:=t ⟨h⟩
theorem _root_.Go.V.Z8 {A B:Prop} (h:B) (t:Wr B → A:=by intro h; refine z8 (id:=7) ?_;exact h.h):A:=t ⟨h⟩
theorem _root_.Go.V.Zgc {A B:Prop} (h:B) (t:Wr B → A:=by intro h; refine z7 (yp L rfl rfl rfl rfl rfl (by assumption)) rfl ?_;exact h.h):A:=t ⟨h⟩
theorem _root_.Go.V.Z3 {A B:Prop} (h:B) (t:Wr B → A:=by intro h; refine z8 (id:=9) ?_;exact h.h):A:=t ⟨h⟩
theorem _root_.Go.V.Z0 {A B:Prop} (h:B) (t:Wr B → A:=by intro h; refine z8 (id:=8) ?_;exact h.h):A:=t ⟨h⟩
theorem _root_.Go.V.Z6 {A B:Prop} (h:B) (t:Wr B → A:=by intro h; refine zk ?_;refine zm ?_;exact h.h):A:=t ⟨h⟩
theorem _root_.Go.V.Zb {A B:Prop} (h:B) (t:Wr B → A:=by intro h; refine Zq ?_;refine Z6 ?_;exact h.h):A:=t ⟨h⟩
theorem _root_.Go.V.Zh {A B:Prop} (h:B) (t:Wr B → A:=by intro h; refine zj ?_;refine zj ?_;exact h.h):A:=t ⟨h⟩
theorem _root_.Go.V.Zc {A B:Prop} (h:B) (t:Wr B → A:=by intro h; refine Za ?_;refine Za ?_;exact h.h):A:=t ⟨h⟩
theorem _root_.Go.V.Zat {A B:Prop} (h:B) (t:Wr B → A:=by intro h; refine Z6 ?_;refine ZcY ?_;exact h.h):A:=t ⟨h⟩
theorem _root_.Go.V.Zcz {A B:Prop} (h:B) (t:Wr B → A:=by intro h; refine q9 ?_;refine zm ?_;exact h.h):A:=t ⟨h⟩
theorem _root_.Go.V.ZC {A B:Prop} (h:B) (t:Wr B → A:=by intro h; refine zj ?_;refine Zef ?_;exact h.h):A:=t ⟨h⟩
theorem _root_.Go.V.Zd {A B:Prop} (h:B) (t:Wr B → A:=by intro h; refine Zb ?_;refine zj ?_;exact h.h):A:=t ⟨h⟩
theorem _root_.Go.V.Zg {A B:Prop} (h:B) (t:Wr B → A:=by intro h; refine Zb ?_;refine Zh ?_;exact h.h):A:=t ⟨h⟩
theorem _root_.Go.V.Z9 {A B:Prop} (h:B) (t:Wr B → A:=by intro h; refine Z6 ?_;refine ZeC ?_;exact h.h):A:=t ⟨h⟩
theorem _root_.Go.V.Zfb {A B:Prop} (h:B) (t:Wr B → A:=by intro h; refine Zcz ?_;refine zj ?_;exact h.h):A:=t ⟨h⟩
theorem _root_.Go.V.Zj {A B:Prop} (h:B) (t:Wr B → A:=by intro h; refine Z6 ?_;refine zj ?_;exact h.h):A:=t ⟨h⟩
theorem _root_.Go.V.Zcf {A B:Prop} (h:B) (t:Wr B → A:=by intro h; refine ZfP ?_;refine ZfP ?_;exact h.h):A:=t ⟨h⟩
theorem _root_.Go.V.Zt {A B:Prop} (h:B) (t:Wr B → A:=by intro h; refine Z9 ?_;refine zj ?_;exact h.h):A:=t ⟨h⟩
theorem _root_.Go.V.Zam {A B:Prop} (h:B) (t:Wr B → A:=by intro h; refine Zg ?_;refine Zx ?_;exact h.h):A:=t ⟨h⟩
theorem _root_.Go.V.ZaI {A B:Prop} (h:B) (t:Wr B → A:=by intro h; refine qm ?_;refine zj ?_;exact h.h):A:=t ⟨h⟩
theorem _root_.Go.V.Zgd {A B:Prop} (h:B) (t:Wr B → A:=by intro h; refine qv ?_;refine yn ?_;exact h.h):A:=t ⟨h⟩
theorem _root_.Go.V.ZeD {A B:Prop} (h:B) (t:Wr B → A:=by intro h; refine qv ?_;refine Zgd ?_;exact h.h):A:=t ⟨h⟩
theorem _root_.Go.V.Zdr {A B:Prop} (h:B) (t:Wr B → A:=by intro h; refine yo ?_;refine ZeD ?_;exact h.h):A:=t ⟨h⟩
theorem _root_.Go.V.Zeh {A B:Prop} (h:B) (t:Wr B → A:=by intro h; refine Zat ?_;refine Zcz ?_;exact h.h):A:=t ⟨h⟩
theorem _root_.Go.V.Zs {A B:Prop} (h:B) (t:Wr B → A:=by intro h; refine Zk ?_;refine Za ?_;exact h.h):A:=t ⟨h⟩
theorem _root_.Go.V.ZaJ {A B:Prop} (h:B) (t:Wr B → A:=by intro h; refine Za ?_;refine Zcf ?_;exact h.h):A:=t ⟨h⟩
theorem _root_.Go.V.Zfy {A B:Prop} (h:B) (t:Wr B → A:=by intro h; refine Zdr ?_;refine zm ?_;exact h.h):A:=t ⟨h⟩
theorem _root_.Go.V.ZO {A B:Prop} (h:B) (t:Wr B → A:=by intro h; refine Zeh ?_;refine Zh ?_;exact h.h):A:=t ⟨h⟩
theorem _root_.Go.V.Zai {A B:Prop} (h:B) (t:Wr B → A:=by intro h; refine yd ?_;refine zm ?_;exact h.h):A:=t ⟨h⟩
theorem _root_.Go.V.Zfc {A B:Prop} (h:B) (t:Wr B → A:=by intro h; refine Zfb ?_;refine ZaI ?_;exact h.h):A:=t ⟨h⟩
theorem _root_.Go.V.ZfQ {A B:Prop} (h:B) (t:Wr B → A:=by intro h; refine Zfy ?_;refine zj ?_;exact h.h):A:=t ⟨h⟩
theorem _root_.Go.V.Zbb {A B:Prop} (h:B) (t:Wr B → A:=by intro h; refine Zn ?_;refine Za ?_;exact h.h):A:=t ⟨h⟩
theorem _root_.Go.V.Zb3 {A B:Prop} (h:B) (t:Wr B → A:=by intro h; refine Zam ?_;refine Za ?_;exact h.h):A:=t ⟨h⟩
theorem _root_.Go.V.ZF {A B:Prop} (h:B) (t:Wr B → A:=by intro h; refine Zc ?_;refine Za ?_;exact h.h):A:=t ⟨h⟩
theorem _root_.Go.V.ZbN {A B:Prop} (h:B) (t:Wr B → A:=by intro h; refine ZfP ?_;refine Ze ?_;exact h.h):A:=t ⟨h⟩
theorem _root_.Go.V.Zge {A B:Prop} (h:B) (t:Wr B → A:=by intro h; refine Zj ?_;refine ZeC ?_;exact h.h):A:=t ⟨h⟩
theorem _root_.Go.V.Zgl {A B:Prop} (h:B) (t:Wr B → A:=by intro h; refine ZB ?_;refine Zge ?_;exact h.h):A:=t ⟨h⟩
theorem _root_.Go.V.Za2 {A B:Prop} (h:B) (t:Wr B → A:=by intro h; refine Zgl ?_;refine Zfc ?_;exact h.h):A:=t ⟨h⟩
theorem _root_.Go.V.Zbc {A B:Prop} (h:B) (t:Wr B → A:=by intro h; refine Zat ?_;refine q9 ?_;exact h.h):A:=t ⟨h⟩
theorem _root_.Go.V.ZfR {A B:Prop} (h:B) (t:Wr B → A:=by intro h; refine ZaJ ?_;refine Zcf ?_;exact h.h):A:=t ⟨h⟩
theorem _root_.Go.V.Zcg {A B:Prop} (h:B) (t:Wr B → A:=by intro h; refine Z6 ?_;refine qm ?_;exact h.h):A:=t ⟨h⟩
theorem _root_.Go.V.Zc0 {A B:Prop} (h:B) (t:Wr B → A:=by intro h; refine Zc ?_;refine ZH ?_;exact h.h):A:=t ⟨h⟩
theorem _root_.Go.V.ZaK {A B:Prop} (h:B) (t:Wr B → A:=by intro h; refine Zt ?_;refine Zy ?_;exact h.h):A:=t ⟨h⟩
theorem _root_.Go.V.Zgf {A B:Prop} (h:B) (t:Wr B → A:=by intro h; refine Zj ?_;refine ZcY ?_;exact h.h):A:=t ⟨h⟩
theorem _root_.Go.V.ZfS {A B:Prop} (h:B) (t:Wr B → A:=by intro h; refine Zo ?_;refine Zgf ?_;exact h.h):A:=t ⟨h⟩
theorem _root_.Go.V.Zao {A B:Prop} (h:B) (t:Wr B → A:=by intro h; refine ZfS ?_;refine ZfQ ?_;exact h.h):A:=t ⟨h⟩
theorem _root_.Go.V.Zap {A B:Prop} (h:B) (t:Wr B → A:=by intro h; refine ZaJ ?_;refine ZbN ?_;exact h.h):A:=t ⟨h⟩
theorem _root_.Go.V.ZdO {A B:Prop} (h:B) (t:Wr B → A:=by intro h; refine Za ?_;refine zk ?_;exact h.h):A:=t ⟨h⟩
theorem _root_.Go.V.Zaw {A B:Prop} (h:B) (t:Wr B → A:=by intro h; refine Zc ?_;refine Zgc ?_;exact h.h):A:=t ⟨h⟩
theorem _root_.Go.V.Zey {A B:Prop} (h:B) (t:Wr B → A:=by intro h; refine ZfR ?_;refine Zcf ?_;exact h.h):A:=t ⟨h⟩
theorem _root_.Go.V.ZeE {A B:Prop} (h:B) (t:Wr B → A:=by intro h; refine Za ?_;refine Zcg ?_;exact h.h):A:=t ⟨h⟩
theorem _root_.Go.V.Za3 {A B:Prop} (h:B) (t:Wr B → A:=by intro h; refine Zbc ?_;refine Zai ?_;exact h.h):A:=t ⟨h⟩
theorem _root_.Go.V.ZaL {A B:Prop} (h:B) (t:Wr B → A:=by intro h; refine ZC ?_;refine Zb3 ?_;exact h.h):A:=t ⟨h⟩
theorem _root_.Go.V.ZaM {A B:Prop} (h:B) (t:Wr B → A:=by intro h; refine Ze ?_;refine Zt ?_;exact h.h):A:=t ⟨h⟩
theorem _root_.Go.V.Zds {A B:Prop} (h:B) (t:Wr B → A:=by intro h; refine zj ?_;refine Zr ?_;exact h.h):A:=t ⟨h⟩
theorem _root_.Go.V.ZaU {A B:Prop} (h:B) (t:Wr B → A:=by intro h; refine ZF ?_;refine Zgc ?_;exact h.h):A:=t ⟨h⟩
theorem _root_.Go.V.Zbd {A B:Prop} (h:B) (t:Wr B → A:=by intro h; refine Zeg ?_;refine ZdO ?_;exact h.h):A:=t ⟨h⟩
theorem _root_.Go.V.Zbs {A B:Prop} (h:B) (t:Wr B → A:=by intro h; refine Zey ?_;refine Zcf ?_;exact h.h):A:=t ⟨h⟩
theorem _root_.Go.V.Zc1 {A B:Prop} (h:B) (t:Wr B → A:=by intro h; refine Ze ?_;refine ZO ?_;exact h.h):A:=t ⟨h⟩
theorem _root_.Go.V.Zgg {A B:Prop} (h:B) (t:Wr B → A:=by intro h; refine Zds ?_;refine Za2 ?_;exact h.h):A:=t ⟨h⟩
theorem _root_.Go.V.ZcZ {A B:Prop} (h:B) (t:Wr B → A:=by intro h; refine Zd ?_;refine ZN ?_;exact h.h):A:=t ⟨h⟩
theorem _root_.Go.V.Zda {A B:Prop} (h:B) (t:Wr B → A:=by intro h; refine ZfR ?_;refine Ze ?_;exact h.h):A:=t ⟨h⟩
theorem _root_.Go.V.Zdb {A B:Prop} (h:B) (t:Wr B → A:=by intro h; refine ZaK ?_;refine Zb ?_;exact h.h):A:=t ⟨h⟩
theorem _root_.Go.V.Zdt {A B:Prop} (h:B) (t:Wr B → A:=by intro h; refine Zgg ?_;refine Zbb ?_;exact h.h):A:=t ⟨h⟩
attribute [local irreducible] V N X VO Par StepOK Has Ret RetL Src
set_option maxHeartbeats 400000 in
theorem check_ret (s:ByteArray) (hs:s.size ≤ 9223372036854775807) {w:World} {B:Heap} (hB:B.Le (hp w)) :
  Ret Tryz.prog 205 [.string s] w B (fun v _ => v = .int .i64 (chk s)):=by
 refine qu Tryz.func205 rfl Tryz.ntmps205 (Nat.le_of_ble_eq_true rfl) hB ?_
 by_cases h1:1 ≤ s.size
 ·by_cases h2:s.size ≤ 16
  ·refine ZaL ?_;refine ZH ?_;refine Zo ?_;refine Zc0 ?_;refine ZS ?_;refine Zc1 ?_;refine Zs ?_;refine ZH ?_;refine ZeE ?_
   refine zao (fun k:Nat => [(0, .is (.string s)), (13, .is (.int .i64 s.size)), (14, .is (.int .i64 k))])
    (fun k => k ≤ s.size ∧ (s.data.toList.take k).all okB = true) (fun k => s.size - k) 0 ⟨Nat.zero_le _, by simp⟩ ⟨rfl, rfl, rfl, trivial⟩ ?_
   rintro k ⟨hk, hall⟩
   by_cases hlt:k < s.size
   ·obtain ⟨c, hc⟩:=getElem?_lt hlt
    have hu:=z2x c
    by_cases a1:(c.toNat:Int) < 97
    ·by_cases a2:(c.toNat:Int) < 48
     ·refine Zdt ?_;refine ZcZ ?_;refine Zaw ?_;refine ZB ?_;refine Zda ?_;refine ZaU ?_;refine ZB ?_;refine Zda ?_;refine ZaM ?_;refine Z8 ?_;refine Zb ?_
      refine qt L (rs:=[.tmp 2]) rfl (fun _ _ h => h) Since.refl fun u H hH hle => ?_
      exact congrArg _ (zm0 hc (z55 a1 a2)).symm
     ·by_cases a3:57 < (c.toNat:Int)
      ·refine Zdt ?_;refine ZcZ ?_;refine Zaw ?_;refine ZB ?_;refine Zda ?_;refine ZaU ?_;refine Zo ?_;refine ZaU ?_;refine Z2 ?_;refine Ze ?_;refine ZaM ?_;refine Z8 ?_;refine Zb ?_
       refine qt L (rs:=[.tmp 2]) rfl (fun _ _ h => h) Since.refl fun u H hH hle => ?_
       exact congrArg _ (zm0 hc (z54 a1 a3)).symm
      ·refine Zdt ?_;refine ZcZ ?_;refine Zaw ?_;refine ZB ?_;refine Zda ?_;refine ZaU ?_;refine Zo ?_;refine ZaU ?_;refine ZS ?_;refine Ze ?_;refine Ze ?_;refine Za3 ?_;refine Z0 ?_;refine Zbd ?_
       refine yl (k + 1) ⟨hlt, zjo hc (z5z a2 a3) hall⟩ (by omega) ⟨rfl, rfl, rfl, trivial⟩
    ·by_cases a4:122 < (c.toNat:Int)
     ·have a5:57 < (c.toNat:Int):=by omega
      refine Zdt ?_;refine ZcZ ?_;refine Zaw ?_;refine Zo ?_;refine ZaU ?_;refine Z2 ?_;refine Ze ?_;refine ZaU ?_;refine Zo ?_;refine ZaU ?_;refine Z2 ?_;refine Ze ?_;refine ZaM ?_;refine Z8 ?_;refine Zb ?_
      refine qt L (rs:=[.tmp 2]) rfl (fun _ _ h => h) Since.refl fun u H hH hle => ?_
      exact congrArg _ (zm0 hc (z52 a4)).symm
     ·refine Zdt ?_;refine ZcZ ?_;refine Zaw ?_;refine Zo ?_;refine ZaU ?_;refine ZS ?_;refine Ze ?_;refine Zbs ?_;refine Zcf ?_;refine Ze ?_;refine Za3 ?_;refine Z0 ?_;refine Zbd ?_
      refine yl (k + 1) ⟨hlt, zjo hc (z50 a1 a4) hall⟩ (by omega) ⟨rfl, rfl, rfl, trivial⟩
   ·refine Zds ?_;refine Zao ?_;refine Z3 ?_;refine Zb ?_
    refine qt L (rs:=[.tmp 2]) rfl (fun _ _ h => h) Since.refl fun u H hH hle => ?_
    exact congrArg _ (zy8 h1 h2 (zt7 (by omega) hall)).symm
  ·refine ZaL ?_;refine ZH ?_;refine Zo ?_;refine Zc0 ?_;refine Z2 ?_;refine Ze ?_;refine Zdb ?_
   refine qt L (rs:=[.tmp 2]) rfl (fun _ _ h => h) Since.refl fun u H hH hle => ?_
   exact congrArg _ (zse (by omega)).symm
 ·refine ZaL ?_;refine ZH ?_;refine ZB ?_;refine Zap ?_;refine Zdb ?_
  refine qt L (rs:=[.tmp 2]) rfl (fun _ _ h => h) Since.refl fun u H hH hle => ?_
  exact congrArg _ (zse (by omega)).symm
end Go.V
set_option maxRecDepth 20000
namespace Go.V
open Go.Proofs Go.RowKit
theorem _root_.Go.V.Zf {A B:Prop} (h:B) (t:Wr B → A:=by intro h; refine z7 (zq rfl rfl rfl) rfl ?_;exact h.h):A:=t ⟨h⟩
theorem _root_.Go.V.Zae {A B:Prop} (h:B) (t:Wr B → A:=by intro h; refine z7 (qz rfl rfl rfl rfl (decide_eq_false (by omega))) rfl ?_;exact h.h):A:=t ⟨h⟩
theorem _root_.Go.V.Zaq {A B:Prop} (h:B) (t:Wr B → A:=by intro h; refine z7 (qr L _ rfl rfl rfl rfl rfl rfl rfl (by first | omega | decide) (by assumption)) rfl ?_;exact h.h):A:=t ⟨h⟩
theorem _root_.Go.V.Zdc {A B:Prop} (h:B) (t:Wr B → A:=by intro h; refine z7 (y0 L rfl rfl rfl rfl) rfl ?_;exact h.h):A:=t ⟨h⟩
theorem _root_.Go.V.Zbe {A B:Prop} (h:B) (t:Wr B → A:=by intro h; refine z7 (qz rfl rfl rfl rfl (decide_eq_true (by omega))) rfl ?_;exact h.h):A:=t ⟨h⟩
theorem _root_.Go.V.Za4 {A B:Prop} (h:B) (t:Wr B → A:=by intro h; refine z7 (zqb L rfl rfl rfl rfl rfl) rfl ?_;exact h.h):A:=t ⟨h⟩
theorem _root_.Go.V.Zv {A B:Prop} (h:B) (t:Wr B → A:=by intro h; refine Zf ?_;refine Zdc ?_;exact h.h):A:=t ⟨h⟩
theorem _root_.Go.V.Zw {A B:Prop} (h:B) (t:Wr B → A:=by intro h; refine Zr ?_;refine Za ?_;exact h.h):A:=t ⟨h⟩
theorem _root_.Go.V.Zz {A B:Prop} (h:B) (t:Wr B → A:=by intro h; refine Zbe ?_;refine Zt ?_;exact h.h):A:=t ⟨h⟩
theorem _root_.Go.V.ZL {A B:Prop} (h:B) (t:Wr B → A:=by intro h; refine ZN ?_;refine Za ?_;exact h.h):A:=t ⟨h⟩
theorem _root_.Go.V.Zei {A B:Prop} (h:B) (t:Wr B → A:=by intro h; refine Zd ?_;refine Zbb ?_;exact h.h):A:=t ⟨h⟩
theorem _root_.Go.V.Zbt {A B:Prop} (h:B) (t:Wr B → A:=by intro h; refine Zv ?_;refine ZeE ?_;exact h.h):A:=t ⟨h⟩
attribute [local irreducible] V N X VO Par StepOK Has Ret RetL Src
def zc3:List ByteArray → Int
 | [] => 0
 | s :: l => if chk s = 0 then zc3 l else chk s
theorem zq2:∀ (l:List ByteArray) (s:ByteArray), zc3 l = 0 → zc3 (l ++ [s]) = chk s
 | [], s, _ => by simp only [List.nil_append, zc3]; split <;> simp_all
 | x :: l, s, h => by
  simp only [List.cons_append, zc3] at h ⊢
  by_cases hx:chk x = 0
  ·rw [if_pos hx] at h ⊢; exact zq2 l s h
  ·rw [if_neg hx] at h; exact absurd h hx
theorem zt8:∀ (l:List ByteArray) (k:Nat) (s:ByteArray), zc3 (l.take k) = 0 → l[k]? = some s → chk s ≠ 0 → zc3 l = chk s
 | [], k, s, _, h, _ => by simp at h
 | x :: l, 0, s, _, h, hc => by simp at h; subst h; simp [zc3, hc]
 | x :: l, k + 1, s, ha, h, hc => by
  simp only [List.take_succ_cons, zc3] at ha
  simp only [List.getElem?_cons_succ] at h
  by_cases hx:chk x = 0
  ·rw [if_pos hx] at ha
   simp only [zc3, if_pos hx]
   exact zt8 l k s ha h hc
  ·rw [if_neg hx] at ha; exact absurd ha hx
set_option maxHeartbeats 400000 in
theorem zzf (l:List ByteArray) (hl:∀ s ∈ l, s.size ≤ 9223372036854775807) (hlen:l.length ≤ 1000) {e:TypeId} {fu:Bool} {v:Value} {w:World} {B:Heap} (hB:B.Le (hp w)) (hv:SlV e 1 (l.map Value.string) l.length fu v B) :
  Ret Tryz.prog 236 [v] w B (fun v _ => v = .int .i64 (zc3 l)):=by
 refine qu Tryz.func236 rfl Tryz.ntmps236 (Nat.le_of_ble_eq_true rfl) hB ?_
 refine za4 0 (SlV e 1 (l.map Value.string) l.length fu) rfl SlV.mono hv ?_
 refine ZC ?_;refine Zam ?_;refine Zbt ?_
 refine zao (fun k:Nat => [(6, .sat (SlV e 1 (l.map Value.string) l.length fu)), (7, .is (.int .i64 l.length)), (8, .is (.int .i64 k))])
  (fun k => k ≤ l.length ∧ zc3 (l.take k) = 0) (fun k => l.length - k) 0 ⟨Nat.zero_le _, by simp [zc3]⟩ ⟨rfl, rfl, rfl, trivial⟩ ?_
 rintro k ⟨hk, hall⟩
 by_cases hlt:k < l.length
 ·have hs:l[k]? = some l[k]:=List.getElem?_eq_getElem hlt
  generalize l[k] = s at hs
  have hsz:s.size ≤ 9223372036854775807:=hl s (List.mem_of_getElem? hs)
  have hc:=z15 hs
  by_cases h0:chk s = 0
  ·refine zj ?_;refine Zy ?_;refine Za2 ?_;refine Zk ?_;refine Zaq ?_;refine Za4 ?_;refine Zd ?_;refine Zw ?_;refine z7 (q0 L rfl rfl (zn rfl) rfl rfl rfl (fun u H hH _ _ => check_ret _ (by first | omega | decide) hH)) rfl ?_;refine Zei ?_;refine Zae ?_;refine Za3 ?_;refine Z8 ?_;refine Zbd ?_
   refine yl (k + 1) ⟨hlt, ?_⟩ (by omega) ⟨rfl, rfl, rfl, trivial⟩
   rw [List.take_add_one, hs]
   show zc3 (l.take k ++ [s]) = 0
   rw [zq2 _ _ hall, h0]
  ·refine zj ?_;refine Zy ?_;refine Za2 ?_;refine Zk ?_;refine Zaq ?_;refine Za4 ?_;refine Zd ?_;refine Zw ?_;refine z7 (q0 L rfl rfl (zn rfl) rfl rfl rfl (fun u H hH _ _ => check_ret _ (by first | omega | decide) hH)) rfl ?_;refine Zei ?_;refine Zz ?_;refine ZL ?_;refine Zb ?_
   refine qt L (rs:=[.tmp 2]) rfl (fun _ _ h => h) Since.refl fun u H hH hle => ?_
   exact congrArg _ (zt8 l k s hall hs h0).symm
 ·refine zj ?_;refine Zy ?_;refine Zao ?_;refine Z0 ?_;refine Zb ?_
  refine qt L (rs:=[.tmp 2]) rfl (fun _ _ h => h) Since.refl fun u H hH hle => ?_
  have:l.take k = l:=List.take_of_length_le (by omega)
  exact congrArg _ (this ▸ hall).symm
end Go.V
namespace Go.Proofs
open Go.Shelf
def Tryz.lays169_ren:Go.Shelf.Ren:=⟨fun | 169 => 124 | n => n, fun | 70 => 226 | 9 => 9 | 0 => 0 | 72 => 228 | 37 => 62 | 127 => 318 | 3 => 3 | 5 => 5 | n => n, fun | n => n⟩
theorem Tryz.lays169:Go.Proofs.Lays.n169 Tryz.prog Tryz.lays169_ren:={
 mixed:=by kernel_rfl
 f169:=Tryz.func124.trans (congrArg some (by kernel_rfl))
 t0:=Tryz.underlying0
 a0:=Tryz.isAgg0
 z0:=Tryz.sizeOf0
 v0:=Tryz.zeroValue0
 t3:=Tryz.underlying3
 a3:=Tryz.isAgg3
 z3:=Tryz.sizeOf3
 v3:=Tryz.zeroValue3
 t9:=Tryz.underlying9
 a9:=Tryz.isAgg9
 z9:=Tryz.sizeOf9
 v9:=Tryz.zeroValue9
 t37:=Tryz.underlying62
 a37:=Tryz.isAgg62
 z37:=Tryz.sizeOf62
 v37:=Tryz.zeroValue62
 t70:=Tryz.underlying226
 a70:=Tryz.isAgg226
 z70:=Tryz.sizeOf226
 v70:=Tryz.zeroValue226
 t72:=Tryz.underlying228
 a72:=Tryz.isAgg228
 z72:=Tryz.sizeOf228
 v72:=Tryz.zeroValue228
 t127:=Tryz.underlying318
 a127:=Tryz.isAgg318
 z127:=Tryz.sizeOf318
 v127:=Tryz.zeroValue318 }
theorem Tryz.Builder_Extra_169:Builder.Extra Tryz.prog Tryz.lays169_ren:={
 sizeBuilder:=by kernel_rfl
 liesBuilder:=by kernel_rfl
 t5:=Tryz.underlying5
 a5:=Tryz.isAgg5
 z5:=Tryz.sizeOf5
 v5:=Tryz.zeroValue5
 infoByte:=by kernel_rfl
 cellsByte:=by kernel_rfl
 sizeByte:=by kernel_rfl
 neB5:=by decide }
open Go.RowKit in
theorem Tryz.Builder_String (B b:Nat) (l:List UInt8) (w:World) (h:Lib.IsBuilder 228 5 B b (Lib.byteCells l) w) (h0:l ≠ []) :
  Calls Tryz.prog 124 #[.pointer (some ⟨b, 0, none⟩)] w fun e w' => e = .returned (.string ⟨l.toArray⟩) ∧ Below B w w':=Any.Builder_String Tryz.lays169 Tryz.Builder_Extra_169 B b l w h h0
open Go.RowKit in
theorem Tryz.Builder_String_empty (B b:Nat) (w:World) (h:Lib.IsBuilder 228 5 B b [] w) (hBw:B ≤ w.heap.size) :
  Calls Tryz.prog 124 #[.pointer (some ⟨b, 0, none⟩)] w fun e w' => e = .returned (.string ⟨#[]⟩) ∧ Below B w w':=Any.Builder_String_empty Tryz.lays169 Tryz.Builder_Extra_169 B b w h hBw
open Go.RowKit in
theorem Tryz.Builder_String_any (B b:Nat) (l:List UInt8) (w:World) (h:Lib.IsBuilder 228 5 B b (Lib.byteCells l) w) (hBw:B ≤ w.heap.size) :
  Calls Tryz.prog 124 #[.pointer (some ⟨b, 0, none⟩)] w fun e w' => e = .returned (.string ⟨l.toArray⟩) ∧ Below B w w':=Any.Builder_String_any Tryz.lays169 Tryz.Builder_Extra_169 B b l w h hBw
def Tryz.lays213_ren:Go.Shelf.Ren:=⟨fun | 213 => 286 | 265 => 312 | n => n, fun | 9 => 9 | 3 => 3 | n => n, fun | n => n⟩
theorem Tryz.lays213:Go.Proofs.Lays.n213 Tryz.prog Tryz.lays213_ren:={
 mixed:=by kernel_rfl
 f213:=Tryz.func286.trans (congrArg some (by kernel_rfl))
 f265:=Tryz.func312.trans (congrArg some (by kernel_rfl))
 t3:=Tryz.underlying3
 a3:=Tryz.isAgg3
 z3:=Tryz.sizeOf3
 v3:=Tryz.zeroValue3
 t9:=Tryz.underlying9
 a9:=Tryz.isAgg9
 z9:=Tryz.sizeOf9
 v9:=Tryz.zeroValue9 }
open Go.RowKit in
theorem Tryz.bytealg_CompareString (a b:ByteArray) (w:World) :
  Calls Tryz.prog 286 #[.string a, .string b] w fun e w' => e = .returned (.int .i64 (Lib.compareBytes a.data.toList b.data.toList)) ∧ w' = w:=Any.bytealg_CompareString Tryz.lays213 a b w
def Tryz.lays106_ren:Go.Shelf.Ren:=⟨fun | 106 => 238 | 213 => 286 | 265 => 312 | n => n, fun | 9 => 9 | 3 => 3 | n => n, fun | n => n⟩
theorem Tryz.lays106:Go.Proofs.Lays.n106 Tryz.prog Tryz.lays106_ren:={
 mixed:=by kernel_rfl
 f106:=Tryz.func238.trans (congrArg some (by kernel_rfl))
 f213:=Tryz.func286.trans (congrArg some (by kernel_rfl))
 f265:=Tryz.func312.trans (congrArg some (by kernel_rfl))
 t3:=Tryz.underlying3
 a3:=Tryz.isAgg3
 z3:=Tryz.sizeOf3
 v3:=Tryz.zeroValue3
 t9:=Tryz.underlying9
 a9:=Tryz.isAgg9
 z9:=Tryz.sizeOf9
 v9:=Tryz.zeroValue9 }
open Go.RowKit in
theorem Tryz.strings_Compare (a b:ByteArray) (w:World) :
  Calls Tryz.prog 238 #[.string a, .string b] w fun e w' => e = .returned (.int .i64 (Lib.compareBytes a.data.toList b.data.toList)) ∧ w' = w:=Any.strings_Compare Tryz.lays106 a b w
def Tryz.lays137_ren:Go.Shelf.Ren:=⟨fun | 137 => 258 | 217 => 298 | 266 => 315 | n => n, fun | 9 => 9 | 5 => 5 | 3 => 3 | n => n, fun | n => n⟩
theorem Tryz.lays137:Go.Proofs.Lays.n137 Tryz.prog Tryz.lays137_ren:={
 mixed:=by kernel_rfl
 f137:=Tryz.func258.trans (congrArg some (by kernel_rfl))
 f217:=Tryz.func298.trans (congrArg some (by kernel_rfl))
 f266:=Tryz.func315.trans (congrArg some (by kernel_rfl))
 t3:=Tryz.underlying3
 a3:=Tryz.isAgg3
 z3:=Tryz.sizeOf3
 v3:=Tryz.zeroValue3
 t5:=Tryz.underlying5
 a5:=Tryz.isAgg5
 z5:=Tryz.sizeOf5
 v5:=Tryz.zeroValue5
 t9:=Tryz.underlying9
 a9:=Tryz.isAgg9
 z9:=Tryz.sizeOf9
 v9:=Tryz.zeroValue9 }
open Go.RowKit in
theorem Tryz.strings_IndexByte (s:ByteArray) (c:Int) (w:World) :
  Calls Tryz.prog 258 #[.string s, .int .u8 c] w fun e w' => e = .returned (.int .i64 (Lib.indexByte s.data.toList c.toNat.toUInt8)) ∧ w' = w:=Any.strings_IndexByte Tryz.lays137 s c w
def Tryz.lays211_ren:Go.Shelf.Ren:=⟨fun | 211 => 200 | 207 => 259 | n => n, fun | 9 => 9 | 4 => 4 | 3 => 3 | n => n, fun | n => n⟩
theorem Tryz.lays211:Go.Proofs.Lays.n211 Tryz.prog Tryz.lays211_ren:={
 mixed:=by kernel_rfl
 f207:=Tryz.func259.trans (congrArg some (by kernel_rfl))
 f211:=Tryz.func200.trans (congrArg some (by kernel_rfl))
 t3:=Tryz.underlying3
 a3:=Tryz.isAgg3
 z3:=Tryz.sizeOf3
 v3:=Tryz.zeroValue3
 t4:=Tryz.underlying4
 a4:=Tryz.isAgg4
 z4:=Tryz.sizeOf4
 v4:=Tryz.zeroValue4
 t9:=Tryz.underlying9
 a9:=Tryz.isAgg9
 z9:=Tryz.sizeOf9
 v9:=Tryz.zeroValue9 }
open Go.RowKit in
theorem Tryz.stringslite_CutSuffix (s p:ByteArray) (w:World) (hs:s.size ≤ 9223372036854775807) :
  Calls Tryz.prog 200 #[.string s, .string p] w fun e w' => e = .returned (.tuple #[.string ⟨(Lib.trimSuffix s.data.toList p.data.toList).toArray⟩, .bool (Lib.hasSuffix s.data.toList p.data.toList)]) ∧ w' = w:=Any.stringslite_CutSuffix Tryz.lays211 s p w hs
def Tryz.lays104_ren:Go.Shelf.Ren:=⟨fun | 104 => 130 | 211 => 200 | 207 => 259 | n => n, fun | 9 => 9 | 4 => 4 | 24 => 241 | 3 => 3 | n => n, fun | n => n⟩
theorem Tryz.lays104:Go.Proofs.Lays.n104 Tryz.prog Tryz.lays104_ren:={
 mixed:=by kernel_rfl
 f104:=Tryz.func130.trans (congrArg some (by kernel_rfl))
 f207:=Tryz.func259.trans (congrArg some (by kernel_rfl))
 f211:=Tryz.func200.trans (congrArg some (by kernel_rfl))
 t3:=Tryz.underlying3
 a3:=Tryz.isAgg3
 z3:=Tryz.sizeOf3
 v3:=Tryz.zeroValue3
 t4:=Tryz.underlying4
 a4:=Tryz.isAgg4
 z4:=Tryz.sizeOf4
 v4:=Tryz.zeroValue4
 t9:=Tryz.underlying9
 a9:=Tryz.isAgg9
 z9:=Tryz.sizeOf9
 v9:=Tryz.zeroValue9
 t24:=Tryz.underlying241
 a24:=Tryz.isAgg241
 z24:=Tryz.sizeOf241
 v24:=Tryz.zeroValue241 }
open Go.RowKit in
theorem Tryz.strings_CutSuffix (s p:ByteArray) (w:World) (hs:s.size ≤ 9223372036854775807) :
  Calls Tryz.prog 130 #[.string s, .string p] w fun e w' => e = .returned (.tuple #[.string ⟨(Lib.trimSuffix s.data.toList p.data.toList).toArray⟩, .bool (Lib.hasSuffix s.data.toList p.data.toList)]) ∧ w' = w:=Any.strings_CutSuffix Tryz.lays104 s p w hs
def Tryz.lays195_ren:Go.Shelf.Ren:=⟨fun | 195 => 302 | n => n, fun | 9 => 9 | 3 => 3 | 0 => 0 | 4 => 4 | n => n, fun | n => n⟩
theorem Tryz.lays195:Go.Proofs.Lays.n195 Tryz.prog Tryz.lays195_ren:={
 mixed:=by kernel_rfl
 f195:=Tryz.func302.trans (congrArg some (by kernel_rfl))
 t0:=Tryz.underlying0
 a0:=Tryz.isAgg0
 z0:=Tryz.sizeOf0
 v0:=Tryz.zeroValue0
 t3:=Tryz.underlying3
 a3:=Tryz.isAgg3
 z3:=Tryz.sizeOf3
 v3:=Tryz.zeroValue3
 t4:=Tryz.underlying4
 a4:=Tryz.isAgg4
 z4:=Tryz.sizeOf4
 v4:=Tryz.zeroValue4
 t9:=Tryz.underlying9
 a9:=Tryz.isAgg9
 z9:=Tryz.sizeOf9
 v9:=Tryz.zeroValue9 }
open Go.RowKit in
theorem Tryz.utf8_RuneCountInString (s:ByteArray) (w:World) (hs:s.size < 9223372036854775807) :
  Calls Tryz.prog 302 #[.string s] w fun e w' => e = .returned (.int .i64 (Lib.runeCount s)) ∧ ∃ pos, w' = w.iter s pos:=Any.utf8_RuneCountInString Tryz.lays195 s w hs
def Tryz.lays129_ren:Go.Shelf.Ren:=⟨fun | 129 => 279 | n => n, fun | 53 => 63 | 3 => 3 | 4 => 4 | 46 => 274 | 5 => 5 | 9 => 9 | n => n, fun | n => n⟩
theorem Tryz.lays129:Go.Proofs.Lays.n129 Tryz.prog Tryz.lays129_ren:={
 mixed:=by kernel_rfl
 f129:=Tryz.func279.trans (congrArg some (by kernel_rfl))
 t3:=Tryz.underlying3
 a3:=Tryz.isAgg3
 z3:=Tryz.sizeOf3
 v3:=Tryz.zeroValue3
 t4:=Tryz.underlying4
 a4:=Tryz.isAgg4
 z4:=Tryz.sizeOf4
 v4:=Tryz.zeroValue4
 t5:=Tryz.underlying5
 a5:=Tryz.isAgg5
 z5:=Tryz.sizeOf5
 v5:=Tryz.zeroValue5
 t9:=Tryz.underlying9
 a9:=Tryz.isAgg9
 z9:=Tryz.sizeOf9
 v9:=Tryz.zeroValue9
 t46:=Tryz.underlying274
 a46:=Tryz.isAgg274
 z46:=Tryz.sizeOf274
 v46:=Tryz.zeroValue274
 t53:=Tryz.underlying63
 a53:=Tryz.isAgg63
 z53:=Tryz.sizeOf63
 v53:=Tryz.zeroValue63 }
theorem Tryz.bits_Len64 (x:Int) (w:World) (h0:0 ≤ x) (h1:x ≤ 18446744073709551615) :
  Calls Tryz.prog 279 #[.int .u64 x] w fun e w' => e = .returned (.int .i64 (Lib.bitLen x.toNat)) ∧ w' = w:=Any.bits_Len64 Tryz.lays129 x w h0 h1
def Tryz.lays217_ren:Go.Shelf.Ren:=⟨fun | 217 => 298 | 266 => 315 | n => n, fun | 9 => 9 | 5 => 5 | 3 => 3 | n => n, fun | n => n⟩
theorem Tryz.lays217:Go.Proofs.Lays.n217 Tryz.prog Tryz.lays217_ren:={
 mixed:=by kernel_rfl
 f217:=Tryz.func298.trans (congrArg some (by kernel_rfl))
 f266:=Tryz.func315.trans (congrArg some (by kernel_rfl))
 t3:=Tryz.underlying3
 a3:=Tryz.isAgg3
 z3:=Tryz.sizeOf3
 v3:=Tryz.zeroValue3
 t5:=Tryz.underlying5
 a5:=Tryz.isAgg5
 z5:=Tryz.sizeOf5
 v5:=Tryz.zeroValue5
 t9:=Tryz.underlying9
 a9:=Tryz.isAgg9
 z9:=Tryz.sizeOf9
 v9:=Tryz.zeroValue9 }
open Go.RowKit Go.Lib in
theorem Tryz.stringslite_IndexByte (s:ByteArray) (c:Int) (w:World) :
  Calls Tryz.prog 298 #[.string s, .int .u8 c] w fun e w' => e = .returned (.int .i64 (Lib.indexByte s.data.toList c.toNat.toUInt8)) ∧ w' = w:=Any.stringslite_IndexByte Tryz.lays217 s c w
def Tryz.lays224_ren:Go.Shelf.Ren:=⟨fun | 224 => 300 | n => n, fun | 3 => 3 | n => n, fun | n => n⟩
theorem Tryz.lays224:Go.Proofs.Lays.n224 Tryz.prog Tryz.lays224_ren:={
 mixed:=by kernel_rfl
 f224:=Tryz.func300.trans (congrArg some (by kernel_rfl))
 t3:=Tryz.underlying3
 a3:=Tryz.isAgg3
 z3:=Tryz.sizeOf3
 v3:=Tryz.zeroValue3 }
open Go.RowKit Go.Lib in
theorem Tryz.bytealg_Cutover (n:Int) (h0:0 ≤ n) (h1:n < 4611686018427387904) (w:World) :
  Calls Tryz.prog 300 #[.int .i64 n] w fun e w' => e = .returned (.int .i64 ((n + 16) / 8)) ∧ w' = w:=Any.bytealg_Cutover Tryz.lays224 n h0 h1 w
def Tryz.lays314_ren:Go.Shelf.Ren:=⟨fun | 314 => 316 | n => n, fun | 9 => 9 | 51 => 387 | 3 => 3 | 4 => 4 | 5 => 5 | 46 => 274 | n => n, fun | n => n⟩
theorem Tryz.lays314:Go.Proofs.Lays.n314 Tryz.prog Tryz.lays314_ren:={
 mixed:=by kernel_rfl
 f314:=Tryz.func316.trans (congrArg some (by kernel_rfl))
 t3:=Tryz.underlying3
 a3:=Tryz.isAgg3
 z3:=Tryz.sizeOf3
 v3:=Tryz.zeroValue3
 t4:=Tryz.underlying4
 a4:=Tryz.isAgg4
 z4:=Tryz.sizeOf4
 v4:=Tryz.zeroValue4
 t5:=Tryz.underlying5
 a5:=Tryz.isAgg5
 z5:=Tryz.sizeOf5
 v5:=Tryz.zeroValue5
 t9:=Tryz.underlying9
 a9:=Tryz.isAgg9
 z9:=Tryz.sizeOf9
 v9:=Tryz.zeroValue9
 t46:=Tryz.underlying274
 a46:=Tryz.isAgg274
 z46:=Tryz.sizeOf274
 v46:=Tryz.zeroValue274
 t51:=Tryz.underlying387
 a51:=Tryz.isAgg387
 z51:=Tryz.sizeOf387
 v51:=Tryz.zeroValue387 }
open Go.RowKit Go.Lib in
theorem Tryz.bytealg_hashStr (sep:ByteArray) (hs:sep.size < 4294967281) (w:World) :
  Calls Tryz.prog 316 #[.string sep] w fun e w' => e = .returned (.tuple #[.int .u32 (RK.H sep.data.toList % 4294967296), .int .u32 (16777619 ^ sep.size % 4294967296)]) ∧ w' = w:=Any.bytealg_hashStr Tryz.lays314 sep hs w
def Tryz.lays267_ren:Go.Shelf.Ren:=⟨fun | 267 => 301 | 314 => 316 | n => n, fun | 9 => 9 | 3 => 3 | 146 => 410 | 51 => 387 | 4 => 4 | 5 => 5 | 46 => 274 | n => n, fun | n => n⟩
theorem Tryz.lays267:Go.Proofs.Lays.n267 Tryz.prog Tryz.lays267_ren:={
 mixed:=by kernel_rfl
 f267:=Tryz.func301.trans (congrArg some (by kernel_rfl))
 f314:=Tryz.func316.trans (congrArg some (by kernel_rfl))
 t3:=Tryz.underlying3
 a3:=Tryz.isAgg3
 z3:=Tryz.sizeOf3
 v3:=Tryz.zeroValue3
 t4:=Tryz.underlying4
 a4:=Tryz.isAgg4
 z4:=Tryz.sizeOf4
 v4:=Tryz.zeroValue4
 t5:=Tryz.underlying5
 a5:=Tryz.isAgg5
 z5:=Tryz.sizeOf5
 v5:=Tryz.zeroValue5
 t9:=Tryz.underlying9
 a9:=Tryz.isAgg9
 z9:=Tryz.sizeOf9
 v9:=Tryz.zeroValue9
 t46:=Tryz.underlying274
 a46:=Tryz.isAgg274
 z46:=Tryz.sizeOf274
 v46:=Tryz.zeroValue274
 t51:=Tryz.underlying387
 a51:=Tryz.isAgg387
 z51:=Tryz.sizeOf387
 v51:=Tryz.zeroValue387
 t146:=Tryz.underlying410
 a146:=Tryz.isAgg410
 z146:=Tryz.sizeOf410
 v146:=Tryz.zeroValue410 }
open Go.RowKit Go.Lib in
theorem Tryz.bytealg_IndexRabinKarp (s sep:ByteArray) (h1:1 ≤ sep.size) (h2:sep.size ≤ s.size) (hs:s.size < 4294967281) (w:World) :
  Calls Tryz.prog 301 #[.string s, .string sep] w fun e w' => e = .returned (.int .i64 (Lib.index s.data.toList sep.data.toList)) ∧ w' = w:=Any.bytealg_IndexRabinKarp Tryz.lays267 s sep h1 h2 hs w
def Tryz.lays219_ren:Go.Shelf.Ren:=⟨fun | 219 => 260 | 217 => 298 | 225 => 299 | 224 => 300 | 267 => 301 | 266 => 315 | 314 => 316 | n => n, fun | 9 => 9 | 3 => 3 | 4 => 4 | 5 => 5 | 46 => 274 | 146 => 410 | 51 => 387 | n => n, fun | 1 => 0 | n => n⟩
theorem Tryz.lays219:Go.Proofs.Lays.n219 Tryz.prog Tryz.lays219_ren:={
 mixed:=by kernel_rfl
 f217:=Tryz.func298.trans (congrArg some (by kernel_rfl))
 f219:=Tryz.func260.trans (congrArg some (by kernel_rfl))
 f224:=Tryz.func300.trans (congrArg some (by kernel_rfl))
 f225:=Tryz.func299.trans (congrArg some (by kernel_rfl))
 f266:=Tryz.func315.trans (congrArg some (by kernel_rfl))
 f267:=Tryz.func301.trans (congrArg some (by kernel_rfl))
 f314:=Tryz.func316.trans (congrArg some (by kernel_rfl))
 t3:=Tryz.underlying3
 a3:=Tryz.isAgg3
 z3:=Tryz.sizeOf3
 v3:=Tryz.zeroValue3
 t4:=Tryz.underlying4
 a4:=Tryz.isAgg4
 z4:=Tryz.sizeOf4
 v4:=Tryz.zeroValue4
 t5:=Tryz.underlying5
 a5:=Tryz.isAgg5
 z5:=Tryz.sizeOf5
 v5:=Tryz.zeroValue5
 t9:=Tryz.underlying9
 a9:=Tryz.isAgg9
 z9:=Tryz.sizeOf9
 v9:=Tryz.zeroValue9
 t46:=Tryz.underlying274
 a46:=Tryz.isAgg274
 z46:=Tryz.sizeOf274
 v46:=Tryz.zeroValue274
 t51:=Tryz.underlying387
 a51:=Tryz.isAgg387
 z51:=Tryz.sizeOf387
 v51:=Tryz.zeroValue387
 t146:=Tryz.underlying410
 a146:=Tryz.isAgg410
 z146:=Tryz.sizeOf410
 v146:=Tryz.zeroValue410
 g1:=by kernel_rfl }
open Go.RowKit Go.Lib in
theorem Tryz.stringslite_Index_one (s:ByteArray) (c:UInt8) (w:World) :
  Calls Tryz.prog 260 #[.string s, .string ⟨#[c]⟩] w fun e w' => e = .returned (.int .i64 (Lib.indexByte s.data.toList c)) ∧ w' = w:=Any.stringslite_Index_one Tryz.lays219 s c w
open Go.RowKit Go.Lib in
theorem Tryz.stringslite_Index (s sub:ByteArray) (m:Int) (w:World) (hs:s.size < 4294967281) (hm:w.cell? ⟨0, 0, none⟩ = some (.int .i64 m)) :
  Calls Tryz.prog 260 #[.string s, .string sub] w fun e w' => e = .returned (.int .i64 (Lib.index s.data.toList sub.data.toList)) ∧ w' = w:=Any.stringslite_Index Tryz.lays219 s sub m w hs hm
def Tryz.lays143_ren:Go.Shelf.Ren:=⟨fun | 143 => 202 | 219 => 260 | 217 => 298 | 225 => 299 | 224 => 300 | 267 => 301 | 266 => 315 | 314 => 316 | n => n, fun | 9 => 9 | 3 => 3 | 4 => 4 | 5 => 5 | 46 => 274 | 146 => 410 | 51 => 387 | n => n, fun | 1 => 0 | n => n⟩
theorem Tryz.lays143:Go.Proofs.Lays.n143 Tryz.prog Tryz.lays143_ren:={
 mixed:=by kernel_rfl
 f143:=Tryz.func202.trans (congrArg some (by kernel_rfl))
 f217:=Tryz.func298.trans (congrArg some (by kernel_rfl))
 f219:=Tryz.func260.trans (congrArg some (by kernel_rfl))
 f224:=Tryz.func300.trans (congrArg some (by kernel_rfl))
 f225:=Tryz.func299.trans (congrArg some (by kernel_rfl))
 f266:=Tryz.func315.trans (congrArg some (by kernel_rfl))
 f267:=Tryz.func301.trans (congrArg some (by kernel_rfl))
 f314:=Tryz.func316.trans (congrArg some (by kernel_rfl))
 t3:=Tryz.underlying3
 a3:=Tryz.isAgg3
 z3:=Tryz.sizeOf3
 v3:=Tryz.zeroValue3
 t4:=Tryz.underlying4
 a4:=Tryz.isAgg4
 z4:=Tryz.sizeOf4
 v4:=Tryz.zeroValue4
 t5:=Tryz.underlying5
 a5:=Tryz.isAgg5
 z5:=Tryz.sizeOf5
 v5:=Tryz.zeroValue5
 t9:=Tryz.underlying9
 a9:=Tryz.isAgg9
 z9:=Tryz.sizeOf9
 v9:=Tryz.zeroValue9
 t46:=Tryz.underlying274
 a46:=Tryz.isAgg274
 z46:=Tryz.sizeOf274
 v46:=Tryz.zeroValue274
 t51:=Tryz.underlying387
 a51:=Tryz.isAgg387
 z51:=Tryz.sizeOf387
 v51:=Tryz.zeroValue387
 t146:=Tryz.underlying410
 a146:=Tryz.isAgg410
 z146:=Tryz.sizeOf410
 v146:=Tryz.zeroValue410
 g1:=by kernel_rfl }
open Go.RowKit Go.Lib in
theorem Tryz.strings_Index_one (s:ByteArray) (c:UInt8) (w:World) :
  Calls Tryz.prog 202 #[.string s, .string ⟨#[c]⟩] w fun e w' => e = .returned (.int .i64 (Lib.indexByte s.data.toList c)) ∧ w' = w:=Any.strings_Index_one Tryz.lays143 s c w
open Go.RowKit Go.Lib in
theorem Tryz.strings_Index (s sub:ByteArray) (m:Int) (w:World) (hs:s.size < 4294967281) (hm:w.cell? ⟨0, 0, none⟩ = some (.int .i64 m)) :
  Calls Tryz.prog 202 #[.string s, .string sub] w fun e w' => e = .returned (.int .i64 (Lib.index s.data.toList sub.data.toList)) ∧ w' = w:=Any.strings_Index Tryz.lays143 s sub m w hs hm
def Tryz.lays144_ren:Go.Shelf.Ren:=⟨fun | 144 => 132 | 143 => 202 | 219 => 260 | 217 => 298 | 225 => 299 | 224 => 300 | 267 => 301 | 266 => 315 | 314 => 316 | n => n, fun | 9 => 9 | 4 => 4 | 3 => 3 | 5 => 5 | 46 => 274 | 146 => 410 | 51 => 387 | n => n, fun | 1 => 0 | n => n⟩
theorem Tryz.lays144:Go.Proofs.Lays.n144 Tryz.prog Tryz.lays144_ren:={
 mixed:=by kernel_rfl
 f143:=Tryz.func202.trans (congrArg some (by kernel_rfl))
 f144:=Tryz.func132.trans (congrArg some (by kernel_rfl))
 f217:=Tryz.func298.trans (congrArg some (by kernel_rfl))
 f219:=Tryz.func260.trans (congrArg some (by kernel_rfl))
 f224:=Tryz.func300.trans (congrArg some (by kernel_rfl))
 f225:=Tryz.func299.trans (congrArg some (by kernel_rfl))
 f266:=Tryz.func315.trans (congrArg some (by kernel_rfl))
 f267:=Tryz.func301.trans (congrArg some (by kernel_rfl))
 f314:=Tryz.func316.trans (congrArg some (by kernel_rfl))
 t3:=Tryz.underlying3
 a3:=Tryz.isAgg3
 z3:=Tryz.sizeOf3
 v3:=Tryz.zeroValue3
 t4:=Tryz.underlying4
 a4:=Tryz.isAgg4
 z4:=Tryz.sizeOf4
 v4:=Tryz.zeroValue4
 t5:=Tryz.underlying5
 a5:=Tryz.isAgg5
 z5:=Tryz.sizeOf5
 v5:=Tryz.zeroValue5
 t9:=Tryz.underlying9
 a9:=Tryz.isAgg9
 z9:=Tryz.sizeOf9
 v9:=Tryz.zeroValue9
 t46:=Tryz.underlying274
 a46:=Tryz.isAgg274
 z46:=Tryz.sizeOf274
 v46:=Tryz.zeroValue274
 t51:=Tryz.underlying387
 a51:=Tryz.isAgg387
 z51:=Tryz.sizeOf387
 v51:=Tryz.zeroValue387
 t146:=Tryz.underlying410
 a146:=Tryz.isAgg410
 z146:=Tryz.sizeOf410
 v146:=Tryz.zeroValue410
 g1:=by kernel_rfl }
open Go.RowKit Go.Lib in
theorem Tryz.strings_Contains_one (s:ByteArray) (c:UInt8) (w:World) :
  Calls Tryz.prog 132 #[.string s, .string ⟨#[c]⟩] w fun e w' => e = .returned (.bool (decide (0 ≤ Lib.indexByte s.data.toList c))) ∧ w' = w:=Any.strings_Contains_one Tryz.lays144 s c w
open Go.RowKit Go.Lib in
theorem Tryz.strings_Contains (s sub:ByteArray) (m:Int) (w:World) (hs:s.size < 4294967281) (hm:w.cell? ⟨0, 0, none⟩ = some (.int .i64 m)) :
  Calls Tryz.prog 132 #[.string s, .string sub] w fun e w' => e = .returned (.bool (Lib.contains s.data.toList sub.data.toList)) ∧ w' = w:=Any.strings_Contains Tryz.lays144 s sub m w hs hm
def Tryz.lays220_ren:Go.Shelf.Ren:=⟨fun | 220 => 201 | 219 => 260 | 217 => 298 | 225 => 299 | 224 => 300 | 267 => 301 | 266 => 315 | 314 => 316 | n => n, fun | 9 => 9 | 4 => 4 | 3 => 3 | 5 => 5 | 46 => 274 | 146 => 410 | 51 => 387 | n => n, fun | 1 => 0 | n => n⟩
theorem Tryz.lays220:Go.Proofs.Lays.n220 Tryz.prog Tryz.lays220_ren:={
 mixed:=by kernel_rfl
 f217:=Tryz.func298.trans (congrArg some (by kernel_rfl))
 f219:=Tryz.func260.trans (congrArg some (by kernel_rfl))
 f220:=Tryz.func201.trans (congrArg some (by kernel_rfl))
 f224:=Tryz.func300.trans (congrArg some (by kernel_rfl))
 f225:=Tryz.func299.trans (congrArg some (by kernel_rfl))
 f266:=Tryz.func315.trans (congrArg some (by kernel_rfl))
 f267:=Tryz.func301.trans (congrArg some (by kernel_rfl))
 f314:=Tryz.func316.trans (congrArg some (by kernel_rfl))
 t3:=Tryz.underlying3
 a3:=Tryz.isAgg3
 z3:=Tryz.sizeOf3
 v3:=Tryz.zeroValue3
 t4:=Tryz.underlying4
 a4:=Tryz.isAgg4
 z4:=Tryz.sizeOf4
 v4:=Tryz.zeroValue4
 t5:=Tryz.underlying5
 a5:=Tryz.isAgg5
 z5:=Tryz.sizeOf5
 v5:=Tryz.zeroValue5
 t9:=Tryz.underlying9
 a9:=Tryz.isAgg9
 z9:=Tryz.sizeOf9
 v9:=Tryz.zeroValue9
 t46:=Tryz.underlying274
 a46:=Tryz.isAgg274
 z46:=Tryz.sizeOf274
 v46:=Tryz.zeroValue274
 t51:=Tryz.underlying387
 a51:=Tryz.isAgg387
 z51:=Tryz.sizeOf387
 v51:=Tryz.zeroValue387
 t146:=Tryz.underlying410
 a146:=Tryz.isAgg410
 z146:=Tryz.sizeOf410
 v146:=Tryz.zeroValue410
 g1:=by kernel_rfl }
open Go.RowKit Go.Lib in
theorem Tryz.stringslite_Cut (s sep:ByteArray) (m:Int) (w:World) (hs:s.size < 4294967281) (hm:w.cell? ⟨0, 0, none⟩ = some (.int .i64 m)) :
  Calls Tryz.prog 201 #[.string s, .string sep] w fun e w' => e = .returned (.tuple #[.string ⟨(Lib.cut s.data.toList sep.data.toList).1.toArray⟩, .string ⟨(Lib.cut s.data.toList sep.data.toList).2.1.toArray⟩, .bool (Lib.cut s.data.toList sep.data.toList).2.2]) ∧ ∃ n, w' = w.drewN n:=Any.stringslite_Cut Tryz.lays220 s sep m w hs hm
def Tryz.lays145_ren:Go.Shelf.Ren:=⟨fun | 145 => 131 | 220 => 201 | 219 => 260 | 217 => 298 | 225 => 299 | 224 => 300 | 267 => 301 | 266 => 315 | 314 => 316 | n => n, fun | 9 => 9 | 4 => 4 | 59 => 243 | 3 => 3 | 5 => 5 | 46 => 274 | 146 => 410 | 51 => 387 | n => n, fun | 1 => 0 | n => n⟩
theorem Tryz.lays145:Go.Proofs.Lays.n145 Tryz.prog Tryz.lays145_ren:={
 mixed:=by kernel_rfl
 f145:=Tryz.func131.trans (congrArg some (by kernel_rfl))
 f217:=Tryz.func298.trans (congrArg some (by kernel_rfl))
 f219:=Tryz.func260.trans (congrArg some (by kernel_rfl))
 f220:=Tryz.func201.trans (congrArg some (by kernel_rfl))
 f224:=Tryz.func300.trans (congrArg some (by kernel_rfl))
 f225:=Tryz.func299.trans (congrArg some (by kernel_rfl))
 f266:=Tryz.func315.trans (congrArg some (by kernel_rfl))
 f267:=Tryz.func301.trans (congrArg some (by kernel_rfl))
 f314:=Tryz.func316.trans (congrArg some (by kernel_rfl))
 t3:=Tryz.underlying3
 a3:=Tryz.isAgg3
 z3:=Tryz.sizeOf3
 v3:=Tryz.zeroValue3
 t4:=Tryz.underlying4
 a4:=Tryz.isAgg4
 z4:=Tryz.sizeOf4
 v4:=Tryz.zeroValue4
 t5:=Tryz.underlying5
 a5:=Tryz.isAgg5
 z5:=Tryz.sizeOf5
 v5:=Tryz.zeroValue5
 t9:=Tryz.underlying9
 a9:=Tryz.isAgg9
 z9:=Tryz.sizeOf9
 v9:=Tryz.zeroValue9
 t46:=Tryz.underlying274
 a46:=Tryz.isAgg274
 z46:=Tryz.sizeOf274
 v46:=Tryz.zeroValue274
 t51:=Tryz.underlying387
 a51:=Tryz.isAgg387
 z51:=Tryz.sizeOf387
 v51:=Tryz.zeroValue387
 t59:=Tryz.underlying243
 a59:=Tryz.isAgg243
 z59:=Tryz.sizeOf243
 v59:=Tryz.zeroValue243
 t146:=Tryz.underlying410
 a146:=Tryz.isAgg410
 z146:=Tryz.sizeOf410
 v146:=Tryz.zeroValue410
 g1:=by kernel_rfl }
open Go.RowKit Go.Lib in
theorem Tryz.strings_Cut (s sep:ByteArray) (m:Int) (w:World) (hs:s.size < 4294967281) (hm:w.cell? ⟨0, 0, none⟩ = some (.int .i64 m)) :
  Calls Tryz.prog 131 #[.string s, .string sep] w fun e w' => e = .returned (.tuple #[.string ⟨(Lib.cut s.data.toList sep.data.toList).1.toArray⟩, .string ⟨(Lib.cut s.data.toList sep.data.toList).2.1.toArray⟩, .bool (Lib.cut s.data.toList sep.data.toList).2.2]) ∧ ∃ n, w' = w.drewN n:=Any.strings_Cut Tryz.lays145 s sep m w hs hm
def Tryz.lays138_ren:Go.Shelf.Ren:=⟨fun | 138 => 262 | 195 => 302 | 218 => 303 | 143 => 202 | 219 => 260 | 217 => 298 | 225 => 299 | 224 => 300 | 267 => 301 | 266 => 315 | 314 => 316 | n => n, fun | 9 => 9 | 3 => 3 | 4 => 4 | 5 => 5 | 0 => 0 | 46 => 274 | 146 => 410 | 51 => 387 | n => n, fun | 1 => 0 | n => n⟩
theorem Tryz.lays138:Go.Proofs.Lays.n138 Tryz.prog Tryz.lays138_ren:={
 mixed:=by kernel_rfl
 f138:=Tryz.func262.trans (congrArg some (by kernel_rfl))
 f143:=Tryz.func202.trans (congrArg some (by kernel_rfl))
 f195:=Tryz.func302.trans (congrArg some (by kernel_rfl))
 f217:=Tryz.func298.trans (congrArg some (by kernel_rfl))
 f218:=Tryz.func303.trans (congrArg some (by kernel_rfl))
 f219:=Tryz.func260.trans (congrArg some (by kernel_rfl))
 f224:=Tryz.func300.trans (congrArg some (by kernel_rfl))
 f225:=Tryz.func299.trans (congrArg some (by kernel_rfl))
 f266:=Tryz.func315.trans (congrArg some (by kernel_rfl))
 f267:=Tryz.func301.trans (congrArg some (by kernel_rfl))
 f314:=Tryz.func316.trans (congrArg some (by kernel_rfl))
 t0:=Tryz.underlying0
 a0:=Tryz.isAgg0
 z0:=Tryz.sizeOf0
 v0:=Tryz.zeroValue0
 t3:=Tryz.underlying3
 a3:=Tryz.isAgg3
 z3:=Tryz.sizeOf3
 v3:=Tryz.zeroValue3
 t4:=Tryz.underlying4
 a4:=Tryz.isAgg4
 z4:=Tryz.sizeOf4
 v4:=Tryz.zeroValue4
 t5:=Tryz.underlying5
 a5:=Tryz.isAgg5
 z5:=Tryz.sizeOf5
 v5:=Tryz.zeroValue5
 t9:=Tryz.underlying9
 a9:=Tryz.isAgg9
 z9:=Tryz.sizeOf9
 v9:=Tryz.zeroValue9
 t46:=Tryz.underlying274
 a46:=Tryz.isAgg274
 z46:=Tryz.sizeOf274
 v46:=Tryz.zeroValue274
 t51:=Tryz.underlying387
 a51:=Tryz.isAgg387
 z51:=Tryz.sizeOf387
 v51:=Tryz.zeroValue387
 t146:=Tryz.underlying410
 a146:=Tryz.isAgg410
 z146:=Tryz.sizeOf410
 v146:=Tryz.zeroValue410
 g1:=by kernel_rfl }
open Go.RowKit Go.Lib in
theorem Tryz.strings_Count_one (s:ByteArray) (c:UInt8) (w:World) :
  Calls Tryz.prog 262 #[.string s, .string ⟨#[c]⟩] w fun e w' => e = .returned (.int .i64 (Lib.countByte s.data.toList c)) ∧ w' = w:=Any.strings_Count_one Tryz.lays138 s c w
open Go.RowKit Go.Lib in
theorem Tryz.strings_Count (s sub:ByteArray) (m:Int) (w:World) (hs:s.size < 4294967281) (hm:w.cell? ⟨0, 0, none⟩ = some (.int .i64 m)) (h2:2 ≤ sub.size) :
  Calls Tryz.prog 262 #[.string s, .string sub] w fun e w' => e = .returned (.int .i64 (Lib.countB s sub)) ∧ w' = w:=Any.strings_Count Tryz.lays138 s sub m w hs hm h2
def Tryz.laysM219_ren:Go.Shelf.Ren:=⟨fun | 219 => 260 | 217 => 298 | 225 => 299 | 224 => 300 | 267 => 301 | 266 => 315 | 314 => 316 | n => n, fun | 9 => 9 | 3 => 3 | 4 => 4 | 5 => 5 | 46 => 274 | 146 => 410 | 51 => 387 | n => n, fun | 1 => 0 | n => n⟩
theorem Tryz.laysM219:Go.Proofs.LaysM.n219 Tryz.prog Tryz.laysM219_ren:={
 mixed:=by kernel_rfl
 f217:=Tryz.func298.trans (congrArg some (by kernel_rfl))
 f219:=Tryz.func260.trans (congrArg some (by kernel_rfl))
 f224:=Tryz.func300.trans (congrArg some (by kernel_rfl))
 f225:=Tryz.func299.trans (congrArg some (by kernel_rfl))
 f266:=Tryz.func315.trans (congrArg some (by kernel_rfl))
 f267:=Tryz.func301.trans (congrArg some (by kernel_rfl))
 f314:=Tryz.func316.trans (congrArg some (by kernel_rfl))
 t3:=Tryz.underlying3
 a3:=Tryz.isAgg3
 z3:=Tryz.sizeOf3
 v3:=Tryz.zeroValue3
 t4:=Tryz.underlying4
 a4:=Tryz.isAgg4
 z4:=Tryz.sizeOf4
 v4:=Tryz.zeroValue4
 t5:=Tryz.underlying5
 a5:=Tryz.isAgg5
 z5:=Tryz.sizeOf5
 v5:=Tryz.zeroValue5
 t9:=Tryz.underlying9
 a9:=Tryz.isAgg9
 z9:=Tryz.sizeOf9
 v9:=Tryz.zeroValue9
 t46:=Tryz.underlying274
 a46:=Tryz.isAgg274
 z46:=Tryz.sizeOf274
 v46:=Tryz.zeroValue274
 t51:=Tryz.underlying387
 a51:=Tryz.isAgg387
 z51:=Tryz.sizeOf387
 v51:=Tryz.zeroValue387
 t146:=Tryz.underlying410
 a146:=Tryz.isAgg410
 z146:=Tryz.sizeOf410
 v146:=Tryz.zeroValue410
 g1:=by kernel_rfl
 i3:=by kernel_rfl
 i4:=by kernel_rfl
 i5:=by kernel_rfl
 i9:=by kernel_rfl
 i46:=by kernel_rfl
 i51:=by kernel_rfl
 i146:=by kernel_rfl
 m1:=by kernel_rfl
 s1_3:=fun w h => Go.Proofs.cell_of_shapedOpen_int (zero:=#[.int .i64 0]) (t:=3) h (of_decide_eq_true (by kernel_rfl)) (by kernel_rfl) rfl (by kernel_rfl) (by kernel_rfl) Tryz.underlying3 }
open Go.RowKit Go.Lib in
theorem Tryz.stringslite_Index_shaped (s sub:ByteArray) (w:World) (h:w.ShapedOpen Tryz.prog) (hs:s.size < 4294967281) :
  Calls Tryz.prog 260 #[.string s, .string sub] w fun e w' => e = .returned (.int .i64 (Lib.index s.data.toList sub.data.toList)) ∧ w' = w:=Any.stringslite_Index_shaped Tryz.laysM219 s sub w h hs
def Tryz.laysM143_ren:Go.Shelf.Ren:=⟨fun | 143 => 202 | 219 => 260 | 217 => 298 | 225 => 299 | 224 => 300 | 267 => 301 | 266 => 315 | 314 => 316 | n => n, fun | 9 => 9 | 3 => 3 | 4 => 4 | 5 => 5 | 46 => 274 | 146 => 410 | 51 => 387 | n => n, fun | 1 => 0 | n => n⟩
theorem Tryz.laysM143:Go.Proofs.LaysM.n143 Tryz.prog Tryz.laysM143_ren:={
 mixed:=by kernel_rfl
 f143:=Tryz.func202.trans (congrArg some (by kernel_rfl))
 f217:=Tryz.func298.trans (congrArg some (by kernel_rfl))
 f219:=Tryz.func260.trans (congrArg some (by kernel_rfl))
 f224:=Tryz.func300.trans (congrArg some (by kernel_rfl))
 f225:=Tryz.func299.trans (congrArg some (by kernel_rfl))
 f266:=Tryz.func315.trans (congrArg some (by kernel_rfl))
 f267:=Tryz.func301.trans (congrArg some (by kernel_rfl))
 f314:=Tryz.func316.trans (congrArg some (by kernel_rfl))
 t3:=Tryz.underlying3
 a3:=Tryz.isAgg3
 z3:=Tryz.sizeOf3
 v3:=Tryz.zeroValue3
 t4:=Tryz.underlying4
 a4:=Tryz.isAgg4
 z4:=Tryz.sizeOf4
 v4:=Tryz.zeroValue4
 t5:=Tryz.underlying5
 a5:=Tryz.isAgg5
 z5:=Tryz.sizeOf5
 v5:=Tryz.zeroValue5
 t9:=Tryz.underlying9
 a9:=Tryz.isAgg9
 z9:=Tryz.sizeOf9
 v9:=Tryz.zeroValue9
 t46:=Tryz.underlying274
 a46:=Tryz.isAgg274
 z46:=Tryz.sizeOf274
 v46:=Tryz.zeroValue274
 t51:=Tryz.underlying387
 a51:=Tryz.isAgg387
 z51:=Tryz.sizeOf387
 v51:=Tryz.zeroValue387
 t146:=Tryz.underlying410
 a146:=Tryz.isAgg410
 z146:=Tryz.sizeOf410
 v146:=Tryz.zeroValue410
 g1:=by kernel_rfl
 i3:=by kernel_rfl
 i4:=by kernel_rfl
 i5:=by kernel_rfl
 i9:=by kernel_rfl
 i46:=by kernel_rfl
 i51:=by kernel_rfl
 i146:=by kernel_rfl
 m1:=by kernel_rfl
 s1_3:=fun w h => Go.Proofs.cell_of_shapedOpen_int (zero:=#[.int .i64 0]) (t:=3) h (of_decide_eq_true (by kernel_rfl)) (by kernel_rfl) rfl (by kernel_rfl) (by kernel_rfl) Tryz.underlying3 }
open Go.RowKit Go.Lib in
theorem Tryz.strings_Index_shaped (s sub:ByteArray) (w:World) (h:w.ShapedOpen Tryz.prog) (hs:s.size < 4294967281) :
  Calls Tryz.prog 202 #[.string s, .string sub] w fun e w' => e = .returned (.int .i64 (Lib.index s.data.toList sub.data.toList)) ∧ w' = w:=Any.strings_Index_shaped Tryz.laysM143 s sub w h hs
def Tryz.laysM144_ren:Go.Shelf.Ren:=⟨fun | 144 => 132 | 143 => 202 | 219 => 260 | 217 => 298 | 225 => 299 | 224 => 300 | 267 => 301 | 266 => 315 | 314 => 316 | n => n, fun | 9 => 9 | 4 => 4 | 3 => 3 | 5 => 5 | 46 => 274 | 146 => 410 | 51 => 387 | n => n, fun | 1 => 0 | n => n⟩
theorem Tryz.laysM144:Go.Proofs.LaysM.n144 Tryz.prog Tryz.laysM144_ren:={
 mixed:=by kernel_rfl
 f143:=Tryz.func202.trans (congrArg some (by kernel_rfl))
 f144:=Tryz.func132.trans (congrArg some (by kernel_rfl))
 f217:=Tryz.func298.trans (congrArg some (by kernel_rfl))
 f219:=Tryz.func260.trans (congrArg some (by kernel_rfl))
 f224:=Tryz.func300.trans (congrArg some (by kernel_rfl))
 f225:=Tryz.func299.trans (congrArg some (by kernel_rfl))
 f266:=Tryz.func315.trans (congrArg some (by kernel_rfl))
 f267:=Tryz.func301.trans (congrArg some (by kernel_rfl))
 f314:=Tryz.func316.trans (congrArg some (by kernel_rfl))
 t3:=Tryz.underlying3
 a3:=Tryz.isAgg3
 z3:=Tryz.sizeOf3
 v3:=Tryz.zeroValue3
 t4:=Tryz.underlying4
 a4:=Tryz.isAgg4
 z4:=Tryz.sizeOf4
 v4:=Tryz.zeroValue4
 t5:=Tryz.underlying5
 a5:=Tryz.isAgg5
 z5:=Tryz.sizeOf5
 v5:=Tryz.zeroValue5
 t9:=Tryz.underlying9
 a9:=Tryz.isAgg9
 z9:=Tryz.sizeOf9
 v9:=Tryz.zeroValue9
 t46:=Tryz.underlying274
 a46:=Tryz.isAgg274
 z46:=Tryz.sizeOf274
 v46:=Tryz.zeroValue274
 t51:=Tryz.underlying387
 a51:=Tryz.isAgg387
 z51:=Tryz.sizeOf387
 v51:=Tryz.zeroValue387
 t146:=Tryz.underlying410
 a146:=Tryz.isAgg410
 z146:=Tryz.sizeOf410
 v146:=Tryz.zeroValue410
 g1:=by kernel_rfl
 i3:=by kernel_rfl
 i4:=by kernel_rfl
 i5:=by kernel_rfl
 i9:=by kernel_rfl
 i46:=by kernel_rfl
 i51:=by kernel_rfl
 i146:=by kernel_rfl
 m1:=by kernel_rfl
 s1_3:=fun w h => Go.Proofs.cell_of_shapedOpen_int (zero:=#[.int .i64 0]) (t:=3) h (of_decide_eq_true (by kernel_rfl)) (by kernel_rfl) rfl (by kernel_rfl) (by kernel_rfl) Tryz.underlying3 }
open Go.RowKit Go.Lib in
theorem Tryz.strings_Contains_shaped (s sub:ByteArray) (w:World) (h:w.ShapedOpen Tryz.prog) (hs:s.size < 4294967281) :
  Calls Tryz.prog 132 #[.string s, .string sub] w fun e w' => e = .returned (.bool (Lib.contains s.data.toList sub.data.toList)) ∧ w' = w:=Any.strings_Contains_shaped Tryz.laysM144 s sub w h hs
def Tryz.laysM220_ren:Go.Shelf.Ren:=⟨fun | 220 => 201 | 219 => 260 | 217 => 298 | 225 => 299 | 224 => 300 | 267 => 301 | 266 => 315 | 314 => 316 | n => n, fun | 9 => 9 | 4 => 4 | 3 => 3 | 5 => 5 | 46 => 274 | 146 => 410 | 51 => 387 | n => n, fun | 1 => 0 | n => n⟩
theorem Tryz.laysM220:Go.Proofs.LaysM.n220 Tryz.prog Tryz.laysM220_ren:={
 mixed:=by kernel_rfl
 f217:=Tryz.func298.trans (congrArg some (by kernel_rfl))
 f219:=Tryz.func260.trans (congrArg some (by kernel_rfl))
 f220:=Tryz.func201.trans (congrArg some (by kernel_rfl))
 f224:=Tryz.func300.trans (congrArg some (by kernel_rfl))
 f225:=Tryz.func299.trans (congrArg some (by kernel_rfl))
 f266:=Tryz.func315.trans (congrArg some (by kernel_rfl))
 f267:=Tryz.func301.trans (congrArg some (by kernel_rfl))
 f314:=Tryz.func316.trans (congrArg some (by kernel_rfl))
 t3:=Tryz.underlying3
 a3:=Tryz.isAgg3
 z3:=Tryz.sizeOf3
 v3:=Tryz.zeroValue3
 t4:=Tryz.underlying4
 a4:=Tryz.isAgg4
 z4:=Tryz.sizeOf4
 v4:=Tryz.zeroValue4
 t5:=Tryz.underlying5
 a5:=Tryz.isAgg5
 z5:=Tryz.sizeOf5
 v5:=Tryz.zeroValue5
 t9:=Tryz.underlying9
 a9:=Tryz.isAgg9
 z9:=Tryz.sizeOf9
 v9:=Tryz.zeroValue9
 t46:=Tryz.underlying274
 a46:=Tryz.isAgg274
 z46:=Tryz.sizeOf274
 v46:=Tryz.zeroValue274
 t51:=Tryz.underlying387
 a51:=Tryz.isAgg387
 z51:=Tryz.sizeOf387
 v51:=Tryz.zeroValue387
 t146:=Tryz.underlying410
 a146:=Tryz.isAgg410
 z146:=Tryz.sizeOf410
 v146:=Tryz.zeroValue410
 g1:=by kernel_rfl
 i3:=by kernel_rfl
 i4:=by kernel_rfl
 i5:=by kernel_rfl
 i9:=by kernel_rfl
 i46:=by kernel_rfl
 i51:=by kernel_rfl
 i146:=by kernel_rfl
 m1:=by kernel_rfl
 s1_3:=fun w h => Go.Proofs.cell_of_shapedOpen_int (zero:=#[.int .i64 0]) (t:=3) h (of_decide_eq_true (by kernel_rfl)) (by kernel_rfl) rfl (by kernel_rfl) (by kernel_rfl) Tryz.underlying3 }
open Go.RowKit Go.Lib in
theorem Tryz.stringslite_Cut_shaped (s sep:ByteArray) (w:World) (h:w.ShapedOpen Tryz.prog) (hs:s.size < 4294967281) :
  Calls Tryz.prog 201 #[.string s, .string sep] w fun e w' => e = .returned (.tuple #[.string ⟨(Lib.cut s.data.toList sep.data.toList).1.toArray⟩, .string ⟨(Lib.cut s.data.toList sep.data.toList).2.1.toArray⟩, .bool (Lib.cut s.data.toList sep.data.toList).2.2]) ∧ ∃ n, w' = w.drewN n:=Any.stringslite_Cut_shaped Tryz.laysM220 s sep w h hs
def Tryz.laysM145_ren:Go.Shelf.Ren:=⟨fun | 145 => 131 | 220 => 201 | 219 => 260 | 217 => 298 | 225 => 299 | 224 => 300 | 267 => 301 | 266 => 315 | 314 => 316 | n => n, fun | 9 => 9 | 4 => 4 | 59 => 243 | 3 => 3 | 5 => 5 | 46 => 274 | 146 => 410 | 51 => 387 | n => n, fun | 1 => 0 | n => n⟩
theorem Tryz.laysM145:Go.Proofs.LaysM.n145 Tryz.prog Tryz.laysM145_ren:={
 mixed:=by kernel_rfl
 f145:=Tryz.func131.trans (congrArg some (by kernel_rfl))
 f217:=Tryz.func298.trans (congrArg some (by kernel_rfl))
 f219:=Tryz.func260.trans (congrArg some (by kernel_rfl))
 f220:=Tryz.func201.trans (congrArg some (by kernel_rfl))
 f224:=Tryz.func300.trans (congrArg some (by kernel_rfl))
 f225:=Tryz.func299.trans (congrArg some (by kernel_rfl))
 f266:=Tryz.func315.trans (congrArg some (by kernel_rfl))
 f267:=Tryz.func301.trans (congrArg some (by kernel_rfl))
 f314:=Tryz.func316.trans (congrArg some (by kernel_rfl))
 t3:=Tryz.underlying3
 a3:=Tryz.isAgg3
 z3:=Tryz.sizeOf3
 v3:=Tryz.zeroValue3
 t4:=Tryz.underlying4
 a4:=Tryz.isAgg4
 z4:=Tryz.sizeOf4
 v4:=Tryz.zeroValue4
 t5:=Tryz.underlying5
 a5:=Tryz.isAgg5
 z5:=Tryz.sizeOf5
 v5:=Tryz.zeroValue5
 t9:=Tryz.underlying9
 a9:=Tryz.isAgg9
 z9:=Tryz.sizeOf9
 v9:=Tryz.zeroValue9
 t46:=Tryz.underlying274
 a46:=Tryz.isAgg274
 z46:=Tryz.sizeOf274
 v46:=Tryz.zeroValue274
 t51:=Tryz.underlying387
 a51:=Tryz.isAgg387
 z51:=Tryz.sizeOf387
 v51:=Tryz.zeroValue387
 t59:=Tryz.underlying243
 a59:=Tryz.isAgg243
 z59:=Tryz.sizeOf243
 v59:=Tryz.zeroValue243
 t146:=Tryz.underlying410
 a146:=Tryz.isAgg410
 z146:=Tryz.sizeOf410
 v146:=Tryz.zeroValue410
 g1:=by kernel_rfl
 i3:=by kernel_rfl
 i4:=by kernel_rfl
 i5:=by kernel_rfl
 i9:=by kernel_rfl
 i46:=by kernel_rfl
 i51:=by kernel_rfl
 i59:=by kernel_rfl
 i146:=by kernel_rfl
 m1:=by kernel_rfl
 s1_3:=fun w h => Go.Proofs.cell_of_shapedOpen_int (zero:=#[.int .i64 0]) (t:=3) h (of_decide_eq_true (by kernel_rfl)) (by kernel_rfl) rfl (by kernel_rfl) (by kernel_rfl) Tryz.underlying3 }
open Go.RowKit Go.Lib in
theorem Tryz.strings_Cut_shaped (s sep:ByteArray) (w:World) (h:w.ShapedOpen Tryz.prog) (hs:s.size < 4294967281) :
  Calls Tryz.prog 131 #[.string s, .string sep] w fun e w' => e = .returned (.tuple #[.string ⟨(Lib.cut s.data.toList sep.data.toList).1.toArray⟩, .string ⟨(Lib.cut s.data.toList sep.data.toList).2.1.toArray⟩, .bool (Lib.cut s.data.toList sep.data.toList).2.2]) ∧ ∃ n, w' = w.drewN n:=Any.strings_Cut_shaped Tryz.laysM145 s sep w h hs
def Tryz.laysM138_ren:Go.Shelf.Ren:=⟨fun | 138 => 262 | 195 => 302 | 218 => 303 | 143 => 202 | 219 => 260 | 217 => 298 | 225 => 299 | 224 => 300 | 267 => 301 | 266 => 315 | 314 => 316 | n => n, fun | 9 => 9 | 3 => 3 | 4 => 4 | 5 => 5 | 0 => 0 | 46 => 274 | 146 => 410 | 51 => 387 | n => n, fun | 1 => 0 | n => n⟩
theorem Tryz.laysM138:Go.Proofs.LaysM.n138 Tryz.prog Tryz.laysM138_ren:={
 mixed:=by kernel_rfl
 f138:=Tryz.func262.trans (congrArg some (by kernel_rfl))
 f143:=Tryz.func202.trans (congrArg some (by kernel_rfl))
 f195:=Tryz.func302.trans (congrArg some (by kernel_rfl))
 f217:=Tryz.func298.trans (congrArg some (by kernel_rfl))
 f218:=Tryz.func303.trans (congrArg some (by kernel_rfl))
 f219:=Tryz.func260.trans (congrArg some (by kernel_rfl))
 f224:=Tryz.func300.trans (congrArg some (by kernel_rfl))
 f225:=Tryz.func299.trans (congrArg some (by kernel_rfl))
 f266:=Tryz.func315.trans (congrArg some (by kernel_rfl))
 f267:=Tryz.func301.trans (congrArg some (by kernel_rfl))
 f314:=Tryz.func316.trans (congrArg some (by kernel_rfl))
 t0:=Tryz.underlying0
 a0:=Tryz.isAgg0
 z0:=Tryz.sizeOf0
 v0:=Tryz.zeroValue0
 t3:=Tryz.underlying3
 a3:=Tryz.isAgg3
 z3:=Tryz.sizeOf3
 v3:=Tryz.zeroValue3
 t4:=Tryz.underlying4
 a4:=Tryz.isAgg4
 z4:=Tryz.sizeOf4
 v4:=Tryz.zeroValue4
 t5:=Tryz.underlying5
 a5:=Tryz.isAgg5
 z5:=Tryz.sizeOf5
 v5:=Tryz.zeroValue5
 t9:=Tryz.underlying9
 a9:=Tryz.isAgg9
 z9:=Tryz.sizeOf9
 v9:=Tryz.zeroValue9
 t46:=Tryz.underlying274
 a46:=Tryz.isAgg274
 z46:=Tryz.sizeOf274
 v46:=Tryz.zeroValue274
 t51:=Tryz.underlying387
 a51:=Tryz.isAgg387
 z51:=Tryz.sizeOf387
 v51:=Tryz.zeroValue387
 t146:=Tryz.underlying410
 a146:=Tryz.isAgg410
 z146:=Tryz.sizeOf410
 v146:=Tryz.zeroValue410
 g1:=by kernel_rfl
 i0:=by kernel_rfl
 i3:=by kernel_rfl
 i4:=by kernel_rfl
 i5:=by kernel_rfl
 i9:=by kernel_rfl
 i46:=by kernel_rfl
 i51:=by kernel_rfl
 i146:=by kernel_rfl
 m1:=by kernel_rfl
 s1_3:=fun w h => Go.Proofs.cell_of_shapedOpen_int (zero:=#[.int .i64 0]) (t:=3) h (of_decide_eq_true (by kernel_rfl)) (by kernel_rfl) rfl (by kernel_rfl) (by kernel_rfl) Tryz.underlying3 }
open Go.RowKit Go.Lib in
theorem Tryz.strings_Count_shaped (s sub:ByteArray) (w:World) (h:w.ShapedOpen Tryz.prog) (hs:s.size < 4294967281) (h2:2 ≤ sub.size) :
  Calls Tryz.prog 262 #[.string s, .string sub] w fun e w' => e = .returned (.int .i64 (Lib.countB s sub)) ∧ w' = w:=Any.strings_Count_shaped Tryz.laysM138 s sub w h hs h2
def Tryz.lays207_ren:Go.Shelf.Ren:=⟨fun | 207 => 259 | n => n, fun | 9 => 9 | 4 => 4 | 3 => 3 | n => n, fun | n => n⟩
theorem Tryz.lays207:Go.Proofs.Lays.n207 Tryz.prog Tryz.lays207_ren:={
 mixed:=by kernel_rfl
 f207:=Tryz.func259.trans (congrArg some (by kernel_rfl))
 t3:=Tryz.underlying3
 a3:=Tryz.isAgg3
 z3:=Tryz.sizeOf3
 v3:=Tryz.zeroValue3
 t4:=Tryz.underlying4
 a4:=Tryz.isAgg4
 z4:=Tryz.sizeOf4
 v4:=Tryz.zeroValue4
 t9:=Tryz.underlying9
 a9:=Tryz.isAgg9
 z9:=Tryz.sizeOf9
 v9:=Tryz.zeroValue9 }
open Go.RowKit Go.Lib in
theorem Tryz.stringslite_HasSuffix (s p:ByteArray) (w:World) (hs:s.size ≤ 9223372036854775807) :
  Calls Tryz.prog 259 #[.string s, .string p] w fun e w' => e = .returned (.bool (Lib.hasSuffix s.data.toList p.data.toList)) ∧ w' = w:=Any.stringslite_HasSuffix Tryz.lays207 s p w hs
open Go.RowKit Go.Lib in
theorem Tryz.strings_Count_any (s sep:ByteArray) (m:Int) (w:World) (hs:s.size < 4294967281) (hm:w.cell? ⟨0, 0, none⟩ = some (.int .i64 m)) (h1:1 ≤ sep.size) :
  Calls Tryz.prog 262 #[.string s, .string sep] w fun e w' => e = .returned (.int .i64 (Lib.countB s sep)) ∧ w' = w:=Any.strings_Count_any Tryz.lays138 s sep m w hs hm h1
open Go.RowKit Go.Lib in
theorem Tryz.utf8_RuneCountInString_ascii (s:ByteArray) (w:World) (hs:s.size < 4294967281) (hascii:∀ (j:Nat) b, s.data.toList[j]? = some b → b.toNat < 128) :
  Calls Tryz.prog 302 #[.string s] w fun e w' => e = .returned (.int .i64 s.size) ∧ w' = w.iter s s.size:=Any.utf8_RuneCountInString_ascii Tryz.lays195 s w hs hascii
end Go.Proofs
set_option maxRecDepth 20000
namespace Go.V
open Go.Proofs Go.RowKit
theorem _root_.Go.V.Zc2 {A B:Prop} (h:B) (t:Wr B → A:=by intro h; refine z7 (y9 rfl rfl rfl rfl) rfl ?_;exact h.h):A:=t ⟨h⟩
theorem _root_.Go.V.Zax {A B:Prop} (h:B) (t:Wr B → A:=by intro h; refine z7 (qa L rfl rfl rfl rfl) rfl ?_;exact h.h):A:=t ⟨h⟩
theorem _root_.Go.V.Zez {A B:Prop} (h:B) (t:Wr B → A:=by intro h; refine z7 (q6 L (qk rfl) rfl rfl rfl rfl) rfl ?_;exact h.h):A:=t ⟨h⟩
theorem _root_.Go.V.Za5 {A B:Prop} (h:B) (t:Wr B → A:=by intro h; refine zd (zi rfl rfl rfl) rfl ?_;exact h.h):A:=t ⟨h⟩
theorem _root_.Go.V.ZaV {A B:Prop} (h:B) (t:Wr B → A:=by intro h; refine z7 (ya L rfl rfl rfl rfl rfl rfl rfl rfl rfl) rfl ?_;exact h.h):A:=t ⟨h⟩
theorem _root_.Go.V.Zdd {A B:Prop} (h:B) (t:Wr B → A:=by intro h; refine zd (qa L rfl rfl rfl rfl) rfl ?_;exact h.h):A:=t ⟨h⟩
theorem _root_.Go.V.Ze0 {A B:Prop} (h:B) (t:Wr B → A:=by intro h; refine z7 (q8 L (vs:=[_, _]) (qk rfl) rfl rfl rfl rfl ⟨_, rfl⟩) rfl ?_;exact h.h):A:=t ⟨h⟩
theorem _root_.Go.V.ZdP {A B:Prop} (h:B) (t:Wr B → A:=by intro h; refine zd (q6 L (qk rfl) rfl rfl rfl rfl) rfl ?_;exact h.h):A:=t ⟨h⟩
theorem _root_.Go.V.ZeF {A B:Prop} (h:B) (t:Wr B → A:=by intro h; refine z7 (q8 L (vs:=[_, _, _]) (qk rfl) rfl rfl rfl rfl ⟨_, rfl⟩) rfl ?_;exact h.h):A:=t ⟨h⟩
theorem _root_.Go.V.Zfd {A B:Prop} (h:B) (t:Wr B → A:=by intro h; refine zd (q8 L (vs:=[_, _]) (qk rfl) rfl rfl rfl rfl ⟨_, rfl⟩) rfl ?_;exact h.h):A:=t ⟨h⟩
theorem _root_.Go.V.ZdQ {A B:Prop} (h:B) (t:Wr B → A:=by intro h; refine qh (id:=1) [] mixed (by kernel_rfl) ?_;exact h.h):A:=t ⟨h⟩
theorem _root_.Go.V.Ze1 {A B:Prop} (h:B) (t:Wr B → A:=by intro h; refine z7 (zk4 rfl rfl rfl rfl (decide_eq_false (by assumption))) rfl ?_;exact h.h):A:=t ⟨h⟩
theorem _root_.Go.V.Zej {A B:Prop} (h:B) (t:Wr B → A:=by intro h; refine zd (zrz rfl rfl rfl rfl (by assumption) rfl) rfl ?_;exact h.h):A:=t ⟨h⟩
theorem _root_.Go.V.ZeG {A B:Prop} (h:B) (t:Wr B → A:=by intro h; refine zd (ya L rfl rfl rfl rfl rfl rfl rfl rfl rfl) rfl ?_;exact h.h):A:=t ⟨h⟩
theorem _root_.Go.V.ZQ {A B:Prop} (h:B) (t:Wr B → A:=by intro h; refine Zat ?_;refine Zfb ?_;exact h.h):A:=t ⟨h⟩
theorem _root_.Go.V.Zbu {A B:Prop} (h:B) (t:Wr B → A:=by intro h; refine qp ?_;refine zm ?_;exact h.h):A:=t ⟨h⟩
theorem _root_.Go.V.Zay {A B:Prop} (h:B) (t:Wr B → A:=by intro h; refine Zd ?_;refine Zx ?_;exact h.h):A:=t ⟨h⟩
theorem _root_.Go.V.ZA {A B:Prop} (h:B) (t:Wr B → A:=by intro h; refine ZC ?_;refine Zc2 ?_;exact h.h):A:=t ⟨h⟩
theorem _root_.Go.V.Zl {A B:Prop} (h:B) (t:Wr B → A:=by intro h; refine Za5 ?_;refine Zbu ?_;exact h.h):A:=t ⟨h⟩
theorem _root_.Go.V.Zm {A B:Prop} (h:B) (t:Wr B → A:=by intro h; refine Zax ?_;refine Zez ?_;exact h.h):A:=t ⟨h⟩
theorem _root_.Go.V.Zac {A B:Prop} (h:B) (t:Wr B → A:=by intro h; refine ZC ?_;refine Zay ?_;exact h.h):A:=t ⟨h⟩
theorem _root_.Go.V.Zaj {A B:Prop} (h:B) (t:Wr B → A:=by intro h; refine ZA ?_;refine Zc2 ?_;exact h.h):A:=t ⟨h⟩
theorem _root_.Go.V.ZaN {A B:Prop} (h:B) (t:Wr B → A:=by intro h; refine Zdd ?_;refine ZdP ?_;exact h.h):A:=t ⟨h⟩
theorem _root_.Go.V.ZaA {A B:Prop} (h:B) (t:Wr B → A:=by intro h; refine Z0 ?_;refine Za ?_;exact h.h):A:=t ⟨h⟩
theorem _root_.Go.V.Za6 {A B:Prop} (h:B) (t:Wr B → A:=by intro h; refine Zax ?_;refine Ze0 ?_;exact h.h):A:=t ⟨h⟩
theorem _root_.Go.V.Zbf {A B:Prop} (h:B) (t:Wr B → A:=by intro h; refine ZA ?_;refine Zam ?_;exact h.h):A:=t ⟨h⟩
theorem _root_.Go.V.Zb4 {A B:Prop} (h:B) (t:Wr B → A:=by intro h; refine Zg ?_;refine Zy ?_;exact h.h):A:=t ⟨h⟩
theorem _root_.Go.V.Zfz {A B:Prop} (h:B) (t:Wr B → A:=by intro h; refine zj ?_;refine Zk ?_;exact h.h):A:=t ⟨h⟩
theorem _root_.Go.V.ZbO {A B:Prop} (h:B) (t:Wr B → A:=by intro h; refine ZA ?_;refine Zay ?_;exact h.h):A:=t ⟨h⟩
theorem _root_.Go.V.Zc3 {A B:Prop} (h:B) (t:Wr B → A:=by intro h; refine Zd ?_;refine ZdQ ?_;exact h.h):A:=t ⟨h⟩
theorem _root_.Go.V.Zc4 {A B:Prop} (h:B) (t:Wr B → A:=by intro h; refine Zfz ?_;refine Za2 ?_;exact h.h):A:=t ⟨h⟩
theorem _root_.Go.V.Zdu {A B:Prop} (h:B) (t:Wr B → A:=by intro h; refine Zdd ?_;refine Zfd ?_;exact h.h):A:=t ⟨h⟩
attribute [local irreducible] V N X VO Par StepOK Has Ret RetL Src
theorem z1m {a b:ByteArray} (ha:a.size ≤ 9223372036854775807) (hb:b.size ≤ 9223372036854775807) {w:World} {B:Heap} (hB:B.Le (hp w)) {t:Nat} {v:Value} (hv:SlB [.string a, .string b] t 2 v B) :
  Ret Tryz.prog 236 [v] w B (fun v _ => v = .int .i64 (zc3 [a, b])):=by
 exact zzf [a, b] (by intro s hs; simp at hs; rcases hs with rfl | rfl <;> assumption) (by simp) hB (hv.toV rfl)
theorem z1l {a b c:ByteArray} (ha:a.size ≤ 9223372036854775807) (hb:b.size ≤ 9223372036854775807) (hc:c.size ≤ 9223372036854775807) {w:World} {B:Heap} (hB:B.Le (hp w)) {t:Nat} {v:Value} (hv:SlB [.string a, .string b, .string c] t 3 v B) :
  Ret Tryz.prog 236 [v] w B (fun v _ => v = .int .i64 (zc3 [a, b, c])):=by
 exact zzf [a, b, c] (by intro s hs; simp at hs; rcases hs with rfl | rfl | rfl <;> assumption) (by simp) hB (hv.toV rfl)
theorem zd7 {a b:ByteArray} (ha:a.size ≤ 9223372036854775807) (hb:b.size ≤ 9223372036854775807) {w:World} {B:Heap} (hB:B.Le (hp w)) :
  Ret Tryz.prog 204 [.agg #[.string a, .string b]] w B (fun v _ => v = .int .i64 (zc3 [a, b])):=by
 refine qu Tryz.func204 rfl Tryz.ntmps204 (Nat.le_of_ble_eq_true rfl) hB ?_
 refine ZbO ?_;refine Zm ?_;refine Zm ?_;refine ZaV ?_;refine z7 (q0 L rfl rfl (zn rfl) rfl rfl rfl (fun u H hH _ _ v hv => z1m (by first | assumption | omega | decide) (by first | assumption | omega | decide) hH hv)) rfl ?_;refine Zb ?_
 refine qt L (rs:=[.tmp 2]) rfl (fun _ _ h => h) Since.refl fun u H hH hle => ?_
 rfl
theorem goal_ret {a b c:ByteArray} (ha:a.size ≤ 9223372036854775807) (hb:b.size ≤ 9223372036854775807) (hc:c.size ≤ 9223372036854775807) {w:World} {B:Heap} (hB:B.Le (hp w)) :
  Ret Tryz.prog 166 [.agg #[.string a, .string b, .string c]] w B (fun v _ => v = .int .i64 (zc3 [a, b, c])):=by
 refine qu Tryz.func166 rfl Tryz.ntmps166 (Nat.le_of_ble_eq_true rfl) hB ?_
 refine ZbO ?_;refine Zax ?_;refine Zm ?_;refine Zax ?_;refine Zm ?_;refine Zm ?_;refine ZaV ?_;refine z7 (q0 L rfl rfl (zn rfl) rfl rfl rfl (fun u H hH _ _ v hv => z1l (by first | assumption | omega | decide) (by first | assumption | omega | decide) (by first | assumption | omega | decide) hH hv)) rfl ?_;refine Zb ?_
 refine qt L (rs:=[.tmp 2]) rfl (fun _ _ h => h) Since.refl fun u H hH hle => ?_
 rfl
def zgw (a b c:ByteArray):Int:=if c = ⟨#[]⟩ then zc3 [a, b] else zc3 [a, b, c]
theorem zkm {a b c:ByteArray} (ha:a.size ≤ 9223372036854775807) (hb:b.size ≤ 9223372036854775807) (hc:c.size ≤ 9223372036854775807) {w:World} {B:Heap} (hB:B.Le (hp w)) :
  Ret Tryz.prog 167 [.agg #[.string a, .string b, .string c]] w B (fun v _ => v = .int .i64 (zgw a b c)):=by
 refine qu Tryz.func167 rfl Tryz.ntmps167 (Nat.le_of_ble_eq_true rfl) hB ?_
 by_cases h:c = ⟨#[]⟩
 ·refine Zbf ?_;refine Zm ?_;refine z7 (zk4 rfl rfl rfl rfl (decide_eq_true (by assumption))) rfl ?_;refine ZaK ?_;refine Za6 ?_;refine z7 (q0 L rfl rfl (zn rfl) rfl rfl rfl (fun u H hH _ _ => zd7 (by first | assumption | omega | decide) (by first | assumption | omega | decide) hH)) rfl ?_;refine Zb ?_
  refine qt L (rs:=[.tmp 2]) rfl (fun _ _ h => h) Since.refl fun u H hH hle => ?_
  exact congrArg (Value.int .i64) (show zc3 [a, b] = zgw a b c from (if_pos h).symm)
 ·refine Zbf ?_;refine Zm ?_;refine Ze1 ?_;refine ZQ ?_;refine Zk ?_;refine ZeF ?_;refine z7 (q0 L rfl rfl (zn rfl) rfl rfl rfl (fun u H hH _ _ => goal_ret (by first | assumption | omega | decide) (by first | assumption | omega | decide) (by first | assumption | omega | decide) hH)) rfl ?_;refine Zb ?_
  refine qt L (rs:=[.tmp 2]) rfl (fun _ _ h => h) Since.refl fun u H hH hle => ?_
  exact congrArg (Value.int .i64) (show zc3 [a, b, c] = zgw a b c from (if_neg h).symm)
abbrev sCol:ByteArray:=⟨#[58]⟩
abbrev sHash:ByteArray:=⟨#[35]⟩
def z2e (a b:ByteArray):ByteArray:=a ++ sCol ++ b
def zqr (a b c:ByteArray):ByteArray:=z2e a b ++ sHash ++ c
def zni (a b c:ByteArray):ByteArray:=if c = ⟨#[]⟩ then z2e a b else zqr a b c
theorem zkr:sCol.size = 1:=rfl
theorem zik:sHash.size = 1:=rfl
theorem zf7 (a b:ByteArray):(z2e a b).size = a.size + b.size + 1:=by
 unfold z2e; rw [ByteArray.size_append, ByteArray.size_append, zkr]; omega
theorem zis (a b c:ByteArray):(zqr a b c).size = a.size + b.size + c.size + 2:=by
 unfold zqr; rw [ByteArray.size_append, ByteArray.size_append, zf7, zik]; omega
theorem text_ret {a b:ByteArray} (ha:a.size ≤ 1099511627776) (hb:b.size ≤ 1099511627776) {w:World} {B:Heap} (hB:B.Le (hp w)) :
  Ret Tryz.prog 256 [.agg #[.string a, .string b]] w B (fun v _ => v = .string (z2e a b)):=by
 have hz:a.size + sCol.size ≤ 9223372036854775807:=by rw [zkr]; omega
 have hz2:(a ++ sCol).size + b.size ≤ 9223372036854775807:=by rw [ByteArray.size_append, zkr]; omega
 refine qu Tryz.func256 rfl Tryz.ntmps256 (Nat.le_of_ble_eq_true rfl) hB ?_
 refine ZbO ?_;refine Zm ?_;refine z7 (zrz rfl rfl rfl rfl (by assumption) rfl) rfl ?_;refine Zm ?_;refine z7 (zrz rfl rfl rfl rfl (by assumption) rfl) rfl ?_;refine Zb ?_
 refine qt L (rs:=[.tmp 2]) rfl (fun _ _ h => h) Since.refl fun u H hH hle => ?_
 rfl
theorem zi6 {a b c:ByteArray} (ha:a.size ≤ 1099511627776) (hb:b.size ≤ 1099511627776) (hc:c.size ≤ 1099511627776) {w:World} {B:Heap} (hB:B.Le (hp w)) :
  Ret Tryz.prog 196 [.agg #[.string a, .string b, .string c]] w B (fun v _ => v = .string (zqr a b c)):=by
 have hz:(z2e a b).size + sHash.size ≤ 9223372036854775807:=by rw [zik, zf7]; omega
 have hz2:(z2e a b ++ sHash).size + c.size ≤ 9223372036854775807:=by rw [ByteArray.size_append, zik, zf7]; omega
 refine qu Tryz.func196 rfl Tryz.ntmps196 (Nat.le_of_ble_eq_true rfl) hB ?_
 refine ZA ?_;refine Zc3 ?_;refine Zdu ?_;refine zd (q0 L rfl rfl (zn rfl) rfl rfl rfl (fun u H hH _ _ => text_ret (by first | assumption | omega | decide) (by first | assumption | omega | decide) hH)) rfl ?_;refine Zej ?_;refine ZaN ?_;refine Zej ?_;refine Zl ?_
 refine qt L (rs:=[.tmp 2]) rfl (fun _ _ h => h) Since.refl fun u H hH hle => ?_
 rfl
theorem zpi {a b c:ByteArray} (ha:a.size ≤ 1099511627776) (hb:b.size ≤ 1099511627776) (hc:c.size ≤ 1099511627776) {w:World} {B:Heap} (hB:B.Le (hp w)) :
  Ret Tryz.prog 197 [.agg #[.string a, .string b, .string c]] w B (fun v _ => v = .string (zni a b c)):=by
 refine qu Tryz.func197 rfl Tryz.ntmps197 (Nat.le_of_ble_eq_true rfl) hB ?_
 by_cases h:c = ⟨#[]⟩
 ·refine Zbf ?_;refine Zm ?_;refine z7 (zk4 rfl rfl rfl rfl (decide_eq_true (by assumption))) rfl ?_;refine ZaK ?_;refine Za6 ?_;refine z7 (q0 L rfl rfl (zn rfl) rfl rfl rfl (fun u H hH _ _ => text_ret (by first | assumption | omega | decide) (by first | assumption | omega | decide) hH)) rfl ?_;refine Zb ?_
  refine qt L (rs:=[.tmp 2]) rfl (fun _ _ h => h) Since.refl fun u H hH hle => ?_
  exact congrArg Value.string (show z2e a b = zni a b c from (if_pos h).symm)
 ·refine Zbf ?_;refine Zm ?_;refine Ze1 ?_;refine ZQ ?_;refine Zk ?_;refine ZeF ?_;refine z7 (q0 L rfl rfl (zn rfl) rfl rfl rfl (fun u H hH _ _ => zi6 (by first | assumption | omega | decide) (by first | assumption | omega | decide) (by first | assumption | omega | decide) hH)) rfl ?_;refine Zb ?_
  refine qt L (rs:=[.tmp 2]) rfl (fun _ _ h => h) Since.refl fun u H hH hle => ?_
  exact congrArg Value.string (show zqr a b c = zni a b c from (if_neg h).symm)

def zoy (a b:ByteArray):Int:=Lib.compareBytes a.data.toList b.data.toList
theorem zno {a b:ByteArray} {w:World} {B:Heap} (hB:B.Le (hp w)):Ret Tryz.prog 238 [.string a, .string b] w B (fun v _ => v = .int .i64 (zoy a b)):=Ret.of_same hB (Tryz.strings_Compare a b w)
def orL:List Int → Int
 | [] => 0
 | x :: l => if x = 0 then orL l else x
theorem zxf:∀ (l:List Int) (k:Nat) (s:Int), (∀ x ∈ l.take k, x = 0) → l[k]? = some s → s ≠ 0 → orL l = s
 | [], k, s, _, h, _ => by simp at h
 | x :: l, 0, s, _, h, hc => by simp at h; subst h; simp [orL, hc]
 | x :: l, k + 1, s, ha, h, hc => by
  simp only [List.take_succ_cons] at ha
  simp only [List.getElem?_cons_succ] at h
  have hx:=ha x (List.mem_cons_self ..)
  simp only [orL, if_pos hx]
  exact zxf l k s (fun y hy => ha y (List.mem_cons_of_mem _ hy)) h hc
theorem ztd:∀ (l:List Int), (∀ x ∈ l, x = 0) → orL l = 0
 | [], _ => rfl
 | x :: l, h => by simp only [orL, if_pos (h x (List.mem_cons_self ..))]; exact ztd l fun y hy => h y (List.mem_cons_of_mem _ hy)
set_option maxHeartbeats 400000 in
theorem z5v (l:List Int) (hlen:l.length ≤ 1000) {e:TypeId} {fu:Bool} {v:Value} {w:World} {B:Heap} (hB:B.Le (hp w)) (hv:SlV e 1 (l.map (Value.int .i64)) l.length fu v B) :
  Ret Tryz.prog 168 [v] w B (fun v _ => v = .int .i64 (orL l)):=by
 refine qu Tryz.func168 rfl Tryz.ntmps168 (Nat.le_of_ble_eq_true rfl) hB ?_
 refine za4 0 (SlV e 1 (l.map (Value.int .i64)) l.length fu) rfl SlV.mono hv ?_
 refine Zac ?_;refine Zb4 ?_;refine Zbt ?_
 refine zao (fun k:Nat => [(3, .is (.int .i64 0)), (6, .sat (SlV e 1 (l.map (Value.int .i64)) l.length fu)), (7, .is (.int .i64 l.length)), (8, .is (.int .i64 k))])
  (fun k => k ≤ l.length ∧ ∀ x ∈ l.take k, x = 0) (fun k => l.length - k) 0 ⟨Nat.zero_le _, by simp⟩ ⟨rfl, rfl, rfl, rfl, trivial⟩ ?_
 rintro k ⟨hk, hall⟩
 by_cases hlt:k < l.length
 ·have hs:l[k]? = some l[k]:=List.getElem?_eq_getElem hlt
  generalize l[k] = s at hs
  have hc:((l.map (Value.int .i64)).drop (k * 1)).take 1 = [.int .i64 s]:=z13 (by simp [hs])
  by_cases h0:s = 0
  ·refine Zc4 ?_;refine Zr ?_;refine Zaq ?_;refine Za4 ?_;refine Zd ?_;refine Zn ?_;refine Zc ?_;refine Zae ?_;refine Za3 ?_;refine Z8 ?_;refine Zbd ?_
   refine yl (k + 1) ⟨hlt, ?_⟩ (by omega) ⟨rfl, rfl, rfl, rfl, trivial⟩
   rw [List.take_add_one, hs]
   intro x hx
   rcases List.mem_append.1 hx with hx | hx
   ·exact hall x hx
   ·simp at hx; rw [hx, h0]
  ·refine Zc4 ?_;refine Zr ?_;refine Zaq ?_;refine Za4 ?_;refine Zd ?_;refine Zn ?_;refine Zc ?_;refine Zz ?_;refine ZL ?_;refine Zb ?_
   refine qt L (rs:=[.tmp 2]) rfl (fun _ _ h => h) Since.refl fun u H hH hle => ?_
   exact congrArg _ (zxf l k s hall hs h0).symm
 ·refine Zfz ?_;refine Zao ?_;refine ZaA ?_;refine Zb ?_
  refine qt L (rs:=[.tmp 2]) rfl (fun _ _ h => h) Since.refl fun u H hH hle => ?_
  have:l.take k = l:=List.take_of_length_le (by omega)
  exact congrArg _ (ztd l (this ▸ hall)).symm
theorem znv {x y:Int} {w:World} {B:Heap} (hB:B.Le (hp w)) {t:Nat} {v:Value} (hv:SlB [.int .i64 x, .int .i64 y] t 2 v B) :
  Ret Tryz.prog 168 [v] w B (fun v _ => v = .int .i64 (orL [x, y])):=by
 exact z5v [x, y] (by simp) hB (hv.toV rfl)
def z1d (a b c d:ByteArray):Int:=orL [zoy a c, zoy b d]
def z2n (a b r c d s:ByteArray):Int:=orL [z1d a b c d, zoy r s]
theorem z1c {a b c d:ByteArray} {w:World} {B:Heap} (hB:B.Le (hp w)) :
  Ret Tryz.prog 237 [.agg #[.string a, .string b], .agg #[.string c, .string d]] w B (fun v _ => v = .int .i64 (z1d a b c d)):=by
 refine qu Tryz.func237 rfl Tryz.ntmps237 (Nat.le_of_ble_eq_true rfl) hB ?_
 refine Zaj ?_;refine Zc3 ?_;refine ZaN ?_;refine ZaN ?_;refine zd (q0 L rfl rfl (zn rfl) rfl rfl rfl (fun u H hH _ _ => zno hH)) rfl ?_;refine ZaN ?_;refine ZaN ?_;refine zd (q0 L rfl rfl (zn rfl) rfl rfl rfl (fun u H hH _ _ => zno hH)) rfl ?_;refine ZeG ?_;refine zd (q0 L rfl rfl (zn rfl) rfl rfl rfl (fun u H hH _ _ v hv => znv hH hv)) rfl ?_;refine Zl ?_
 refine qt L (rs:=[.tmp 4]) rfl (fun _ _ h => h) Since.refl fun u H hH hle => ?_
 rfl
theorem zop {a b r c d s:ByteArray} {w:World} {B:Heap} (hB:B.Le (hp w)) :
  Ret Tryz.prog 169 [.agg #[.string a, .string b, .string r], .agg #[.string c, .string d, .string s]] w B (fun v _ => v = .int .i64 (z2n a b r c d s)):=by
 refine qu Tryz.func169 rfl Tryz.ntmps169 (Nat.le_of_ble_eq_true rfl) hB ?_
 refine Zaj ?_;refine Zc3 ?_;refine Zdu ?_;refine Zdu ?_;refine zd (q0 L rfl rfl (zn rfl) rfl rfl rfl (fun u H hH _ _ => z1c hH)) rfl ?_;refine ZaN ?_;refine ZaN ?_;refine zd (q0 L rfl rfl (zn rfl) rfl rfl rfl (fun u H hH _ _ => zno hH)) rfl ?_;refine ZeG ?_;refine zd (q0 L rfl rfl (zn rfl) rfl rfl rfl (fun u H hH _ _ v hv => znv hH hv)) rfl ?_;refine Zl ?_
 refine qt L (rs:=[.tmp 4]) rfl (fun _ _ h => h) Since.refl fun u H hH hle => ?_
 rfl
theorem cmpU_ret {a b r c d s:ByteArray} {w:World} {B:Heap} (hB:B.Le (hp w)) :
  Ret Tryz.prog 170 [.agg #[.string a, .string b, .string r], .agg #[.string c, .string d, .string s]] w B (fun v _ => v = .int .i64 (z2n a b r c d s)):=by
 refine qu Tryz.func170 rfl Tryz.ntmps170 (Nat.le_of_ble_eq_true rfl) hB ?_
 refine Zaj ?_;refine Zay ?_;refine ZeF ?_;refine ZeF ?_;refine z7 (q0 L rfl rfl (zn rfl) rfl rfl rfl (fun u H hH _ _ => zop hH)) rfl ?_;refine Zb ?_
 refine qt L (rs:=[.tmp 4]) rfl (fun _ _ h => h) Since.refl fun u H hH hle => ?_
 rfl
end Go.V
set_option maxRecDepth 20000
namespace Go.V
open Go.Proofs Go.RowKit
theorem _root_.Go.V.Zi {A B:Prop} (h:B) (t:Wr B → A:=by intro h; refine zd (zh rfl rfl rfl) rfl ?_;exact h.h):A:=t ⟨h⟩
theorem _root_.Go.V.ZX {A B:Prop} (h:B) (t:Wr B → A:=by intro h; refine z8 (id:=10) ?_;exact h.h):A:=t ⟨h⟩
theorem _root_.Go.V.ZM {A B:Prop} (h:B) (t:Wr B → A:=by intro h; refine z8 (id:=11) ?_;exact h.h):A:=t ⟨h⟩
theorem _root_.Go.V.Zde {A B:Prop} (h:B) (t:Wr B → A:=by intro h; refine qh (id:=6) [] mixed (by kernel_rfl) ?_;exact h.h):A:=t ⟨h⟩
theorem _root_.Go.V.ZD {A B:Prop} (h:B) (t:Wr B → A:=by intro h; refine z8 (id:=12) ?_;exact h.h):A:=t ⟨h⟩
theorem _root_.Go.V.ZfT {A B:Prop} (h:B) (t:Wr B → A:=by intro h; refine zd (yp L rfl rfl rfl rfl rfl (by assumption)) rfl ?_;exact h.h):A:=t ⟨h⟩
theorem _root_.Go.V.Zch {A B:Prop} (h:B) (t:Wr B → A:=by intro h; refine qh (id:=4) [] mixed (by kernel_rfl) ?_;exact h.h):A:=t ⟨h⟩
theorem _root_.Go.V.ZdR {A B:Prop} (h:B) (t:Wr B → A:=by intro h; refine zd (qo rfl rfl rfl rfl (decide_eq_true (by omega))) rfl ?_;exact h.h):A:=t ⟨h⟩
theorem _root_.Go.V.ZeH {A B:Prop} (h:B) (t:Wr B → A:=by intro h; refine zd (qo rfl rfl rfl rfl (decide_eq_false (by omega))) rfl ?_;exact h.h):A:=t ⟨h⟩
theorem _root_.Go.V.Zfe {A B:Prop} (h:B) (t:Wr B → A:=by intro h; refine zd (yi rfl rfl rfl rfl (decide_eq_true (by omega))) rfl ?_;exact h.h):A:=t ⟨h⟩
theorem _root_.Go.V.Zf0 {A B:Prop} (h:B) (t:Wr B → A:=by intro h; refine z7 (zn2 rfl rfl rfl rfl z9o (by assumption) rfl) rfl ?_;exact h.h):A:=t ⟨h⟩
theorem _root_.Go.V.Zf1 {A B:Prop} (h:B) (t:Wr B → A:=by intro h; refine zd (yi rfl rfl rfl rfl (decide_eq_false (by omega))) rfl ?_;exact h.h):A:=t ⟨h⟩
theorem _root_.Go.V.ZI {A B:Prop} (h:B) (t:Wr B → A:=by intro h; refine Zq ?_;refine zk ?_;exact h.h):A:=t ⟨h⟩
theorem _root_.Go.V.Z7 {A B:Prop} (h:B) (t:Wr B → A:=by intro h; refine Zi ?_;refine Zi ?_;exact h.h):A:=t ⟨h⟩
theorem _root_.Go.V.Zb5 {A B:Prop} (h:B) (t:Wr B → A:=by intro h; refine Zeg ?_;refine ZI ?_;exact h.h):A:=t ⟨h⟩
theorem _root_.Go.V.ZaW {A B:Prop} (h:B) (t:Wr B → A:=by intro h; refine Zbu ?_;refine ZcY ?_;exact h.h):A:=t ⟨h⟩
theorem _root_.Go.V.ZW {A B:Prop} (h:B) (t:Wr B → A:=by intro h; refine Zb ?_;refine qm ?_;exact h.h):A:=t ⟨h⟩
theorem _root_.Go.V.Zb6 {A B:Prop} (h:B) (t:Wr B → A:=by intro h; refine ZX ?_;refine Za ?_;exact h.h):A:=t ⟨h⟩
theorem _root_.Go.V.ZbP {A B:Prop} (h:B) (t:Wr B → A:=by intro h; refine Zfb ?_;refine qm ?_;exact h.h):A:=t ⟨h⟩
theorem _root_.Go.V.Zau {A B:Prop} (h:B) (t:Wr B → A:=by intro h; refine zj ?_;refine Zn ?_;exact h.h):A:=t ⟨h⟩
theorem _root_.Go.V.Za7 {A B:Prop} (h:B) (t:Wr B → A:=by intro h; refine Ze ?_;refine Z9 ?_;exact h.h):A:=t ⟨h⟩
theorem _root_.Go.V.Zgh {A B:Prop} (h:B) (t:Wr B → A:=by intro h; refine Zat ?_;refine Zfy ?_;exact h.h):A:=t ⟨h⟩
theorem _root_.Go.V.ZdS {A B:Prop} (h:B) (t:Wr B → A:=by intro h; refine Zgh ?_;refine Zh ?_;exact h.h):A:=t ⟨h⟩
theorem _root_.Go.V.Zbg {A B:Prop} (h:B) (t:Wr B → A:=by intro h; refine Zbu ?_;refine ZeC ?_;exact h.h):A:=t ⟨h⟩
theorem _root_.Go.V.Zbv {A B:Prop} (h:B) (t:Wr B → A:=by intro h; refine ZS ?_;refine ZQ ?_;exact h.h):A:=t ⟨h⟩
theorem _root_.Go.V.Zci {A B:Prop} (h:B) (t:Wr B → A:=by intro h; refine ZaW ?_;refine Zfb ?_;exact h.h):A:=t ⟨h⟩
theorem _root_.Go.V.Zc5 {A B:Prop} (h:B) (t:Wr B → A:=by intro h; refine ZbP ?_;refine Zh ?_;exact h.h):A:=t ⟨h⟩
theorem _root_.Go.V.Zc6 {A B:Prop} (h:B) (t:Wr B → A:=by intro h; refine Zaj ?_;refine Zam ?_;exact h.h):A:=t ⟨h⟩
theorem _root_.Go.V.Zc7 {A B:Prop} (h:B) (t:Wr B → A:=by intro h; refine Zk ?_;refine Zm ?_;exact h.h):A:=t ⟨h⟩
theorem _root_.Go.V.Zdv {A B:Prop} (h:B) (t:Wr B → A:=by intro h; refine Z7 ?_;refine ZfT ?_;exact h.h):A:=t ⟨h⟩
theorem _root_.Go.V.Zdw {A B:Prop} (h:B) (t:Wr B → A:=by intro h; refine ZdS ?_;refine ZaA ?_;exact h.h):A:=t ⟨h⟩
theorem z1g:∀ (a b:List UInt8), Lib.compareBytes a b = -1 ∨ Lib.compareBytes a b = 0 ∨ Lib.compareBytes a b = 1
 | [], [] => .inr (.inl rfl)
 | [], _ :: _ => .inl rfl
 | _ :: _, [] => .inr (.inr rfl)
 | a :: xs, b :: bs => by
  unfold Lib.compareBytes
  split
  ·exact .inl rfl
  ·split
   ·exact .inr (.inr rfl)
   ·exact z1g xs bs
theorem zza:∀ (a:List UInt8), Lib.compareBytes a a = 0
 | [] => rfl
 | a :: xs => by
  unfold Lib.compareBytes
  rw [if_neg (UInt8.lt_irrefl a), if_neg (UInt8.lt_irrefl a)]
  exact zza xs
theorem z6x:∀ (a b:List UInt8), Lib.compareBytes a b = 0 → a = b
 | [], [], _ => rfl
 | [], _ :: _, h => by cases h
 | _ :: _, [], h => by cases h
 | a :: xs, b :: bs, h => by
  unfold Lib.compareBytes at h
  split at h
  ·cases h
  ·split at h
   ·cases h
   ·rename_i h1 h2
    have:a = b:=UInt8.le_antisymm (UInt8.not_lt.1 h2) (UInt8.not_lt.1 h1)
    rw [this, z6x xs bs h]
theorem zzb:∀ (a b:List UInt8), Lib.compareBytes b a = - Lib.compareBytes a b
 | [], [] => rfl
 | [], _ :: _ => rfl
 | _ :: _, [] => rfl
 | a :: xs, b :: bs => by
  unfold Lib.compareBytes
  by_cases h1:a < b
  ·simp [h1, UInt8.lt_asymm h1]
  ·by_cases h2:b < a
   ·simp [h1, h2]
   ·simp [h1, h2]; exact zzb xs bs
theorem zt4:∀ (a b c:List UInt8), Lib.compareBytes a b ≤ 0 → Lib.compareBytes b c ≤ 0 → Lib.compareBytes a c ≤ 0
 | [], _, [], _, _ => Int.le_refl _
 | [], _, _ :: _, _, _ => by unfold Lib.compareBytes; decide
 | _ :: _, [], _, h, _ => by unfold Lib.compareBytes at h; exact absurd h (by decide)
 | _ :: _, _ :: _, [], _, h => by unfold Lib.compareBytes at h; exact absurd h (by decide)
 | a :: xs, b :: bs, c :: cs, h1, h2 => by
  unfold Lib.compareBytes at h1 h2 ⊢
  by_cases ab:a < b
  ·by_cases bc:b < c
   ·rw [if_pos (UInt8.lt_trans ab bc)]; decide
   ·rw [if_neg bc] at h2
    by_cases cb:c < b
    ·rw [if_pos cb] at h2; exact absurd h2 (by decide)
    ·have:b = c:=UInt8.le_antisymm (UInt8.not_lt.1 cb) (UInt8.not_lt.1 bc)
     subst this; rw [if_pos ab]; decide
  ·rw [if_neg ab] at h1
   by_cases ba:b < a
   ·rw [if_pos ba] at h1; exact absurd h1 (by decide)
   ·have:a = b:=UInt8.le_antisymm (UInt8.not_lt.1 ba) (UInt8.not_lt.1 ab)
    subst this
    rw [if_neg ab] at h1
    by_cases ac:a < c
    ·rw [if_pos ac]; decide
    ·rw [if_neg ac] at h2 ⊢
     by_cases ca:c < a
     ·rw [if_pos ca] at h2; exact absurd h2 (by decide)
     ·rw [if_neg ca] at h2 ⊢
      exact zt4 xs bs cs h1 h2
structure Ord3 {α:Type} (c:α → α → Int):Prop where
 refl:∀ a, c a a = 0
 eq:∀ a b, c a b = 0 → a = b
 anti:∀ a b, c b a = - c a b
 trans:∀ a b d, c a b ≤ 0 → c b d ≤ 0 → c a d ≤ 0
theorem z60 {a b:ByteArray} (h:a.data.toList = b.data.toList):a = b:=by
 obtain ⟨⟨x⟩⟩:=a; obtain ⟨⟨y⟩⟩:=b; simp at h; subst h; rfl
theorem cmpB_ord:Ord3 zoy:=⟨fun a => zza _, fun a b h => z60 (z6x _ _ h), fun a b => zzb _ _, fun a b d h1 h2 => zt4 _ _ _ h1 h2⟩
def zzj {α β:Type} (c:α → α → Int) (e:β → β → Int) (x y:α × β):Int:=orL [c x.1 y.1, e x.2 y.2]
theorem zxg (x y:Int):orL [x, y] = if x = 0 then y else x:=by
 simp only [orL]
 by_cases hx:x = 0
 ·rw [if_pos hx, if_pos hx]; split <;> simp_all
 ·rw [if_neg hx, if_neg hx]
theorem Ord3.lt_of {α:Type} {c:α → α → Int} (h:Ord3 c) {a b d:α} (h1:c a b ≤ 0) (h2:c b d ≤ 0) (h3:c a d = 0):c a b = 0 ∧ c b d = 0:=by
 obtain rfl:=h.eq _ _ h3
 have:=h.anti a b
 constructor <;> omega
theorem Ord3.lex {α β:Type} {c:α → α → Int} {e:β → β → Int} (hc:Ord3 c) (he:Ord3 e):Ord3 (zzj c e):=by
 refine ⟨fun a => ?_, fun a b h => ?_, fun a b => ?_, fun a b d h1 h2 => ?_⟩
 ·unfold zzj; rw [zxg, hc.refl, if_pos rfl, he.refl]
 ·unfold zzj at h
  rw [zxg] at h
  by_cases h0:c a.1 b.1 = 0
  ·rw [if_pos h0] at h
   exact Prod.ext (hc.eq _ _ h0) (he.eq _ _ h)
  ·rw [if_neg h0] at h; exact absurd h h0
 ·unfold zzj
  rw [zxg, zxg, hc.anti a.1 b.1, he.anti a.2 b.2]
  by_cases h0:c a.1 b.1 = 0
  ·rw [if_pos h0, if_pos (by omega)]
  ·rw [if_neg h0, if_neg (by omega)]
 ·unfold zzj at h1 h2 ⊢
  rw [zxg] at h1 h2 ⊢
  have l1:c a.1 b.1 ≤ 0:=by split at h1 <;> omega
  have l2:c b.1 d.1 ≤ 0:=by split at h2 <;> omega
  have l3:=hc.trans _ _ _ l1 l2
  by_cases h0:c a.1 d.1 = 0
  ·obtain ⟨e1, e2⟩:=hc.lt_of l1 l2 h0
   rw [if_pos e1] at h1
   rw [if_pos e2] at h2
   rw [if_pos h0]
   exact he.trans _ _ _ h1 h2
  ·rw [if_neg h0]; exact l3
abbrev zsm:=(ByteArray × ByteArray) × ByteArray
def z6w:zsm → zsm → Int:=zzj (zzj zoy zoy) zoy
theorem cmp3_ord:Ord3 z6w:=(cmpB_ord.lex cmpB_ord).lex cmpB_ord
theorem zqy {a b c d:ByteArray}:z1d a b c d = 0 ↔ a = c ∧ b = d:=by
 have h:=cmpB_ord.lex cmpB_ord
 constructor
 ·intro e
  have:=h.eq (a, b) (c, d) e
  cases this; exact ⟨rfl, rfl⟩
 ·rintro ⟨rfl, rfl⟩; exact h.refl (a, b)
theorem z6v {a b c d:ByteArray} (h:a ≠ c):z1d a b c d = zoy a c:=by
 unfold z1d; rw [zxg, if_neg fun e => h (cmpB_ord.eq _ _ e)]
theorem z6u {a b c d:ByteArray} (h:a = c):z1d a b c d = zoy b d:=by
 unfold z1d; rw [zxg, if_pos (by rw [h]; exact cmpB_ord.refl _)]
theorem z2m {a b r c d s:ByteArray} (h:¬ (a = c ∧ b = d)):z2n a b r c d s = z1d a b c d:=by
 unfold z2n; rw [zxg, if_neg fun e => h (zqy.1 e)]
theorem z2l {a b r c d s:ByteArray} (h:a = c ∧ b = d):z2n a b r c d s = zoy r s:=by
 unfold z2n; rw [zxg, if_pos (zqy.2 h)]
theorem zga {s:ByteArray} {k:Nat} {c:UInt8} (h:s[k]? = some c):s.data.toList.drop k = c :: s.data.toList.drop (k + 1):=by
 have h':s.data.toList[k]? = some c:=by
  have:s.data[k]? = some c:=h
  simpa using this
 obtain ⟨hl, he⟩:=List.getElem?_eq_some_iff.1 h'
 rw [List.drop_eq_getElem_cons hl, he]
theorem zj3 {s:ByteArray} {k:Nat} (h:s.size ≤ k):s.data.toList.drop k = []:=List.drop_eq_nil_of_le (by rw [za6]; exact h)
def zst (a b:ByteArray) (k:Nat):Prop:=zoy a b = Lib.compareBytes (a.data.toList.drop k) (b.data.toList.drop k)
theorem z2v {a b:ByteArray} {k:Nat} {x y:UInt8} (h:zst a b k) (hx:a[k]? = some x) (hy:b[k]? = some y) (hl:(x.toNat:Int) < y.toNat):zoy a b = -1:=by
 unfold zst at h
 rw [h, zga hx, zga hy, Lib.compareBytes, if_pos (UInt8.lt_iff_toNat_lt.2 (by omega))]
theorem z2w {a b:ByteArray} {k:Nat} {x y:UInt8} (h:zst a b k) (hx:a[k]? = some x) (hy:b[k]? = some y) (hl:(y.toNat:Int) < x.toNat):zoy a b = 1:=by
 unfold zst at h
 have hl':y < x:=UInt8.lt_iff_toNat_lt.2 (by omega)
 rw [h, zga hx, zga hy, Lib.compareBytes, if_neg (UInt8.lt_asymm hl'), if_pos hl']
theorem zv6 {a b:ByteArray} {k:Nat} {x y:UInt8} (h:zst a b k) (hx:a[k]? = some x) (hy:b[k]? = some y) (h1:¬ (x.toNat:Int) < y.toNat) (h2:¬ (y.toNat:Int) < x.toNat):zst a b (k + 1):=by
 unfold zst at h ⊢
 rw [h, zga hx, zga hy, Lib.compareBytes, if_neg (fun e => h1 (by have:=UInt8.lt_iff_toNat_lt.1 e; omega)), if_neg (fun e => h2 (by have:=UInt8.lt_iff_toNat_lt.1 e; omega))]
theorem zun {a b:ByteArray} {k:Nat} (h:zst a b k) (h1:a.size ≤ k) (h2:k < b.size):zoy a b = -1:=by
 unfold zst at h
 obtain ⟨y, hy⟩:=getElem?_lt h2
 rw [h, zj3 h1, zga hy, Lib.compareBytes]
theorem zv7 {a b:ByteArray} {k:Nat} (h:zst a b k) (h1:b.size ≤ k) (h2:k < a.size):zoy a b = 1:=by
 unfold zst at h
 obtain ⟨y, hy⟩:=getElem?_lt h2
 rw [h, zj3 h1, zga hy, Lib.compareBytes]
theorem zv8 {a b:ByteArray} {k:Nat} (h:zst a b k) (h1:a.size ≤ k) (h2:b.size ≤ k):zoy a b = 0:=by
 unfold zst at h
 rw [h, zj3 h1, zj3 h2, Lib.compareBytes]
attribute [local irreducible] V N X VO Par StepOK Has Ret RetL Src
set_option maxHeartbeats 400000 in
theorem zgh {a b:ByteArray} (ha:a.size ≤ 9223372036854775807) (hb:b.size ≤ 9223372036854775807) {w:World} {B:Heap} (hB:B.Le (hp w)) :
  Ret Tryz.prog 268 [.string a, .string b] w B (fun v _ => v = .int .i64 (zoy a b)):=by
 refine qu Tryz.func268 rfl Tryz.ntmps268 (Nat.le_of_ble_eq_true rfl) hB ?_
 refine ZC ?_;refine Zam ?_;refine ZW ?_
 refine zao (fun k:Nat => [(0, .is (.string a)), (1, .is (.string b)), (5, .is (.int .i64 k))])
  (fun k => k ≤ a.size ∧ k ≤ b.size ∧ zst a b k) (fun k => a.size - k) 0 ⟨Nat.zero_le _, Nat.zero_le _, rfl⟩ ⟨rfl, rfl, rfl, trivial⟩ ?_
 rintro k ⟨hk1, hk2, hall⟩
 by_cases h1:k < a.size
 ·by_cases h2:k < b.size
  ·obtain ⟨x, hx⟩:=getElem?_lt h1
   obtain ⟨y, hy⟩:=getElem?_lt h2
   by_cases hxy:(x.toNat:Int) < y.toNat
   ·refine Zh ?_;refine Zy ?_;refine Zc0 ?_;refine ZB ?_;refine ZF ?_;refine ZH ?_;refine ZB ?_;refine Za7 ?_;refine Zc5 ?_;refine Zch ?_;refine Zdv ?_;refine Zdv ?_;refine ZdR ?_;refine Zbg ?_;refine Zau ?_;refine Zb ?_
    refine qt L (rs:=[.tmp 4]) rfl (fun _ _ h => h) Since.refl fun u H hH hle => ?_
    exact congrArg _ (z2v hall hx hy hxy).symm
   ·by_cases hyx:(y.toNat:Int) < x.toNat
    ·refine Zh ?_;refine Zy ?_;refine Zc0 ?_;refine ZB ?_;refine ZF ?_;refine ZH ?_;refine ZB ?_;refine Za7 ?_;refine Zc5 ?_;refine Zch ?_;refine Zdv ?_;refine Zdv ?_;refine ZeH ?_;refine Zci ?_;refine Zde ?_;refine Zdv ?_;refine Zdv ?_;refine Zfe ?_;refine Zbg ?_;refine zj ?_;refine Z8 ?_;refine Zb ?_
     refine qt L (rs:=[.tmp 4]) rfl (fun _ _ h => h) Since.refl fun u H hH hle => ?_
     exact congrArg _ (z2w hall hx hy hyx).symm
    ·refine Zh ?_;refine Zy ?_;refine Zc0 ?_;refine ZB ?_;refine ZF ?_;refine ZH ?_;refine ZB ?_;refine Za7 ?_;refine Zc5 ?_;refine Zch ?_;refine Zdv ?_;refine Zdv ?_;refine ZeH ?_;refine Zci ?_;refine Zde ?_;refine Zdv ?_;refine Zdv ?_;refine Zf1 ?_;refine ZaW ?_;refine q9 ?_;refine Zai ?_;refine Zs ?_;refine Zb5 ?_
     exact yl (k + 1) ⟨h1, h2, zv6 hall hx hy hxy hyx⟩ (by omega) ⟨rfl, rfl, rfl, trivial⟩
  ·refine Zh ?_;refine Zy ?_;refine Zc0 ?_;refine ZB ?_;refine ZF ?_;refine ZH ?_;refine Zo ?_;refine Ze ?_;refine Zdw ?_;refine ZH ?_;refine Za ?_;refine ZH ?_;refine Zo ?_;refine ZO ?_;refine Zb6 ?_;refine ZH ?_;refine Za ?_;refine ZH ?_;refine Z2 ?_;refine Zt ?_;refine ZM ?_;refine Zb ?_
   refine qt L (rs:=[.tmp 4]) rfl (fun _ _ h => h) Since.refl fun u H hH hle => ?_
   exact congrArg _ (zv7 hall (by omega) h1).symm
 ·by_cases h2:k < b.size
  ·refine Zh ?_;refine Zy ?_;refine Zc0 ?_;refine Zo ?_;refine Zda ?_;refine Zdw ?_;refine ZH ?_;refine Za ?_;refine ZH ?_;refine ZB ?_;refine Zt ?_;refine Z3 ?_;refine Zb ?_
   refine qt L (rs:=[.tmp 4]) rfl (fun _ _ h => h) Since.refl fun u H hH hle => ?_
   exact congrArg _ (zun hall (by omega) h2).symm
  ·refine Zh ?_;refine Zy ?_;refine Zc0 ?_;refine Zo ?_;refine Zda ?_;refine Zdw ?_;refine ZH ?_;refine Za ?_;refine ZH ?_;refine Zo ?_;refine ZO ?_;refine Zb6 ?_;refine ZH ?_;refine Za ?_;refine ZH ?_;refine Zbv ?_;refine ZD ?_;refine Zb ?_
   refine qt L (rs:=[.tmp 4]) rfl (fun _ _ h => h) Since.refl fun u H hH hle => ?_
   exact congrArg _ (zv8 hall (by omega) (by omega)).symm
theorem zp2 {a b c d:ByteArray} (ha:a.size ≤ 9223372036854775807) (hb:b.size ≤ 9223372036854775807) (hc:c.size ≤ 9223372036854775807) (hd:d.size ≤ 9223372036854775807) {w:World} {B:Heap} (hB:B.Le (hp w)) :
  Ret Tryz.prog 267 [.agg #[.string a, .string b], .agg #[.string c, .string d]] w B (fun v _ => v = .int .i64 (z1d a b c d)):=by
 refine qu Tryz.func267 rfl Tryz.ntmps267 (Nat.le_of_ble_eq_true rfl) hB ?_
 by_cases h:a = c
 ·have h':¬ a ≠ c:=fun e => e h
  refine Zc6 ?_;refine Zm ?_;refine Zm ?_;refine z7 (zg0 rfl rfl rfl rfl (decide_eq_false (by assumption))) rfl ?_;refine ZQ ?_;refine Zc7 ?_;refine Zm ?_;refine z7 (q0 L rfl rfl (zn rfl) rfl rfl rfl (fun u H hH _ _ => zgh (by first | assumption | omega | decide) (by first | assumption | omega | decide) hH)) rfl ?_;refine Zb ?_
  refine qt L (rs:=[.tmp 4]) rfl (fun _ _ h => h) Since.refl fun u H hH hle => ?_
  exact congrArg _ (z6u h).symm
 ·have h':a ≠ c:=h
  refine Zc6 ?_;refine Zm ?_;refine Zm ?_;refine z7 (zg0 rfl rfl rfl rfl (decide_eq_true (by assumption))) rfl ?_;refine ZaK ?_;refine Zm ?_;refine Zm ?_;refine z7 (q0 L rfl rfl (zn rfl) rfl rfl rfl (fun u H hH _ _ => zgh (by first | assumption | omega | decide) (by first | assumption | omega | decide) hH)) rfl ?_;refine Zb ?_
  refine qt L (rs:=[.tmp 4]) rfl (fun _ _ h => h) Since.refl fun u H hH hle => ?_
  exact congrArg _ (z6v h).symm
theorem zw8 {a b r c d s:ByteArray} (ha:a.size ≤ 9223372036854775807) (hb:b.size ≤ 9223372036854775807) (hr:r.size ≤ 9223372036854775807) (hc:c.size ≤ 9223372036854775807) (hd:d.size ≤ 9223372036854775807) (hs:s.size ≤ 9223372036854775807) {w:World} {B:Heap} (hB:B.Le (hp w)) :
  Ret Tryz.prog 221 [.agg #[.string a, .string b, .string r], .agg #[.string c, .string d, .string s]] w B (fun v _ => v = .int .i64 (z2n a b r c d s)):=by
 refine qu Tryz.func221 rfl Tryz.ntmps221 (Nat.le_of_ble_eq_true rfl) hB ?_
 by_cases h:a = c ∧ b = d
 ·have h':=z05 (decide_eq_true h)
  refine Zc6 ?_;refine Za6 ?_;refine Za6 ?_;refine Zf0 ?_;refine ZQ ?_;refine Zc7 ?_;refine Zm ?_;refine z7 (q0 L rfl rfl (zn rfl) rfl rfl rfl (fun u H hH _ _ => zgh (by first | assumption | omega | decide) (by first | assumption | omega | decide) hH)) rfl ?_;refine Zb ?_
  refine qt L (rs:=[.tmp 4]) rfl (fun _ _ h => h) Since.refl fun u H hH hle => ?_
  exact congrArg _ (z2l h).symm
 ·have h':=z05 (decide_eq_false h)
  refine Zc6 ?_;refine Za6 ?_;refine Za6 ?_;refine Zf0 ?_;refine ZaK ?_;refine Za6 ?_;refine Za6 ?_;refine z7 (q0 L rfl rfl (zn rfl) rfl rfl rfl (fun u H hH _ _ => zp2 (by first | assumption | omega | decide) (by first | assumption | omega | decide) (by first | assumption | omega | decide) (by first | assumption | omega | decide) hH)) rfl ?_;refine Zb ?_
  refine qt L (rs:=[.tmp 4]) rfl (fun _ _ h => h) Since.refl fun u H hH hle => ?_
  exact congrArg _ (z2m h).symm
theorem zw7 {a b r c d s:ByteArray} (ha:a.size ≤ 9223372036854775807) (hb:b.size ≤ 9223372036854775807) (hr:r.size ≤ 9223372036854775807) (hc:c.size ≤ 9223372036854775807) (hd:d.size ≤ 9223372036854775807) (hs:s.size ≤ 9223372036854775807) {w:World} {B:Heap} (hB:B.Le (hp w)) :
  Ret Tryz.prog 222 [.agg #[.string a, .string b, .string r], .agg #[.string c, .string d, .string s]] w B (fun v _ => v = .int .i64 (z2n a b r c d s)):=by
 refine qu Tryz.func222 rfl Tryz.ntmps222 (Nat.le_of_ble_eq_true rfl) hB ?_
 by_cases h:a = c ∧ b = d
 ·have h':=z05 (decide_eq_true h)
  refine Zc6 ?_;refine Za6 ?_;refine Za6 ?_;refine Zf0 ?_;refine ZQ ?_;refine Zc7 ?_;refine Zm ?_;refine z7 (q0 L rfl rfl (zn rfl) rfl rfl rfl (fun u H hH _ _ => zgh (by first | assumption | omega | decide) (by first | assumption | omega | decide) hH)) rfl ?_;refine Zb ?_
  refine qt L (rs:=[.tmp 4]) rfl (fun _ _ h => h) Since.refl fun u H hH hle => ?_
  exact congrArg _ (z2l h).symm
 ·have h':=z05 (decide_eq_false h)
  refine Zc6 ?_;refine Za6 ?_;refine Za6 ?_;refine Zf0 ?_;refine ZaK ?_;refine Za6 ?_;refine Za6 ?_;refine z7 (q0 L rfl rfl (zn rfl) rfl rfl rfl (fun u H hH _ _ => zp2 (by first | assumption | omega | decide) (by first | assumption | omega | decide) (by first | assumption | omega | decide) (by first | assumption | omega | decide) hH)) rfl ?_;refine Zb ?_
  refine qt L (rs:=[.tmp 4]) rfl (fun _ _ h => h) Since.refl fun u H hH hle => ?_
  exact congrArg _ (z2m h).symm
end Go.V
set_option maxRecDepth 20000
namespace Go.V
open Go.Proofs Go.RowKit
section
variable {α:Type} {c:α → α → Int}
theorem Ord3.irr (h:Ord3 c) (a:α):¬ c a a < 0:=by rw [h.refl]; decide
theorem Ord3.asym (h:Ord3 c) {a b:α} (h1:c a b < 0):¬ c b a < 0:=by have:=h.anti a b; omega
theorem Ord3.tr (h:Ord3 c) {a b d:α} (h1:c a b < 0) (h2:c b d < 0):c a d < 0:=by
 have h3:=h.trans a b d (by omega) (by omega)
 by_cases h4:c a d = 0
 ·have:=h.lt_of (a:=a) (b:=b) (d:=d) (by omega) (by omega) h4; omega
 ·omega
theorem Ord3.ne (h:Ord3 c) {a b:α} (h1:c a b < 0):a ≠ b:=fun e => by subst e; exact h.irr a h1
theorem Ord3.tri (h:Ord3 c) {a b:α} (h1:¬ c a b < 0) (h2:a ≠ b):c b a < 0:=by
 have:=h.anti a b
 have h3:c a b ≠ 0:=fun e => h2 (h.eq _ _ e)
 omega
def Sst (c:α → α → Int) (l:List α):Prop:=l.Pairwise fun x y => c x y < 0
theorem Sst.nil:Sst c []:=List.Pairwise.nil
theorem Sst.nodup (h:Ord3 c) {l:List α} (hs:Sst c l):l.Nodup:=hs.imp fun h1 => h.ne h1
theorem znk (h:Ord3 c):∀ {l m:List α}, Sst c l → Sst c m → (∀ z, z ∈ l ↔ z ∈ m) → l = m
 | [], [], _, _, _ => rfl
 | [], y :: m, _, _, e => by have:=(e y).2 (List.mem_cons_self ..); cases this
 | y :: l, [], _, _, e => by have:=(e y).1 (List.mem_cons_self ..); cases this
 | y :: l, x :: m, hl, hm, e => by
  have h1:=List.pairwise_cons.1 hl
  have h2:=List.pairwise_cons.1 hm
  have exy:y = x:=by
   rcases List.mem_cons.1 ((e y).1 (List.mem_cons_self ..)) with e1 | e1
   ·exact e1
   ·rcases List.mem_cons.1 ((e x).2 (List.mem_cons_self ..)) with e2 | e2
    ·exact e2.symm
    ·exact absurd (h1.1 x e2) (h.asym (h2.1 y e1))
  subst exy
  congr 1
  refine znk h h1.2 h2.2 fun z => ?_
  constructor
  ·intro hz
   rcases List.mem_cons.1 ((e z).1 (List.mem_cons_of_mem _ hz)) with e1 | e1
   ·subst e1; exact absurd (h1.1 _ hz) (h.irr _)
   ·exact e1
  ·intro hz
   rcases List.mem_cons.1 ((e z).2 (List.mem_cons_of_mem _ hz)) with e1 | e1
   ·subst e1; exact absurd (h2.1 _ hz) (h.irr _)
   ·exact e1
def zib (c:α → α → Int) (t:α):List α → List α
 | [] => [t]
 | y :: l => if c t y < 0 then t :: y :: l else y :: zib c t l
theorem zep {t z:α}:∀ {l:List α}, z ∈ zib c t l ↔ z = t ∨ z ∈ l
 | [] => by simp [zib]
 | y :: l => by
  simp only [zib]
  split
  ·simp
  ·rw [List.mem_cons, zep, List.mem_cons]
   constructor
   ·rintro (e | e | e)
    ·exact .inr (.inl e)
    ·exact .inl e
    ·exact .inr (.inr e)
   ·rintro (e | e | e)
    ·exact .inr (.inl e)
    ·exact .inl e
    ·exact .inr (.inr e)
theorem zck (t:α):∀ (l:List α), (zib c t l).length = l.length + 1
 | [] => rfl
 | y :: l => by
  simp only [zib]
  split
  ·rfl
  ·simp only [List.length_cons, zck t l]
theorem zgg (h:Ord3 c) {t:α}:∀ {l:List α}, Sst c l → t ∉ l → Sst c (zib c t l)
 | [], _, _ => List.pairwise_singleton ..
 | y :: l, hs, ht => by
  have h1:=List.pairwise_cons.1 hs
  simp only [zib]
  split
  ·rename_i hlt
   refine List.pairwise_cons.2 ⟨fun z hz => ?_, hs⟩
   rcases List.mem_cons.1 hz with rfl | hz
   ·exact hlt
   ·exact h.tr hlt (h1.1 z hz)
  ·rename_i hlt
   refine List.pairwise_cons.2 ⟨fun z hz => ?_, zgg h h1.2 fun e => ht (List.mem_cons_of_mem _ e)⟩
   rcases zep.1 hz with rfl | hz
   ·exact h.tri hlt fun e => ht (by rw [e]; exact List.mem_cons_self ..)
   ·exact h1.1 z hz
def zg3 (c:α → α → Int) (f:Bool → Bool → Bool):Nat → List α → List α → List α
 | 0, _, _ => []
 | n + 1, [], [] => []
 | n + 1, a :: l, [] => (if f true false = true then [a] else []) ++ zg3 c f n l []
 | n + 1, [], b :: m => (if f false true = true then [b] else []) ++ zg3 c f n [] m
 | n + 1, a :: l, b :: m =>
  if c a b < 0 then (if f true false = true then [a] else []) ++ zg3 c f n l (b :: m)
  else if c a b > 0 then (if f false true = true then [b] else []) ++ zg3 c f n (a :: l) m
  else (if f true true = true then [a] else []) ++ zg3 c f n l m
variable [DecidableEq α]
def zfr (c:α → α → Int):List α → List α → List α
 | out, [] => out
 | out, t :: r => zfr c (if t ∈ out then out else zib c t out) r
theorem ze2 (h:Ord3 c):∀ {l out:List α}, Sst c out → Sst c (zfr c out l)
 | [], _, hs => hs
 | t :: r, out, hs => by
  simp only [zfr]
  refine ze2 h ?_
  split
  ·exact hs
  ·rename_i ht; exact zgg h hs ht
theorem ze6 {z:α}:∀ {l out:List α}, z ∈ zfr c out l ↔ z ∈ out ∨ z ∈ l
 | [], _ => by simp [zfr]
 | t :: r, out => by
  simp only [zfr]
  rw [ze6]
  split
  ·rename_i ht
   constructor
   ·rintro (e | e)
    ·exact .inl e
    ·exact .inr (List.mem_cons_of_mem _ e)
   ·rintro (e | e)
    ·exact .inl e
    ·rcases List.mem_cons.1 e with rfl | e
     ·exact .inl ht
     ·exact .inr e
  ·rw [zep, List.mem_cons]
   constructor
   ·rintro ((e | e) | e)
    ·exact .inr (.inl e)
    ·exact .inl e
    ·exact .inr (.inr e)
   ·rintro (e | e | e)
    ·exact .inl (.inr e)
    ·exact .inl (.inl e)
    ·exact .inr e
theorem zf0:∀ (l out:List α), (zfr c out l).length ≤ out.length + l.length
 | [], _ => Nat.le_refl _
 | t :: r, out => by
  have:=zf0 r (if t ∈ out then out else zib c t out)
  simp only [zfr]
  refine Nat.le_trans this ?_
  split
  ·simp only [List.length_cons]; omega
  ·rw [zck]; simp only [List.length_cons]; omega
theorem zus (h:Ord3 c) {l:List α} (hs:Sst c l):zfr c [] l = l:=znk h (ze2 h Sst.nil) hs fun z => by rw [ze6]; simp
end
end Go.V
set_option maxRecDepth 20000
namespace Go.V
open Go.Proofs Go.RowKit
section
variable {α:Type} [DecidableEq α]
def dd:List α → List α
 | [] => []
 | [x] => [x]
 | x :: y :: l => if x = y then dd (y :: l) else x :: dd (y :: l)
variable {c:α → α → Int}
end
theorem zgb {α:Type} {l:List α} {i:Nat} {a:α} (h:l[i]? = some a):l[i]'(get_lt h) = a:=by
 have h1:=h
 rw [List.getElem?_eq_getElem (get_lt h)] at h1
 exact Option.some.inj h1
section
variable {α:Type} {c:α → α → Int}
def z19 (c:α → α → Int) (t:α) (l:List α):Nat:=(l.takeWhile fun x => decide (c x t < 0)).length
theorem zxd (h:Ord3 c) {t:α}:∀ {l:List α} {i:Nat}, Sst c l → (∀ (j:Nat) (x:α), j < i → l[j]? = some x → c x t < 0) → (∀ (j:Nat) (x:α), i ≤ j → l[j]? = some x → ¬ c x t < 0) → i ≤ l.length → z19 c t l = i
 | [], i, _, _, _, hi => by simp at hi; subst hi; rfl
 | x :: l, 0, _, _, h2, _ => by
  unfold z19
  rw [List.takeWhile_cons, if_neg (by simpa using h2 0 x (Nat.le_refl _) rfl)]
  rfl
 | x :: l, i + 1, hs, h1, h2, hi => by
  have ih:=zxd h (t:=t) (l:=l) (i:=i) (List.pairwise_cons.1 hs).2 (fun j y hj hy => h1 (j + 1) y (by omega) (by simpa using hy)) (fun j y hj hy => h2 (j + 1) y (by omega) (by simpa using hy)) (by simpa using hi)
  unfold z19 at ih ⊢
  rw [List.takeWhile_cons, if_pos (by simpa using h1 0 x (Nat.succ_pos _) rfl), List.length_cons, ih]
theorem zmc (h:Ord3 c) {l:List α} (hs:Sst c l) {i j:Nat} {x y t:α} (hi:l[i]? = some x) (hj:l[j]? = some y) (hij:j ≤ i) (hx:c x t < 0):c y t < 0:=by
 rcases Nat.lt_or_ge j i with hlt | hge
 ·have h1:=List.pairwise_iff_getElem.1 hs j i (get_lt hj) (get_lt hi) hlt
  rw [zgb hj, zgb hi] at h1
  exact h.tr h1 hx
 ·have:i = j:=by omega
  subst this
  rw [hi] at hj; cases hj; exact hx
theorem z6b (h:Ord3 c) {t:α} {l:List α} (hs:Sst c l) {i:Nat} (h1:∀ (j:Nat) (x:α), j < i → l[j]? = some x → c x t < 0) {x:α} (hx:l[i]? = some x) (h2:∀ (j:Nat) (y:α), i ≤ j → l[j]? = some y → ¬ c y t < 0):t ∈ l ↔ c x t = 0:=by
 constructor
 ·intro ht
  obtain ⟨j, hj⟩:=List.getElem?_of_mem ht
  rcases Nat.lt_trichotomy j i with hlt | he | hgt
  ·exact absurd (h1 j t hlt hj) (h.irr t)
  ·subst he; rw [hx] at hj; cases hj; exact h.refl t
  ·have h3:=List.pairwise_iff_getElem.1 hs i j (get_lt hx) (get_lt hj) hgt
   rw [zgb hj, zgb hx] at h3
   exact absurd h3 (h2 i x (Nat.le_refl _) hx)
 ·intro e
  have:=h.eq _ _ e
  subst this
  exact List.mem_of_getElem? hx
theorem zr5 (h:Ord3 c) {t:α} {l:List α} (h1:∀ (j:Nat) (x:α), j < l.length → l[j]? = some x → c x t < 0):t ∉ l:=fun ht => by
 obtain ⟨j, hj⟩:=List.getElem?_of_mem ht
 exact absurd (h1 j t (get_lt hj) hj) (h.irr t)
end
end Go.V
set_option maxRecDepth 20000
namespace Go.V.L10
open Go.Proofs Go.RowKit Go.V
def cP (a b:Int):Int:=if a < b then -1 else if b < a then 1 else 0
theorem zi9:Ord3 cP:=⟨fun a => by unfold cP; simp, fun a b h => by unfold cP at h; split at h <;> (try split at h) <;> omega, fun a b => by unfold cP; split <;> (try split) <;> (try split) <;> omega, fun a b d h1 h2 => by
 unfold cP at h1 h2 ⊢
 split at h1 <;> (try split at h1) <;> split at h2 <;> (try split at h2) <;> split <;> (try split) <;> omega⟩
theorem z8g {a b:Int}:cP a b < 0 ↔ a < b:=by unfold cP; split <;> (try split) <;> omega
def zfs (L:List Int):List Int:=zfr cP [] L
theorem zya {L:List Int} {z:Int}:z ∈ zfs L ↔ z ∈ L:=by unfold zfs; rw [ze6]; simp
theorem zpl (L:List Int):Sst cP (zfs L):=ze2 zi9 Sst.nil
theorem zqq (L:List Int):(zfs L).length ≤ L.length:=by have:=zf0 (c:=cP) L []; simpa [zfs] using this
def zdw (L:List Int):List (Int × Int):=(zfs L).map fun r => (r, (L.count r:Int))
theorem zhj (L:List Int):(zdw L).length = (zfs L).length:=by unfold zdw; simp
theorem zp4 {L:List Int} {i:Nat} {r:Int} (h:(zfs L)[i]? = some r):(zdw L)[i]? = some (r, (L.count r:Int)):=by unfold zdw; rw [List.getElem?_map, h]; rfl
section
variable {α:Type} {c:α → α → Int}
theorem zxc (h:Ord3 c) {t:α}:∀ {l:List α}, Sst c l → t ∈ l → l[z19 c t l]? = some t
 | [], _, hm => (by cases hm)
 | y :: l, hs, hm => by
  unfold z19
  rw [List.takeWhile_cons]
  have h1:=List.pairwise_cons.1 hs
  by_cases hc:c y t < 0
  ·rcases List.mem_cons.1 hm with e | hm
   ·subst e; exact absurd hc (h.irr _)
   ·rw [if_pos (by simpa using hc), List.length_cons, List.getElem?_cons_succ]
    exact zxc h h1.2 hm
  ·rw [if_neg (by simpa using hc)]
   rcases List.mem_cons.1 hm with e | hm
   ·subst e; rfl
   ·exact absurd (h1.1 t hm) hc
theorem map_erase {β:Type} (f:α → β) (l:List α) (i:Nat):(l.map f).eraseIdx i = (l.eraseIdx i).map f:=by
 rw [List.eraseIdx_eq_take_drop_succ, List.eraseIdx_eq_take_drop_succ, List.map_append, List.map_take, List.map_drop]
end
end Go.V.L10
set_option maxRecDepth 20000
namespace Go.V.L4
open Go.V
structure Rd where
 at_:Nat
 bad:Nat
 err:Int
def Rd.fail (R:Rd) (a:Nat) (e:Int):Rd:=if R.err = 0 then ⟨R.at_, a, e⟩ else R
def zhm (bs:List Nat):Nat → Nat → Nat → Rd → Nat × Rd
 | 0, _, acc, R => (acc, R)
 | f + 1, i, acc, R => match bs[R.at_]? with
  | none => (0, R.fail bs.length 17)
  | some b => if i = 9 ∧ b ≠ 1 ∨ 0 < i ∧ b = 0 then (0, R.fail R.at_ 5) else
   if b < 128 then (acc + b % 128 * 128 ^ i, ⟨R.at_ + 1, R.bad, R.err⟩) else zhm bs f (i + 1) (acc + b % 128 * 128 ^ i) ⟨R.at_ + 1, R.bad, R.err⟩
def zfv (bs:List Nat) (R:Rd):Nat × Rd:=zhm bs 10 0 0 R
def zd1 (bs:List Nat) (lim:Nat) (e:Int) (R:Rd):Nat × Rd:=if lim < (zfv bs R).1 then ((zfv bs R).1, (zfv bs R).2.fail R.at_ e) else zfv bs R
def zdr {α:Type} (f:Rd → α × Rd) (z:α) (R:Rd):α × Rd:=if R.err ≠ 0 then (z, R) else if (f R).2.err ≠ 0 then (z, ⟨R.at_, (f R).2.bad, (f R).2.err⟩) else f R
def zjt (bs:List Nat):Rd → Nat × Rd:=zdr (zfv bs) 0
def zq8 (bs:List Nat) (lim:Nat) (R:Rd):Int × Rd:=(IntKind.i64.wrap ((zd1 bs lim 3 R).1:Nat), (zd1 bs lim 3 R).2)
def zbp (bs:List Nat) (lim:Nat):Rd → Int × Rd:=zdr (zq8 bs lim) 0
theorem zoj (R:Rd) (a:Nat) (e:Int):(R.fail a e).at_ = R.at_:=by unfold Rd.fail; split <;> rfl
theorem zxx {bs:List Nat}:∀ (f i acc:Nat) (R:Rd), R.at_ ≤ bs.length → (zhm bs f i acc R).2.at_ ≤ bs.length ∧ R.at_ ≤ (zhm bs f i acc R).2.at_
 | 0, _, _, R, h => ⟨h, Nat.le_refl _⟩
 | f + 1, i, acc, R, h => by
  unfold zhm
  cases hb:bs[R.at_]? with
  | none => dsimp only; rw [zoj]; exact ⟨h, Nat.le_refl _⟩
  | some b =>
   have hlt:=get_lt hb
   dsimp only
   split
   ·dsimp only; rw [zoj]; exact ⟨h, Nat.le_refl _⟩
   ·split
    ·exact ⟨hlt, Nat.le_succ _⟩
    ·have:=zxx f (i + 1) (acc + b % 128 * 128 ^ i) ⟨R.at_ + 1, R.bad, R.err⟩ hlt
     exact ⟨this.1, Nat.le_trans (Nat.le_succ _) this.2⟩
theorem zrw (i:Nat):128 ^ i = 2 ^ (7 * i):=by rw [Nat.pow_mul]
theorem zt9 {acc b i:Nat} (h:acc < 128 ^ i):acc + b % 128 * 128 ^ i < 128 ^ (i + 1):=by
 rw [Nat.pow_succ]
 have h1:b % 128 ≤ 127:=by omega
 have h2:b % 128 * 128 ^ i ≤ 127 * 128 ^ i:=Nat.mul_le_mul_right _ h1
 omega
end Go.V.L4
set_option maxRecDepth 20000
namespace Go.V
open Go.RowKit
def zai (b:Nat) (cs:List Value) (ty:TypeId):GR where
 P _ u C:=u.heap[b]? = some (.cells cs.toArray ty) ∧ ∀ k, C k ↔ k = b
 st:=fun ⟨h1, h2⟩ _ _ _ hk => ⟨(hk b ((h2 b).2 rfl)).trans h1, h2⟩
theorem zac (b:Nat) (cs:List Value) (ty:TypeId):(zai b cs ty).res = zaj b cs ty:=rfl
def zbd (P:Program) (f:FuncId) (args:List Value) (w:World) (B:Heap) (C:Nat → Prop) (r:GR):Prop :=
 RetL P f args w B C fun _ H u => ∃ C', r.P H u C' ∧ ∀ k, C' k → (C k ∨ w.heap.size ≤ k) ∧ k < u.heap.size ∧ H k = none
section
variable {P:Program} {F:Fr} {B:Heap} {O:Boxes} {n:Nat} {ops:Array Oper} {κ:Kap} {d:Nat} {ty:TypeId} {pos:String} {aft:Array Edge} {g:Option (Nat × Bool)} {Q:Exit → Act → World → Prop}
theorem zau (L:Tabs P) (q:Nat) (r':GR) {r:GR} {f:Nat} {args:Array Operand} {at_:Array TypeId} {cap:List Value} {fo:Operand}
  (hn:Nat.blt d n = true) (hg:gK ops κ ⟨some d, .call { callee:=.value fo, args:=args, argTypes:=at_ }, ty, pos, aft, g⟩ = some true)
  (hf:evK κ fo = some (.func (.func f) #[] cap.toArray)) (hfn:L.fn f = some ()) (hq:κ q = some (.own r.res))
  (h:∀ u H C, H.Le (hp u) → B.Le H → r.P H u C → (∀ k, C k → k < u.heap.size ∧ H k = none) → Args κ H args.toList [] (fun vs => zbd P f (vs ++ cap) u H C r')) :
  zdg P F B n ops O κ ⟨some d, .call { callee:=.value fo, args:=args, argTypes:=at_ }, ty, pos, aft, g⟩ q (.own r'.res) d zed:=by
 rintro κ' a u hlk hks ⟨H, fp, hh⟩
 unfold After
 rw [if_pos (zae hh hlk hg)]
 have hk':κ' q = some (.own r.res):=hks.trans hq
 obtain ⟨hown, hM⟩:=hh.slot q _ hk'
 have e2:=hh.env hlk
 have hfe:a.eval fo = .func (.func f) #[] cap.toArray:=e2.is_ fo _ (by simp [Op.operands, Call.operands]) hf
 have hc:=Args.use e2 args.toList [] (fun x hx => by simp [Op.operands, Call.operands] at hx ⊢; exact .inr hx) (h u H (fp q) hh.sub hh.base hown fun k hk => ⟨(hM k hk).1, (hM k hk).2.1⟩)
 simp only [List.reverse_nil, List.nil_append] at hc
 rw [zdp L rfl hfe hfn]
 simp only [Upon]
 refine Calls.mono hc fun e' u' hp => ?_
 obtain ⟨v, rfl, H', g', C', hv, hC'⟩:=hp
 have h2:=hh.usePut (d:=q) (a':=a) (r':=r'.res) hk' g' rfl rfl (fun _ _ => rfl) hv hC'
 rw [zbr] at h2
 exact ⟨v, rfl, H', _, h2.put (k:=zed) (zn hn) (fun _ _ _ h _ => h) trivial⟩
theorem zq5 (L:Tabs P) {fn:Func} {B0:Heap} (hrs:fn.results = #[]) (hQ:∀ a u, bodyPostM Fence.wide 0 P fn (zff F.w0 B0 F.L fun _ _ _ => True) .normal a u → Q .normal a u) (hs:Since F B0 B) (hm:zzl F.ds = true:=by rfl):N F B n O κ Q :=
 z2t hQ hs (hm:=hm) fun O' a u H fp _ hh => by
  obtain ⟨vs, h1, _⟩:=zbn L hh (rs:=[]) hrs (K:=fun _ => True) trivial
  exact ⟨_, h1, trivial⟩
theorem z4n {x c y:Code} {T:Type} (Fk:T → List (Nat × Kn)) (I:T → Prop) (Ob:T → Boxes) (hy:∀ t, I t → V P F B n (Ob t) (ofL (Fk t)) y Q)
  (h:V P F B n O κ x (Exit.then (fun a u => c.wpIn (FW F.r) 0 P (Exit.then (fun a u => ∃ t, I t ∧ Has F B (Ob t) n (ofL (Fk t)) a u) Q) a u) (Exit.then (fun a u => ∃ t, I t ∧ Has F B (Ob t) n (ofL (Fk t)) a u) Q))) :
  V P F B n O κ x (Exit.then (fun a u => c.wpIn (FW F.r) 0 P (Exit.then (fun a u => y.wpIn (FW F.r) 0 P Q a u) Q) a u) (Exit.then (fun a u => y.wpIn (FW F.r) 0 P Q a u) Q)):=fun a u hh => by
 have key:∀ e a u, Exit.then (fun a u => ∃ t, I t ∧ Has F B (Ob t) n (ofL (Fk t)) a u) Q e a u → Exit.then (fun a u => y.wpIn (FW F.r) 0 P Q a u) Q e a u:=fun e a u he => by
  cases e <;> first | exact he | (obtain ⟨t, hI, hh⟩:=he; exact hy t hI a u hh)
 refine Go.wpIn_mono (h a u hh) fun e a u he => ?_
 cases e <;> first | exact Go.wpIn_mono he key | exact he
theorem HasH.setSat {t:Nat} {φ:Value → Heap → Prop} {H:Heap} {fp:Nat → Nat → Prop} {a:Act} {u:World} (hm:Kn.mono (.sat φ)) (h:HasH F B O n κ a u H fp) (hφ:φ (a.eval (.tmp t)) H):HasH F B O n (upd κ t (.sat φ)) a u H fp :=
 ⟨h.size, h.defers, h.nodup, h.marks, h.lent, h.keep, h.sub, h.base, h.fresh, h.boxes, h.apart, fun s k hs => by
  by_cases hst:s = t
  ·subst hst; rw [zah] at hs; cases hs; exact hφ
  ·rw [zab _ _ hst] at hs; exact h.slot s k hs, fun s r r1 r2 hsr h1 h2 => by
  have key:∀ x r, upd κ t (.sat φ) x = some (.own r) → κ x = some (.own r):=fun x r hx => by
   by_cases hxd:x = t
   ·subst hxd; rw [zah] at hx; cases hx
   ·rw [zab _ _ hxd] at hx; exact hx
  exact h.owns s r r1 r2 hsr (key _ _ h1) (key _ _ h2), fun s k hs => by
  by_cases hst:s = t
  ·subst hst; rw [zah] at hs; cases hs; exact hm
  ·rw [zab _ _ hst] at hs; exact h.mono s k hs⟩
end
end Go.V
set_option maxRecDepth 20000
namespace Go.V
open Go.Proofs Go.RowKit
def RetX (P:Program) (f:FuncId) (args:List Value) (w:World) (B:Heap) (C:Nat → Prop) (r:GR) (v:Value):Prop :=
 RetL P f args w B C fun x H u => x = v ∧ ∃ C', r.P H u C' ∧ ∀ k, C' k → (C k ∨ w.heap.size ≤ k) ∧ k < u.heap.size ∧ H k = none
section
variable {P:Program} {F:Fr} {B:Heap} {O:Boxes} {n:Nat} {ops:Array Oper} {κ:Kap} {d:Nat} {ty:TypeId} {pos:String} {aft:Array Edge} {g:Option (Nat × Bool)} {Q:Exit → Act → World → Prop}
theorem yc (L:Tabs P) (q:Nat) (r':GR) (v:Value) {r:GR} {f:Nat} {args:Array Operand} {at_:Array TypeId} {cap:List Value} {fo:Operand}
  (hn:Nat.blt d n = true) (hg:gK ops κ ⟨some d, .call { callee:=.value fo, args:=args, argTypes:=at_ }, ty, pos, aft, g⟩ = some true)
  (hf:evK κ fo = some (.func (.func f) #[] cap.toArray)) (hfn:L.fn f = some ()) (hq:κ q = some (.own r.res))
  (h:∀ u H C, H.Le (hp u) → B.Le H → r.P H u C → (∀ k, C k → k < u.heap.size ∧ H k = none) → Args κ H args.toList [] (fun vs => RetX P f (vs ++ cap) u H C r' v)) :
  zdg P F B n ops O κ ⟨some d, .call { callee:=.value fo, args:=args, argTypes:=at_ }, ty, pos, aft, g⟩ q (.own r'.res) d (.is v):=by
 rintro κ' a u hlk hks ⟨H, fp, hh⟩
 unfold After
 rw [if_pos (zae hh hlk hg)]
 have hk':κ' q = some (.own r.res):=hks.trans hq
 obtain ⟨hown, hM⟩:=hh.slot q _ hk'
 have e2:=hh.env hlk
 have hfe:a.eval fo = .func (.func f) #[] cap.toArray:=e2.is_ fo _ (by simp [Op.operands, Call.operands]) hf
 have hc:=Args.use e2 args.toList [] (fun x hx => by simp [Op.operands, Call.operands] at hx ⊢; exact .inr hx) (h u H (fp q) hh.sub hh.base hown fun k hk => ⟨(hM k hk).1, (hM k hk).2.1⟩)
 simp only [List.reverse_nil, List.nil_append] at hc
 rw [zdp L rfl hfe hfn]
 simp only [Upon]
 refine Calls.mono hc fun e' u' hp => ?_
 obtain ⟨x, rfl, H', g', hx, C', hv, hC'⟩:=hp
 have h2:=hh.usePut (d:=q) (a':=a) (r':=r'.res) hk' g' rfl rfl (fun _ _ => rfl) hv hC'
 rw [zbr] at h2
 exact ⟨x, rfl, H', _, h2.put (k:=.is v) (zn hn) trivial hx⟩
theorem zaq (L:Tabs P) {fn:Func} {B0:Heap} (gs:Nat) {r r':GR} {rs:List ResultVar} {v:Value} (hrs:fn.results = rs.toArray)
  (hQ:∀ a u, bodyPostM Fence.wide 0 P fn (zff F.w0 B0 F.L fun x H u => x = v ∧ ∃ C', r'.P H u C' ∧ ∀ k, C' k → (F.L k ∨ F.w0.heap.size ≤ k) ∧ k < u.heap.size ∧ H k = none) .ret a u → Q .ret a u) (hs:Since F B0 B) (hk:κ gs = some (.own r.res)) (e:r = r')
  (h:∀ H, zov L F B O κ H rs [] (fun vs => tup vs = v)) (hd:F.ds = []:=by rfl):V P F B n O κ .ret Q:=fun a u hh => by
 obtain ⟨H, fp, hH⟩:=hh
 refine wpIn_ret (hQ a u ?_)
 have h0:=hH.defers
 rw [hd] at h0
 show LeavesInM _ _ _ _ _ _ a.defers _ _
 rw [h0]
 subst e
 obtain ⟨vs, h1, h2⟩:=zbn L hH hrs (h H)
 obtain ⟨C', h3, h4⟩:=HasH.ghost hk hH
 exact ⟨_, h1, _, rfl, H, ⟨hH.keep, hH.sub, hs.le.trans hH.base, fun k hk hl => (hH.fresh k hk hl).trans (hs.fresh k hk hl)⟩, h2, C', h3, h4⟩
theorem z5w {t t':TypeId} {x y:Operand} {k k2:IntKind} {p q r:Int} (hn:Nat.blt d n = true) (hg:gK ops κ ⟨some d, .binOp .shl t x y t', ty, pos, aft, g⟩ = some true) (hx:evK κ x = some (.int k p)) (hy:evK κ y = some (.int k2 q)) (h0:0 ≤ q) (hb:k.wrap (p * 2 ^ min q.toNat k.bits) = r) :
  StepOK P F B n ops O κ ⟨some d, .binOp .shl t x y t', ty, pos, aft, g⟩ d (.is (.int k r)):=zb4 hn hg hx hy fun u => by subst hb; simp [eqGuard_shl, binOp_shl, Op.shift, Int.not_lt.2 h0]
theorem z65 {id:Nat} {x y:Code} {R:Exit → Act → World → Prop} (hm:z69 P F B n R y Q) (h:V P F B n O κ x (Exit.inBlock id R)):V P F B n O κ x (Exit.inBlock id (Exit.then (fun a u => y.wpIn (FW F.r) 0 P Q a u) Q)):=fun a u hh => by
 have key:∀ e a u, R e a u → Exit.then (fun a u => y.wpIn (FW F.r) 0 P Q a u) Q e a u:=fun e a u he => by
  cases e <;> first | exact hm.1 a u he | exact hm.2 _ a u (by intro h; cases h) he
 refine Go.wpIn_mono (h a u hh) fun e a u he => ?_
 cases e with
 | exit j =>
  simp only [Exit.inBlock] at he ⊢
  split at he
  ·rename_i h; rw [if_pos h]; exact key _ _ _ he
  ·rename_i h; rw [if_neg h]; exact key _ _ _ he
 | _ => exact key _ _ _ he
end
def uC (d:Array Int):List Value:=d.toList.map (Value.int .u64)
theorem zl1 (d:Array Int):(uC d).length = d.size:=by simp [uC]
theorem z44 {d:Array Int} {j:Nat} (h:j < d.size):(uC d)[j]? = some (.int .u64 d[j]!):=by
 unfold uC
 rw [List.getElem?_map, Array.getElem?_toList, Array.getElem?_eq_getElem h, getElem!_pos d j h]
 rfl
theorem zsu {d:Array Int} {rest:List Value} {j:Nat} (h:j < d.size) (off:Nat) (ho:off = 0 + j * 1):∃ r, (uC d ++ rest).drop off = .int .u64 d[j]! :: r:=by
 subst ho
 rw [Nat.zero_add, Nat.mul_one]
 have hl:j < (uC d ++ rest).length:=by rw [List.length_append, zl1]; omega
 refine ⟨(uC d ++ rest).drop (j + 1), ?_⟩
 rw [List.drop_eq_getElem_cons hl]
 congr 1
 have:=z44 h
 rw [← List.getElem?_append_left (l₂:=rest) (by rw [zl1]; exact h), List.getElem?_eq_getElem hl] at this
 exact Option.some.inj this
theorem zo9 {d:Array Int} {rest:List Value} {j:Nat} (z:Int) (h:j < d.size) (off:Nat) (ho:off = 0 + j * 1):(uC d ++ rest).take off ++ ([.int .u64 z] ++ (uC d ++ rest).drop (off + 1)) = uC (d.setIfInBounds j z) ++ rest:=by
 subst ho
 rw [Nat.zero_add, Nat.mul_one]
 have h1:uC (d.setIfInBounds j z) = (uC d).set j (.int .u64 z):=by
  unfold uC
  rw [Array.toList_setIfInBounds, List.map_set]
 rw [h1, List.take_append_of_le_length (by rw [zl1]; omega), List.drop_append_of_le_length (by rw [zl1]; omega), List.set_eq_take_append_cons_drop, if_pos (by rw [zl1]; exact h)]
 simp
theorem zpa {d:Array Int} {rest:List Value} {j:Nat} (h:j < d.size) (off:Nat) (ho:off = 0 + j * 1):Nat.ble (off + 1) (uC d ++ rest).length = true:=Nat.ble_eq_true_of_le (by rw [List.length_append, zl1]; omega)
theorem zs1 (d:Array Int) (i j:Nat):(d.setIfInBounds i d[j]!).setIfInBounds j d[i]! = Go.Sort.swp d i j:=rfl
theorem zjp (d:Array Int) (i j:Nat):(Go.Sort.swp d i j).size = d.size:=by unfold Go.Sort.swp; rw [Array.size_setIfInBounds, Array.size_setIfInBounds]
end Go.V
set_option maxRecDepth 20000
namespace Go.V
open Go.RowKit
section
variable {P:Program} {F:Fr} {B:Heap} {O:Boxes} {n:Nat} {ops:Array Oper} {κ:Kap} {d:Nat} {ty:TypeId} {pos:String} {aft:Array Edge} {g:Option (Nat × Bool)} {a:Act} {u:World} {Q:Exit → Act → World → Prop}
end
end Go.V
set_option maxRecDepth 20000
namespace Go.V
open Go.RowKit
section
variable {P:Program} {F:Fr} {B:Heap} {O:Boxes} {n:Nat} {ops:Array Oper} {κ:Kap} {d:Nat} {ty:TypeId} {pos:String} {aft:Array Edge} {g:Option (Nat × Bool)} {Q:Exit → Act → World → Prop}
end
end Go.V
set_option maxRecDepth 20000
namespace Go.V
open Go.Proofs Go.RowKit
section
variable {P:Program} {F:Fr} {B:Heap} {O:Boxes} {n:Nat} {ops:Array Oper} {κ:Kap} {d:Nat} {ty:TypeId} {pos:String} {aft:Array Edge} {g:Option (Nat × Bool)} {Q:Exit → Act → World → Prop}
end
end Go.V
set_option maxRecDepth 20000
namespace Go.V
open Go.RowKit
section
variable {P:Program} {F:Fr} {B:Heap} {O:Boxes} {n:Nat} {ops:Array Oper} {κ:Kap} {d:Nat} {ty:TypeId} {pos:String} {aft:Array Edge} {g:Option (Nat × Bool)}
theorem zlh {u:World} {H:Heap} {b:Nat} {L:Nat → Prop} {o:Obj} (hs:H.Le (hp u)) (hL:L b) (hH:H b = none):Grow L u H (u.putObj b o) H :=
 ⟨⟨rfl, rfl, rfl, Nat.le_of_eq World.putObj_size.symm, fun k _ hk => World.putObj_heap_other (fun e => hk (e ▸ hL)), Nat.le_refl _⟩, fun k x hx => by
  have:k ≠ b:=fun e => by subst e; rw [hH] at hx; cases hx
  show (u.putObj b o).heap[k]? = some x
  rw [World.putObj_heap_other this]; exact hs k x hx, Heap.Le.refl _, fun _ _ _ => rfl⟩
end
section
variable {P:Program} {b:Frame} {a:Act} {k:List Item} {cs:List Frame} {w:World}
end
section
variable {P:Program} {F:Fr} {B:Heap} {O:Boxes} {n:Nat} {κ:Kap} {Q:Exit → Act → World → Prop}
end
end Go.V
set_option maxRecDepth 20000
namespace Go.V
open Go.RowKit
section
variable {P:Program}
end
section
variable {K V:Type} [DecidableEq K]
def zfl (k:K):List (K × V) → Nat → Option (Nat × V)
 | [], _ => none
 | p :: l, i => if k = p.1 then some (i, p.2) else zfl k l (i + 1)
def zia (k:K) (l:List (K × V)):Option V:=(zfl k l 0).map (·.2)
def zva (k:K) (v:V):List (K × V) → List (K × V)
 | [] => [(k, v)]
 | p :: l => if k = p.1 then (p.1, v) :: l else p :: zva k v l
theorem zla (k:K):∀ (l:List (K × V)) (i:Nat), zfl k l (i + 1) = (zfl k l i).map fun p => (p.1 + 1, p.2)
 | [], _ => rfl
 | p :: l, i => by
  unfold zfl
  split
  ·rfl
  ·exact zla k l (i + 1)
theorem zee (k:K) (p:K × V) (l:List (K × V)):zia k (p :: l) = if k = p.1 then some p.2 else zia k l:=by
 unfold zia
 rw [zfl]
 split
 ·rfl
 ·rw [zla, Option.map_map]; rfl
theorem ztq (k k':K) (v:V):∀ l:List (K × V), zia k (zva k' v l) = if k = k' then some v else zia k l
 | [] => by rw [zva, zee]
 | p :: l => by
  rw [zva]
  split
  ·rename_i h
   rw [zee, zee]
   by_cases h1:k = p.1
   ·rw [if_pos h1, if_pos (h1.trans h.symm)]
   ·rw [if_neg h1, if_neg (fun e => h1 (e.trans h))]
    rw [if_neg h1]
  ·rename_i h
   rw [zee, zee, ztq k k' v l]
   by_cases h1:k = p.1
   ·rw [if_pos h1, if_neg (fun e => h (e.symm.trans h1)), if_pos h1]
   ·rw [if_neg h1, if_neg h1]
theorem zlb {k:K}:∀ {l:List (K × V)} {i j:Nat} {x:V}, zfl k l i = some (j, x) → ∃ n, j = i + n ∧ l[n]? = some (k, x)
 | [], _, _, _, h => by cases h
 | p :: l, i, j, x, h => by
  unfold zfl at h
  split at h
  ·rename_i hk
   cases h
   exact ⟨0, rfl, by subst hk; rfl⟩
  ·obtain ⟨n, hn, hx⟩:=zlb h
   exact ⟨n + 1, by omega, hx⟩
theorem zk8 {k:K} {v:V}:∀ {l:List (K × V)} {i:Nat}, zfl k l i = none → zva k v l = l ++ [(k, v)]
 | [], _, _ => rfl
 | p :: l, i, h => by
  unfold zfl at h
  split at h
  ·cases h
  ·rename_i hk
   rw [zva, if_neg hk, zk8 h]; rfl
end
section
variable {P:Program} {K V:Type} [DecidableEq K] {kc:K → List Value} {vc:V → Value} {l:List (K × V)} {t kt et:TypeId} {ls:List Nat}
end
section
variable {P:Program} {F:Fr} {B:Heap} {O:Boxes} {n:Nat} {ops:Array Oper} {κ:Kap} {d:Nat} {ty:TypeId} {pos:String} {aft:Array Edge} {g:Option (Nat × Bool)} {a:Act} {u:World} {H:Heap} {os:List Oper} {Q:Exit → Act → World → Prop} {ex:Exs}
variable {K Y:Type} [DecidableEq K] {kc:K → List Value} {vc:Y → Value} {l:List (K × Y)}
end
end Go.V
set_option maxRecDepth 20000
namespace Go.V
open Go.Proofs Go.RowKit
theorem zph {α:Type} {l:List α} {i:Nat} {x:α} (h:l[i]? = some x):l.take (i + 1) = l.take i ++ [x]:=by
 rw [List.take_add_one, h]; rfl
section
variable {P:Program} {F:Fr} {B:Heap} {O:Boxes} {n:Nat} {ops:Array Oper} {κ:Kap} {d:Nat} {ty:TypeId} {pos:String} {aft:Array Edge} {g:Option (Nat × Bool)} {os:List Oper} {Q:Exit → Act → World → Prop}
theorem Has.relE {t q:Nat} {b m:Nat} {e:TypeId} {s:Nat} {xs:List Value} {a:Act} {u:World} (hk:κ q = some (.own (zaj b xs e))) (ht:κ t = some (.is (.slice (some ⟨b, 0, none⟩) m m))) (hl:xs.length = m * s) (hm:m ≤ maxLen) (hh:Has F B O n κ a u):Has F B O n (upd (upd κ q zed) t (.own (SlE e s m xs))) a u:=by
 obtain ⟨H, fp, hh⟩:=hh
 obtain ⟨⟨hb, hC⟩, hM⟩:=hh.slot q _ hk
 have hx:a.eval (.tmp t) = .slice (some ⟨b, 0, none⟩) m m:=hh.slot t _ ht
 exact ⟨H, _, hh.usePut (d:=t) (a':=a) (r':=SlE e s m xs) (C:=fp q) hk ⟨Keep.refl _ _, hh.sub, Heap.Le.refl _, fun _ _ _ => rfl⟩ rfl rfl (fun _ _ => rfl) ⟨hl, .inr ⟨b, hx, hb, hm, hC⟩⟩ fun k hk => ⟨.inl hk, (hM k hk).1, (hM k hk).2.1⟩⟩
theorem z2p (t q:Nat) {b m:Nat} {e:TypeId} {s:Nat} {xs:List Value} {c:Code} (hk:κ q = some (.own (zaj b xs e))) (ht:κ t = some (.is (.slice (some ⟨b, 0, none⟩) m m))) (hl:xs.length = m * s) (hm:m ≤ maxLen)
  (h:V P F B n O (upd (upd κ q zed) t (.own (SlE e s m xs))) c Q):V P F B n O κ c Q:=fun a u hh => h a u (hh.relE hk ht hl hm)
theorem StepOK.seeV {o:Oper} {v:Value} {e:TypeId} {s m:Nat} {xs:List Value} {fu:Bool} (h:StepOK P F B n ops O κ o d (.is v)) (hv:SlV e s xs m fu v B):StepOK P F B n ops O κ o d (.sat (SlV e s xs m fu)):=fun κ' a u hl hh =>
 After.mono (fun a' u' hh' => by
  have h2:=hh'.seen (t:=d) (SlV e s xs m fu) (zah _ _ _) SlV.mono hv
  rwa [zbr] at h2) (h κ' a u hl hh)
theorem Has.pubH {q b:Nat} {cs:List Value} {t':TypeId} {a:Act} {u:World} (hk:κ q = some (.own (zaj b cs t'))) (hh:Has F B O n κ a u):∃ H, Since F B H ∧ B b = none ∧ H b = some (.cells cs.toArray t') ∧ Has F H O n (upd κ q zed) a u:=by
 obtain ⟨H, fp, hh⟩:=hh
 obtain ⟨⟨hb, hC⟩, hM⟩:=hh.slot q _ hk
 have hbm:=hM b ((hC b).2 rfl)
 obtain ⟨H', h'⟩:=hh.pub (φ:=fun _ H => H b = some (.cells cs.toArray t')) hk hb ((hC b).2 rfl) (fun _ _ _ h hle => hle _ _ h) fun H' _ hb' => hb'
 have hx:H' b = some (.cells cs.toArray t'):=h'.slot q _ (zah _ _ _)
 refine ⟨H', h'.isSince, ?_, hx, H', fp, ?_⟩
 ·cases hB:B b with
  | none => rfl
  | some z => have:=hh.base _ _ hB; rw [hbm.2.1] at this; cases this
 ·have h2:=(h'.rebase).setSat (t:=q) (φ:=fun _ _ => True) (fun _ _ _ _ _ => trivial) trivial
  rwa [zbr] at h2
theorem zei (q:Nat) {b:Nat} {cs:List Value} {t':TypeId} {c:Code} (hk:κ q = some (.own (zaj b cs t'))) (h:∀ H, Since F B H → B b = none → H b = some (.cells cs.toArray t') → V P F H n O (upd κ q zed) c Q):V P F B n O κ c Q:=fun a u hh =>
 let ⟨H, h1, h2, h3, h4⟩:=hh.pubH hk; h H h1 h2 h3 a u h4
end
section
variable {P:Program} {F:Fr} {B:Heap} {O:Boxes} {n:Nat} {ops:Array Oper} {κ:Kap} {d:Nat} {ty:TypeId} {pos:String} {aft:Array Edge} {g:Option (Nat × Bool)} {K Y:Type} [DecidableEq K] {kc:K → List Value} {vc:Y → Value} {l:List (K × Y)}
end
end Go.V
set_option maxRecDepth 20000
namespace Go.V
open Go.Proofs Go.RowKit
section
variable {P:Program} {F:Fr} {B:Heap} {O:Boxes} {n:Nat} {ops:Array Oper} {κ:Kap} {d:Nat} {ty:TypeId} {pos:String} {aft:Array Edge} {g:Option (Nat × Bool)} {os:List Oper} {Q:Exit → Act → World → Prop}
end
end Go.V
set_option maxRecDepth 20000
namespace Go.V
open Go.Proofs Go.RowKit
section
variable {P:Program} {F:Fr} {B:Heap} {O:Boxes} {n:Nat} {ops:Array Oper} {κ:Kap} {d:Nat} {ty:TypeId} {pos:String} {aft:Array Edge} {g:Option (Nat × Bool)} {os:List Oper} {Q:Exit → Act → World → Prop}
end
theorem Has.nilAt {F:Fr} {B:Heap} {O:Boxes} {n:Nat} {κ:Kap} (g:Nat) (e:TypeId) (s:Nat) {a:Act} {u:World} (hh:Has F B O n κ a u):Has F B O n (upd κ g (.own (AtV (.slice none 0 0) (SlR e s 0 [])))) a u:=by
 obtain ⟨H, fp, hh⟩:=hh
 exact ⟨H, _, hh.putR (C:=noL) (a':=a) rfl rfl (fun _ _ => rfl) ⟨by simp, .inl ⟨rfl, rfl, fun _ h => h⟩⟩ (fun _ h => h.elim) fun _ _ _ _ _ _ h => h⟩
theorem zg5 {P:Program} {F:Fr} {B:Heap} {O:Boxes} {n:Nat} {κ:Kap} {Q:Exit → Act → World → Prop} (g:Nat) (e:TypeId) (s:Nat) {c:Code} (h:V P F B n O (upd κ g (.own (AtV (.slice none 0 0) (SlR e s 0 [])))) c Q):V P F B n O κ c Q:=fun a u hh => h a u (hh.nilAt g e s)
end Go.V
set_option maxRecDepth 20000
namespace Go.V
open Go.RowKit
def zh8 (r1 r2:Res):Res where
 P v H u C:=∃ C1 C2:Nat → Prop, r1.P v H u C1 ∧ r2.P v H u C2 ∧ (∀ k, C k ↔ C1 k ∨ C2 k) ∧ ∀ k, C1 k → ¬ C2 k
 st:=fun ⟨C1, C2, h1, h2, h3, h4⟩ hle hs ho hk => ⟨C1, C2, r1.st h1 hle hs ho fun k hc => hk k ((h3 k).2 (.inl hc)), r2.st h2 hle hs ho fun k hc => hk k ((h3 k).2 (.inr hc)), h3, h4⟩
def zdz (r1 r2:GR):GR where
 P H u C:=∃ C1 C2:Nat → Prop, r1.P H u C1 ∧ r2.P H u C2 ∧ (∀ k, C k ↔ C1 k ∨ C2 k) ∧ ∀ k, C1 k → ¬ C2 k
 st:=fun ⟨C1, C2, h1, h2, h3, h4⟩ hle hs ho hk => ⟨C1, C2, r1.st h1 hle hs ho fun k hc => hk k ((h3 k).2 (.inl hc)), r2.st h2 hle hs ho fun k hc => hk k ((h3 k).2 (.inr hc)), h3, h4⟩
theorem zcx (r1 r2:GR):(zdz r1 r2).res = zh8 r1.res r2.res:=rfl
def GEx {X:Type} (r:X → GR) (φ:X → Heap → Prop) (hφ:zh7 φ):GR where
 P H u C:=∃ x, φ x H ∧ (r x).P H u C
 st:=fun ⟨x, h1, h2⟩ hle hs hon hk => ⟨x, hφ _ _ _ h1 hle, (r x).st h2 hle hs hon hk⟩
section
variable {P:Program} {F:Fr} {B:Heap} {O:Boxes} {n:Nat} {ops:Array Oper} {κ:Kap} {d:Nat} {ty:TypeId} {pos:String} {aft:Array Edge} {g:Option (Nat × Bool)} {Q:Exit → Act → World → Prop} {a:Act} {u:World} {os:List Oper}
theorem Has.part {q g1:Nat} {r1 r2:Res} (hne:q ≠ g1) (hg1:∀ v v' H u C, r2.P v H u C → r2.P v' H u C) (hk:κ q = some (.own (zh8 r1 r2))) (h:Has F B O n κ a u):Has F B O n (upd (upd κ q (.own r1)) g1 (.own r2)) a u:=by
 obtain ⟨H, fp, hh⟩:=h
 obtain ⟨⟨C1, C2, h1, h2, h3, h4⟩, hM⟩:=hh.slot q _ hk
 have e2:=hh.putR (d:=q) (r:=r1) (C:=C1) (a':=a) rfl rfl (fun _ _ => rfl) h1 (fun k hk' => hM k ((h3 k).2 (.inl hk'))) (fun t r' hne' hk' k hf hc => hh.owns t q _ _ hne' hk' hk k hf ((h3 k).2 (.inl hc)))
 have e3:=e2.putR (d:=g1) (r:=r2) (C:=C2) (a':=a) rfl rfl (fun _ _ => rfl) (hg1 _ _ _ _ _ h2) (fun k hk' => hM k ((h3 k).2 (.inr hk'))) (fun t r' hne' hk' k hf hc => by
  by_cases e:t = q
  ·subst e; rw [zhu] at hf; exact h4 k hf hc
  ·rw [zfa _ _ e] at hf
   rw [zab _ _ e] at hk'
   exact hh.owns t q _ _ e hk' hk k hf ((h3 k).2 (.inr hc)))
 exact ⟨H, _, e3⟩
theorem Has.join2 {q g1:Nat} {r1 r2:Res} (hne:q ≠ g1) (hg1:∀ v v' H u C, r2.P v H u C → r2.P v' H u C) (hk:κ q = some (.own r1)) (hk1:κ g1 = some (.own r2)) (h:Has F B O n κ a u):Has F B O n (upd (upd κ g1 zed) q (.own (zh8 r1 r2))) a u:=by
 obtain ⟨H, fp, hh⟩:=h
 obtain ⟨h1, hM⟩:=hh.slot q _ hk
 obtain ⟨h2, hM1⟩:=hh.slot g1 _ hk1
 have e1:=hh.drop1 g1
 have hkq:upd κ g1 zed q = some (.own r1):=by rw [zab _ _ hne]; exact hk
 have e2:=e1.putR (d:=q) (r:=zh8 r1 r2) (C:=fun k => fp q k ∨ fp g1 k) (a':=a) rfl rfl (fun _ _ => rfl) ⟨fp q, fp g1, h1, hg1 _ _ _ _ _ h2, fun _ => Iff.rfl, hh.owns q g1 _ _ hne hk hk1⟩
  (fun k hk' => hk'.elim (hM k) (hM1 k)) (fun t r' hne' hk' k hf hc => by
   by_cases e:t = g1
   ·subst e; rw [zah] at hk'; cases hk'
   ·rw [zab _ _ e] at hk'
    rcases hc with hc | hc
    ·exact hh.owns t q _ _ hne' hk' hk k hf hc
    ·exact hh.owns t g1 _ _ e hk' hk1 k hf hc)
 exact ⟨H, _, e2⟩
theorem zc7 (q g1:Nat) {r1 r2:Res} {c:Code} (hk:κ q = some (.own (zh8 r1 r2))) (hg1:∀ v v' H u C, r2.P v H u C → r2.P v' H u C) (h:V P F B n O (upd (upd κ q (.own r1)) g1 (.own r2)) c Q) (hne:q ≠ g1:=by decide):V P F B n O κ c Q:=fun a u hh => h a u (hh.part hne hg1 hk)
theorem zbw (q g1:Nat) {r1 r2:Res} {c:Code} (hk:κ q = some (.own r1)) (hk1:κ g1 = some (.own r2)) (hg1:∀ v v' H u C, r2.P v H u C → r2.P v' H u C) (h:V P F B n O (upd (upd κ g1 zed) q (.own (zh8 r1 r2))) c Q) (hne:q ≠ g1:=by decide):V P F B n O κ c Q:=fun a u hh => h a u (hh.join2 hne hg1 hk hk1)
theorem zej (q g1:Nat) {r1 r2:Res} (hk:κ q = some (.own r1)) (hk1:κ g1 = some (.own r2)) (hg1:∀ v v' H u C, r2.P v H u C → r2.P v' H u C) (h:N F B n O (upd (upd κ g1 zed) q (.own (zh8 r1 r2))) Q) (hne:q ≠ g1:=by decide):N F B n O κ Q:=fun a u hh => h a u (hh.join2 hne hg1 hk hk1)
theorem zna (q g1:Nat) {r1 r2:Res} (hk:κ q = some (.own (zh8 r1 r2))) (hg1:∀ v v' H u C, r2.P v H u C → r2.P v' H u C) (h:VO P F B n O ops (upd (upd κ q (.own r1)) g1 (.own r2)) os Q) (hne:q ≠ g1:=by decide):VO P F B n O ops κ os Q:=fun a u hh => h a u (hh.part hne hg1 hk)
theorem zgc (q g1:Nat) {r1 r2:Res} (hk:κ q = some (.own r1)) (hk1:κ g1 = some (.own r2)) (hg1:∀ v v' H u C, r2.P v H u C → r2.P v' H u C) (h:VO P F B n O ops (upd (upd κ g1 zed) q (.own (zh8 r1 r2))) os Q) (hne:q ≠ g1:=by decide):VO P F B n O ops κ os Q:=fun a u hh => h a u (hh.join2 hne hg1 hk hk1)
theorem zag (r:GR):∀ (v v':Value) H u C, r.res.P v H u C → r.res.P v' H u C:=fun _ _ _ _ _ h => h
theorem zcm (b:Nat) (cs:List Value) (ty:TypeId):∀ (v v':Value) H u C, (zaj b cs ty).P v H u C → (zaj b cs ty).P v' H u C:=fun _ _ _ _ _ h => h
theorem zsj (x:Value) (r:Res):∀ (v v':Value) H u C, (AtV x r).P v H u C → (AtV x r).P v' H u C:=fun _ _ _ _ _ h => h
theorem Has.turnO {t:Nat} {r r':Res} (hk:κ t = some (.own r)) (hr:∀ v H u C, B.Le H → r.P v H u C → r'.P v H u C) (h:Has F B O n κ a u):Has F B O n (upd κ t (.own r')) a u:=by
 obtain ⟨H, fp, h⟩:=h
 exact ⟨H, fp, h.turnR hk (hr _ _ _ _ h.base (h.slot t _ hk).1)⟩
theorem z4m (t:Nat) {r:Res} (r':Res) {c:Code} (hk:κ t = some (.own r)) (hr:∀ v H u C, B.Le H → r.P v H u C → r'.P v H u C) (h:V P F B n O (upd κ t (.own r')) c Q):V P F B n O κ c Q:=fun a u hh => h a u (hh.turnO hk hr)
theorem z4s (t:Nat) {r:Res} (r':Res) (hk:κ t = some (.own r)) (hr:∀ v H u C, B.Le H → r.P v H u C → r'.P v H u C) (h:N F B n O (upd κ t (.own r')) Q):N F B n O κ Q:=fun a u hh => h a u (hh.turnO hk hr)
def RetY (P:Program) (f:FuncId) (args:List Value) (w:World) (B:Heap) (C:Nat → Prop) (r:GR) (φ:Value → Heap → Prop):Prop :=
 RetL P f args w B C fun x H u => φ x H ∧ ∃ C', r.P H u C' ∧ ∀ k, C' k → (C k ∨ w.heap.size ≤ k) ∧ k < u.heap.size ∧ H k = none
theorem RetY.mono {f:FuncId} {args:List Value} {w:World} {C:Nat → Prop} {r:GR} {φ ψ:Value → Heap → Prop} (h:RetY P f args w B C r φ) (hi:∀ v H, B.Le H → φ v H → ψ v H):RetY P f args w B C r ψ:=RetL.mono h fun v H u hg hp => ⟨hi v H hg.le hp.1, hp.2⟩
theorem RetX.toY {f:FuncId} {args:List Value} {w:World} {C:Nat → Prop} {r:GR} {v:Value} (h:RetX P f args w B C r v):RetY P f args w B C r (fun x _ => x = v):=RetL.mono h fun _ _ _ _ hp => hp
theorem zk5 (L:Tabs P) (q:Nat) (r':GR) (φ:Value → Heap → Prop) {r:GR} {f:Nat} {args:Array Operand} {at_:Array TypeId} {cap:List Value} {fo:Operand}
  (hn:Nat.blt d n = true) (hg:gK ops κ ⟨some d, .call { callee:=.value fo, args:=args, argTypes:=at_ }, ty, pos, aft, g⟩ = some true)
  (hf:evK κ fo = some (.func (.func f) #[] cap.toArray)) (hfn:L.fn f = some ()) (hq:κ q = some (.own r.res)) (hm:Kn.mono (.sat φ))
  (h:∀ u H C, H.Le (hp u) → B.Le H → r.P H u C → (∀ k, C k → k < u.heap.size ∧ H k = none) → Args κ H args.toList [] (fun vs => RetY P f (vs ++ cap) u H C r' φ)) :
  zdg P F B n ops O κ ⟨some d, .call { callee:=.value fo, args:=args, argTypes:=at_ }, ty, pos, aft, g⟩ q (.own r'.res) d (.sat φ):=by
 rintro κ' a u hlk hks ⟨H, fp, hh⟩
 unfold After
 rw [if_pos (zae hh hlk hg)]
 have hk':κ' q = some (.own r.res):=hks.trans hq
 obtain ⟨hown, hM⟩:=hh.slot q _ hk'
 have e2:=hh.env hlk
 have hfe:a.eval fo = .func (.func f) #[] cap.toArray:=e2.is_ fo _ (by simp [Op.operands, Call.operands]) hf
 have hc:=Args.use e2 args.toList [] (fun x hx => by simp [Op.operands, Call.operands] at hx ⊢; exact .inr hx) (h u H (fp q) hh.sub hh.base hown fun k hk => ⟨(hM k hk).1, (hM k hk).2.1⟩)
 simp only [List.reverse_nil, List.nil_append] at hc
 rw [zdp L rfl hfe hfn]
 simp only [Upon]
 refine Calls.mono hc fun e' u' hp => ?_
 obtain ⟨x, rfl, H', g', hx, C', hv, hC'⟩:=hp
 have h2:=hh.usePut (d:=q) (a':=a) (r':=r'.res) hk' g' rfl rfl (fun _ _ => rfl) hv hC'
 rw [zbr] at h2
 exact ⟨x, rfl, H', _, h2.put (k:=.sat φ) (zn hn) hm hx⟩
theorem zm5 (L:Tabs P) {fn:Func} {B0:Heap} (gs:Nat) {r r':GR} {rs:List ResultVar} {φ:Value → Heap → Prop} (hrs:fn.results = rs.toArray)
  (hQ:∀ a u, bodyPostM Fence.wide 0 P fn (zff F.w0 B0 F.L fun x H u => φ x H ∧ ∃ C', r'.P H u C' ∧ ∀ k, C' k → (F.L k ∨ F.w0.heap.size ≤ k) ∧ k < u.heap.size ∧ H k = none) .ret a u → Q .ret a u) (hs:Since F B0 B) (hk:κ gs = some (.own r.res)) (e:r = r')
  (h:∀ H, B.Le H → zov L F B O κ H rs [] (fun vs => φ (tup vs) H)) (hd:F.ds = []:=by rfl):V P F B n O κ .ret Q:=fun a u hh => by
 obtain ⟨H, fp, hH⟩:=hh
 refine wpIn_ret (hQ a u ?_)
 have h0:=hH.defers
 rw [hd] at h0
 show LeavesInM _ _ _ _ _ _ a.defers _ _
 rw [h0]
 subst e
 obtain ⟨vs, h1, h2⟩:=zbn L hH hrs (h H hH.base)
 obtain ⟨C', h3, h4⟩:=HasH.ghost hk hH
 exact ⟨_, h1, _, rfl, H, ⟨hH.keep, hH.sub, hs.le.trans hH.base, fun k hk hl => (hH.fresh k hk hl).trans (hs.fresh k hk hl)⟩, h2, C', h3, h4⟩
end
end Go.V
set_option maxRecDepth 20000
namespace Go.V
open Go.RowKit
section
variable {P:Program} {F:Fr} {B:Heap} {O:Boxes} {n:Nat} {ops:Array Oper} {κ:Kap} {d:Nat} {ty:TypeId} {pos:String} {aft:Array Edge} {g:Option (Nat × Bool)} {a:Act} {u:World} {H:Heap} {fp:Nat → Nat → Prop} {os:List Oper} {Q:Exit → Act → World → Prop} {ex:Exs}
end
end Go.V
set_option maxRecDepth 20000
namespace Go.V.L4
open Go.Proofs Go.RowKit Go.V
theorem _root_.Go.V.Zbh {A B:Prop} (h:B) (t:Wr B → A:=by intro h; refine z7 (zo L rfl rfl rfl rfl) rfl ?_;exact h.h):A:=t ⟨h⟩
theorem _root_.Go.V.ZbQ {A B:Prop} (h:B) (t:Wr B → A:=by intro h; refine zd (zo L rfl rfl rfl rfl) rfl ?_;exact h.h):A:=t ⟨h⟩
theorem _root_.Go.V.Zek {A B:Prop} (h:B) (t:Wr B → A:=by intro h; refine zd (qr L _ rfl rfl rfl rfl rfl rfl rfl (by first | omega | decide) (by assumption)) rfl ?_;exact h.h):A:=t ⟨h⟩
theorem _root_.Go.V.Zgm {A B:Prop} (h:B) (t:Wr B → A:=by intro h; refine z7 (qq rfl rfl rfl) rfl ?_;exact h.h):A:=t ⟨h⟩
theorem _root_.Go.V.ZR {A B:Prop} (h:B) (t:Wr B → A:=by intro h; refine z7 (ye rfl rfl rfl rfl (decide_eq_false (by omega))) rfl ?_;exact h.h):A:=t ⟨h⟩
theorem _root_.Go.V.Zgn {A B:Prop} (h:B) (t:Wr B → A:=by intro h; refine qy (ql L (q:=900) rfl rfl rfl rfl rfl rfl) ?_;exact h.h):A:=t ⟨h⟩
theorem _root_.Go.V.Zgo {A B:Prop} (h:B) (t:Wr B → A:=by intro h; refine zd (qq rfl rfl rfl) rfl ?_;exact h.h):A:=t ⟨h⟩
theorem _root_.Go.V.Zak {A B:Prop} (h:B) (t:Wr B → A:=by intro h; refine z7 (yg rfl rfl rfl rfl (by assumption)) rfl ?_;exact h.h):A:=t ⟨h⟩
theorem _root_.Go.V.ZJ {A B:Prop} (h:B) (t:Wr B → A:=by intro h; refine z7 (ye rfl rfl rfl rfl (decide_eq_true (by omega))) rfl ?_;exact h.h):A:=t ⟨h⟩
theorem _root_.Go.V.ZeI {A B:Prop} (h:B) (t:Wr B → A:=by intro h; refine yj (ql L (q:=900) rfl rfl rfl rfl rfl rfl) rfl rfl ?_;exact h.h):A:=t ⟨h⟩
theorem _root_.Go.V.Zcj {A B:Prop} (h:B) (t:Wr B → A:=by intro h; refine z7 (zn0 L rfl rfl rfl rfl) rfl ?_;exact h.h):A:=t ⟨h⟩
theorem _root_.Go.V.Zbi {A B:Prop} (h:B) (t:Wr B → A:=by intro h; refine zd (ye rfl rfl rfl rfl (decide_eq_false (by omega))) rfl ?_;exact h.h):A:=t ⟨h⟩
theorem _root_.Go.V.Zbw {A B:Prop} (h:B) (t:Wr B → A:=by intro h; refine zd (ye rfl rfl rfl rfl (decide_eq_true (by omega))) rfl ?_;exact h.h):A:=t ⟨h⟩
theorem _root_.Go.V.ZaO {A B:Prop} (h:B) (t:Wr B → A:=by intro h; refine z8 (id:=14) ?_;exact h.h):A:=t ⟨h⟩
theorem _root_.Go.V.Zbx {A B:Prop} (h:B) (t:Wr B → A:=by intro h; refine z8 (id:=13) ?_;exact h.h):A:=t ⟨h⟩
theorem _root_.Go.V.ZeJ {A B:Prop} (h:B) (t:Wr B → A:=by intro h; refine zd (zn0 L rfl rfl rfl rfl) rfl ?_;exact h.h):A:=t ⟨h⟩
theorem _root_.Go.V.Zck {A B:Prop} (h:B) (t:Wr B → A:=by intro h; refine zd (zqb L rfl rfl rfl rfl rfl) rfl ?_;exact h.h):A:=t ⟨h⟩
theorem _root_.Go.V.Zel {A B:Prop} (h:B) (t:Wr B → A:=by intro h; refine qh (id:=5) [(200012, [900]), (200016, [900])] mixed (by kernel_rfl) ?_;exact h.h):A:=t ⟨h⟩
theorem _root_.Go.V.Zc8 {A B:Prop} (h:B) (t:Wr B → A:=by intro h; refine z8 (id:=16) ?_;exact h.h):A:=t ⟨h⟩
theorem _root_.Go.V.Zcl {A B:Prop} (h:B) (t:Wr B → A:=by intro h; refine z8 (id:=15) ?_;exact h.h):A:=t ⟨h⟩
theorem _root_.Go.V.Ze2 {A B:Prop} (h:B) (t:Wr B → A:=by intro h; refine qh (id:=8) [(200029, [900]), (200033, [900])] mixed (by kernel_rfl) ?_;exact h.h):A:=t ⟨h⟩
theorem _root_.Go.V.Zff {A B:Prop} (h:B) (t:Wr B → A:=by intro h; refine z7 (ztf rfl rfl rfl rfl (zad (by omega) (by omega))) rfl ?_;exact h.h):A:=t ⟨h⟩
theorem _root_.Go.V.ZeK {A B:Prop} (h:B) (t:Wr B → A:=by intro h; refine z7 (z5y rfl rfl rfl rfl (by assumption)) rfl ?_;exact h.h):A:=t ⟨h⟩
theorem _root_.Go.V.Zfg {A B:Prop} (h:B) (t:Wr B → A:=by intro h; refine z7 (z5w rfl rfl rfl rfl (by omega) (by assumption)) rfl ?_;exact h.h):A:=t ⟨h⟩
theorem _root_.Go.V.ZeL {A B:Prop} (h:B) (t:Wr B → A:=by intro h; refine z7 (z74 rfl rfl rfl rfl (by assumption)) rfl ?_;exact h.h):A:=t ⟨h⟩
theorem _root_.Go.V.ZeM {A B:Prop} (h:B) (t:Wr B → A:=by intro h; refine z7 (qz rfl rfl rfl rfl rfl) rfl ?_;exact h.h):A:=t ⟨h⟩
theorem _root_.Go.V.ZK {A B:Prop} (h:B) (t:Wr B → A:=by intro h; refine Zgm ?_;refine Zbh ?_;exact h.h):A:=t ⟨h⟩
theorem _root_.Go.V.Zb7 {A B:Prop} (h:B) (t:Wr B → A:=by intro h; refine Zgo ?_;refine ZbQ ?_;exact h.h):A:=t ⟨h⟩
theorem _root_.Go.V.Z4 {A B:Prop} (h:B) (t:Wr B → A:=by intro h; refine Zy ?_;refine Za ?_;exact h.h):A:=t ⟨h⟩
theorem _root_.Go.V.Zdf {A B:Prop} (h:B) (t:Wr B → A:=by intro h; refine Zi ?_;refine Zb7 ?_;exact h.h):A:=t ⟨h⟩
theorem _root_.Go.V.ZaP {A B:Prop} (h:B) (t:Wr B → A:=by intro h; refine ZK ?_;refine Zgn ?_;exact h.h):A:=t ⟨h⟩
theorem _root_.Go.V.ZaX {A B:Prop} (h:B) (t:Wr B → A:=by intro h; refine ZB ?_;refine Z9 ?_;exact h.h):A:=t ⟨h⟩
theorem _root_.Go.V.Za8 {A B:Prop} (h:B) (t:Wr B → A:=by intro h; refine Zdf ?_;refine ZeI ?_;exact h.h):A:=t ⟨h⟩
theorem _root_.Go.V.ZY {A B:Prop} (h:B) (t:Wr B → A:=by intro h; refine Ze ?_;refine ZQ ?_;exact h.h):A:=t ⟨h⟩
theorem _root_.Go.V.Zaf {A B:Prop} (h:B) (t:Wr B → A:=by intro h; refine Ze ?_;refine Zc ?_;exact h.h):A:=t ⟨h⟩
theorem _root_.Go.V.Zem {A B:Prop} (h:B) (t:Wr B → A:=by intro h; refine Zg ?_;refine Z4 ?_;exact h.h):A:=t ⟨h⟩
theorem _root_.Go.V.Zb8 {A B:Prop} (h:B) (t:Wr B → A:=by intro h; refine Z3 ?_;refine Za ?_;exact h.h):A:=t ⟨h⟩
theorem _root_.Go.V.Zb9 {A B:Prop} (h:B) (t:Wr B → A:=by intro h; refine ZaO ?_;refine Za ?_;exact h.h):A:=t ⟨h⟩
theorem _root_.Go.V.ZbR {A B:Prop} (h:B) (t:Wr B → A:=by intro h; refine Za ?_;refine ZaP ?_;exact h.h):A:=t ⟨h⟩
theorem _root_.Go.V.ZbS {A B:Prop} (h:B) (t:Wr B → A:=by intro h; refine Zc8 ?_;refine Za ?_;exact h.h):A:=t ⟨h⟩
theorem _root_.Go.V.Zcm {A B:Prop} (h:B) (t:Wr B → A:=by intro h; refine Zc ?_;refine ZaP ?_;exact h.h):A:=t ⟨h⟩
theorem _root_.Go.V.Zc9 {A B:Prop} (h:B) (t:Wr B → A:=by intro h; refine Zac ?_;refine Za ?_;exact h.h):A:=t ⟨h⟩
theorem _root_.Go.V.ZcA {A B:Prop} (h:B) (t:Wr B → A:=by intro h; refine Zh ?_;refine Zb8 ?_;exact h.h):A:=t ⟨h⟩
theorem _root_.Go.V.Zdg {A B:Prop} (h:B) (t:Wr B → A:=by intro h; refine Za8 ?_;refine ZeJ ?_;exact h.h):A:=t ⟨h⟩
theorem _root_.Go.V.Zdx {A B:Prop} (h:B) (t:Wr B → A:=by intro h; refine Zac ?_;refine Zem ?_;exact h.h):A:=t ⟨h⟩
abbrev zd0:TypeId:=256
abbrev zam (b:Nat):Value:=.pointer (some ⟨b, 0, none⟩)
abbrev zje:TypeId:=5
abbrev BsV (bs:List Nat) (fu:Bool):Value → Heap → Prop:=SlV zje 1 (bs.map fun b:Nat => Value.int .u8 (b:Int)) bs.length fu
abbrev rdC (sv:Value) (R:Rd):List Value:=[sv, .int .i64 R.at_, .int .i64 R.bad, .int .i64 R.err]
abbrev GRd (rb:Nat) (sv:Value) (R:Rd):GR:=zai rb (rdC sv R) zd0
theorem zvn {bs:List Nat} {i:Nat} {b:Nat} (h:bs[i]? = some b):((bs.map fun b:Nat => Value.int .u8 (b:Int)).drop (i * 1)).take 1 = [.int .u8 (b:Int)]:=by
 rw [Nat.mul_one, List.drop_eq_getElem_cons (by rw [List.length_map]; exact get_lt h), List.take_succ_cons, List.take_zero, List.getElem_map]
 congr 2
 rw [zgb h]
theorem _root_.Go.V.StepOKR.seeV {P:Program} {F:Fr} {B:Heap} {n d q:Nat} {ops:Array Oper} {O:Boxes} {κ:Kap} {o:Oper} {v:Value} {e:TypeId} {s m:Nat} {xs:List Value} {fu:Bool} (h:StepOKR P F B n ops O κ o q d (.is v)) (hv:SlV e s xs m fu v B):StepOKR P F B n ops O κ o q d (.sat (SlV e s xs m fu)):=fun κ' a u hl hq hh =>
 After.mono (fun a' u' hh' => by
  have h2:=hh'.seen (t:=d) (SlV e s xs m fu) (zah _ _ _) SlV.mono hv
  rwa [zbr] at h2) (h κ' a u hl hq hh)
attribute [local irreducible] V N X VO Par StepOK Has Ret RetL RetO RetT zbd RetX RetY Src
theorem zgo {rb:Nat} {sv:Value} {R:Rd} {a:Nat} {e:Int} {w:World} {B:Heap} {C:Nat → Prop} (hB:B.Le (hp w)) (hr:(GRd rb sv R).P B w C) (hC:∀ k, C k → k < w.heap.size ∧ B k = none) :
  zbd Tryz.prog 210 [zam rb, .int .i64 a, .int .i64 e] w B C (GRd rb sv (R.fail a e)):=by
 unfold zbd
 refine zaf 900 (GRd rb sv R) Tryz.func210 rfl Tryz.ntmps210 (Nat.le_of_ble_eq_true rfl) hB hr hC ?_
 rw [zac]
 obtain ⟨at_, bad, err⟩:=R
 by_cases h0:err = 0
 ·subst h0
  refine ZC ?_;refine ZbR ?_;refine z7 (ye rfl rfl rfl rfl rfl) rfl ?_;refine Z9 ?_;refine Zx ?_;refine Zc ?_;refine Zc ?_;refine ZK ?_;refine ym (yf L (q:=900) (cs':=[sv, .int .i64 at_, .int .i64 a, .int .i64 0]) rfl rfl rfl rfl rfl rfl rfl rfl rfl) ?_;refine ZK ?_;refine ym (yf L (q:=900) (cs':=[sv, .int .i64 at_, .int .i64 a, .int .i64 e]) rfl rfl rfl rfl rfl rfl rfl rfl rfl) ?_;refine zk ?_
  exact za9 L 900 (r:=zai rb _ zd0) rfl (fun _ _ h => h) Since.refl rfl rfl
 ·have hf:(⟨at_, bad, err⟩:Rd).fail a e = ⟨at_, bad, err⟩:=if_neg h0
  refine ZC ?_;refine ZbR ?_;refine ZR ?_;refine Zbc ?_
  exact za9 L 900 (r:=zai rb _ zd0) rfl (fun _ _ h => h) Since.refl rfl (by rw [hf])
theorem zar {rb:Nat} {sv:Value} {R:Rd} {f:Bool} (hf:decide (R.err ≠ 0) = f) {w:World} {B:Heap} {C:Nat → Prop} (hB:B.Le (hp w)) (hr:(GRd rb sv R).P B w C) (hC:∀ k, C k → k < w.heap.size ∧ B k = none) :
  RetX Tryz.prog 209 [zam rb] w B C (GRd rb sv R) (.bool f):=by
 subst hf
 unfold RetX
 refine zaf 900 (GRd rb sv R) Tryz.func209 rfl Tryz.ntmps209 (Nat.le_of_ble_eq_true rfl) hB hr hC ?_
 rw [zac]
 obtain ⟨at_, bad, err⟩:=R
 refine Zc9 ?_;refine z7 (zc2 rfl rfl rfl rfl z0r rfl) rfl ?_;refine Zcm ?_;refine ZeM ?_;refine Ze ?_;refine Zb ?_
 exact zaq L 900 (r:=zai rb _ zd0) (rs:=[.tmp 2]) rfl (fun _ _ h => h) Since.refl rfl rfl (fun _ => rfl)
theorem zmo {rb:Nat} {bs:List Nat} {fu:Bool} {sv:Value} {R:Rd} (hb:∀ b ∈ bs, b ≤ 255) (hl:bs.length ≤ 1099511627776) (hat:R.at_ ≤ bs.length) {w:World} {B:Heap} {C:Nat → Prop} (hB:B.Le (hp w)) (hs:BsV bs fu sv B) (hr:(GRd rb sv R).P B w C) (hC:∀ k, C k → k < w.heap.size ∧ B k = none) :
  RetX Tryz.prog 142 [zam rb] w B C (GRd rb sv (zfv bs R).2) (.int .u64 ((zfv bs R).1:Nat)):=by
 obtain ⟨p, c, rfl⟩:=zbt hs
 unfold RetX
 refine zaf 900 (GRd rb _ R) Tryz.func142 rfl Tryz.ntmps142 (Nat.le_of_ble_eq_true rfl) hB hr hC ?_
 rw [zac]
 obtain ⟨z, hz⟩:∃ z, zfv bs R = z:=⟨_, rfl⟩
 rw [hz]
 refine Zdx ?_;refine Zcg ?_
 refine zao (fun x:Nat × Nat × Rd => [(0, .is (zam rb)), (3, .is (.int .u64 x.2.1)), (6, .is (.int .i64 x.1)), (900, .own (zaj rb (rdC (.slice p bs.length c) x.2.2) zd0))]) (fun x => x.1 ≤ 10 ∧ x.2.1 < 128 ^ x.1 ∧ x.2.2.at_ ≤ bs.length ∧ zhm bs (10 - x.1) x.1 x.2.1 x.2.2 = z) (fun x => 10 - x.1) (0, 0, R) ⟨Nat.zero_le _, by show (0:Nat) < 128 ^ 0; decide, hat, hz⟩ ⟨rfl, rfl, rfl, rfl, trivial⟩ ?_
 rintro ⟨i, acc, ⟨at_, bad, err⟩⟩ ⟨hi, hacc, ha, hn⟩
 dsimp only [rdC] at hi hacc ha hn ⊢
 by_cases hlt:i < 10
 ·obtain ⟨f, hf⟩:∃ f, 10 - i = f + 1:=⟨9 - i, by omega⟩
  rw [hf] at hn
  unfold zhm at hn
  cases hg:bs[at_]? with
  | none =>
   have hal:at_ = bs.length:=by have:=List.getElem?_eq_none_iff.1 hg; omega
   subst hal
   dsimp only at hn
   rw [hg] at hn
   subst hn
   refine Zc4 ?_;refine Zw ?_;refine Zg ?_;refine Zel ?_;refine Za8 ?_;refine Zdg ?_;refine Zbw ?_;refine Zbg ?_;refine zj ?_;refine ZN ?_;refine Zcm ?_;refine Zcj ?_;refine qe (zau L 900 (GRd rb (.slice p bs.length c) ((⟨bs.length, bad, err⟩:Rd).fail bs.length 17)) (r:=GRd rb (.slice p bs.length c) ⟨bs.length, bad, err⟩) rfl rfl rfl rfl rfl (fun u H C2 hH _ hr2 hC2 => zgo hH hr2 hC2)) ?_;refine Zj ?_;refine Z8 ?_;refine Zb ?_
   exact zaq L 900 (r:=zai rb _ zd0) (rs:=[.tmp 2]) rfl (fun _ _ h => h) Since.refl rfl rfl (fun _ => rfl)
  | some b =>
   have hb255:b ≤ 255:=hb b (List.mem_of_getElem? hg)
   have hcr:=zvn hg
   have hlt2:=get_lt hg
   dsimp only at hn
   rw [hg] at hn
   dsimp only at hn
   by_cases hbad:i = 9 ∧ b ≠ 1 ∨ 0 < i ∧ b = 0
   ·rw [if_pos hbad] at hn
    subst hn
    by_cases h9:i = 9 ∧ b ≠ 1
    ·obtain ⟨h9, h91⟩:=h9
     refine Zc4 ?_;refine Zw ?_;refine Zg ?_;refine Zel ?_;refine Za8 ?_;refine Zdg ?_;refine Zbi ?_;refine Zci ?_;refine Ze2 ?_;refine Zdf ?_;refine yj (StepOKR.seeV (ql L (q:=900) rfl rfl rfl rfl rfl rfl) hs) rfl rfl ?_;refine Za8 ?_;refine Zek ?_;refine Zck ?_;refine Zl ?_;refine ZcA ?_;refine ZJ ?_;refine Zc ?_;refine Zbe ?_;refine Ze ?_;refine Zey ?_;refine ZaM ?_;refine ZX ?_;refine Zcm ?_;refine qe (zau L 900 (GRd rb (.slice p bs.length c) ((⟨at_, bad, err⟩:Rd).fail at_ 5)) (r:=GRd rb (.slice p bs.length c) ⟨at_, bad, err⟩) rfl rfl rfl rfl rfl (fun u H C2 hH _ hr2 hC2 => zgo hH hr2 hC2)) ?_;refine Zj ?_;refine ZM ?_;refine Zb ?_
     exact zaq L 900 (r:=zai rb _ zd0) (rs:=[.tmp 2]) rfl (fun _ _ h => h) Since.refl rfl rfl (fun _ => rfl)
    ·have h10:0 < i ∧ b = 0:=by omega
     obtain ⟨h10, h0b⟩:=h10
     by_cases h9:i = 9
     ·exfalso; omega
     ·refine Zc4 ?_;refine Zw ?_;refine Zg ?_;refine Zel ?_;refine Za8 ?_;refine Zdg ?_;refine Zbi ?_;refine Zci ?_;refine Ze2 ?_;refine Zdf ?_;refine yj (StepOKR.seeV (ql L (q:=900) rfl rfl rfl rfl rfl rfl) hs) rfl rfl ?_;refine Za8 ?_;refine Zek ?_;refine Zck ?_;refine Zl ?_;refine ZcA ?_;refine ZR ?_;refine ZaJ ?_;refine Zaf ?_;refine Z2 ?_;refine Zc ?_;refine ZJ ?_;refine Ze ?_;refine ZaM ?_;refine ZX ?_;refine Zcm ?_;refine qe (zau L 900 (GRd rb (.slice p bs.length c) ((⟨at_, bad, err⟩:Rd).fail at_ 5)) (r:=GRd rb (.slice p bs.length c) ⟨at_, bad, err⟩) rfl rfl rfl rfl rfl (fun u H C2 hH _ hr2 hC2 => zgo hH hr2 hC2)) ?_;refine Zj ?_;refine ZM ?_;refine Zb ?_
      exact zaq L 900 (r:=zai rb _ zd0) (rs:=[.tmp 2]) rfl (fun _ _ h => h) Since.refl rfl rfl (fun _ => rfl)
   ·rw [if_neg hbad] at hn
    have hw1:IntKind.i64.wrap ((at_:Int) + 1) = ((at_ + 1:Nat):Int):=zad (by omega) (by omega)
    have hand:=z4l hb255
    have hcv:IntKind.u64.wrap ((b % 128:Nat):Int) = ((b % 128:Nat):Int):=zal (by omega) (by omega)
    have hpw:128 ^ i ≤ 128 ^ 9:=Nat.pow_le_pow_right (by decide) (by omega)
    have hnx:acc + b % 128 * 128 ^ i < 2 ^ 64:=by
     by_cases h9:i = 9
     ·have hb1:b = 1:=by omega
      subst h9; subst hb1
      have:(128:Nat) ^ 9 = 9223372036854775808:=by decide
      omega
     ·have h1:=zt9 (b:=b) hacc
      have h2:128 ^ (i + 1) ≤ 128 ^ 9:=Nat.pow_le_pow_right (by decide) (by omega)
      have:(128:Nat) ^ 9 = 9223372036854775808:=by decide
      omega
    have hsh:IntKind.u64.wrap (((b % 128:Nat):Int) * 2 ^ min (7 * (i:Int)).toNat IntKind.u64.bits) = ((b % 128 * 128 ^ i:Nat):Int):=by
     have e1:min (7 * (i:Int)).toNat IntKind.u64.bits = 7 * i:=by
      show min (7 * (i:Int)).toNat 64 = 7 * i
      omega
     rw [e1, show ((b % 128:Nat):Int) * 2 ^ (7 * i) = ((b % 128 * 128 ^ i:Nat):Int) by rw [zrw]; push_cast; rfl]
     exact zal (by omega) (by omega)
    have hor:bits .or .u64 (acc:Int) ((b % 128 * 128 ^ i:Nat):Int) = ((acc + b % 128 * 128 ^ i:Nat):Int):=by
     rw [bits_or_u64_nat _ _ (by omega) (by omega)]
     congr 1
     have:=z2a (a:=acc) (b:=b % 128) (i:=7 * i) (by rw [← zrw]; exact hacc)
     rwa [← zrw] at this
    have hwk:IntKind.i64.wrap ((i:Int) + 1) = ((i + 1:Nat):Int):=zad (by omega) (by omega)
    have hnl:=zt9 (b:=b) hacc
    generalize b % 128 * 128 ^ i = sh at hn hsh hor hnx hnl
    by_cases hlast:b < 128
    ·rw [if_pos hlast] at hn
     subst hn
     by_cases h9:i = 9
     ·have hb1:b = 1:=by omega
      subst hb1
      refine Zc4 ?_;refine Zw ?_;refine Zg ?_;refine Zel ?_;refine Za8 ?_;refine Zdg ?_;refine Zbi ?_;refine Zci ?_;refine Ze2 ?_;refine Zdf ?_;refine yj (StepOKR.seeV (ql L (q:=900) rfl rfl rfl rfl rfl rfl) hs) rfl rfl ?_;refine Za8 ?_;refine Zek ?_;refine Zck ?_;refine Zl ?_;refine ZcA ?_;refine ZJ ?_;refine Zc ?_;refine Zae ?_;refine Zaf ?_;refine Z2 ?_;refine Zc ?_;refine ZR ?_;refine Ze ?_;refine ZY ?_;refine ZD ?_;refine ZbR ?_;refine Zak ?_;refine ZK ?_;refine ym (yf L (q:=900) (cs':=[.slice p bs.length c, .int .i64 (at_ + 1:Nat), .int .i64 bad, .int .i64 err]) rfl rfl rfl rfl rfl rfl rfl rfl rfl) ?_;refine Zj ?_;refine Zbx ?_;refine Zc ?_;refine ZeK ?_;refine z7 (za0 rfl rfl rfl zdi.1 zdi.2 (zal (by omega) (by omega))) rfl ?_;refine Za ?_;refine Zff ?_;refine Zfg ?_;refine ZeL ?_;refine Zd ?_;refine Zb9 ?_;refine ZaX ?_;refine yo ?_;refine zlu rfl ?_;refine ZeD ?_;refine zm ?_;refine zj ?_;refine ZbS ?_;refine Zb ?_
      exact zaq L 900 (r:=zai rb _ zd0) (rs:=[.tmp 2]) rfl (fun _ _ h => h) Since.refl rfl rfl (fun _ => rfl)
     ·by_cases h0:0 < i
      ·have hb0:b ≠ 0:=by omega
       refine Zc4 ?_;refine Zw ?_;refine Zg ?_;refine Zel ?_;refine Za8 ?_;refine Zdg ?_;refine Zbi ?_;refine Zci ?_;refine Ze2 ?_;refine Zdf ?_;refine yj (StepOKR.seeV (ql L (q:=900) rfl rfl rfl rfl rfl rfl) hs) rfl rfl ?_;refine Za8 ?_;refine Zek ?_;refine Zck ?_;refine Zl ?_;refine ZcA ?_;refine ZR ?_;refine ZaJ ?_;refine Zaf ?_;refine Z2 ?_;refine Zc ?_;refine ZR ?_;refine Ze ?_;refine ZY ?_;refine ZD ?_;refine ZbR ?_;refine Zak ?_;refine ZK ?_;refine ym (yf L (q:=900) (cs':=[.slice p bs.length c, .int .i64 (at_ + 1:Nat), .int .i64 bad, .int .i64 err]) rfl rfl rfl rfl rfl rfl rfl rfl rfl) ?_;refine Zj ?_;refine Zbx ?_;refine Zc ?_;refine ZeK ?_;refine z7 (za0 rfl rfl rfl zdi.1 zdi.2 (zal (by omega) (by omega))) rfl ?_;refine Za ?_;refine Zff ?_;refine Zfg ?_;refine ZeL ?_;refine Zd ?_;refine Zb9 ?_;refine ZaX ?_;refine yo ?_;refine zlu rfl ?_;refine ZeD ?_;refine zm ?_;refine zj ?_;refine ZbS ?_;refine Zb ?_
       exact zaq L 900 (r:=zai rb _ zd0) (rs:=[.tmp 2]) rfl (fun _ _ h => h) Since.refl rfl rfl (fun _ => rfl)
      ·refine Zc4 ?_;refine Zw ?_;refine Zg ?_;refine Zel ?_;refine Za8 ?_;refine Zdg ?_;refine Zbi ?_;refine Zci ?_;refine Ze2 ?_;refine Zdf ?_;refine yj (StepOKR.seeV (ql L (q:=900) rfl rfl rfl rfl rfl rfl) hs) rfl rfl ?_;refine Za8 ?_;refine Zek ?_;refine Zck ?_;refine Zl ?_;refine ZcA ?_;refine ZR ?_;refine ZaJ ?_;refine Zaf ?_;refine ZS ?_;refine ZaJ ?_;refine Ze ?_;refine ZY ?_;refine ZD ?_;refine ZbR ?_;refine Zak ?_;refine ZK ?_;refine ym (yf L (q:=900) (cs':=[.slice p bs.length c, .int .i64 (at_ + 1:Nat), .int .i64 bad, .int .i64 err]) rfl rfl rfl rfl rfl rfl rfl rfl rfl) ?_;refine Zj ?_;refine Zbx ?_;refine Zc ?_;refine ZeK ?_;refine z7 (za0 rfl rfl rfl zdi.1 zdi.2 (zal (by omega) (by omega))) rfl ?_;refine Za ?_;refine Zff ?_;refine Zfg ?_;refine ZeL ?_;refine Zd ?_;refine Zb9 ?_;refine ZaX ?_;refine yo ?_;refine zlu rfl ?_;refine ZeD ?_;refine zm ?_;refine zj ?_;refine ZbS ?_;refine Zb ?_
       exact zaq L 900 (r:=zai rb _ zd0) (rs:=[.tmp 2]) rfl (fun _ _ h => h) Since.refl rfl rfl (fun _ => rfl)
    ·rw [if_neg hlast] at hn
     have h9:i ≠ 9:=by omega
     have hf9:f = 10 - (i + 1):=by omega
     rw [hf9] at hn
     by_cases h0:0 < i
     ·have hb0:b ≠ 0:=by omega
      refine Zc4 ?_;refine Zw ?_;refine Zg ?_;refine Zel ?_;refine Za8 ?_;refine Zdg ?_;refine Zbi ?_;refine Zci ?_;refine Ze2 ?_;refine Zdf ?_;refine yj (StepOKR.seeV (ql L (q:=900) rfl rfl rfl rfl rfl rfl) hs) rfl rfl ?_;refine Za8 ?_;refine Zek ?_;refine Zck ?_;refine Zl ?_;refine ZcA ?_;refine ZR ?_;refine ZaJ ?_;refine Zaf ?_;refine Z2 ?_;refine Zc ?_;refine ZR ?_;refine Ze ?_;refine ZY ?_;refine ZD ?_;refine ZbR ?_;refine Zak ?_;refine ZK ?_;refine ym (yf L (q:=900) (cs':=[.slice p bs.length c, .int .i64 (at_ + 1:Nat), .int .i64 bad, .int .i64 err]) rfl rfl rfl rfl rfl rfl rfl rfl rfl) ?_;refine Zj ?_;refine Zbx ?_;refine Zc ?_;refine ZeK ?_;refine z7 (za0 rfl rfl rfl zdi.1 zdi.2 (zal (by omega) (by omega))) rfl ?_;refine Za ?_;refine Zff ?_;refine Zfg ?_;refine ZeL ?_;refine Zd ?_;refine Zb9 ?_;refine Zo ?_;refine Za3 ?_;refine Zcl ?_;refine Zak ?_;refine ZdO ?_
      exact yl (x:=(i, acc, ⟨at_, bad, err⟩)) (i + 1, acc + sh, ⟨at_ + 1, bad, err⟩) ⟨hlt, hnl, hlt2, hn⟩ (by dsimp only; omega) ⟨rfl, rfl, rfl, rfl, trivial⟩
     ·refine Zc4 ?_;refine Zw ?_;refine Zg ?_;refine Zel ?_;refine Za8 ?_;refine Zdg ?_;refine Zbi ?_;refine Zci ?_;refine Ze2 ?_;refine Zdf ?_;refine yj (StepOKR.seeV (ql L (q:=900) rfl rfl rfl rfl rfl rfl) hs) rfl rfl ?_;refine Za8 ?_;refine Zek ?_;refine Zck ?_;refine Zl ?_;refine ZcA ?_;refine ZR ?_;refine ZaJ ?_;refine Zaf ?_;refine ZS ?_;refine ZaJ ?_;refine Ze ?_;refine ZY ?_;refine ZD ?_;refine ZbR ?_;refine Zak ?_;refine ZK ?_;refine ym (yf L (q:=900) (cs':=[.slice p bs.length c, .int .i64 (at_ + 1:Nat), .int .i64 bad, .int .i64 err]) rfl rfl rfl rfl rfl rfl rfl rfl rfl) ?_;refine Zj ?_;refine Zbx ?_;refine Zc ?_;refine ZeK ?_;refine z7 (za0 rfl rfl rfl zdi.1 zdi.2 (zal (by omega) (by omega))) rfl ?_;refine Za ?_;refine Zff ?_;refine Zfg ?_;refine ZeL ?_;refine Zd ?_;refine Zb9 ?_;refine Zo ?_;refine Za3 ?_;refine Zcl ?_;refine Zak ?_;refine ZdO ?_
      exact yl (x:=(i, acc, ⟨at_, bad, err⟩)) (i + 1, acc + sh, ⟨at_ + 1, bad, err⟩) ⟨hlt, hnl, hlt2, hn⟩ (by dsimp only; omega) ⟨rfl, rfl, rfl, rfl, trivial⟩
 ·have hf:10 - i = 0:=by omega
  rw [hf] at hn
  unfold zhm at hn
  subst hn
  refine Zfz ?_;refine Zao ?_;refine ZbS ?_;refine Zb ?_
  exact zaq L 900 (r:=zai rb _ zd0) (rs:=[.tmp 2]) rfl (fun _ _ h => h) Since.refl rfl rfl (fun _ => rfl)
end Go.V.L4
set_option maxRecDepth 20000
namespace Go.V
open Go.RowKit
section
variable {P:Program} {F:Fr} {B:Heap} {O:Boxes} {n:Nat} {ops:Array Oper} {κ:Kap} {d:Nat} {ty:TypeId} {pos:String} {aft:Array Edge} {g:Option (Nat × Bool)} {Q:Exit → Act → World → Prop} {a:Act} {u:World} {os:List Oper}
theorem zww {f:Nat} (L:Tabs P) {o:Oper} {fst cap:List Value} {fo:Operand} (hop:o.op = .call { callee:=.value fo, args:=#[], argTypes:=#[] }) (hfe:a.eval fo = .func (.func f) fst.toArray cap.toArray) (hfn:L.fn f = some ()) :
  (execOp a.eval o).run P u = .ok (.enter f ((fst ++ cap).toArray)) u:=by
 simp only [execOp, hop, resolve, hfe, Deferred.ofValue, Sem.run_bind, Sem.run_pure, Result.andThen_ok, invoke]
 rw [zdu L hfn]
 simp
theorem zbc (L:Tabs P) (q:Nat) (r':GR) (v:Value) {r:GR} {f:Nat} {fst cap:List Value} {fo:Operand}
  (hn:Nat.blt d n = true) (hg:gK ops κ ⟨some d, .call { callee:=.value fo, args:=#[], argTypes:=#[] }, ty, pos, aft, g⟩ = some true)
  (hf:evK κ fo = some (.func (.func f) fst.toArray cap.toArray)) (hfn:L.fn f = some ()) (hq:κ q = some (.own r.res))
  (h:∀ u H C, H.Le (hp u) → B.Le H → r.P H u C → (∀ k, C k → k < u.heap.size ∧ H k = none) → RetX P f (fst ++ cap) u H C r' v) :
  zdg P F B n ops O κ ⟨some d, .call { callee:=.value fo, args:=#[], argTypes:=#[] }, ty, pos, aft, g⟩ q (.own r'.res) d (.is v):=by
 rintro κ' a u hlk hks ⟨H, fp, hh⟩
 unfold After
 rw [if_pos (zae hh hlk hg)]
 have hk':κ' q = some (.own r.res):=hks.trans hq
 obtain ⟨hown, hM⟩:=hh.slot q _ hk'
 have e2:=hh.env hlk
 have hfe:a.eval fo = .func (.func f) fst.toArray cap.toArray:=e2.is_ fo _ (by simp [Op.operands, Call.operands]) hf
 have hc:=h u H (fp q) hh.sub hh.base hown fun k hk => ⟨(hM k hk).1, (hM k hk).2.1⟩
 rw [zww L rfl hfe hfn]
 simp only [Upon]
 refine Calls.mono hc fun e' u' hp => ?_
 obtain ⟨x, rfl, H', g', hx, C', hv, hC'⟩:=hp
 have h2:=hh.usePut (d:=q) (a':=a) (r':=r'.res) hk' g' rfl rfl (fun _ _ => rfl) hv hC'
 rw [zbr] at h2
 exact ⟨x, rfl, H', _, h2.put (k:=.is v) (zn hn) trivial hx⟩
end
end Go.V
