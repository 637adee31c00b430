/- Texts on the way to WiresText, part 2: one behind another. -/
import Derived.Test.YtefilnnomholbaaGreatWiresTextM1
import Derived.Test.YtefilnnomholbaaGreatProg
import Derived.Shelf.Strings.Builder1
import Derived.Shelf.Small.Bits
import Derived.Shelf.Small.Strs
import Derived.Shelf.Small.Wraps
import Derived.Shelf.Utf8.RuneCount
import Derived.Shelf.Strconv.Itoa0
import Derived.Shelf.Strings.Search1
import Derived.Shelf.Strings.Search2
import Derived.Shelf.Strings.Search3
import Derived.Shelf.Strings.Cut
import Derived.Shelf.Strings.Count
import Derived.Shelf.LaysM
import Derived.Shelf.Strings.Shaped
import Derived.Shelf.Strings.Prefix
import Derived.Shelf.Strings.Split
import Derived.Shelf.Strings.RuneCount
import Derived.Lib.IndexMore
import Derived.Lib.IndexLaws
import Derived.Lib.IndexBytes
import Derived.Shelf.SlSortCmp.NoneTotal
set_option linter.unusedVariables false
set_option linter.unusedSimpArgs false
set_option maxRecDepth 20000
namespace Go.V
open Go.RowKit
def zhn {X:Type} (φ:X → Heap → Prop):Prop:=∀ x H H', φ x H → Heap.Le H H' → φ x H'
def ExR {X:Type} (r:X → Res) (φ:X → Heap → Prop) (hφ:zhn φ):Res where
 P v H u C:=∃ x, φ x H ∧ (r x).P v H u C
 st:=fun ⟨x, h1, h2⟩ hle hs hon hk => ⟨x, hφ _ _ _ h1 hle, (r x).st h2 hle hs hon hk⟩
section
variable {P:Program} {F:Fr} {B:Heap} {O:Boxes} {n:Nat} {ops:Array Oper} {κ:Kap} {a:Act} {u:World} {H:Heap} {fp:Nat → Nat → Prop} {os:List Oper} {Q:Exit → Act → World → Prop}
theorem HasH.turnR {t:Nat} {r r':Res} (h:HasH F B O n κ a u H fp) (hk:κ t = some (.own r)) (hr:r'.P (a.eval (.tmp t)) H u (fp t)):HasH F B O n (upd κ t (.own r')) a u H fp:=by
 refine ⟨h.size, h.defers, h.nodup, h.marks, h.lent, h.keep, h.sub, h.base, h.fresh, h.boxes, h.apart, fun s k hs => ?_, fun s q r1 r2 hsq h1 h2 => ?_, fun s k hs => ?_⟩
 ·by_cases hst:s = t
  ·subst hst; rw [zak] at hs; cases hs; exact ⟨hr, (h.slot s _ hk).2⟩
  ·rw [zad _ _ hst] at hs; exact h.slot s k hs
 ·have key:∀ x r, upd κ t (.own r') x = some (.own r) → ∃ r2, κ x = some (.own r2):=fun x r hx => by
   by_cases hxd:x = t
   ·subst hxd; exact ⟨_, hk⟩
   ·rw [zad _ _ hxd] at hx; exact ⟨_, hx⟩
  obtain ⟨_, k1⟩:=key _ _ h1
  obtain ⟨_, k2⟩:=key _ _ h2
  exact h.owns s q _ _ hsq k1 k2
 ·by_cases hst:s = t
  ·subst hst; rw [zak] at hs; cases hs; trivial
  ·rw [zad _ _ hst] at hs; exact h.mono s k hs
theorem Has.opnX {X:Type} {t:Nat} {r:X → Res} {φ:X → Heap → Prop} {hφ:zhn φ} (hk:κ t = some (.own (ExR r φ hφ))) (h:Has F B O n κ a u):∃ x H, Since F B H ∧ φ x H ∧ Has F H O n (upd κ t (.own (r x))) a u:=by
 obtain ⟨H, fp, h⟩:=h
 obtain ⟨⟨x, h1, h2⟩, _⟩:=h.slot t _ hk
 exact ⟨x, H, h.isSince, h1, H, fp, (h.turnR hk h2).rebase⟩
theorem Has.clsX {X:Type} {t:Nat} {r:X → Res} {φ:X → Heap → Prop} (hφ:zhn φ) (x:X) (hx:φ x B) (hk:κ t = some (.own (r x))) (h:Has F B O n κ a u):Has F B O n (upd κ t (.own (ExR r φ hφ))) a u:=by
 obtain ⟨H, fp, h⟩:=h
 exact ⟨H, fp, h.turnR hk ⟨x, hφ _ _ _ hx h.base, (h.slot t _ hk).1⟩⟩
theorem zin {X:Type} (t:Nat) {r:X → Res} {φ:X → Heap → Prop} {hφ:zhn φ} {c:Code} (hk:κ t = some (.own (ExR r φ hφ))) (h:∀ x H, Since F B H → φ x H → V P F H n O (upd κ t (.own (r x))) c Q):V P F B n O κ c Q:=fun a u hh => by
 obtain ⟨x, H, hs, hx, hh'⟩:=hh.opnX hk
 exact h x H hs hx a u hh'
theorem zmk {X:Type} (t:Nat) {r:X → Res} {φ:X → Heap → Prop} {hφ:zhn φ} (hk:κ t = some (.own (ExR r φ hφ))) (h:∀ x H, Since F B H → φ x H → VO P F H n O ops (upd κ t (.own (r x))) os Q):VO P F B n O ops κ os Q:=fun a u hh => by
 obtain ⟨x, H, hs, hx, hh'⟩:=hh.opnX hk
 exact h x H hs hx a u hh'
theorem zme {X:Type} (t:Nat) {r:X → Res} {φ:X → Heap → Prop} (hφ:zhn φ) (x:X) {c:Code} (hx:φ x B) (hk:κ t = some (.own (r x))) (h:V P F B n O (upd κ t (.own (ExR r φ hφ))) c Q):V P F B n O κ c Q:=fun a u hh => h a u (hh.clsX hφ x hx hk)
theorem zpx {X:Type} (t:Nat) {r:X → Res} {φ:X → Heap → Prop} (hφ:zhn φ) (x:X) (hx:φ x B) (hk:κ t = some (.own (r x))) (h:N F B n O (upd κ t (.own (ExR r φ hφ))) Q):N F B n O κ Q:=fun a u hh => h a u (hh.clsX hφ x hx hk)
end
theorem zdr {α:Type} {f:α → List Value} {s:Nat} (hf:∀ a, (f a).length = s):∀ (l:List α) (i:Nat) (a:α), l[i]? = some a → ((l.flatMap f).drop (i * s)).take s = f a
 | [], _, _, h => by simp at h
 | z :: l, 0, a, h => by simp at h; subst h; rw [Nat.zero_mul, List.drop_zero, List.flatMap_cons, List.take_append_of_le_length (by rw [hf]; exact Nat.le_refl _), List.take_of_length_le (by rw [hf]; exact Nat.le_refl _)]
 | z :: l, i + 1, a, h => by
  simp only [List.getElem?_cons_succ] at h
  rw [← zdr hf l i a h, List.flatMap_cons]
  congr 1
  have e:(i + 1) * s = (f z).length + i * s:=by rw [hf, Nat.succ_mul]; omega
  rw [e, ← List.drop_drop, List.drop_left]
theorem zkx {α:Type} {f:α → List Value} {s:Nat} (hf:∀ a, (f a).length = s) (l:List α):(l.flatMap f).length = l.length * s:=by
 induction l with
 | nil => simp
 | cons a l ih => rw [List.flatMap_cons, List.length_append, ih, hf, List.length_cons, Nat.succ_mul, Nat.add_comm]
theorem zap {α:Type} {l:List α} {i:Nat} (h:i < l.length):∃ a, l[i]? = some a:=⟨l[i], List.getElem?_eq_getElem h⟩
theorem get_lt {α:Type} {l:List α} {i:Nat} {a:α} (h:l[i]? = some a):i < l.length:=by
 rcases Nat.lt_or_ge i l.length with h' | h'
 ·exact h'
 ·rw [List.getElem?_eq_none h'] at h; cases h
theorem zce {e:TypeId} {s n:Nat} {xs:List Value} {fu:Bool} {v:Value} {H:Heap} (h:SlV e s xs n fu v H):∃ p c, v = .slice p n c:=by
 obtain ⟨_, ⟨h0, p, rfl⟩ | ⟨b, off, cap, cs, ty0, fr, rfl, _⟩⟩:=h
 ·exact ⟨p, 0, by rw [h0]⟩
 ·exact ⟨_, _, rfl⟩
theorem zrk {e:TypeId} {s n c:Nat} {xs:List Value} {fu:Bool} {H:Heap} (h:SlV e s xs n fu (.slice none n c) H):n = 0 ∧ c = 0:=by
 obtain ⟨_, ⟨h0, p, e⟩ | ⟨b, off, cap, cs, ty0, fr, e, _⟩⟩:=h
 ·cases e; exact ⟨h0, rfl⟩
 ·cases e
end Go.V
set_option maxRecDepth 20000
namespace Go.V
open Go.RowKit
variable {P:Program} {F:Fr} {B:Heap} {n:Nat} {O:Boxes} {κ:Kap} {Q R:Exit → Act → World → Prop}
def z4z (P:Program) (F:Fr) (_:Heap) (_:Nat) (R:Exit → Act → World → Prop) (y:Code) (Q:Exit → Act → World → Prop):Prop :=
 (∀ a u, R .normal a u → y.wpIn (FW F.r) 0 P Q a u) ∧ ∀ e a u, e ≠ .normal → R e a u → Q e a u
theorem zdm {T:Type} (Fk:T → List (Nat × Kn)) (I:T → Prop) (Ob:T → Boxes) {y:Code} (hy:∀ t, I t → V P F B n (Ob t) (ofL (Fk t)) y Q) :
  z4z P F B n (Exit.then (fun a u => ∃ t, I t ∧ Has F B (Ob t) n (ofL (Fk t)) a u) Q) y Q :=
 ⟨fun a u ⟨t, hI, hh⟩ => hy t hI a u hh, fun e a u he h => by cases e <;> first | exact absurd rfl he | exact h⟩
theorem zbc {T:Type} {B0:Heap} {Fk:T → List (Nat × Kn)} {I:T → Prop} {Ob:T → Boxes} (t:T) (hs:Since F B0 B) (hI:I t) (hO:O = Ob t) (hl:LiveOK (Fk t) κ) :
  N F B n O κ (Exit.then (fun a u => ∃ t, I t ∧ Has F B0 (Ob t) n (ofL (Fk t)) a u) Q):=fun _ _ hh => ⟨t, hI, hO ▸ (hh.live hl).since hs⟩
section
variable {ops:Array Oper} {ty:TypeId} {pos:String} {aft:Array Edge} {g:Option (Nat × Bool)}
theorem zkd (L:Tabs P) {t t':TypeId} {s q:Nat} {ag:Bool} {z:Nat} {cs:List Value} {φ:Value → Heap → Prop} {X:Type} (f:X → List Value) (ψ:X → Heap → Prop) (hψ:zhn ψ)
  (hφ:∀ v H, φ v H → ∃ x, ψ x H ∧ za7 v = f x) (hf:∀ x, (f x).length = z ∧ (f x).all zdj = true)
  (hg:gK ops κ ⟨none, .store t (.tmp s) (.tmp q), ty, pos, aft, g⟩ = some true) (hk:κ s = some (.own (Cell cs t'))) (hx:κ q = some (.sat φ))
  (hl:L.ld t = some (ag, z)) (hcs:cs.length = z) :
  StepOK P F B n ops O κ ⟨none, .store t (.tmp s) (.tmp q), ty, pos, aft, g⟩ s (.own (ExR (fun x => Cell (f x) t') ψ hψ)):=by
 rintro κ' a u hlk ⟨H, fp, hh⟩
 unfold After
 rw [if_pos (zah hh hlk hg)]
 have e:=hh.env hlk
 obtain ⟨x, hx1, hx2⟩:=hφ _ _ (e.sat_ q _ (by simp [Op.operands]) hx)
 have hks:κ' s = some (.own (Cell cs t')):=(hlk s (zdo (by simp [Op.operands]))).trans hk
 obtain ⟨⟨b, hes, hb, hC⟩, hM⟩:=hh.slot s _ hks
 have hrun:(execOp a.eval ⟨none, .store t (.tmp s) (.tmp q), ty, pos, aft, g⟩).run P u = .ok .skip (u.setRow b (f x).toArray):=by
  simp only [execOp, hes, Instr.storeAt, Instr.sureAddr, Sem.run_bind, Sem.run_pure, Result.andThen_ok]
  have:=zcu (P:=P) (off:=0) (v:=a.eval (.tmp q)) (Tabs.ld_spec hl) hb (by rw [hx2]; exact (hf x).1) (by omega) (by rw [hx2]; exact (hf x).2)
  rw [this, hx2, List.drop_of_length_le (by omega)]
  simp
 rw [hrun]
 simp only [Upon, Act.put]
 have hset:=setRow_heap u b cs.toArray (f x).toArray t' (0, 0) hb
 have hbm:=hM b ((hC b).2 rfl)
 have:=hh.usePut (d:=s) (a':=a) (r':=ExR (fun x => Cell (f x) t') ψ hψ) (C:=fun k => k = b) hks (zc5 hh.sub hb ((hC b).2 rfl) hbm.2.1 _) rfl rfl (fun _ _ => rfl) ⟨x, hx1, b, hes, hset, fun _ => Iff.rfl⟩ (fun k hk => by
  subst hk; exact ⟨.inl ((hC k).2 rfl), by rw [setRow_size]; exact hbm.1, hbm.2.1⟩)
 rw [zbv] at this
 exact ⟨H, _, this⟩
end
end Go.V
set_option maxRecDepth 20000
namespace Go.V
open Go.RowKit
def okB (c:UInt8):Bool:=(97 ≤ c && c ≤ 122) || (48 ≤ c && c ≤ 57)
def chk (s:ByteArray):Int:=if 1 ≤ s.size ∧ s.size ≤ 16 ∧ s.data.toList.all okB = true then 0 else 6
theorem zbo (s:ByteArray):chk s = 0 ∨ chk s = 6:=by unfold chk; split <;> simp
theorem zq2 {s:ByteArray} (h:¬ (1 ≤ s.size ∧ s.size ≤ 16)):chk s = 6:=by
 unfold chk; rw [if_neg]; intro h'; exact h ⟨h'.1, h'.2.1⟩
theorem zw6 {s:ByteArray} (h1:1 ≤ s.size) (h2:s.size ≤ 16) (h:s.data.toList.all okB = true):chk s = 0:=by
 unfold chk; rw [if_pos ⟨h1, h2, h⟩]
theorem zl9 {s:ByteArray} {k:Nat} {c:UInt8} (hc:s[k]? = some c) (h:okB c = false):chk s = 6:=by
 unfold chk; rw [if_neg]
 rintro ⟨_, _, hall⟩
 have hm:c ∈ s.data.toList:=by
  have:s.data[k]? = some c:=hc
  exact Array.mem_toList_iff.2 (Array.mem_of_getElem? this)
 rw [List.all_eq_true] at hall
 rw [hall c hm] at h; cases h
theorem getElem?_lt {s:ByteArray} {k:Nat} (h:k < s.size):∃ c, s[k]? = some c:=⟨s[k], by rw [getElem?_pos]⟩
theorem zi0 {s:ByteArray} {k:Nat} {c:UInt8} (hc:s[k]? = some c) (h:okB c = true) (ha:(s.data.toList.take k).all okB = true):(s.data.toList.take (k + 1)).all okB = true:=by
 have hd:s.data.toList[k]? = some c:=by
  have:s.data[k]? = some c:=hc
  simpa using this
 rw [List.take_add_one, hd]
 simp [List.all_append, ha, h]
theorem za9 (s:ByteArray):s.data.toList.length = s.size:=by rw [Array.length_toList]; rfl
theorem zsn {s:ByteArray} {k:Nat} (h:s.size ≤ k) (ha:(s.data.toList.take k).all okB = true):s.data.toList.all okB = true:=by
 rwa [List.take_of_length_le (by rw [za9]; exact h)] at ha
theorem z0v (c:UInt8):(c.toNat:Int) < 256:=by have:=c.toNat_lt; omega
theorem z3w {c:UInt8} (h1:(c.toNat:Int) < 97) (h2:(c.toNat:Int) < 48):okB c = false:=by
 simp [okB, UInt8.le_iff_toNat_le]; omega
theorem z3v {c:UInt8} (h1:(c.toNat:Int) < 97) (h2:57 < (c.toNat:Int)):okB c = false:=by
 simp [okB, UInt8.le_iff_toNat_le]; omega
theorem z3u {c:UInt8} (h1:122 < (c.toNat:Int)):okB c = false:=by
 simp [okB, UInt8.le_iff_toNat_le]; omega
theorem z3t {c:UInt8} (h1:¬ (c.toNat:Int) < 97) (h2:¬ 122 < (c.toNat:Int)):okB c = true:=by
 simp [okB, UInt8.le_iff_toNat_le]; omega
theorem z3s {c:UInt8} (h1:¬ (c.toNat:Int) < 48) (h2:¬ 57 < (c.toNat:Int)):okB c = true:=by
 simp [okB, UInt8.le_iff_toNat_le]; omega
theorem zz8 {vs:List Value} {j:Nat} {v:Value} (h:vs[j]? = some v):(vs.drop (j * 1)).take 1 = [v]:=by
 obtain ⟨hl, he⟩:=List.getElem?_eq_some_iff.1 h
 rw [Nat.mul_one, List.drop_eq_getElem_cons hl, he]
 rfl
theorem z29 {l:List ByteArray} {j:Nat} {s:ByteArray} (h:l[j]? = some s):((l.map Value.string).drop (j * 1)).take 1 = [.string s]:=zz8 (by simp [h])
end Go.V
namespace Go.V
open Go.Proofs
set_option maxRecDepth 100000
theorem mixed:Tryz.prog.follows .mixedOrders = true:=by kernel_rfl
def ldL:List (Nat × (Bool × Nat)):=[(1, (false, 1)), (2, (false, 1)), (3, (false, 1)), (4, (false, 1)), (5, (false, 1)), (6, (false, 1)), (7, (true, 4)), (8, (true, 4)), (9, (false, 1)), (10, (false, 1)), 
  (11, (false, 1)), (12, (false, 1)), (13, (true, 2)), (14, (true, 2)), (15, (false, 1)), (16, (false, 1)), (17, (false, 1)), (18, (true, 1)), (19, (true, 1)), (20, (false, 1)), 
  (21, (false, 1)), (22, (false, 1)), (23, (true, 1)), (24, (true, 1)), (25, (false, 1)), (26, (true, 1)), (27, (true, 1)), (28, (true, 2)), (29, (true, 2)), (30, (true, 3)), 
  (31, (true, 3)), (32, (true, 3)), (33, (true, 6)), (34, (true, 6)), (35, (false, 1)), (36, (false, 1)), (37, (false, 1)), (38, (false, 1)), (39, (false, 1)), (40, (false, 1)), 
  (41, (true, 7)), (42, (true, 7)), (43, (false, 1)), (45, (false, 1)), (46, (false, 1)), (48, (false, 1)), (49, (false, 1)), (51, (false, 1)), (53, (false, 1)), (54, (false, 1)), 
  (55, (false, 1)), (56, (false, 1)), (58, (false, 1)), (59, (false, 1)), (60, (false, 1)), (61, (false, 1)), (62, (false, 1)), (63, (false, 1)), (64, (true, 2)), (65, (true, 5)), 
  (66, (true, 5)), (67, (false, 1)), (68, (false, 1)), (69, (false, 1)), (70, (false, 1)), (71, (false, 1)), (73, (false, 1)), (74, (false, 1)), (76, (false, 1)), (78, (false, 1)), 
  (79, (false, 1)), (80, (false, 1)), (81, (true, 2)), (82, (true, 2)), (83, (false, 1)), (84, (false, 1)), (85, (false, 1)), (86, (true, 2)), (87, (true, 2)), (88, (true, 2)), 
  (89, (true, 2)), (90, (true, 4)), (91, (true, 4)), (93, (false, 1)), (94, (false, 1)), (96, (false, 1)), (97, (false, 1)), (98, (false, 1)), (99, (false, 1)), (101, (false, 1)), 
  (102, (false, 1)), (104, (false, 1)), (105, (false, 1)), (107, (false, 1)), (108, (false, 1)), (109, (false, 1)), (110, (false, 1)), (111, (true, 2)), (112, (true, 2)), 
  (113, (false, 1)), (114, (false, 1)), (115, (false, 1)), (116, (false, 1)), (117, (false, 1)), (118, (true, 1)), (119, (true, 1)), (120, (false, 1)), (121, (false, 1)), 
  (122, (false, 1)), (123, (false, 1)), (124, (true, 2)), (125, (true, 2)), (126, (true, 3)), (127, (true, 3)), (128, (false, 1)), (129, (false, 1)), (131, (false, 1)), 
  (132, (false, 1)), (133, (false, 1)), (134, (false, 1)), (135, (true, 3)), (136, (false, 1)), (137, (false, 1)), (138, (false, 1)), (139, (false, 1)), (140, (false, 1)), 
  (141, (false, 1)), (142, (false, 1)), (143, (false, 1)), (144, (false, 1)), (145, (false, 1)), (146, (false, 1)), (148, (false, 1)), (149, (false, 1)), (150, (false, 1)), 
  (152, (false, 1)), (153, (false, 1)), (154, (false, 1)), (155, (false, 1)), (156, (true, 2)), (157, (true, 2)), (158, (false, 1)), (159, (false, 1)), (160, (false, 1)), 
  (161, (false, 1)), (163, (false, 1)), (164, (false, 1)), (165, (true, 4)), (166, (true, 4)), (168, (false, 1)), (169, (false, 1)), (170, (true, 3)), (171, (true, 3)), 
  (172, (false, 1)), (174, (false, 1)), (176, (false, 1)), (177, (false, 1)), (178, (true, 1)), (179, (true, 1)), (180, (false, 1)), (181, (false, 1)), (182, (false, 1)), 
  (183, (false, 1)), (184, (false, 1)), (185, (false, 1)), (186, (false, 1)), (188, (false, 1)), (189, (false, 1)), (190, (false, 1)), (191, (false, 1)), (192, (false, 1)), 
  (193, (false, 1)), (194, (false, 1)), (195, (true, 0)), (197, (false, 1)), (198, (false, 1)), (200, (false, 1)), (201, (false, 1)), (202, (false, 1)), (203, (false, 1)), 
  (204, (true, 4)), (205, (true, 4)), (207, (false, 1)), (208, (false, 1)), (209, (false, 1)), (210, (false, 1)), (211, (false, 1)), (212, (false, 1)), (213, (false, 1)), 
  (214, (false, 1)), (215, (false, 1)), (216, (true, 1)), (217, (true, 1)), (218, (true, 5)), (219, (true, 5)), (220, (true, 2)), (221, (true, 2)), (222, (false, 1)), 
  (223, (false, 1)), (225, (false, 1)), (226, (false, 1)), (227, (true, 2)), (228, (true, 2)), (229, (false, 1)), (230, (false, 1)), (232, (false, 1)), (233, (false, 1)), 
  (234, (false, 1)), (235, (false, 1)), (236, (false, 1)), (237, (false, 1)), (238, (false, 1)), (239, (false, 1)), (240, (false, 1)), (242, (false, 1)), (244, (false, 1)), 
  (245, (false, 1)), (247, (false, 1)), (249, (false, 1)), (251, (true, 2)), (252, (true, 2)), (254, (false, 1)), (255, (true, 4)), (256, (true, 4)), (257, (false, 1)), 
  (258, (false, 1)), (259, (false, 1)), (261, (false, 1)), (262, (false, 1)), (263, (true, 2)), (264, (true, 2)), (265, (false, 1)), (266, (false, 1)), (267, (false, 1)), 
  (269, (false, 1)), (270, (false, 1)), (271, (false, 1)), (272, (false, 1)), (273, (false, 1)), (274, (false, 1)), (276, (false, 1)), (277, (false, 1)), (278, (false, 1)), 
  (279, (false, 1)), (280, (false, 1)), (281, (false, 1)), (282, (false, 1)), (283, (false, 1)), (284, (false, 1)), (285, (false, 1)), (286, (false, 1)), (287, (false, 1)), 
  (288, (false, 1)), (289, (false, 1)), (290, (false, 1)), (291, (false, 1)), (292, (true, 6)), (293, (true, 6)), (294, (false, 1)), (295, (false, 1)), (296, (false, 1)), 
  (298, (false, 1)), (299, (false, 1)), (300, (false, 1)), (301, (false, 1)), (302, (false, 1)), (303, (false, 1)), (304, (false, 1)), (305, (false, 1)), (307, (false, 1)), 
  (309, (false, 1)), (311, (false, 1)), (313, (false, 1)), (314, (false, 1)), (315, (false, 1)), (316, (false, 1)), (317, (false, 1)), (318, (false, 1)), (319, (false, 1)), 
  (320, (false, 1)), (321, (false, 1)), (322, (false, 1)), (323, (false, 1)), (325, (false, 1)), (326, (false, 1)), (327, (false, 1)), (328, (false, 1)), (329, (false, 1)), 
  (330, (false, 1)), (331, (false, 1)), (332, (false, 1)), (333, (false, 1)), (334, (false, 1)), (335, (false, 1)), (336, (false, 1)), (338, (false, 1)), (339, (false, 1)), 
  (340, (false, 1)), (341, (false, 1)), (342, (false, 1)), (343, (false, 1)), (344, (false, 1)), (345, (false, 1)), (346, (false, 1)), (347, (false, 1)), (348, (false, 1)), 
  (349, (false, 1)), (350, (false, 1)), (351, (true, 10)), (352, (true, 10)), (353, (false, 1)), (354, (false, 1)), (355, (false, 1)), (356, (false, 1)), (357, (false, 1)), 
  (359, (false, 1)), (360, (false, 1)), (361, (true, 7)), (362, (true, 7)), (364, (false, 1)), (365, (false, 1)), (367, (false, 1)), (368, (false, 1)), (369, (false, 1)), 
  (370, (false, 1)), (371, (false, 1)), (372, (false, 1)), (373, (false, 1)), (374, (false, 1)), (375, (false, 1)), (376, (false, 1)), (377, (false, 1)), (378, (false, 1)), 
  (379, (false, 1)), (381, (false, 1)), (382, (false, 1)), (383, (false, 1)), (384, (false, 1)), (385, (false, 1)), (386, (false, 1)), (387, (false, 1)), (388, (false, 1)), 
  (389, (false, 1)), (390, (false, 1)), (391, (false, 1)), (392, (false, 1)), (393, (false, 1)), (395, (false, 1)), (396, (false, 1)), (397, (false, 1)), (398, (false, 1)), 
  (399, (false, 1)), (400, (false, 1)), (401, (false, 1)), (402, (false, 1)), (403, (false, 1)), (404, (false, 1)), (405, (false, 1)), (406, (false, 1)), (407, (false, 1)), 
  (408, (false, 1)), (409, (false, 1)), (411, (false, 1)), (412, (false, 1)), (413, (false, 1)), (414, (true, 4)), (415, (true, 4)), (416, (true, 0)), (417, (true, 0)), 
  (418, (true, 0)), (419, (false, 1)), (420, (false, 1)), (421, (false, 1)), (422, (false, 1)), (423, (false, 1)), (424, (true, 11)), (425, (true, 11))]
def slL:List (Nat × Nat):=[(22, 64), (25, 135), (35, 9), (37, 34), (39, 42), (61, 66), (62, 5), (74, 171), (108, 63), (109, 91), (110, 264), (117, 219), (123, 221), (133, 3), (223, 362), (290, 293)]
def stL:List (Nat × Unit):=[(9, ()), (10, ()), (11, ())]
def foL:List ((Nat × Nat) × Nat):=[((7, 0), 0), ((7, 1), 1), ((7, 2), 2), ((7, 3), 3), ((8, 0), 0), ((8, 1), 1), ((8, 2), 2), ((8, 3), 3), ((13, 0), 0), ((13, 1), 1), ((14, 0), 0), ((14, 1), 1), ((18, 0), 0), 
  ((19, 0), 0), ((23, 0), 0), ((24, 0), 0), ((26, 0), 0), ((27, 0), 0), ((28, 0), 0), ((28, 1), 1), ((29, 0), 0), ((29, 1), 1), ((30, 0), 0), ((30, 1), 2), ((31, 0), 0), ((31, 1), 2), 
  ((32, 0), 0), ((32, 1), 2), ((33, 0), 0), ((33, 1), 3), ((34, 0), 0), ((34, 1), 3), ((41, 0), 0), ((41, 1), 6), ((42, 0), 0), ((42, 1), 6), ((65, 0), 0), ((65, 1), 1), ((65, 2), 2), 
  ((65, 3), 4), ((66, 0), 0), ((66, 1), 1), ((66, 2), 2), ((66, 3), 4), ((81, 0), 0), ((81, 1), 1), ((82, 0), 0), ((82, 1), 1), ((86, 0), 0), ((86, 1), 1), ((87, 0), 0), ((87, 1), 1), 
  ((88, 0), 0), ((89, 0), 0), ((90, 0), 0), ((90, 1), 2), ((91, 0), 0), ((91, 1), 2), ((111, 0), 0), ((111, 1), 1), ((112, 0), 0), ((112, 1), 1), ((118, 0), 0), ((119, 0), 0), 
  ((124, 0), 0), ((124, 1), 1), ((125, 0), 0), ((125, 1), 1), ((126, 0), 0), ((126, 1), 1), ((127, 0), 0), ((127, 1), 1), ((156, 0), 0), ((156, 1), 1), ((157, 0), 0), ((157, 1), 1), 
  ((165, 0), 0), ((165, 1), 1), ((165, 2), 2), ((165, 3), 3), ((166, 0), 0), ((166, 1), 1), ((166, 2), 2), ((166, 3), 3), ((170, 0), 0), ((170, 1), 1), ((170, 2), 2), ((171, 0), 0), 
  ((171, 1), 1), ((171, 2), 2), ((178, 0), 0), ((179, 0), 0), ((204, 0), 0), ((204, 1), 1), ((204, 2), 2), ((205, 0), 0), ((205, 1), 1), ((205, 2), 2), ((216, 0), 0), ((217, 0), 0), 
  ((218, 0), 0), ((218, 1), 1), ((218, 2), 2), ((218, 3), 3), ((218, 4), 4), ((219, 0), 0), ((219, 1), 1), ((219, 2), 2), ((219, 3), 3), ((219, 4), 4), ((220, 0), 0), ((220, 1), 1), 
  ((221, 0), 0), ((221, 1), 1), ((227, 0), 0), ((227, 1), 1), ((228, 0), 0), ((228, 1), 1), ((251, 0), 0), ((251, 1), 1), ((252, 0), 0), ((252, 1), 1), ((255, 0), 0), ((255, 1), 1), 
  ((255, 2), 2), ((255, 3), 3), ((256, 0), 0), ((256, 1), 1), ((256, 2), 2), ((256, 3), 3), ((263, 0), 0), ((263, 1), 1), ((264, 0), 0), ((264, 1), 1), ((292, 0), 0), ((293, 0), 0), 
  ((351, 0), 0), ((351, 1), 6), ((351, 2), 7), ((351, 3), 8), ((351, 4), 9), ((352, 0), 0), ((352, 1), 6), ((352, 2), 7), ((352, 3), 8), ((352, 4), 9), ((361, 0), 0), ((361, 1), 6), 
  ((362, 0), 0), ((362, 1), 6), ((414, 0), 0), ((414, 1), 1), ((414, 2), 2), ((414, 3), 3), ((415, 0), 0), ((415, 1), 1), ((415, 2), 2), ((415, 3), 3), ((424, 0), 0), ((424, 1), 1), 
  ((424, 2), 2), ((424, 3), 3), ((424, 4), 4), ((424, 5), 5), ((424, 6), 6), ((424, 7), 7), ((424, 8), 8), ((424, 9), 9), ((424, 10), 10), ((425, 0), 0), ((425, 1), 1), ((425, 2), 2), 
  ((425, 3), 3), ((425, 4), 4), ((425, 5), 5), ((425, 6), 6), ((425, 7), 7), ((425, 8), 8), ((425, 9), 9), ((425, 10), 10)]
def zrL:List (Nat × Value):=[(1, .nilFunc), (2, .int .i64 0), (3, .int .i64 0), (4, .bool false), (5, .int .u8 0), (6, .int .u8 0), (7, .agg #[.int .i64 0, .int .i64 0, .bool false, .int .u8 0]), 
  (8, .agg #[.int .i64 0, .int .i64 0, .bool false, .int .u8 0]), (9, .string ⟨#[]⟩), (10, .string ⟨#[]⟩), (11, .string ⟨#[]⟩), (12, .int .u64 0), 
  (13, .agg #[.string ⟨#[]⟩, .int .u64 0]), (14, .agg #[.string ⟨#[]⟩, .int .u64 0]), (15, .pointer none), (16, .pointer none), (17, .pointer none), (18, .agg #[.pointer none]), 
  (19, .agg #[.pointer none]), (20, .nilIface), (21, .int .i32 0), (22, .slice none 0 0), (23, .agg #[.slice none 0 0]), (24, .agg #[.slice none 0 0]), (25, .slice none 0 0), 
  (26, .agg #[.slice none 0 0]), (27, .agg #[.slice none 0 0]), (28, .agg #[.string ⟨#[]⟩, .string ⟨#[]⟩]), (29, .agg #[.string ⟨#[]⟩, .string ⟨#[]⟩]), 
  (30, .agg #[.string ⟨#[]⟩, .string ⟨#[]⟩, .string ⟨#[]⟩]), (31, .agg #[.string ⟨#[]⟩, .string ⟨#[]⟩, .string ⟨#[]⟩]), (32, .agg #[.string ⟨#[]⟩, .string ⟨#[]⟩, .string ⟨#[]⟩]), 
  (33, .agg #[.string ⟨#[]⟩, .string ⟨#[]⟩, .string ⟨#[]⟩, .string ⟨#[]⟩, .string ⟨#[]⟩, .string ⟨#[]⟩]), 
  (34, .agg #[.string ⟨#[]⟩, .string ⟨#[]⟩, .string ⟨#[]⟩, .string ⟨#[]⟩, .string ⟨#[]⟩, .string ⟨#[]⟩]), (35, .slice none 0 0), (36, .nilFunc), (37, .slice none 0 0), (38, .nilFunc), 
  (39, .slice none 0 0), (40, .nilFunc), (41, .agg #[.string ⟨#[]⟩, .string ⟨#[]⟩, .string ⟨#[]⟩, .string ⟨#[]⟩, .string ⟨#[]⟩, .string ⟨#[]⟩, .bool false]), 
  (42, .agg #[.string ⟨#[]⟩, .string ⟨#[]⟩, .string ⟨#[]⟩, .string ⟨#[]⟩, .string ⟨#[]⟩, .string ⟨#[]⟩, .bool false]), (43, .int .i64 0), (45, .nilFunc), (46, .nilFunc), 
  (48, .nilFunc), (49, .nilFunc), (51, .nilFunc), (53, .nilFunc), (54, .nilFunc), (55, .nilFunc), (56, .nilFunc), (58, .nilFunc), (59, .nilFunc), (60, .nilFunc), 
  (61, .slice none 0 0), (62, .slice none 0 0), (63, .int .u64 0), (64, .agg #[.int .u8 0, .int .u8 0]), 
  (65, .agg #[.int .u8 0, .int .u64 0, .int .u8 0, .int .u8 0, .slice none 0 0]), (66, .agg #[.int .u8 0, .int .u64 0, .int .u8 0, .int .u8 0, .slice none 0 0]), (67, .nilFunc), 
  (68, .nilFunc), (69, .nilFunc), (70, .nilFunc), (71, .pointer none), (73, .nilFunc), (74, .slice none 0 0), (76, .nilFunc), (78, .nilFunc), (79, .nilFunc), (80, .nilFunc), 
  (81, .agg #[.slice none 0 0, .slice none 0 0]), (82, .agg #[.slice none 0 0, .slice none 0 0]), (83, .int .u16 0), (84, .nilFunc), (85, .pointer none), 
  (86, .agg #[.nilFunc, .pointer none]), (87, .agg #[.nilFunc, .pointer none]), (88, .agg #[.nilFunc, .pointer none]), (89, .agg #[.nilFunc, .pointer none]), 
  (90, .agg #[.nilFunc, .pointer none, .nilFunc, .pointer none]), (91, .agg #[.nilFunc, .pointer none, .nilFunc, .pointer none]), (93, .nilFunc), (94, .nilFunc), (96, .nilFunc), 
  (97, .nilFunc), (98, .nilFunc), (99, .nilFunc), (101, .nilFunc), (102, .nilFunc), (104, .nilFunc), (105, .nilFunc), (107, .nilFunc), (108, .slice none 0 0), (109, .slice none 0 0), 
  (110, .slice none 0 0), (111, .agg #[.slice none 0 0, .int .i64 0]), (112, .agg #[.slice none 0 0, .int .i64 0]), (113, .nilFunc), (114, .nilFunc), (115, .nilFunc), (116, .nilFunc), 
  (117, .slice none 0 0), (118, .agg #[.slice none 0 0]), (119, .agg #[.slice none 0 0]), (120, .pointer none), (121, .nilFunc), (122, .nilFunc), (123, .slice none 0 0), 
  (124, .agg #[.slice none 0 0, .slice none 0 0]), (125, .agg #[.slice none 0 0, .slice none 0 0]), (126, .agg #[.pointer none, .slice none 0 0, .slice none 0 0]), 
  (127, .agg #[.pointer none, .slice none 0 0, .slice none 0 0]), (128, .nilFunc), (129, .nilFunc), (131, .nilFunc), (132, .nilFunc), (133, .slice none 0 0), (134, .nilFunc), 
  (135, .agg #[.int .u8 0, .int .u8 0, .int .u8 0]), (136, .nilFunc), (137, .nilFunc), (138, .nilFunc), (139, .nilFunc), (140, .nilFunc), (141, .nilFunc), (142, .nilFunc), 
  (143, .nilFunc), (144, .nilFunc), (145, .nilFunc), (146, .nilFunc), (148, .nilFunc), (149, .nilFunc), (150, .nilFunc), (152, .nilFunc), (153, .pointer none), (154, .pointer none), 
  (155, .nilFunc), (156, .agg #[.pointer none, .int .i64 0]), (157, .agg #[.pointer none, .int .i64 0]), (158, .nilFunc), (159, .nilFunc), (160, .nilFunc), (161, .nilFunc), 
  (163, .nilFunc), (164, .nilFunc), (165, .agg #[.slice none 0 0, .int .i64 0, .int .i64 0, .int .i64 0]), (166, .agg #[.slice none 0 0, .int .i64 0, .int .i64 0, .int .i64 0]), 
  (168, .nilFunc), (169, .nilFunc), (170, .agg #[.int .u64 0, .int .i64 0, .slice none 0 0]), (171, .agg #[.int .u64 0, .int .i64 0, .slice none 0 0]), (172, .nilFunc), 
  (174, .nilFunc), (176, .nilFunc), (177, .nilFunc), (178, .agg #[.slice none 0 0]), (179, .agg #[.slice none 0 0]), (180, .nilFunc), (181, .nilFunc), (182, .nilFunc), 
  (183, .nilFunc), (184, .nilFunc), (185, .nilFunc), (186, .nilFunc), (188, .nilFunc), (189, .nilFunc), (190, .nilFunc), (191, .nilFunc), (192, .nilFunc), (193, .nilFunc), 
  (194, .nilFunc), (195, .agg #[]), (197, .nilFunc), (198, .nilFunc), (200, .nilFunc), (201, .nilFunc), (202, .nilFunc), (203, .map none), 
  (204, .agg #[.int .u64 0, .map none, .slice none 0 0, .int .i64 0]), (205, .agg #[.int .u64 0, .map none, .slice none 0 0, .int .i64 0]), (207, .nilFunc), (208, .nilFunc), 
  (209, .nilFunc), (210, .nilFunc), (211, .nilFunc), (212, .nilFunc), (213, .nilFunc), (214, .nilFunc), (215, .nilFunc), (216, .agg #[.slice none 0 0]), 
  (217, .agg #[.slice none 0 0]), (218, .agg #[.int .u8 0, .slice none 0 0, .slice none 0 0, .int .u8 0, .int .i64 0]), 
  (219, .agg #[.int .u8 0, .slice none 0 0, .slice none 0 0, .int .u8 0, .int .i64 0]), (220, .agg #[.bool false, .slice none 0 0]), (221, .agg #[.bool false, .slice none 0 0]), 
  (222, .nilFunc), (223, .slice none 0 0), (225, .nilFunc), (226, .pointer none), (227, .agg #[.pointer none, .slice none 0 0]), (228, .agg #[.pointer none, .slice none 0 0]), 
  (229, .nilIface), (230, .nilIface), (232, .nilFunc), (233, .nilFunc), (234, .nilFunc), (235, .nilFunc), (236, .nilFunc), (237, .nilFunc), (238, .nilFunc), (239, .nilFunc), 
  (240, .nilFunc), (242, .nilFunc), (244, .nilFunc), (245, .nilFunc), (247, .nilFunc), (249, .nilFunc), (251, .agg #[.int .i64 0, .int .i64 0]), 
  (252, .agg #[.int .i64 0, .int .i64 0]), (254, .nilFunc), (255, .agg #[.slice none 0 0, .int .i64 0, .int .i64 0, .int .i64 0]), 
  (256, .agg #[.slice none 0 0, .int .i64 0, .int .i64 0, .int .i64 0]), (257, .nilFunc), (258, .nilFunc), (259, .nilFunc), (261, .nilFunc), (262, .nilFunc), 
  (263, .agg #[.int .u64 0, .int .i64 0]), (264, .agg #[.int .u64 0, .int .i64 0]), (265, .nilFunc), (266, .nilFunc), (267, .nilFunc), (269, .nilFunc), (270, .nilFunc), 
  (271, .nilFunc), (272, .nilFunc), (273, .pointer none), (274, .int .u64 0), (276, .nilFunc), (277, .nilFunc), (278, .nilFunc), (279, .nilFunc), (280, .nilFunc), (281, .nilFunc), 
  (282, .nilFunc), (283, .nilFunc), (284, .nilFunc), (285, .nilFunc), (286, .nilFunc), (287, .nilFunc), (288, .nilFunc), (289, .nilFunc), (290, .slice none 0 0), (291, .nilFunc), 
  (292, .agg #[.string ⟨#[]⟩, .string ⟨#[]⟩, .string ⟨#[]⟩, .string ⟨#[]⟩, .string ⟨#[]⟩, .string ⟨#[]⟩]), 
  (293, .agg #[.string ⟨#[]⟩, .string ⟨#[]⟩, .string ⟨#[]⟩, .string ⟨#[]⟩, .string ⟨#[]⟩, .string ⟨#[]⟩]), (294, .nilFunc), (295, .nilFunc), (296, .nilFunc), (298, .nilFunc), 
  (299, .nilFunc), (300, .nilFunc), (301, .nilFunc), (302, .nilFunc), (303, .nilFunc), (304, .nilFunc), (305, .nilFunc), (307, .nilFunc), (309, .nilFunc), (311, .nilFunc), 
  (313, .nilFunc), (314, .nilFunc), (315, .nilFunc), (316, .nilFunc), (317, .nilFunc), (318, .pointer none), (319, .nilFunc), (320, .nilFunc), (321, .nilFunc), (322, .nilFunc), 
  (323, .nilFunc), (325, .nilFunc), (326, .nilFunc), (327, .nilFunc), (328, .nilFunc), (329, .nilFunc), (330, .nilFunc), (331, .nilFunc), (332, .nilFunc), (333, .nilFunc), 
  (334, .nilFunc), (335, .nilFunc), (336, .nilFunc), (338, .nilFunc), (339, .nilFunc), (340, .nilFunc), (341, .nilFunc), (342, .nilFunc), (343, .nilFunc), (344, .nilFunc), 
  (345, .nilFunc), (346, .nilFunc), (347, .nilFunc), (348, .nilFunc), (349, .nilFunc), (350, .nilFunc), 
  (351, .agg #[.string ⟨#[]⟩, .string ⟨#[]⟩, .string ⟨#[]⟩, .string ⟨#[]⟩, .string ⟨#[]⟩, .string ⟨#[]⟩, .pointer none, .pointer none, .int .i64 0, .int .i64 0]), 
  (352, .agg #[.string ⟨#[]⟩, .string ⟨#[]⟩, .string ⟨#[]⟩, .string ⟨#[]⟩, .string ⟨#[]⟩, .string ⟨#[]⟩, .pointer none, .pointer none, .int .i64 0, .int .i64 0]), (353, .nilFunc), 
  (354, .nilFunc), (355, .nilFunc), (356, .nilFunc), (357, .nilFunc), (359, .nilFunc), (360, .nilFunc), 
  (361, .agg #[.string ⟨#[]⟩, .string ⟨#[]⟩, .string ⟨#[]⟩, .string ⟨#[]⟩, .string ⟨#[]⟩, .string ⟨#[]⟩, .bool false]), 
  (362, .agg #[.string ⟨#[]⟩, .string ⟨#[]⟩, .string ⟨#[]⟩, .string ⟨#[]⟩, .string ⟨#[]⟩, .string ⟨#[]⟩, .bool false]), (364, .nilFunc), (365, .nilFunc), (367, .nilFunc), 
  (368, .nilFunc), (369, .nilFunc), (370, .nilFunc), (371, .nilFunc), (372, .nilFunc), (374, .nilFunc), (375, .nilFunc), (376, .nilFunc), (377, .nilFunc), (378, .nilFunc), 
  (379, .int .i64 0), (381, .nilFunc), (382, .nilFunc), (383, .nilFunc), (384, .nilFunc), (385, .nilFunc), (386, .nilFunc), (387, .int .u32 0), (388, .nilFunc), (389, .nilFunc), 
  (390, .nilFunc), (391, .nilFunc), (392, .nilFunc), (393, .nilFunc), (395, .nilFunc), (396, .nilFunc), (397, .nilFunc), (398, .nilFunc), (399, .nilFunc), (400, .nilFunc), 
  (401, .nilFunc), (402, .int .u64 0), (403, .nilFunc), (404, .nilFunc), (405, .pointer none), (406, .nilFunc), (407, .nilFunc), (408, .nilFunc), (409, .nilFunc), (411, .nilFunc), 
  (412, .pointer none), (413, .nilFunc), (414, .agg #[.pointer none, .pointer none, .pointer none, .string ⟨#[]⟩]), 
  (415, .agg #[.pointer none, .pointer none, .pointer none, .string ⟨#[]⟩]), (416, .agg #[]), (417, .agg #[]), (418, .agg #[]), (419, .int .u8 0), (420, .int .u8 0), (421, .nilFunc), 
  (422, .int .i32 0), (423, .int .i32 0), 
  (424, .agg #[.int .u64 0, .int .u64 0, .int .u32 0, .int .u8 0, .int .u8 0, .int .u8 0, .int .u8 0, .nilFunc, .pointer none, .int .i32 0, .int .i32 0]), 
  (425, .agg #[.int .u64 0, .int .u64 0, .int .u32 0, .int .u8 0, .int .u8 0, .int .u8 0, .int .u8 0, .nilFunc, .pointer none, .int .i32 0, .int .i32 0])]
def fnL:List (Nat × Unit):=[(3, ()), (4, ()), (5, ()), (6, ()), (7, ()), (8, ()), (9, ()), (10, ()), (11, ()), (12, ()), (13, ()), (14, ()), (15, ()), (16, ()), (17, ()), (18, ()), (19, ()), (20, ()), 
  (21, ()), (22, ()), (23, ()), (24, ()), (25, ()), (26, ()), (27, ()), (28, ()), (29, ()), (30, ()), (31, ()), (32, ()), (33, ()), (34, ()), (35, ()), (36, ()), (37, ()), (38, ()), 
  (39, ()), (40, ()), (41, ()), (42, ()), (43, ()), (44, ()), (45, ()), (46, ()), (47, ()), (48, ()), (49, ()), (50, ()), (51, ()), (52, ()), (53, ()), (54, ()), (55, ()), (56, ()), 
  (57, ()), (58, ()), (59, ()), (60, ()), (61, ()), (62, ()), (63, ()), (64, ()), (65, ()), (66, ()), (67, ()), (68, ()), (69, ()), (70, ()), (71, ()), (72, ()), (73, ()), (74, ()), 
  (75, ()), (76, ()), (77, ()), (78, ()), (79, ()), (80, ()), (81, ()), (82, ()), (83, ()), (84, ()), (85, ()), (86, ()), (87, ()), (88, ()), (89, ()), (90, ()), (91, ()), (92, ()), 
  (93, ()), (94, ()), (95, ()), (96, ()), (97, ()), (98, ()), (99, ()), (100, ()), (101, ()), (102, ()), (103, ()), (104, ()), (105, ()), (106, ()), (107, ()), (108, ()), (109, ()), 
  (110, ()), (111, ()), (112, ()), (113, ()), (114, ()), (115, ()), (116, ()), (117, ()), (118, ()), (119, ()), (120, ()), (121, ()), (122, ()), (123, ()), (124, ()), (125, ()), 
  (126, ()), (127, ()), (128, ()), (129, ()), (130, ()), (131, ()), (132, ()), (133, ()), (134, ()), (135, ()), (136, ()), (137, ()), (138, ()), (139, ()), (140, ()), (141, ()), 
  (142, ()), (143, ()), (144, ()), (145, ()), (146, ()), (147, ()), (148, ()), (149, ()), (150, ()), (151, ()), (152, ()), (153, ()), (154, ()), (155, ()), (156, ()), (157, ()), 
  (158, ()), (159, ()), (160, ()), (161, ()), (162, ()), (163, ()), (164, ()), (165, ()), (166, ()), (167, ()), (168, ()), (169, ()), (170, ()), (171, ()), (172, ()), (173, ()), 
  (174, ()), (175, ()), (176, ()), (177, ()), (178, ()), (179, ()), (180, ()), (181, ()), (182, ()), (183, ()), (184, ()), (185, ()), (186, ()), (187, ()), (188, ()), (189, ()), 
  (190, ()), (191, ()), (192, ()), (193, ()), (194, ()), (195, ()), (196, ()), (197, ()), (198, ()), (199, ()), (202, ()), (203, ()), (204, ()), (205, ()), (206, ()), (207, ()), 
  (208, ()), (209, ()), (210, ()), (211, ()), (212, ()), (213, ()), (215, ()), (216, ()), (217, ()), (218, ()), (219, ()), (220, ()), (221, ()), (222, ()), (223, ()), (224, ()), 
  (225, ()), (226, ()), (227, ()), (228, ()), (229, ()), (230, ()), (231, ()), (232, ()), (233, ()), (234, ()), (235, ()), (236, ()), (237, ()), (238, ()), (239, ()), (240, ()), 
  (241, ()), (242, ()), (243, ()), (244, ()), (245, ()), (246, ()), (247, ()), (248, ()), (249, ()), (250, ()), (251, ()), (252, ()), (253, ()), (254, ()), (256, ()), (257, ()), 
  (258, ()), (261, ()), (262, ()), (263, ()), (264, ()), (265, ()), (266, ()), (267, ()), (268, ()), (269, ()), (270, ()), (271, ()), (272, ()), (273, ()), (274, ()), (275, ()), 
  (276, ()), (277, ()), (278, ()), (279, ()), (280, ()), (281, ()), (282, ()), (283, ()), (284, ()), (285, ()), (287, ()), (288, ()), (289, ()), (290, ()), (291, ()), (292, ()), 
  (293, ()), (294, ()), (295, ()), (296, ()), (297, ()), (302, ()), (304, ()), (305, ()), (306, ()), (307, ()), (308, ()), (309, ()), (310, ()), (311, ()), (313, ()), (314, ()), 
  (317, ()), (318, ()), (319, ())]
theorem z39:ldL.all (fun p => ldI Tryz.prog p.1 == some p.2) = true:=by kernel_rfl
theorem z3d:slL.all (fun p => slI Tryz.prog p.1 == some p.2) = true:=by kernel_rfl
theorem z3b:stL.all (fun p => stI Tryz.prog p.1 == some p.2) = true:=by kernel_rfl
theorem z4e:foL.all (fun p => foI Tryz.prog p.1 == some p.2) = true:=by kernel_rfl
theorem z23:zrL.map (fun p => zrI Tryz.prog p.1) = zrL.map (fun p => some p.2):=by kernel_rfl
theorem z4f : fnL.all (fun p => match Tryz.prog.funcs[p.1]? with | some fn => fn.body.isSome && fn.name != "runtime.NumGoroutine" | none => false) = true := by kernel_rfl
def L:Tabs Tryz.prog:=⟨ldL, slL, stL, foL, zrL, fnL, z39, z3d, z3b, z4e, z23, z4f⟩
theorem el5:elI Tryz.prog 5 = some (1, 1):=by kernel_rfl
theorem z45:elI Tryz.prog 34 = some (6, 96):=by kernel_rfl
theorem z2y:elI Tryz.prog 42 = some (7, 104):=by kernel_rfl
theorem z5t:elI Tryz.prog 63 = some (1, 8):=by kernel_rfl
theorem z68:elI Tryz.prog 91 = some (4, 32):=by kernel_rfl
theorem z4i:elI Tryz.prog 293 = some (6, 104):=by kernel_rfl
theorem z5k:PL Tryz.prog 29 [(0, 1), (1, 1)] [.string ⟨#[]⟩, .string ⟨#[]⟩]:=⟨by kernel_rfl, .agg #[.string ⟨#[]⟩, .string ⟨#[]⟩], by kernel_rfl, rfl⟩
theorem z62:PL Tryz.prog 31 [(0, 2), (2, 1)] [.string ⟨#[]⟩, .string ⟨#[]⟩, .string ⟨#[]⟩]:=⟨by kernel_rfl, .agg #[.string ⟨#[]⟩, .string ⟨#[]⟩, .string ⟨#[]⟩], by kernel_rfl, rfl⟩
theorem z61:PL Tryz.prog 32 [(0, 2), (2, 1)] [.string ⟨#[]⟩, .string ⟨#[]⟩, .string ⟨#[]⟩]:=⟨by kernel_rfl, .agg #[.string ⟨#[]⟩, .string ⟨#[]⟩, .string ⟨#[]⟩], by kernel_rfl, rfl⟩
theorem z60:PL Tryz.prog 34 [(0, 3), (3, 3)] [.string ⟨#[]⟩, .string ⟨#[]⟩, .string ⟨#[]⟩, .string ⟨#[]⟩, .string ⟨#[]⟩, .string ⟨#[]⟩]:=⟨by kernel_rfl, .agg #[.string ⟨#[]⟩, .string ⟨#[]⟩, .string ⟨#[]⟩, .string ⟨#[]⟩, .string ⟨#[]⟩, .string ⟨#[]⟩], by kernel_rfl, rfl⟩
theorem z6c:PL Tryz.prog 42 [(0, 6), (6, 1)] [.string ⟨#[]⟩, .string ⟨#[]⟩, .string ⟨#[]⟩, .string ⟨#[]⟩, .string ⟨#[]⟩, .string ⟨#[]⟩, .bool false]:=⟨by kernel_rfl, .agg #[.string ⟨#[]⟩, .string ⟨#[]⟩, .string ⟨#[]⟩, .string ⟨#[]⟩, .string ⟨#[]⟩, .string ⟨#[]⟩, .bool false], by kernel_rfl, rfl⟩
theorem z6b:PL Tryz.prog 64 [(0, 1), (1, 1)] [.int .u8 0, .int .u8 0]:=⟨by kernel_rfl, .agg #[.int .u8 0, .int .u8 0], by kernel_rfl, rfl⟩
theorem z6z:PL Tryz.prog 87 [(0, 1), (1, 1)] [.nilFunc, .pointer none]:=⟨by kernel_rfl, .agg #[.nilFunc, .pointer none], by kernel_rfl, rfl⟩
theorem z6y:PL Tryz.prog 89 [(0, 2)] [.nilFunc, .pointer none]:=⟨by kernel_rfl, .agg #[.nilFunc, .pointer none], by kernel_rfl, rfl⟩
theorem z5i:PL Tryz.prog 91 [(0, 2), (2, 2)] [.nilFunc, .pointer none, .nilFunc, .pointer none]:=⟨by kernel_rfl, .agg #[.nilFunc, .pointer none, .nilFunc, .pointer none], by kernel_rfl, rfl⟩
theorem z5o:PL Tryz.prog 157 [(0, 1), (1, 1)] [.pointer none, .int .i64 0]:=⟨by kernel_rfl, .agg #[.pointer none, .int .i64 0], by kernel_rfl, rfl⟩
theorem z3n:PL Tryz.prog 195 [] []:=⟨by kernel_rfl, .agg #[], by kernel_rfl, rfl⟩
theorem z5n:PL Tryz.prog 205 [(0, 1), (1, 1), (2, 2)] [.int .u64 0, .map none, .slice none 0 0, .int .i64 0]:=⟨by kernel_rfl, .agg #[.int .u64 0, .map none, .slice none 0 0, .int .i64 0], by kernel_rfl, rfl⟩
theorem z5m:PL Tryz.prog 252 [(0, 1), (1, 1)] [.int .i64 0, .int .i64 0]:=⟨by kernel_rfl, .agg #[.int .i64 0, .int .i64 0], by kernel_rfl, rfl⟩
theorem z5l:PL Tryz.prog 256 [(0, 1), (1, 1), (2, 1), (3, 1)] [.slice none 0 0, .int .i64 0, .int .i64 0, .int .i64 0]:=⟨by kernel_rfl, .agg #[.slice none 0 0, .int .i64 0, .int .i64 0, .int .i64 0], by kernel_rfl, rfl⟩
theorem z3m:PL Tryz.prog 293 [(0, 6), (6, 0)] [.string ⟨#[]⟩, .string ⟨#[]⟩, .string ⟨#[]⟩, .string ⟨#[]⟩, .string ⟨#[]⟩, .string ⟨#[]⟩]:=⟨by kernel_rfl, .agg #[.string ⟨#[]⟩, .string ⟨#[]⟩, .string ⟨#[]⟩, .string ⟨#[]⟩, .string ⟨#[]⟩, .string ⟨#[]⟩], by kernel_rfl, rfl⟩
theorem z5j:PL Tryz.prog 352 [(0, 6), (6, 1), (7, 1), (8, 1), (9, 1)] [.string ⟨#[]⟩, .string ⟨#[]⟩, .string ⟨#[]⟩, .string ⟨#[]⟩, .string ⟨#[]⟩, .string ⟨#[]⟩, .pointer none, .pointer none, .int .i64 0, .int .i64 0]:=⟨by kernel_rfl, .agg #[.string ⟨#[]⟩, .string ⟨#[]⟩, .string ⟨#[]⟩, .string ⟨#[]⟩, .string ⟨#[]⟩, .string ⟨#[]⟩, .pointer none, .pointer none, .int .i64 0, .int .i64 0], by kernel_rfl, rfl⟩
theorem bt4:Tryz.prog.underlying 4 = some .bool:=by kernel_rfl
theorem z6j:EqT Tryz.prog 34 [0, 0, 0, 0, 0, 0]:=⟨by kernel_rfl, by kernel_rfl, by kernel_rfl⟩
theorem z6f:nkI Tryz.prog 39 = some 1:=by kernel_rfl
theorem z6i:EqT Tryz.prog 42 [0, 0, 0, 0, 0, 0, 2]:=⟨by kernel_rfl, by kernel_rfl, by kernel_rfl⟩
theorem z6e:nkI Tryz.prog 62 = some 1:=by kernel_rfl
theorem z6d:nkI Tryz.prog 71 = some 0:=by kernel_rfl
theorem z63:nkI Tryz.prog 84 = some 3:=by kernel_rfl
theorem z5q:nkI Tryz.prog 85 = some 0:=by kernel_rfl
theorem zyt:nkI Tryz.prog 154 = some 0:=by kernel_rfl
theorem z30:nkI Tryz.prog 226 = some 0:=by kernel_rfl
theorem z3z:nkI Tryz.prog 273 = some 0:=by kernel_rfl
theorem zgk:(Tryz.prog.underlying 3).isSome = true ∧ ikI Tryz.prog 63 = some .u64:=⟨by kernel_rfl, by kernel_rfl⟩
theorem zbk:(Tryz.prog.underlying 3).isSome = true ∧ ikI Tryz.prog 274 = some .u64:=⟨by kernel_rfl, by kernel_rfl⟩
theorem zw0:(Tryz.prog.underlying 3).isSome = true ∧ ikI Tryz.prog 402 = some .u64:=⟨by kernel_rfl, by kernel_rfl⟩
theorem zzc:(Tryz.prog.underlying 5).isSome = true ∧ ikI Tryz.prog 3 = some .i64:=⟨by kernel_rfl, by kernel_rfl⟩
theorem zfh:(Tryz.prog.underlying 5).isSome = true ∧ ikI Tryz.prog 63 = some .u64:=⟨by kernel_rfl, by kernel_rfl⟩
theorem zsd:(Tryz.prog.underlying 63).isSome = true ∧ ikI Tryz.prog 5 = some .u8:=⟨by kernel_rfl, by kernel_rfl⟩
theorem zbl:(Tryz.prog.underlying 274).isSome = true ∧ ikI Tryz.prog 3 = some .i64:=⟨by kernel_rfl, by kernel_rfl⟩
theorem z6n:arI Tryz.prog 64 = some (2, 5):=by kernel_rfl
theorem z5z:arI Tryz.prog 135 = some (3, 5):=by kernel_rfl
end Go.V
set_option maxRecDepth 20000
namespace Go.V
open Go.Proofs Go.RowKit
structure _root_.Go.V.Wr (B:Prop):Prop where
 h:B
theorem _root_.Go.V.Za {A B:Prop} (h:B) (t:Wr B → A:=by intro h; refine z7 (zg rfl rfl rfl) rfl ?_;exact h.h):A:=t ⟨h⟩
theorem _root_.Go.V.Zu {A B:Prop} (h:B) (t:Wr B → A:=by intro h; refine z7 (zi rfl rfl rfl) rfl ?_;exact h.h):A:=t ⟨h⟩
theorem _root_.Go.V.ZY {A B:Prop} (h:B) (t:Wr B → A:=by intro h; refine z7 (qm rfl rfl rfl rfl (decide_eq_true (by omega))) rfl ?_;exact h.h):A:=t ⟨h⟩
theorem _root_.Go.V.Zf {A B:Prop} (h:B) (t:Wr B → A:=by intro h; refine z7 (qb rfl rfl rfl rfl) rfl ?_;exact h.h):A:=t ⟨h⟩
theorem _root_.Go.V.Zfg {A B:Prop} (h:B) (t:Wr B → A:=by intro h; refine zt rfl ?_;exact h.h):A:=t ⟨h⟩
theorem _root_.Go.V.ZfI {A B:Prop} (h:B) (t:Wr B → A:=by intro h; refine z7 (zp rfl (zn rfl) rfl) rfl ?_;exact h.h):A:=t ⟨h⟩
theorem _root_.Go.V.ZfJ {A B:Prop} (h:B) (t:Wr B → A:=by intro h; refine zh (id:=0) ?_;exact h.h):A:=t ⟨h⟩
theorem _root_.Go.V.Z6 {A B:Prop} (h:B) (t:Wr B → A:=by intro h; refine zh (id:=1) ?_;exact h.h):A:=t ⟨h⟩
theorem _root_.Go.V.ZI {A B:Prop} (h:B) (t:Wr B → A:=by intro h; refine z7 (qm rfl rfl rfl rfl (decide_eq_false (by omega))) rfl ?_;exact h.h):A:=t ⟨h⟩
theorem _root_.Go.V.ZeN {A B:Prop} (h:B) (t:Wr B → A:=by intro h; refine q9 rfl ?_;exact h.h):A:=t ⟨h⟩
theorem _root_.Go.V.ZaA {A B:Prop} (h:B) (t:Wr B → A:=by intro h; refine z7 (qo rfl rfl rfl rfl (zaa (by omega) (by omega))) rfl ?_;exact h.h):A:=t ⟨h⟩
theorem _root_.Go.V.Zx {A B:Prop} (h:B) (t:Wr B → A:=by intro h; refine zh (id:=3) ?_;exact h.h):A:=t ⟨h⟩
theorem _root_.Go.V.ZU {A B:Prop} (h:B) (t:Wr B → A:=by intro h; refine zh (id:=2) ?_;exact h.h):A:=t ⟨h⟩
theorem _root_.Go.V.Z3 {A B:Prop} (h:B) (t:Wr B → A:=by intro h; refine z7 (ya rfl rfl rfl rfl (decide_eq_false (by omega))) rfl ?_;exact h.h):A:=t ⟨h⟩
theorem _root_.Go.V.ZP {A B:Prop} (h:B) (t:Wr B → A:=by intro h; refine z7 (ya rfl rfl rfl rfl (decide_eq_true (by omega))) rfl ?_;exact h.h):A:=t ⟨h⟩
theorem _root_.Go.V.Zv {A B:Prop} (h:B) (t:Wr B → A:=by intro h; refine zh (id:=4) ?_;exact h.h):A:=t ⟨h⟩
theorem _root_.Go.V.Z2 {A B:Prop} (h:B) (t:Wr B → A:=by intro h; refine zh (id:=5) ?_;exact h.h):A:=t ⟨h⟩
theorem _root_.Go.V.Zdp {A B:Prop} (h:B) (t:Wr B → A:=by intro h; refine z7 (zkg L rfl rfl rfl rfl rfl (by assumption)) rfl ?_;exact h.h):A:=t ⟨h⟩
theorem _root_.Go.V.ZQ {A B:Prop} (h:B) (t:Wr B → A:=by intro h; refine zh (id:=6) ?_;exact h.h):A:=t ⟨h⟩
theorem _root_.Go.V.ZL {A B:Prop} (h:B) (t:Wr B → A:=by intro h; refine zh (id:=7) ?_;exact h.h):A:=t ⟨h⟩
theorem _root_.Go.V.Zaf {A B:Prop} (h:B) (t:Wr B → A:=by intro h; refine z7 (z1o L rfl rfl rfl rfl) rfl ?_;exact h.h):A:=t ⟨h⟩
theorem _root_.Go.V.Z7 {A B:Prop} (h:B) (t:Wr B → A:=by intro h; refine zh (id:=8) ?_;exact h.h):A:=t ⟨h⟩
theorem _root_.Go.V.Zaj {A B:Prop} (h:B) (t:Wr B → A:=by intro h; refine zh (id:=9) ?_;exact h.h):A:=t ⟨h⟩
theorem _root_.Go.V.Zy {A B:Prop} (h:B) (t:Wr B → A:=by intro h; refine zk ?_;refine zm ?_;exact h.h):A:=t ⟨h⟩
theorem _root_.Go.V.Zc {A B:Prop} (h:B) (t:Wr B → A:=by intro h; refine Zu ?_;refine Zy ?_;exact h.h):A:=t ⟨h⟩
theorem _root_.Go.V.Zd {A B:Prop} (h:B) (t:Wr B → A:=by intro h; refine Zc ?_;refine zj ?_;exact h.h):A:=t ⟨h⟩
theorem _root_.Go.V.Zb {A B:Prop} (h:B) (t:Wr B → A:=by intro h; refine Za ?_;refine Za ?_;exact h.h):A:=t ⟨h⟩
theorem _root_.Go.V.ZbK {A B:Prop} (h:B) (t:Wr B → A:=by intro h; refine zm ?_;refine zj ?_;exact h.h):A:=t ⟨h⟩
theorem _root_.Go.V.Zdq {A B:Prop} (h:B) (t:Wr B → A:=by intro h; refine Zy ?_;refine Zfg ?_;exact h.h):A:=t ⟨h⟩
theorem _root_.Go.V.ZeO {A B:Prop} (h:B) (t:Wr B → A:=by intro h; refine zx ?_;refine ZbK ?_;exact h.h):A:=t ⟨h⟩
theorem _root_.Go.V.ZG {A B:Prop} (h:B) (t:Wr B → A:=by intro h; refine zj ?_;refine ZfJ ?_;exact h.h):A:=t ⟨h⟩
theorem _root_.Go.V.Z8 {A B:Prop} (h:B) (t:Wr B → A:=by intro h; refine Zy ?_;refine ZeN ?_;exact h.h):A:=t ⟨h⟩
theorem _root_.Go.V.Zi {A B:Prop} (h:B) (t:Wr B → A:=by intro h; refine Zd ?_;refine zj ?_;exact h.h):A:=t ⟨h⟩
theorem _root_.Go.V.Zq {A B:Prop} (h:B) (t:Wr B → A:=by intro h; refine Zdq ?_;refine ZeO ?_;exact h.h):A:=t ⟨h⟩
theorem _root_.Go.V.Zj {A B:Prop} (h:B) (t:Wr B → A:=by intro h; refine Zy ?_;refine zj ?_;exact h.h):A:=t ⟨h⟩
theorem _root_.Go.V.ZM {A B:Prop} (h:B) (t:Wr B → A:=by intro h; refine qe ?_;refine zj ?_;exact h.h):A:=t ⟨h⟩
theorem _root_.Go.V.Zs {A B:Prop} (h:B) (t:Wr B → A:=by intro h; refine Z8 ?_;refine zj ?_;exact h.h):A:=t ⟨h⟩
theorem _root_.Go.V.ZaB {A B:Prop} (h:B) (t:Wr B → A:=by intro h; refine Zi ?_;refine Z6 ?_;exact h.h):A:=t ⟨h⟩
theorem _root_.Go.V.Zfh {A B:Prop} (h:B) (t:Wr B → A:=by intro h; refine qq ?_;refine yi ?_;exact h.h):A:=t ⟨h⟩
theorem _root_.Go.V.ZeP {A B:Prop} (h:B) (t:Wr B → A:=by intro h; refine qq ?_;refine Zfh ?_;exact h.h):A:=t ⟨h⟩
theorem _root_.Go.V.Zfy {A B:Prop} (h:B) (t:Wr B → A:=by intro h; refine yj ?_;refine ZeP ?_;exact h.h):A:=t ⟨h⟩
theorem _root_.Go.V.Zbs {A B:Prop} (h:B) (t:Wr B → A:=by intro h; refine ZfI ?_;refine ZfI ?_;exact h.h):A:=t ⟨h⟩
theorem _root_.Go.V.Zw {A B:Prop} (h:B) (t:Wr B → A:=by intro h; refine Zb ?_;refine Za ?_;exact h.h):A:=t ⟨h⟩
theorem _root_.Go.V.Zm {A B:Prop} (h:B) (t:Wr B → A:=by intro h; refine Zx ?_;refine Za ?_;exact h.h):A:=t ⟨h⟩
theorem _root_.Go.V.Ze2 {A B:Prop} (h:B) (t:Wr B → A:=by intro h; refine ZeO ?_;refine ZM ?_;exact h.h):A:=t ⟨h⟩
theorem _root_.Go.V.ZfK {A B:Prop} (h:B) (t:Wr B → A:=by intro h; refine Zfy ?_;refine ZbK ?_;exact h.h):A:=t ⟨h⟩
theorem _root_.Go.V.ZD {A B:Prop} (h:B) (t:Wr B → A:=by intro h; refine Zq ?_;refine zj ?_;exact h.h):A:=t ⟨h⟩
theorem _root_.Go.V.Ze3 {A B:Prop} (h:B) (t:Wr B → A:=by intro h; refine Za ?_;refine Zbs ?_;exact h.h):A:=t ⟨h⟩
theorem _root_.Go.V.Za5 {A B:Prop} (h:B) (t:Wr B → A:=by intro h; refine qy ?_;refine zm ?_;exact h.h):A:=t ⟨h⟩
theorem _root_.Go.V.Zab {A B:Prop} (h:B) (t:Wr B → A:=by intro h; refine Zdq ?_;refine zx ?_;exact h.h):A:=t ⟨h⟩
theorem _root_.Go.V.Za6 {A B:Prop} (h:B) (t:Wr B → A:=by intro h; refine ZaB ?_;refine Za ?_;exact h.h):A:=t ⟨h⟩
theorem _root_.Go.V.ZN {A B:Prop} (h:B) (t:Wr B → A:=by intro h; refine Z2 ?_;refine Za ?_;exact h.h):A:=t ⟨h⟩
theorem _root_.Go.V.ZfY {A B:Prop} (h:B) (t:Wr B → A:=by intro h; refine Zj ?_;refine ZeN ?_;exact h.h):A:=t ⟨h⟩
theorem _root_.Go.V.Zgf {A B:Prop} (h:B) (t:Wr B → A:=by intro h; refine ZY ?_;refine ZfY ?_;exact h.h):A:=t ⟨h⟩
theorem _root_.Go.V.ZV {A B:Prop} (h:B) (t:Wr B → A:=by intro h; refine Zgf ?_;refine Ze2 ?_;exact h.h):A:=t ⟨h⟩
theorem _root_.Go.V.ZeQ {A B:Prop} (h:B) (t:Wr B → A:=by intro h; refine ZfI ?_;refine Zf ?_;exact h.h):A:=t ⟨h⟩
theorem _root_.Go.V.ZbL {A B:Prop} (h:B) (t:Wr B → A:=by intro h; refine Zy ?_;refine qe ?_;exact h.h):A:=t ⟨h⟩
theorem _root_.Go.V.ZbM {A B:Prop} (h:B) (t:Wr B → A:=by intro h; refine Zs ?_;refine ZU ?_;exact h.h):A:=t ⟨h⟩
theorem _root_.Go.V.Zak {A B:Prop} (h:B) (t:Wr B → A:=by intro h; refine Ze3 ?_;refine ZeQ ?_;exact h.h):A:=t ⟨h⟩
theorem _root_.Go.V.ZfZ {A B:Prop} (h:B) (t:Wr B → A:=by intro h; refine Zj ?_;refine Zfg ?_;exact h.h):A:=t ⟨h⟩
theorem _root_.Go.V.ZaM {A B:Prop} (h:B) (t:Wr B → A:=by intro h; refine Zb ?_;refine Zdp ?_;exact h.h):A:=t ⟨h⟩
theorem _root_.Go.V.Zga {A B:Prop} (h:B) (t:Wr B → A:=by intro h; refine ZI ?_;refine ZfZ ?_;exact h.h):A:=t ⟨h⟩
theorem _root_.Go.V.Zdr {A B:Prop} (h:B) (t:Wr B → A:=by intro h; refine Za ?_;refine zk ?_;exact h.h):A:=t ⟨h⟩
theorem _root_.Go.V.ZaC {A B:Prop} (h:B) (t:Wr B → A:=by intro h; refine Zga ?_;refine ZfK ?_;exact h.h):A:=t ⟨h⟩
theorem _root_.Go.V.ZaN {A B:Prop} (h:B) (t:Wr B → A:=by intro h; refine Zf ?_;refine Zw ?_;exact h.h):A:=t ⟨h⟩
theorem _root_.Go.V.ZaO {A B:Prop} (h:B) (t:Wr B → A:=by intro h; refine Zab ?_;refine Za5 ?_;exact h.h):A:=t ⟨h⟩
theorem _root_.Go.V.Zfi {A B:Prop} (h:B) (t:Wr B → A:=by intro h; refine Za ?_;refine ZbL ?_;exact h.h):A:=t ⟨h⟩
theorem _root_.Go.V.Zbg {A B:Prop} (h:B) (t:Wr B → A:=by intro h; refine ZG ?_;refine Za6 ?_;exact h.h):A:=t ⟨h⟩
theorem _root_.Go.V.Zbt {A B:Prop} (h:B) (t:Wr B → A:=by intro h; refine Zf ?_;refine Zs ?_;exact h.h):A:=t ⟨h⟩
theorem _root_.Go.V.ZbN {A B:Prop} (h:B) (t:Wr B → A:=by intro h; refine Zf ?_;refine ZD ?_;exact h.h):A:=t ⟨h⟩
theorem _root_.Go.V.ZbO {A B:Prop} (h:B) (t:Wr B → A:=by intro h; refine Ze3 ?_;refine Zbs ?_;exact h.h):A:=t ⟨h⟩
theorem _root_.Go.V.ZbP {A B:Prop} (h:B) (t:Wr B → A:=by intro h; refine ZaA ?_;refine Zdr ?_;exact h.h):A:=t ⟨h⟩
theorem _root_.Go.V.Zck {A B:Prop} (h:B) (t:Wr B → A:=by intro h; refine ZbM ?_;refine Zc ?_;exact h.h):A:=t ⟨h⟩
theorem _root_.Go.V.Zcl {A B:Prop} (h:B) (t:Wr B → A:=by intro h; refine zj ?_;refine Zv ?_;exact h.h):A:=t ⟨h⟩
theorem _root_.Go.V.Zds {A B:Prop} (h:B) (t:Wr B → A:=by intro h; refine Zd ?_;refine ZQ ?_;exact h.h):A:=t ⟨h⟩
theorem _root_.Go.V.Zdt {A B:Prop} (h:B) (t:Wr B → A:=by intro h; refine Zw ?_;refine Zdp ?_;exact h.h):A:=t ⟨h⟩
attribute [local irreducible] V N X VO Par StepOK Has Ret RetL Src
set_option maxHeartbeats 400000 in
theorem check_ret (s:ByteArray) (hs:s.size ≤ 9223372036854775807) {w:World} {B:Heap} (hB:B.Le (hp w)) :
  Ret Tryz.prog 205 [.string s] w B (fun v _ => v = .int .i64 (chk s)):=by
 refine qw Tryz.func205 rfl Tryz.ntmps205 (Nat.le_of_ble_eq_true rfl) hB ?_
 by_cases h1:1 ≤ s.size
 ·by_cases h2:s.size ≤ 16
  ·refine Zbg ?_;refine Zaf ?_;refine ZI ?_;refine Zb ?_;refine Zaf ?_;refine Z3 ?_;refine ZbN ?_;refine Zm ?_;refine Zaf ?_;refine Zfi ?_
   refine zam (fun k:Nat => [(0, .is (.string s)), (13, .is (.int .i64 s.size)), (14, .is (.int .i64 k))])
    (fun k => k ≤ s.size ∧ (s.data.toList.take k).all okB = true) (fun k => s.size - k) 0 ⟨Nat.zero_le _, by simp⟩ ⟨rfl, rfl, rfl, trivial⟩ ?_
   rintro k ⟨hk, hall⟩
   by_cases hlt:k < s.size
   ·obtain ⟨c, hc⟩:=getElem?_lt hlt
    have hu:=z0v c
    by_cases a1:(c.toNat:Int) < 97
    ·by_cases a2:(c.toNat:Int) < 48
     ·refine Zcl ?_;refine ZV ?_;refine ZN ?_;refine Zds ?_;refine ZaM ?_;refine ZY ?_;refine ZbO ?_;refine ZaN ?_;refine Zdp ?_;refine ZY ?_;refine ZbO ?_;refine Zf ?_;refine Zbt ?_;refine ZL ?_;refine Zc ?_
      refine qv L (rs:=[.tmp 2]) rfl (fun _ _ h => h) Since.refl fun u H hH hle => ?_
      exact congrArg _ (zl9 hc (z3w a1 a2)).symm
     ·by_cases a3:57 < (c.toNat:Int)
      ·refine Zcl ?_;refine ZV ?_;refine ZN ?_;refine Zds ?_;refine ZaM ?_;refine ZY ?_;refine ZbO ?_;refine ZaN ?_;refine Zdp ?_;refine ZI ?_;refine Zdt ?_;refine ZP ?_;refine Zf ?_;refine Zbt ?_;refine ZL ?_;refine Zc ?_
       refine qv L (rs:=[.tmp 2]) rfl (fun _ _ h => h) Since.refl fun u H hH hle => ?_
       exact congrArg _ (zl9 hc (z3v a1 a3)).symm
      ·refine Zcl ?_;refine ZV ?_;refine ZN ?_;refine Zds ?_;refine ZaM ?_;refine ZY ?_;refine ZbO ?_;refine ZaN ?_;refine Zdp ?_;refine ZI ?_;refine Zdt ?_;refine Z3 ?_;refine Zf ?_;refine Zf ?_;refine ZaO ?_;refine Z7 ?_;refine ZbP ?_
       refine y9 (k + 1) ⟨hlt, zi0 hc (z3s a2 a3) hall⟩ (by omega) ⟨rfl, rfl, rfl, trivial⟩
    ·by_cases a4:122 < (c.toNat:Int)
     ·have a5:57 < (c.toNat:Int):=by omega
      refine Zcl ?_;refine ZV ?_;refine ZN ?_;refine Zds ?_;refine ZaM ?_;refine ZI ?_;refine Zdt ?_;refine ZP ?_;refine ZaN ?_;refine Zdp ?_;refine ZI ?_;refine Zdt ?_;refine ZP ?_;refine Zf ?_;refine Zbt ?_;refine ZL ?_;refine Zc ?_
      refine qv L (rs:=[.tmp 2]) rfl (fun _ _ h => h) Since.refl fun u H hH hle => ?_
      exact congrArg _ (zl9 hc (z3u a4)).symm
     ·refine Zcl ?_;refine ZV ?_;refine ZN ?_;refine Zds ?_;refine ZaM ?_;refine ZI ?_;refine Zdt ?_;refine Z3 ?_;refine Zf ?_;refine ZbO ?_;refine Zbs ?_;refine Zbs ?_;refine Zbs ?_;refine Zf ?_;refine ZaO ?_;refine Z7 ?_;refine ZbP ?_
      refine y9 (k + 1) ⟨hlt, zi0 hc (z3t a1 a4) hall⟩ (by omega) ⟨rfl, rfl, rfl, trivial⟩
   ·refine Zcl ?_;refine ZaC ?_;refine Zaj ?_;refine Zc ?_
    refine qv L (rs:=[.tmp 2]) rfl (fun _ _ h => h) Since.refl fun u H hH hle => ?_
    exact congrArg _ (zw6 h1 h2 (zsn (by omega) hall)).symm
  ·refine Zbg ?_;refine Zaf ?_;refine ZI ?_;refine Zb ?_;refine Zaf ?_;refine ZP ?_;refine Zf ?_;refine Zck ?_
   refine qv L (rs:=[.tmp 2]) rfl (fun _ _ h => h) Since.refl fun u H hH hle => ?_
   exact congrArg _ (zq2 (by omega)).symm
 ·refine Zbg ?_;refine Zaf ?_;refine ZY ?_;refine Zak ?_;refine Zck ?_
  refine qv L (rs:=[.tmp 2]) rfl (fun _ _ h => h) Since.refl fun u H hH hle => ?_
  exact congrArg _ (zq2 (by omega)).symm
end Go.V
set_option maxRecDepth 20000
namespace Go.V
open Go.Proofs Go.RowKit
theorem _root_.Go.V.Zh {A B:Prop} (h:B) (t:Wr B → A:=by intro h; refine z7 (zw rfl rfl rfl) rfl ?_;exact h.h):A:=t ⟨h⟩
theorem _root_.Go.V.ZA {A B:Prop} (h:B) (t:Wr B → A:=by intro h; refine z7 (y8 rfl rfl rfl rfl (decide_eq_false (by omega))) rfl ?_;exact h.h):A:=t ⟨h⟩
theorem _root_.Go.V.Zdu {A B:Prop} (h:B) (t:Wr B → A:=by intro h; refine z7 (y3 L rfl rfl rfl rfl) rfl ?_;exact h.h):A:=t ⟨h⟩
theorem _root_.Go.V.Zbu {A B:Prop} (h:B) (t:Wr B → A:=by intro h; refine z7 (y6 L _ rfl rfl rfl rfl rfl rfl rfl (by first | omega | decide) (by assumption)) rfl ?_;exact h.h):A:=t ⟨h⟩
theorem _root_.Go.V.Zbv {A B:Prop} (h:B) (t:Wr B → A:=by intro h; refine z7 (y8 rfl rfl rfl rfl (decide_eq_true (by omega))) rfl ?_;exact h.h):A:=t ⟨h⟩
theorem _root_.Go.V.ZeR {A B:Prop} (h:B) (t:Wr B → A:=by intro h; refine z7 (zo4 L rfl rfl rfl rfl rfl) rfl ?_;exact h.h):A:=t ⟨h⟩
theorem _root_.Go.V.Zn {A B:Prop} (h:B) (t:Wr B → A:=by intro h; refine Zh ?_;refine Zdu ?_;exact h.h):A:=t ⟨h⟩
theorem _root_.Go.V.Zk {A B:Prop} (h:B) (t:Wr B → A:=by intro h; refine Zv ?_;refine Za ?_;exact h.h):A:=t ⟨h⟩
theorem _root_.Go.V.ZJ {A B:Prop} (h:B) (t:Wr B → A:=by intro h; refine ZQ ?_;refine Za ?_;exact h.h):A:=t ⟨h⟩
theorem _root_.Go.V.ZH {A B:Prop} (h:B) (t:Wr B → A:=by intro h; refine Zbv ?_;refine Zs ?_;exact h.h):A:=t ⟨h⟩
theorem _root_.Go.V.Zei {A B:Prop} (h:B) (t:Wr B → A:=by intro h; refine ZaB ?_;refine Zn ?_;exact h.h):A:=t ⟨h⟩
theorem _root_.Go.V.Zcm {A B:Prop} (h:B) (t:Wr B → A:=by intro h; refine Zd ?_;refine ZN ?_;exact h.h):A:=t ⟨h⟩
attribute [local irreducible] V N X VO Par StepOK Has Ret RetL Src
def zcf:List ByteArray → Int
 | [] => 0
 | s :: l => if chk s = 0 then zcf l else chk s
theorem zpt:∀ (l:List ByteArray) (s:ByteArray), zcf l = 0 → zcf (l ++ [s]) = chk s
 | [], s, _ => by simp only [List.nil_append, zcf]; split <;> simp_all
 | x :: l, s, h => by
  simp only [List.cons_append, zcf] at h ⊢
  by_cases hx:chk x = 0
  ·rw [if_pos hx] at h ⊢; exact zpt l s h
  ·rw [if_neg hx] at h; exact absurd h hx
theorem zso:∀ (l:List ByteArray) (k:Nat) (s:ByteArray), zcf (l.take k) = 0 → l[k]? = some s → chk s ≠ 0 → zcf l = chk s
 | [], k, s, _, h, _ => by simp at h
 | x :: l, 0, s, _, h, hc => by simp at h; subst h; simp [zcf, hc]
 | x :: l, k + 1, s, ha, h, hc => by
  simp only [List.take_succ_cons, zcf] at ha
  simp only [List.getElem?_cons_succ] at h
  by_cases hx:chk x = 0
  ·rw [if_pos hx] at ha
   simp only [zcf, if_pos hx]
   exact zso l k s ha h hc
  ·rw [if_neg hx] at ha; exact absurd ha hx
set_option maxHeartbeats 400000 in
theorem zxd (l:List ByteArray) (hl:∀ s ∈ l, s.size ≤ 9223372036854775807) (hlen:l.length ≤ 1000) {e:TypeId} {fu:Bool} {v:Value} {w:World} {B:Heap} (hB:B.Le (hp w)) (hv:SlV e 1 (l.map Value.string) l.length fu v B) :
  Ret Tryz.prog 236 [v] w B (fun v _ => v = .int .i64 (zcf l)):=by
 refine qw Tryz.func236 rfl Tryz.ntmps236 (Nat.le_of_ble_eq_true rfl) hB ?_
 refine zbf 0 (SlV e 1 (l.map Value.string) l.length fu) rfl SlV.mono hv ?_
 refine ZG ?_;refine Zei ?_;refine Zfi ?_
 refine zam (fun k:Nat => [(6, .sat (SlV e 1 (l.map Value.string) l.length fu)), (7, .is (.int .i64 l.length)), (8, .is (.int .i64 k))])
  (fun k => k ≤ l.length ∧ zcf (l.take k) = 0) (fun k => l.length - k) 0 ⟨Nat.zero_le _, by simp [zcf]⟩ ⟨rfl, rfl, rfl, trivial⟩ ?_
 rintro k ⟨hk, hall⟩
 by_cases hlt:k < l.length
 ·have hs:l[k]? = some l[k]:=List.getElem?_eq_getElem hlt
  generalize l[k] = s at hs
  have hsz:s.size ≤ 9223372036854775807:=hl s (List.mem_of_getElem? hs)
  have hc:=z29 hs
  by_cases h0:chk s = 0
  ·refine zj ?_;refine ZU ?_;refine ZV ?_;refine Zx ?_;refine Zbu ?_;refine ZeR ?_;refine Zd ?_;refine Zk ?_;refine z7 (zq L rfl rfl (zn rfl) rfl rfl rfl (fun u H hH _ _ => check_ret _ (by first | omega | decide) hH)) rfl ?_;refine Zcm ?_;refine ZA ?_;refine ZaO ?_;refine ZL ?_;refine ZbP ?_
   refine y9 (k + 1) ⟨hlt, ?_⟩ (by omega) ⟨rfl, rfl, rfl, trivial⟩
   rw [List.take_add_one, hs]
   show zcf (l.take k ++ [s]) = 0
   rw [zpt _ _ hall, h0]
  ·refine zj ?_;refine ZU ?_;refine ZV ?_;refine Zx ?_;refine Zbu ?_;refine ZeR ?_;refine Zd ?_;refine Zk ?_;refine z7 (zq L rfl rfl (zn rfl) rfl rfl rfl (fun u H hH _ _ => check_ret _ (by first | omega | decide) hH)) rfl ?_;refine Zcm ?_;refine ZH ?_;refine ZJ ?_;refine Zc ?_
   refine qv L (rs:=[.tmp 2]) rfl (fun _ _ h => h) Since.refl fun u H hH hle => ?_
   exact congrArg _ (zso l k s hall hs h0).symm
 ·refine zj ?_;refine ZU ?_;refine ZaC ?_;refine Z7 ?_;refine Zc ?_
  refine qv L (rs:=[.tmp 2]) rfl (fun _ _ h => h) Since.refl fun u H hH hle => ?_
  have:l.take k = l:=List.take_of_length_le (by omega)
  exact congrArg _ (this ▸ hall).symm
end Go.V
namespace Go.Proofs
open Go.Shelf
def Tryz.lays169_ren:Go.Shelf.Ren:=⟨fun | 169 => 124 | n => n, fun | 70 => 226 | 9 => 9 | 0 => 0 | 72 => 228 | 37 => 62 | 127 => 318 | 3 => 3 | 5 => 5 | n => n, fun | n => n⟩
theorem Tryz.lays169:Go.Proofs.Lays.n169 Tryz.prog Tryz.lays169_ren:={
 mixed:=by kernel_rfl
 f169:=Tryz.func124.trans (congrArg some (by kernel_rfl))
 t0:=Tryz.underlying0
 a0:=Tryz.isAgg0
 z0:=Tryz.sizeOf0
 v0:=Tryz.zeroValue0
 t3:=Tryz.underlying3
 a3:=Tryz.isAgg3
 z3:=Tryz.sizeOf3
 v3:=Tryz.zeroValue3
 t9:=Tryz.underlying9
 a9:=Tryz.isAgg9
 z9:=Tryz.sizeOf9
 v9:=Tryz.zeroValue9
 t37:=Tryz.underlying62
 a37:=Tryz.isAgg62
 z37:=Tryz.sizeOf62
 v37:=Tryz.zeroValue62
 t70:=Tryz.underlying226
 a70:=Tryz.isAgg226
 z70:=Tryz.sizeOf226
 v70:=Tryz.zeroValue226
 t72:=Tryz.underlying228
 a72:=Tryz.isAgg228
 z72:=Tryz.sizeOf228
 v72:=Tryz.zeroValue228
 t127:=Tryz.underlying318
 a127:=Tryz.isAgg318
 z127:=Tryz.sizeOf318
 v127:=Tryz.zeroValue318 }
theorem Tryz.Builder_Extra_169:Builder.Extra Tryz.prog Tryz.lays169_ren:={
 sizeBuilder:=by kernel_rfl
 liesBuilder:=by kernel_rfl
 t5:=Tryz.underlying5
 a5:=Tryz.isAgg5
 z5:=Tryz.sizeOf5
 v5:=Tryz.zeroValue5
 infoByte:=by kernel_rfl
 cellsByte:=by kernel_rfl
 sizeByte:=by kernel_rfl
 neB5:=by decide }
open Go.RowKit in
theorem Tryz.Builder_String (B b:Nat) (l:List UInt8) (w:World) (h:Lib.IsBuilder 228 5 B b (Lib.byteCells l) w) (h0:l ≠ []) :
  Calls Tryz.prog 124 #[.pointer (some ⟨b, 0, none⟩)] w fun e w' => e = .returned (.string ⟨l.toArray⟩) ∧ Below B w w':=Any.Builder_String Tryz.lays169 Tryz.Builder_Extra_169 B b l w h h0
open Go.RowKit in
theorem Tryz.Builder_String_empty (B b:Nat) (w:World) (h:Lib.IsBuilder 228 5 B b [] w) (hBw:B ≤ w.heap.size) :
  Calls Tryz.prog 124 #[.pointer (some ⟨b, 0, none⟩)] w fun e w' => e = .returned (.string ⟨#[]⟩) ∧ Below B w w':=Any.Builder_String_empty Tryz.lays169 Tryz.Builder_Extra_169 B b w h hBw
open Go.RowKit in
theorem Tryz.Builder_String_any (B b:Nat) (l:List UInt8) (w:World) (h:Lib.IsBuilder 228 5 B b (Lib.byteCells l) w) (hBw:B ≤ w.heap.size) :
  Calls Tryz.prog 124 #[.pointer (some ⟨b, 0, none⟩)] w fun e w' => e = .returned (.string ⟨l.toArray⟩) ∧ Below B w w':=Any.Builder_String_any Tryz.lays169 Tryz.Builder_Extra_169 B b l w h hBw
def Tryz.lays213_ren:Go.Shelf.Ren:=⟨fun | 213 => 286 | 265 => 312 | n => n, fun | 9 => 9 | 3 => 3 | n => n, fun | n => n⟩
theorem Tryz.lays213:Go.Proofs.Lays.n213 Tryz.prog Tryz.lays213_ren:={
 mixed:=by kernel_rfl
 f213:=Tryz.func286.trans (congrArg some (by kernel_rfl))
 f265:=Tryz.func312.trans (congrArg some (by kernel_rfl))
 t3:=Tryz.underlying3
 a3:=Tryz.isAgg3
 z3:=Tryz.sizeOf3
 v3:=Tryz.zeroValue3
 t9:=Tryz.underlying9
 a9:=Tryz.isAgg9
 z9:=Tryz.sizeOf9
 v9:=Tryz.zeroValue9 }
open Go.RowKit in
theorem Tryz.bytealg_CompareString (a b:ByteArray) (w:World) :
  Calls Tryz.prog 286 #[.string a, .string b] w fun e w' => e = .returned (.int .i64 (Lib.compareBytes a.data.toList b.data.toList)) ∧ w' = w:=Any.bytealg_CompareString Tryz.lays213 a b w
def Tryz.lays106_ren:Go.Shelf.Ren:=⟨fun | 106 => 238 | 213 => 286 | 265 => 312 | n => n, fun | 9 => 9 | 3 => 3 | n => n, fun | n => n⟩
theorem Tryz.lays106:Go.Proofs.Lays.n106 Tryz.prog Tryz.lays106_ren:={
 mixed:=by kernel_rfl
 f106:=Tryz.func238.trans (congrArg some (by kernel_rfl))
 f213:=Tryz.func286.trans (congrArg some (by kernel_rfl))
 f265:=Tryz.func312.trans (congrArg some (by kernel_rfl))
 t3:=Tryz.underlying3
 a3:=Tryz.isAgg3
 z3:=Tryz.sizeOf3
 v3:=Tryz.zeroValue3
 t9:=Tryz.underlying9
 a9:=Tryz.isAgg9
 z9:=Tryz.sizeOf9
 v9:=Tryz.zeroValue9 }
open Go.RowKit in
theorem Tryz.strings_Compare (a b:ByteArray) (w:World) :
  Calls Tryz.prog 238 #[.string a, .string b] w fun e w' => e = .returned (.int .i64 (Lib.compareBytes a.data.toList b.data.toList)) ∧ w' = w:=Any.strings_Compare Tryz.lays106 a b w
def Tryz.lays137_ren:Go.Shelf.Ren:=⟨fun | 137 => 258 | 217 => 298 | 266 => 315 | n => n, fun | 9 => 9 | 5 => 5 | 3 => 3 | n => n, fun | n => n⟩
theorem Tryz.lays137:Go.Proofs.Lays.n137 Tryz.prog Tryz.lays137_ren:={
 mixed:=by kernel_rfl
 f137:=Tryz.func258.trans (congrArg some (by kernel_rfl))
 f217:=Tryz.func298.trans (congrArg some (by kernel_rfl))
 f266:=Tryz.func315.trans (congrArg some (by kernel_rfl))
 t3:=Tryz.underlying3
 a3:=Tryz.isAgg3
 z3:=Tryz.sizeOf3
 v3:=Tryz.zeroValue3
 t5:=Tryz.underlying5
 a5:=Tryz.isAgg5
 z5:=Tryz.sizeOf5
 v5:=Tryz.zeroValue5
 t9:=Tryz.underlying9
 a9:=Tryz.isAgg9
 z9:=Tryz.sizeOf9
 v9:=Tryz.zeroValue9 }
open Go.RowKit in
theorem Tryz.strings_IndexByte (s:ByteArray) (c:Int) (w:World) :
  Calls Tryz.prog 258 #[.string s, .int .u8 c] w fun e w' => e = .returned (.int .i64 (Lib.indexByte s.data.toList c.toNat.toUInt8)) ∧ w' = w:=Any.strings_IndexByte Tryz.lays137 s c w
def Tryz.lays211_ren:Go.Shelf.Ren:=⟨fun | 211 => 200 | 207 => 259 | n => n, fun | 9 => 9 | 4 => 4 | 3 => 3 | n => n, fun | n => n⟩
theorem Tryz.lays211:Go.Proofs.Lays.n211 Tryz.prog Tryz.lays211_ren:={
 mixed:=by kernel_rfl
 f207:=Tryz.func259.trans (congrArg some (by kernel_rfl))
 f211:=Tryz.func200.trans (congrArg some (by kernel_rfl))
 t3:=Tryz.underlying3
 a3:=Tryz.isAgg3
 z3:=Tryz.sizeOf3
 v3:=Tryz.zeroValue3
 t4:=Tryz.underlying4
 a4:=Tryz.isAgg4
 z4:=Tryz.sizeOf4
 v4:=Tryz.zeroValue4
 t9:=Tryz.underlying9
 a9:=Tryz.isAgg9
 z9:=Tryz.sizeOf9
 v9:=Tryz.zeroValue9 }
open Go.RowKit in
theorem Tryz.stringslite_CutSuffix (s p:ByteArray) (w:World) (hs:s.size ≤ 9223372036854775807) :
  Calls Tryz.prog 200 #[.string s, .string p] w fun e w' => e = .returned (.tuple #[.string ⟨(Lib.trimSuffix s.data.toList p.data.toList).toArray⟩, .bool (Lib.hasSuffix s.data.toList p.data.toList)]) ∧ w' = w:=Any.stringslite_CutSuffix Tryz.lays211 s p w hs
def Tryz.lays104_ren:Go.Shelf.Ren:=⟨fun | 104 => 130 | 211 => 200 | 207 => 259 | n => n, fun | 9 => 9 | 4 => 4 | 24 => 241 | 3 => 3 | n => n, fun | n => n⟩
theorem Tryz.lays104:Go.Proofs.Lays.n104 Tryz.prog Tryz.lays104_ren:={
 mixed:=by kernel_rfl
 f104:=Tryz.func130.trans (congrArg some (by kernel_rfl))
 f207:=Tryz.func259.trans (congrArg some (by kernel_rfl))
 f211:=Tryz.func200.trans (congrArg some (by kernel_rfl))
 t3:=Tryz.underlying3
 a3:=Tryz.isAgg3
 z3:=Tryz.sizeOf3
 v3:=Tryz.zeroValue3
 t4:=Tryz.underlying4
 a4:=Tryz.isAgg4
 z4:=Tryz.sizeOf4
 v4:=Tryz.zeroValue4
 t9:=Tryz.underlying9
 a9:=Tryz.isAgg9
 z9:=Tryz.sizeOf9
 v9:=Tryz.zeroValue9
 t24:=Tryz.underlying241
 a24:=Tryz.isAgg241
 z24:=Tryz.sizeOf241
 v24:=Tryz.zeroValue241 }
open Go.RowKit in
theorem Tryz.strings_CutSuffix (s p:ByteArray) (w:World) (hs:s.size ≤ 9223372036854775807) :
  Calls Tryz.prog 130 #[.string s, .string p] w fun e w' => e = .returned (.tuple #[.string ⟨(Lib.trimSuffix s.data.toList p.data.toList).toArray⟩, .bool (Lib.hasSuffix s.data.toList p.data.toList)]) ∧ w' = w:=Any.strings_CutSuffix Tryz.lays104 s p w hs
def Tryz.lays195_ren:Go.Shelf.Ren:=⟨fun | 195 => 302 | n => n, fun | 9 => 9 | 3 => 3 | 0 => 0 | 4 => 4 | n => n, fun | n => n⟩
theorem Tryz.lays195:Go.Proofs.Lays.n195 Tryz.prog Tryz.lays195_ren:={
 mixed:=by kernel_rfl
 f195:=Tryz.func302.trans (congrArg some (by kernel_rfl))
 t0:=Tryz.underlying0
 a0:=Tryz.isAgg0
 z0:=Tryz.sizeOf0
 v0:=Tryz.zeroValue0
 t3:=Tryz.underlying3
 a3:=Tryz.isAgg3
 z3:=Tryz.sizeOf3
 v3:=Tryz.zeroValue3
 t4:=Tryz.underlying4
 a4:=Tryz.isAgg4
 z4:=Tryz.sizeOf4
 v4:=Tryz.zeroValue4
 t9:=Tryz.underlying9
 a9:=Tryz.isAgg9
 z9:=Tryz.sizeOf9
 v9:=Tryz.zeroValue9 }
open Go.RowKit in
theorem Tryz.utf8_RuneCountInString (s:ByteArray) (w:World) (hs:s.size < 9223372036854775807) :
  Calls Tryz.prog 302 #[.string s] w fun e w' => e = .returned (.int .i64 (Lib.runeCount s)) ∧ ∃ pos, w' = w.iter s pos:=Any.utf8_RuneCountInString Tryz.lays195 s w hs
def Tryz.lays129_ren:Go.Shelf.Ren:=⟨fun | 129 => 279 | n => n, fun | 53 => 63 | 3 => 3 | 4 => 4 | 46 => 274 | 5 => 5 | 9 => 9 | n => n, fun | n => n⟩
theorem Tryz.lays129:Go.Proofs.Lays.n129 Tryz.prog Tryz.lays129_ren:={
 mixed:=by kernel_rfl
 f129:=Tryz.func279.trans (congrArg some (by kernel_rfl))
 t3:=Tryz.underlying3
 a3:=Tryz.isAgg3
 z3:=Tryz.sizeOf3
 v3:=Tryz.zeroValue3
 t4:=Tryz.underlying4
 a4:=Tryz.isAgg4
 z4:=Tryz.sizeOf4
 v4:=Tryz.zeroValue4
 t5:=Tryz.underlying5
 a5:=Tryz.isAgg5
 z5:=Tryz.sizeOf5
 v5:=Tryz.zeroValue5
 t9:=Tryz.underlying9
 a9:=Tryz.isAgg9
 z9:=Tryz.sizeOf9
 v9:=Tryz.zeroValue9
 t46:=Tryz.underlying274
 a46:=Tryz.isAgg274
 z46:=Tryz.sizeOf274
 v46:=Tryz.zeroValue274
 t53:=Tryz.underlying63
 a53:=Tryz.isAgg63
 z53:=Tryz.sizeOf63
 v53:=Tryz.zeroValue63 }
theorem Tryz.bits_Len64 (x:Int) (w:World) (h0:0 ≤ x) (h1:x ≤ 18446744073709551615) :
  Calls Tryz.prog 279 #[.int .u64 x] w fun e w' => e = .returned (.int .i64 (Lib.bitLen x.toNat)) ∧ w' = w:=Any.bits_Len64 Tryz.lays129 x w h0 h1
def Tryz.lays217_ren:Go.Shelf.Ren:=⟨fun | 217 => 298 | 266 => 315 | n => n, fun | 9 => 9 | 5 => 5 | 3 => 3 | n => n, fun | n => n⟩
theorem Tryz.lays217:Go.Proofs.Lays.n217 Tryz.prog Tryz.lays217_ren:={
 mixed:=by kernel_rfl
 f217:=Tryz.func298.trans (congrArg some (by kernel_rfl))
 f266:=Tryz.func315.trans (congrArg some (by kernel_rfl))
 t3:=Tryz.underlying3
 a3:=Tryz.isAgg3
 z3:=Tryz.sizeOf3
 v3:=Tryz.zeroValue3
 t5:=Tryz.underlying5
 a5:=Tryz.isAgg5
 z5:=Tryz.sizeOf5
 v5:=Tryz.zeroValue5
 t9:=Tryz.underlying9
 a9:=Tryz.isAgg9
 z9:=Tryz.sizeOf9
 v9:=Tryz.zeroValue9 }
open Go.RowKit Go.Lib in
theorem Tryz.stringslite_IndexByte (s:ByteArray) (c:Int) (w:World) :
  Calls Tryz.prog 298 #[.string s, .int .u8 c] w fun e w' => e = .returned (.int .i64 (Lib.indexByte s.data.toList c.toNat.toUInt8)) ∧ w' = w:=Any.stringslite_IndexByte Tryz.lays217 s c w
def Tryz.lays224_ren:Go.Shelf.Ren:=⟨fun | 224 => 300 | n => n, fun | 3 => 3 | n => n, fun | n => n⟩
theorem Tryz.lays224:Go.Proofs.Lays.n224 Tryz.prog Tryz.lays224_ren:={
 mixed:=by kernel_rfl
 f224:=Tryz.func300.trans (congrArg some (by kernel_rfl))
 t3:=Tryz.underlying3
 a3:=Tryz.isAgg3
 z3:=Tryz.sizeOf3
 v3:=Tryz.zeroValue3 }
open Go.RowKit Go.Lib in
theorem Tryz.bytealg_Cutover (n:Int) (h0:0 ≤ n) (h1:n < 4611686018427387904) (w:World) :
  Calls Tryz.prog 300 #[.int .i64 n] w fun e w' => e = .returned (.int .i64 ((n + 16) / 8)) ∧ w' = w:=Any.bytealg_Cutover Tryz.lays224 n h0 h1 w
def Tryz.lays314_ren:Go.Shelf.Ren:=⟨fun | 314 => 316 | n => n, fun | 9 => 9 | 51 => 387 | 3 => 3 | 4 => 4 | 5 => 5 | 46 => 274 | n => n, fun | n => n⟩
theorem Tryz.lays314:Go.Proofs.Lays.n314 Tryz.prog Tryz.lays314_ren:={
 mixed:=by kernel_rfl
 f314:=Tryz.func316.trans (congrArg some (by kernel_rfl))
 t3:=Tryz.underlying3
 a3:=Tryz.isAgg3
 z3:=Tryz.sizeOf3
 v3:=Tryz.zeroValue3
 t4:=Tryz.underlying4
 a4:=Tryz.isAgg4
 z4:=Tryz.sizeOf4
 v4:=Tryz.zeroValue4
 t5:=Tryz.underlying5
 a5:=Tryz.isAgg5
 z5:=Tryz.sizeOf5
 v5:=Tryz.zeroValue5
 t9:=Tryz.underlying9
 a9:=Tryz.isAgg9
 z9:=Tryz.sizeOf9
 v9:=Tryz.zeroValue9
 t46:=Tryz.underlying274
 a46:=Tryz.isAgg274
 z46:=Tryz.sizeOf274
 v46:=Tryz.zeroValue274
 t51:=Tryz.underlying387
 a51:=Tryz.isAgg387
 z51:=Tryz.sizeOf387
 v51:=Tryz.zeroValue387 }
open Go.RowKit Go.Lib in
theorem Tryz.bytealg_hashStr (sep:ByteArray) (hs:sep.size < 4294967281) (w:World) :
  Calls Tryz.prog 316 #[.string sep] w fun e w' => e = .returned (.tuple #[.int .u32 (RK.H sep.data.toList % 4294967296), .int .u32 (16777619 ^ sep.size % 4294967296)]) ∧ w' = w:=Any.bytealg_hashStr Tryz.lays314 sep hs w
def Tryz.lays267_ren:Go.Shelf.Ren:=⟨fun | 267 => 301 | 314 => 316 | n => n, fun | 9 => 9 | 3 => 3 | 146 => 410 | 51 => 387 | 4 => 4 | 5 => 5 | 46 => 274 | n => n, fun | n => n⟩
theorem Tryz.lays267:Go.Proofs.Lays.n267 Tryz.prog Tryz.lays267_ren:={
 mixed:=by kernel_rfl
 f267:=Tryz.func301.trans (congrArg some (by kernel_rfl))
 f314:=Tryz.func316.trans (congrArg some (by kernel_rfl))
 t3:=Tryz.underlying3
 a3:=Tryz.isAgg3
 z3:=Tryz.sizeOf3
 v3:=Tryz.zeroValue3
 t4:=Tryz.underlying4
 a4:=Tryz.isAgg4
 z4:=Tryz.sizeOf4
 v4:=Tryz.zeroValue4
 t5:=Tryz.underlying5
 a5:=Tryz.isAgg5
 z5:=Tryz.sizeOf5
 v5:=Tryz.zeroValue5
 t9:=Tryz.underlying9
 a9:=Tryz.isAgg9
 z9:=Tryz.sizeOf9
 v9:=Tryz.zeroValue9
 t46:=Tryz.underlying274
 a46:=Tryz.isAgg274
 z46:=Tryz.sizeOf274
 v46:=Tryz.zeroValue274
 t51:=Tryz.underlying387
 a51:=Tryz.isAgg387
 z51:=Tryz.sizeOf387
 v51:=Tryz.zeroValue387
 t146:=Tryz.underlying410
 a146:=Tryz.isAgg410
 z146:=Tryz.sizeOf410
 v146:=Tryz.zeroValue410 }
open Go.RowKit Go.Lib in
theorem Tryz.bytealg_IndexRabinKarp (s sep:ByteArray) (h1:1 ≤ sep.size) (h2:sep.size ≤ s.size) (hs:s.size < 4294967281) (w:World) :
  Calls Tryz.prog 301 #[.string s, .string sep] w fun e w' => e = .returned (.int .i64 (Lib.index s.data.toList sep.data.toList)) ∧ w' = w:=Any.bytealg_IndexRabinKarp Tryz.lays267 s sep h1 h2 hs w
def Tryz.lays219_ren:Go.Shelf.Ren:=⟨fun | 219 => 260 | 217 => 298 | 225 => 299 | 224 => 300 | 267 => 301 | 266 => 315 | 314 => 316 | n => n, fun | 9 => 9 | 3 => 3 | 4 => 4 | 5 => 5 | 46 => 274 | 146 => 410 | 51 => 387 | n => n, fun | 1 => 0 | n => n⟩
theorem Tryz.lays219:Go.Proofs.Lays.n219 Tryz.prog Tryz.lays219_ren:={
 mixed:=by kernel_rfl
 f217:=Tryz.func298.trans (congrArg some (by kernel_rfl))
 f219:=Tryz.func260.trans (congrArg some (by kernel_rfl))
 f224:=Tryz.func300.trans (congrArg some (by kernel_rfl))
 f225:=Tryz.func299.trans (congrArg some (by kernel_rfl))
 f266:=Tryz.func315.trans (congrArg some (by kernel_rfl))
 f267:=Tryz.func301.trans (congrArg some (by kernel_rfl))
 f314:=Tryz.func316.trans (congrArg some (by kernel_rfl))
 t3:=Tryz.underlying3
 a3:=Tryz.isAgg3
 z3:=Tryz.sizeOf3
 v3:=Tryz.zeroValue3
 t4:=Tryz.underlying4
 a4:=Tryz.isAgg4
 z4:=Tryz.sizeOf4
 v4:=Tryz.zeroValue4
 t5:=Tryz.underlying5
 a5:=Tryz.isAgg5
 z5:=Tryz.sizeOf5
 v5:=Tryz.zeroValue5
 t9:=Tryz.underlying9
 a9:=Tryz.isAgg9
 z9:=Tryz.sizeOf9
 v9:=Tryz.zeroValue9
 t46:=Tryz.underlying274
 a46:=Tryz.isAgg274
 z46:=Tryz.sizeOf274
 v46:=Tryz.zeroValue274
 t51:=Tryz.underlying387
 a51:=Tryz.isAgg387
 z51:=Tryz.sizeOf387
 v51:=Tryz.zeroValue387
 t146:=Tryz.underlying410
 a146:=Tryz.isAgg410
 z146:=Tryz.sizeOf410
 v146:=Tryz.zeroValue410
 g1:=by kernel_rfl }
open Go.RowKit Go.Lib in
theorem Tryz.stringslite_Index_one (s:ByteArray) (c:UInt8) (w:World) :
  Calls Tryz.prog 260 #[.string s, .string ⟨#[c]⟩] w fun e w' => e = .returned (.int .i64 (Lib.indexByte s.data.toList c)) ∧ w' = w:=Any.stringslite_Index_one Tryz.lays219 s c w
open Go.RowKit Go.Lib in
theorem Tryz.stringslite_Index (s sub:ByteArray) (m:Int) (w:World) (hs:s.size < 4294967281) (hm:w.cell? ⟨0, 0, none⟩ = some (.int .i64 m)) :
  Calls Tryz.prog 260 #[.string s, .string sub] w fun e w' => e = .returned (.int .i64 (Lib.index s.data.toList sub.data.toList)) ∧ w' = w:=Any.stringslite_Index Tryz.lays219 s sub m w hs hm
def Tryz.lays143_ren:Go.Shelf.Ren:=⟨fun | 143 => 202 | 219 => 260 | 217 => 298 | 225 => 299 | 224 => 300 | 267 => 301 | 266 => 315 | 314 => 316 | n => n, fun | 9 => 9 | 3 => 3 | 4 => 4 | 5 => 5 | 46 => 274 | 146 => 410 | 51 => 387 | n => n, fun | 1 => 0 | n => n⟩
theorem Tryz.lays143:Go.Proofs.Lays.n143 Tryz.prog Tryz.lays143_ren:={
 mixed:=by kernel_rfl
 f143:=Tryz.func202.trans (congrArg some (by kernel_rfl))
 f217:=Tryz.func298.trans (congrArg some (by kernel_rfl))
 f219:=Tryz.func260.trans (congrArg some (by kernel_rfl))
 f224:=Tryz.func300.trans (congrArg some (by kernel_rfl))
 f225:=Tryz.func299.trans (congrArg some (by kernel_rfl))
 f266:=Tryz.func315.trans (congrArg some (by kernel_rfl))
 f267:=Tryz.func301.trans (congrArg some (by kernel_rfl))
 f314:=Tryz.func316.trans (congrArg some (by kernel_rfl))
 t3:=Tryz.underlying3
 a3:=Tryz.isAgg3
 z3:=Tryz.sizeOf3
 v3:=Tryz.zeroValue3
 t4:=Tryz.underlying4
 a4:=Tryz.isAgg4
 z4:=Tryz.sizeOf4
 v4:=Tryz.zeroValue4
 t5:=Tryz.underlying5
 a5:=Tryz.isAgg5
 z5:=Tryz.sizeOf5
 v5:=Tryz.zeroValue5
 t9:=Tryz.underlying9
 a9:=Tryz.isAgg9
 z9:=Tryz.sizeOf9
 v9:=Tryz.zeroValue9
 t46:=Tryz.underlying274
 a46:=Tryz.isAgg274
 z46:=Tryz.sizeOf274
 v46:=Tryz.zeroValue274
 t51:=Tryz.underlying387
 a51:=Tryz.isAgg387
 z51:=Tryz.sizeOf387
 v51:=Tryz.zeroValue387
 t146:=Tryz.underlying410
 a146:=Tryz.isAgg410
 z146:=Tryz.sizeOf410
 v146:=Tryz.zeroValue410
 g1:=by kernel_rfl }
open Go.RowKit Go.Lib in
theorem Tryz.strings_Index_one (s:ByteArray) (c:UInt8) (w:World) :
  Calls Tryz.prog 202 #[.string s, .string ⟨#[c]⟩] w fun e w' => e = .returned (.int .i64 (Lib.indexByte s.data.toList c)) ∧ w' = w:=Any.strings_Index_one Tryz.lays143 s c w
open Go.RowKit Go.Lib in
theorem Tryz.strings_Index (s sub:ByteArray) (m:Int) (w:World) (hs:s.size < 4294967281) (hm:w.cell? ⟨0, 0, none⟩ = some (.int .i64 m)) :
  Calls Tryz.prog 202 #[.string s, .string sub] w fun e w' => e = .returned (.int .i64 (Lib.index s.data.toList sub.data.toList)) ∧ w' = w:=Any.strings_Index Tryz.lays143 s sub m w hs hm
def Tryz.lays144_ren:Go.Shelf.Ren:=⟨fun | 144 => 132 | 143 => 202 | 219 => 260 | 217 => 298 | 225 => 299 | 224 => 300 | 267 => 301 | 266 => 315 | 314 => 316 | n => n, fun | 9 => 9 | 4 => 4 | 3 => 3 | 5 => 5 | 46 => 274 | 146 => 410 | 51 => 387 | n => n, fun | 1 => 0 | n => n⟩
theorem Tryz.lays144:Go.Proofs.Lays.n144 Tryz.prog Tryz.lays144_ren:={
 mixed:=by kernel_rfl
 f143:=Tryz.func202.trans (congrArg some (by kernel_rfl))
 f144:=Tryz.func132.trans (congrArg some (by kernel_rfl))
 f217:=Tryz.func298.trans (congrArg some (by kernel_rfl))
 f219:=Tryz.func260.trans (congrArg some (by kernel_rfl))
 f224:=Tryz.func300.trans (congrArg some (by kernel_rfl))
 f225:=Tryz.func299.trans (congrArg some (by kernel_rfl))
 f266:=Tryz.func315.trans (congrArg some (by kernel_rfl))
 f267:=Tryz.func301.trans (congrArg some (by kernel_rfl))
 f314:=Tryz.func316.trans (congrArg some (by kernel_rfl))
 t3:=Tryz.underlying3
 a3:=Tryz.isAgg3
 z3:=Tryz.sizeOf3
 v3:=Tryz.zeroValue3
 t4:=Tryz.underlying4
 a4:=Tryz.isAgg4
 z4:=Tryz.sizeOf4
 v4:=Tryz.zeroValue4
 t5:=Tryz.underlying5
 a5:=Tryz.isAgg5
 z5:=Tryz.sizeOf5
 v5:=Tryz.zeroValue5
 t9:=Tryz.underlying9
 a9:=Tryz.isAgg9
 z9:=Tryz.sizeOf9
 v9:=Tryz.zeroValue9
 t46:=Tryz.underlying274
 a46:=Tryz.isAgg274
 z46:=Tryz.sizeOf274
 v46:=Tryz.zeroValue274
 t51:=Tryz.underlying387
 a51:=Tryz.isAgg387
 z51:=Tryz.sizeOf387
 v51:=Tryz.zeroValue387
 t146:=Tryz.underlying410
 a146:=Tryz.isAgg410
 z146:=Tryz.sizeOf410
 v146:=Tryz.zeroValue410
 g1:=by kernel_rfl }
open Go.RowKit Go.Lib in
theorem Tryz.strings_Contains_one (s:ByteArray) (c:UInt8) (w:World) :
  Calls Tryz.prog 132 #[.string s, .string ⟨#[c]⟩] w fun e w' => e = .returned (.bool (decide (0 ≤ Lib.indexByte s.data.toList c))) ∧ w' = w:=Any.strings_Contains_one Tryz.lays144 s c w
open Go.RowKit Go.Lib in
theorem Tryz.strings_Contains (s sub:ByteArray) (m:Int) (w:World) (hs:s.size < 4294967281) (hm:w.cell? ⟨0, 0, none⟩ = some (.int .i64 m)) :
  Calls Tryz.prog 132 #[.string s, .string sub] w fun e w' => e = .returned (.bool (Lib.contains s.data.toList sub.data.toList)) ∧ w' = w:=Any.strings_Contains Tryz.lays144 s sub m w hs hm
def Tryz.lays220_ren:Go.Shelf.Ren:=⟨fun | 220 => 201 | 219 => 260 | 217 => 298 | 225 => 299 | 224 => 300 | 267 => 301 | 266 => 315 | 314 => 316 | n => n, fun | 9 => 9 | 4 => 4 | 3 => 3 | 5 => 5 | 46 => 274 | 146 => 410 | 51 => 387 | n => n, fun | 1 => 0 | n => n⟩
theorem Tryz.lays220:Go.Proofs.Lays.n220 Tryz.prog Tryz.lays220_ren:={
 mixed:=by kernel_rfl
 f217:=Tryz.func298.trans (congrArg some (by kernel_rfl))
 f219:=Tryz.func260.trans (congrArg some (by kernel_rfl))
 f220:=Tryz.func201.trans (congrArg some (by kernel_rfl))
 f224:=Tryz.func300.trans (congrArg some (by kernel_rfl))
 f225:=Tryz.func299.trans (congrArg some (by kernel_rfl))
 f266:=Tryz.func315.trans (congrArg some (by kernel_rfl))
 f267:=Tryz.func301.trans (congrArg some (by kernel_rfl))
 f314:=Tryz.func316.trans (congrArg some (by kernel_rfl))
 t3:=Tryz.underlying3
 a3:=Tryz.isAgg3
 z3:=Tryz.sizeOf3
 v3:=Tryz.zeroValue3
 t4:=Tryz.underlying4
 a4:=Tryz.isAgg4
 z4:=Tryz.sizeOf4
 v4:=Tryz.zeroValue4
 t5:=Tryz.underlying5
 a5:=Tryz.isAgg5
 z5:=Tryz.sizeOf5
 v5:=Tryz.zeroValue5
 t9:=Tryz.underlying9
 a9:=Tryz.isAgg9
 z9:=Tryz.sizeOf9
 v9:=Tryz.zeroValue9
 t46:=Tryz.underlying274
 a46:=Tryz.isAgg274
 z46:=Tryz.sizeOf274
 v46:=Tryz.zeroValue274
 t51:=Tryz.underlying387
 a51:=Tryz.isAgg387
 z51:=Tryz.sizeOf387
 v51:=Tryz.zeroValue387
 t146:=Tryz.underlying410
 a146:=Tryz.isAgg410
 z146:=Tryz.sizeOf410
 v146:=Tryz.zeroValue410
 g1:=by kernel_rfl }
open Go.RowKit Go.Lib in
theorem Tryz.stringslite_Cut (s sep:ByteArray) (m:Int) (w:World) (hs:s.size < 4294967281) (hm:w.cell? ⟨0, 0, none⟩ = some (.int .i64 m)) :
  Calls Tryz.prog 201 #[.string s, .string sep] w fun e w' => e = .returned (.tuple #[.string ⟨(Lib.cut s.data.toList sep.data.toList).1.toArray⟩, .string ⟨(Lib.cut s.data.toList sep.data.toList).2.1.toArray⟩, .bool (Lib.cut s.data.toList sep.data.toList).2.2]) ∧ ∃ n, w' = w.drewN n:=Any.stringslite_Cut Tryz.lays220 s sep m w hs hm
def Tryz.lays145_ren:Go.Shelf.Ren:=⟨fun | 145 => 131 | 220 => 201 | 219 => 260 | 217 => 298 | 225 => 299 | 224 => 300 | 267 => 301 | 266 => 315 | 314 => 316 | n => n, fun | 9 => 9 | 4 => 4 | 59 => 243 | 3 => 3 | 5 => 5 | 46 => 274 | 146 => 410 | 51 => 387 | n => n, fun | 1 => 0 | n => n⟩
theorem Tryz.lays145:Go.Proofs.Lays.n145 Tryz.prog Tryz.lays145_ren:={
 mixed:=by kernel_rfl
 f145:=Tryz.func131.trans (congrArg some (by kernel_rfl))
 f217:=Tryz.func298.trans (congrArg some (by kernel_rfl))
 f219:=Tryz.func260.trans (congrArg some (by kernel_rfl))
 f220:=Tryz.func201.trans (congrArg some (by kernel_rfl))
 f224:=Tryz.func300.trans (congrArg some (by kernel_rfl))
 f225:=Tryz.func299.trans (congrArg some (by kernel_rfl))
 f266:=Tryz.func315.trans (congrArg some (by kernel_rfl))
 f267:=Tryz.func301.trans (congrArg some (by kernel_rfl))
 f314:=Tryz.func316.trans (congrArg some (by kernel_rfl))
 t3:=Tryz.underlying3
 a3:=Tryz.isAgg3
 z3:=Tryz.sizeOf3
 v3:=Tryz.zeroValue3
 t4:=Tryz.underlying4
 a4:=Tryz.isAgg4
 z4:=Tryz.sizeOf4
 v4:=Tryz.zeroValue4
 t5:=Tryz.underlying5
 a5:=Tryz.isAgg5
 z5:=Tryz.sizeOf5
 v5:=Tryz.zeroValue5
 t9:=Tryz.underlying9
 a9:=Tryz.isAgg9
 z9:=Tryz.sizeOf9
 v9:=Tryz.zeroValue9
 t46:=Tryz.underlying274
 a46:=Tryz.isAgg274
 z46:=Tryz.sizeOf274
 v46:=Tryz.zeroValue274
 t51:=Tryz.underlying387
 a51:=Tryz.isAgg387
 z51:=Tryz.sizeOf387
 v51:=Tryz.zeroValue387
 t59:=Tryz.underlying243
 a59:=Tryz.isAgg243
 z59:=Tryz.sizeOf243
 v59:=Tryz.zeroValue243
 t146:=Tryz.underlying410
 a146:=Tryz.isAgg410
 z146:=Tryz.sizeOf410
 v146:=Tryz.zeroValue410
 g1:=by kernel_rfl }
open Go.RowKit Go.Lib in
theorem Tryz.strings_Cut (s sep:ByteArray) (m:Int) (w:World) (hs:s.size < 4294967281) (hm:w.cell? ⟨0, 0, none⟩ = some (.int .i64 m)) :
  Calls Tryz.prog 131 #[.string s, .string sep] w fun e w' => e = .returned (.tuple #[.string ⟨(Lib.cut s.data.toList sep.data.toList).1.toArray⟩, .string ⟨(Lib.cut s.data.toList sep.data.toList).2.1.toArray⟩, .bool (Lib.cut s.data.toList sep.data.toList).2.2]) ∧ ∃ n, w' = w.drewN n:=Any.strings_Cut Tryz.lays145 s sep m w hs hm
def Tryz.lays138_ren:Go.Shelf.Ren:=⟨fun | 138 => 262 | 195 => 302 | 218 => 303 | 143 => 202 | 219 => 260 | 217 => 298 | 225 => 299 | 224 => 300 | 267 => 301 | 266 => 315 | 314 => 316 | n => n, fun | 9 => 9 | 3 => 3 | 4 => 4 | 5 => 5 | 0 => 0 | 46 => 274 | 146 => 410 | 51 => 387 | n => n, fun | 1 => 0 | n => n⟩
theorem Tryz.lays138:Go.Proofs.Lays.n138 Tryz.prog Tryz.lays138_ren:={
 mixed:=by kernel_rfl
 f138:=Tryz.func262.trans (congrArg some (by kernel_rfl))
 f143:=Tryz.func202.trans (congrArg some (by kernel_rfl))
 f195:=Tryz.func302.trans (congrArg some (by kernel_rfl))
 f217:=Tryz.func298.trans (congrArg some (by kernel_rfl))
 f218:=Tryz.func303.trans (congrArg some (by kernel_rfl))
 f219:=Tryz.func260.trans (congrArg some (by kernel_rfl))
 f224:=Tryz.func300.trans (congrArg some (by kernel_rfl))
 f225:=Tryz.func299.trans (congrArg some (by kernel_rfl))
 f266:=Tryz.func315.trans (congrArg some (by kernel_rfl))
 f267:=Tryz.func301.trans (congrArg some (by kernel_rfl))
 f314:=Tryz.func316.trans (congrArg some (by kernel_rfl))
 t0:=Tryz.underlying0
 a0:=Tryz.isAgg0
 z0:=Tryz.sizeOf0
 v0:=Tryz.zeroValue0
 t3:=Tryz.underlying3
 a3:=Tryz.isAgg3
 z3:=Tryz.sizeOf3
 v3:=Tryz.zeroValue3
 t4:=Tryz.underlying4
 a4:=Tryz.isAgg4
 z4:=Tryz.sizeOf4
 v4:=Tryz.zeroValue4
 t5:=Tryz.underlying5
 a5:=Tryz.isAgg5
 z5:=Tryz.sizeOf5
 v5:=Tryz.zeroValue5
 t9:=Tryz.underlying9
 a9:=Tryz.isAgg9
 z9:=Tryz.sizeOf9
 v9:=Tryz.zeroValue9
 t46:=Tryz.underlying274
 a46:=Tryz.isAgg274
 z46:=Tryz.sizeOf274
 v46:=Tryz.zeroValue274
 t51:=Tryz.underlying387
 a51:=Tryz.isAgg387
 z51:=Tryz.sizeOf387
 v51:=Tryz.zeroValue387
 t146:=Tryz.underlying410
 a146:=Tryz.isAgg410
 z146:=Tryz.sizeOf410
 v146:=Tryz.zeroValue410
 g1:=by kernel_rfl }
open Go.RowKit Go.Lib in
theorem Tryz.strings_Count_one (s:ByteArray) (c:UInt8) (w:World) :
  Calls Tryz.prog 262 #[.string s, .string ⟨#[c]⟩] w fun e w' => e = .returned (.int .i64 (Lib.countByte s.data.toList c)) ∧ w' = w:=Any.strings_Count_one Tryz.lays138 s c w
open Go.RowKit Go.Lib in
theorem Tryz.strings_Count (s sub:ByteArray) (m:Int) (w:World) (hs:s.size < 4294967281) (hm:w.cell? ⟨0, 0, none⟩ = some (.int .i64 m)) (h2:2 ≤ sub.size) :
  Calls Tryz.prog 262 #[.string s, .string sub] w fun e w' => e = .returned (.int .i64 (Lib.countB s sub)) ∧ w' = w:=Any.strings_Count Tryz.lays138 s sub m w hs hm h2
def Tryz.laysM219_ren:Go.Shelf.Ren:=⟨fun | 219 => 260 | 217 => 298 | 225 => 299 | 224 => 300 | 267 => 301 | 266 => 315 | 314 => 316 | n => n, fun | 9 => 9 | 3 => 3 | 4 => 4 | 5 => 5 | 46 => 274 | 146 => 410 | 51 => 387 | n => n, fun | 1 => 0 | n => n⟩
theorem Tryz.laysM219:Go.Proofs.LaysM.n219 Tryz.prog Tryz.laysM219_ren:={
 mixed:=by kernel_rfl
 f217:=Tryz.func298.trans (congrArg some (by kernel_rfl))
 f219:=Tryz.func260.trans (congrArg some (by kernel_rfl))
 f224:=Tryz.func300.trans (congrArg some (by kernel_rfl))
 f225:=Tryz.func299.trans (congrArg some (by kernel_rfl))
 f266:=Tryz.func315.trans (congrArg some (by kernel_rfl))
 f267:=Tryz.func301.trans (congrArg some (by kernel_rfl))
 f314:=Tryz.func316.trans (congrArg some (by kernel_rfl))
 t3:=Tryz.underlying3
 a3:=Tryz.isAgg3
 z3:=Tryz.sizeOf3
 v3:=Tryz.zeroValue3
 t4:=Tryz.underlying4
 a4:=Tryz.isAgg4
 z4:=Tryz.sizeOf4
 v4:=Tryz.zeroValue4
 t5:=Tryz.underlying5
 a5:=Tryz.isAgg5
 z5:=Tryz.sizeOf5
 v5:=Tryz.zeroValue5
 t9:=Tryz.underlying9
 a9:=Tryz.isAgg9
 z9:=Tryz.sizeOf9
 v9:=Tryz.zeroValue9
 t46:=Tryz.underlying274
 a46:=Tryz.isAgg274
 z46:=Tryz.sizeOf274
 v46:=Tryz.zeroValue274
 t51:=Tryz.underlying387
 a51:=Tryz.isAgg387
 z51:=Tryz.sizeOf387
 v51:=Tryz.zeroValue387
 t146:=Tryz.underlying410
 a146:=Tryz.isAgg410
 z146:=Tryz.sizeOf410
 v146:=Tryz.zeroValue410
 g1:=by kernel_rfl
 i3:=by kernel_rfl
 i4:=by kernel_rfl
 i5:=by kernel_rfl
 i9:=by kernel_rfl
 i46:=by kernel_rfl
 i51:=by kernel_rfl
 i146:=by kernel_rfl
 m1:=by kernel_rfl
 s1_3:=fun w h => Go.Proofs.cell_of_shapedOpen_int (zero:=#[.int .i64 0]) (t:=3) h (of_decide_eq_true (by kernel_rfl)) (by kernel_rfl) rfl (by kernel_rfl) (by kernel_rfl) Tryz.underlying3 }
open Go.RowKit Go.Lib in
theorem Tryz.stringslite_Index_shaped (s sub:ByteArray) (w:World) (h:w.ShapedOpen Tryz.prog) (hs:s.size < 4294967281) :
  Calls Tryz.prog 260 #[.string s, .string sub] w fun e w' => e = .returned (.int .i64 (Lib.index s.data.toList sub.data.toList)) ∧ w' = w:=Any.stringslite_Index_shaped Tryz.laysM219 s sub w h hs
def Tryz.laysM143_ren:Go.Shelf.Ren:=⟨fun | 143 => 202 | 219 => 260 | 217 => 298 | 225 => 299 | 224 => 300 | 267 => 301 | 266 => 315 | 314 => 316 | n => n, fun | 9 => 9 | 3 => 3 | 4 => 4 | 5 => 5 | 46 => 274 | 146 => 410 | 51 => 387 | n => n, fun | 1 => 0 | n => n⟩
theorem Tryz.laysM143:Go.Proofs.LaysM.n143 Tryz.prog Tryz.laysM143_ren:={
 mixed:=by kernel_rfl
 f143:=Tryz.func202.trans (congrArg some (by kernel_rfl))
 f217:=Tryz.func298.trans (congrArg some (by kernel_rfl))
 f219:=Tryz.func260.trans (congrArg some (by kernel_rfl))
 f224:=Tryz.func300.trans (congrArg some (by kernel_rfl))
 f225:=Tryz.func299.trans (congrArg some (by kernel_rfl))
 f266:=Tryz.func315.trans (congrArg some (by kernel_rfl))
 f267:=Tryz.func301.trans (congrArg some (by kernel_rfl))
 f314:=Tryz.func316.trans (congrArg some (by kernel_rfl))
 t3:=Tryz.underlying3
 a3:=Tryz.isAgg3
 z3:=Tryz.sizeOf3
 v3:=Tryz.zeroValue3
 t4:=Tryz.underlying4
 a4:=Tryz.isAgg4
 z4:=Tryz.sizeOf4
 v4:=Tryz.zeroValue4
 t5:=Tryz.underlying5
 a5:=Tryz.isAgg5
 z5:=Tryz.sizeOf5
 v5:=Tryz.zeroValue5
 t9:=Tryz.underlying9
 a9:=Tryz.isAgg9
 z9:=Tryz.sizeOf9
 v9:=Tryz.zeroValue9
 t46:=Tryz.underlying274
 a46:=Tryz.isAgg274
 z46:=Tryz.sizeOf274
 v46:=Tryz.zeroValue274
 t51:=Tryz.underlying387
 a51:=Tryz.isAgg387
 z51:=Tryz.sizeOf387
 v51:=Tryz.zeroValue387
 t146:=Tryz.underlying410
 a146:=Tryz.isAgg410
 z146:=Tryz.sizeOf410
 v146:=Tryz.zeroValue410
 g1:=by kernel_rfl
 i3:=by kernel_rfl
 i4:=by kernel_rfl
 i5:=by kernel_rfl
 i9:=by kernel_rfl
 i46:=by kernel_rfl
 i51:=by kernel_rfl
 i146:=by kernel_rfl
 m1:=by kernel_rfl
 s1_3:=fun w h => Go.Proofs.cell_of_shapedOpen_int (zero:=#[.int .i64 0]) (t:=3) h (of_decide_eq_true (by kernel_rfl)) (by kernel_rfl) rfl (by kernel_rfl) (by kernel_rfl) Tryz.underlying3 }
open Go.RowKit Go.Lib in
theorem Tryz.strings_Index_shaped (s sub:ByteArray) (w:World) (h:w.ShapedOpen Tryz.prog) (hs:s.size < 4294967281) :
  Calls Tryz.prog 202 #[.string s, .string sub] w fun e w' => e = .returned (.int .i64 (Lib.index s.data.toList sub.data.toList)) ∧ w' = w:=Any.strings_Index_shaped Tryz.laysM143 s sub w h hs
def Tryz.laysM144_ren:Go.Shelf.Ren:=⟨fun | 144 => 132 | 143 => 202 | 219 => 260 | 217 => 298 | 225 => 299 | 224 => 300 | 267 => 301 | 266 => 315 | 314 => 316 | n => n, fun | 9 => 9 | 4 => 4 | 3 => 3 | 5 => 5 | 46 => 274 | 146 => 410 | 51 => 387 | n => n, fun | 1 => 0 | n => n⟩
theorem Tryz.laysM144:Go.Proofs.LaysM.n144 Tryz.prog Tryz.laysM144_ren:={
 mixed:=by kernel_rfl
 f143:=Tryz.func202.trans (congrArg some (by kernel_rfl))
 f144:=Tryz.func132.trans (congrArg some (by kernel_rfl))
 f217:=Tryz.func298.trans (congrArg some (by kernel_rfl))
 f219:=Tryz.func260.trans (congrArg some (by kernel_rfl))
 f224:=Tryz.func300.trans (congrArg some (by kernel_rfl))
 f225:=Tryz.func299.trans (congrArg some (by kernel_rfl))
 f266:=Tryz.func315.trans (congrArg some (by kernel_rfl))
 f267:=Tryz.func301.trans (congrArg some (by kernel_rfl))
 f314:=Tryz.func316.trans (congrArg some (by kernel_rfl))
 t3:=Tryz.underlying3
 a3:=Tryz.isAgg3
 z3:=Tryz.sizeOf3
 v3:=Tryz.zeroValue3
 t4:=Tryz.underlying4
 a4:=Tryz.isAgg4
 z4:=Tryz.sizeOf4
 v4:=Tryz.zeroValue4
 t5:=Tryz.underlying5
 a5:=Tryz.isAgg5
 z5:=Tryz.sizeOf5
 v5:=Tryz.zeroValue5
 t9:=Tryz.underlying9
 a9:=Tryz.isAgg9
 z9:=Tryz.sizeOf9
 v9:=Tryz.zeroValue9
 t46:=Tryz.underlying274
 a46:=Tryz.isAgg274
 z46:=Tryz.sizeOf274
 v46:=Tryz.zeroValue274
 t51:=Tryz.underlying387
 a51:=Tryz.isAgg387
 z51:=Tryz.sizeOf387
 v51:=Tryz.zeroValue387
 t146:=Tryz.underlying410
 a146:=Tryz.isAgg410
 z146:=Tryz.sizeOf410
 v146:=Tryz.zeroValue410
 g1:=by kernel_rfl
 i3:=by kernel_rfl
 i4:=by kernel_rfl
 i5:=by kernel_rfl
 i9:=by kernel_rfl
 i46:=by kernel_rfl
 i51:=by kernel_rfl
 i146:=by kernel_rfl
 m1:=by kernel_rfl
 s1_3:=fun w h => Go.Proofs.cell_of_shapedOpen_int (zero:=#[.int .i64 0]) (t:=3) h (of_decide_eq_true (by kernel_rfl)) (by kernel_rfl) rfl (by kernel_rfl) (by kernel_rfl) Tryz.underlying3 }
open Go.RowKit Go.Lib in
theorem Tryz.strings_Contains_shaped (s sub:ByteArray) (w:World) (h:w.ShapedOpen Tryz.prog) (hs:s.size < 4294967281) :
  Calls Tryz.prog 132 #[.string s, .string sub] w fun e w' => e = .returned (.bool (Lib.contains s.data.toList sub.data.toList)) ∧ w' = w:=Any.strings_Contains_shaped Tryz.laysM144 s sub w h hs
def Tryz.laysM220_ren:Go.Shelf.Ren:=⟨fun | 220 => 201 | 219 => 260 | 217 => 298 | 225 => 299 | 224 => 300 | 267 => 301 | 266 => 315 | 314 => 316 | n => n, fun | 9 => 9 | 4 => 4 | 3 => 3 | 5 => 5 | 46 => 274 | 146 => 410 | 51 => 387 | n => n, fun | 1 => 0 | n => n⟩
theorem Tryz.laysM220:Go.Proofs.LaysM.n220 Tryz.prog Tryz.laysM220_ren:={
 mixed:=by kernel_rfl
 f217:=Tryz.func298.trans (congrArg some (by kernel_rfl))
 f219:=Tryz.func260.trans (congrArg some (by kernel_rfl))
 f220:=Tryz.func201.trans (congrArg some (by kernel_rfl))
 f224:=Tryz.func300.trans (congrArg some (by kernel_rfl))
 f225:=Tryz.func299.trans (congrArg some (by kernel_rfl))
 f266:=Tryz.func315.trans (congrArg some (by kernel_rfl))
 f267:=Tryz.func301.trans (congrArg some (by kernel_rfl))
 f314:=Tryz.func316.trans (congrArg some (by kernel_rfl))
 t3:=Tryz.underlying3
 a3:=Tryz.isAgg3
 z3:=Tryz.sizeOf3
 v3:=Tryz.zeroValue3
 t4:=Tryz.underlying4
 a4:=Tryz.isAgg4
 z4:=Tryz.sizeOf4
 v4:=Tryz.zeroValue4
 t5:=Tryz.underlying5
 a5:=Tryz.isAgg5
 z5:=Tryz.sizeOf5
 v5:=Tryz.zeroValue5
 t9:=Tryz.underlying9
 a9:=Tryz.isAgg9
 z9:=Tryz.sizeOf9
 v9:=Tryz.zeroValue9
 t46:=Tryz.underlying274
 a46:=Tryz.isAgg274
 z46:=Tryz.sizeOf274
 v46:=Tryz.zeroValue274
 t51:=Tryz.underlying387
 a51:=Tryz.isAgg387
 z51:=Tryz.sizeOf387
 v51:=Tryz.zeroValue387
 t146:=Tryz.underlying410
 a146:=Tryz.isAgg410
 z146:=Tryz.sizeOf410
 v146:=Tryz.zeroValue410
 g1:=by kernel_rfl
 i3:=by kernel_rfl
 i4:=by kernel_rfl
 i5:=by kernel_rfl
 i9:=by kernel_rfl
 i46:=by kernel_rfl
 i51:=by kernel_rfl
 i146:=by kernel_rfl
 m1:=by kernel_rfl
 s1_3:=fun w h => Go.Proofs.cell_of_shapedOpen_int (zero:=#[.int .i64 0]) (t:=3) h (of_decide_eq_true (by kernel_rfl)) (by kernel_rfl) rfl (by kernel_rfl) (by kernel_rfl) Tryz.underlying3 }
open Go.RowKit Go.Lib in
theorem Tryz.stringslite_Cut_shaped (s sep:ByteArray) (w:World) (h:w.ShapedOpen Tryz.prog) (hs:s.size < 4294967281) :
  Calls Tryz.prog 201 #[.string s, .string sep] w fun e w' => e = .returned (.tuple #[.string ⟨(Lib.cut s.data.toList sep.data.toList).1.toArray⟩, .string ⟨(Lib.cut s.data.toList sep.data.toList).2.1.toArray⟩, .bool (Lib.cut s.data.toList sep.data.toList).2.2]) ∧ ∃ n, w' = w.drewN n:=Any.stringslite_Cut_shaped Tryz.laysM220 s sep w h hs
def Tryz.laysM145_ren:Go.Shelf.Ren:=⟨fun | 145 => 131 | 220 => 201 | 219 => 260 | 217 => 298 | 225 => 299 | 224 => 300 | 267 => 301 | 266 => 315 | 314 => 316 | n => n, fun | 9 => 9 | 4 => 4 | 59 => 243 | 3 => 3 | 5 => 5 | 46 => 274 | 146 => 410 | 51 => 387 | n => n, fun | 1 => 0 | n => n⟩
theorem Tryz.laysM145:Go.Proofs.LaysM.n145 Tryz.prog Tryz.laysM145_ren:={
 mixed:=by kernel_rfl
 f145:=Tryz.func131.trans (congrArg some (by kernel_rfl))
 f217:=Tryz.func298.trans (congrArg some (by kernel_rfl))
 f219:=Tryz.func260.trans (congrArg some (by kernel_rfl))
 f220:=Tryz.func201.trans (congrArg some (by kernel_rfl))
 f224:=Tryz.func300.trans (congrArg some (by kernel_rfl))
 f225:=Tryz.func299.trans (congrArg some (by kernel_rfl))
 f266:=Tryz.func315.trans (congrArg some (by kernel_rfl))
 f267:=Tryz.func301.trans (congrArg some (by kernel_rfl))
 f314:=Tryz.func316.trans (congrArg some (by kernel_rfl))
 t3:=Tryz.underlying3
 a3:=Tryz.isAgg3
 z3:=Tryz.sizeOf3
 v3:=Tryz.zeroValue3
 t4:=Tryz.underlying4
 a4:=Tryz.isAgg4
 z4:=Tryz.sizeOf4
 v4:=Tryz.zeroValue4
 t5:=Tryz.underlying5
 a5:=Tryz.isAgg5
 z5:=Tryz.sizeOf5
 v5:=Tryz.zeroValue5
 t9:=Tryz.underlying9
 a9:=Tryz.isAgg9
 z9:=Tryz.sizeOf9
 v9:=Tryz.zeroValue9
 t46:=Tryz.underlying274
 a46:=Tryz.isAgg274
 z46:=Tryz.sizeOf274
 v46:=Tryz.zeroValue274
 t51:=Tryz.underlying387
 a51:=Tryz.isAgg387
 z51:=Tryz.sizeOf387
 v51:=Tryz.zeroValue387
 t59:=Tryz.underlying243
 a59:=Tryz.isAgg243
 z59:=Tryz.sizeOf243
 v59:=Tryz.zeroValue243
 t146:=Tryz.underlying410
 a146:=Tryz.isAgg410
 z146:=Tryz.sizeOf410
 v146:=Tryz.zeroValue410
 g1:=by kernel_rfl
 i3:=by kernel_rfl
 i4:=by kernel_rfl
 i5:=by kernel_rfl
 i9:=by kernel_rfl
 i46:=by kernel_rfl
 i51:=by kernel_rfl
 i59:=by kernel_rfl
 i146:=by kernel_rfl
 m1:=by kernel_rfl
 s1_3:=fun w h => Go.Proofs.cell_of_shapedOpen_int (zero:=#[.int .i64 0]) (t:=3) h (of_decide_eq_true (by kernel_rfl)) (by kernel_rfl) rfl (by kernel_rfl) (by kernel_rfl) Tryz.underlying3 }
open Go.RowKit Go.Lib in
theorem Tryz.strings_Cut_shaped (s sep:ByteArray) (w:World) (h:w.ShapedOpen Tryz.prog) (hs:s.size < 4294967281) :
  Calls Tryz.prog 131 #[.string s, .string sep] w fun e w' => e = .returned (.tuple #[.string ⟨(Lib.cut s.data.toList sep.data.toList).1.toArray⟩, .string ⟨(Lib.cut s.data.toList sep.data.toList).2.1.toArray⟩, .bool (Lib.cut s.data.toList sep.data.toList).2.2]) ∧ ∃ n, w' = w.drewN n:=Any.strings_Cut_shaped Tryz.laysM145 s sep w h hs
def Tryz.laysM138_ren:Go.Shelf.Ren:=⟨fun | 138 => 262 | 195 => 302 | 218 => 303 | 143 => 202 | 219 => 260 | 217 => 298 | 225 => 299 | 224 => 300 | 267 => 301 | 266 => 315 | 314 => 316 | n => n, fun | 9 => 9 | 3 => 3 | 4 => 4 | 5 => 5 | 0 => 0 | 46 => 274 | 146 => 410 | 51 => 387 | n => n, fun | 1 => 0 | n => n⟩
theorem Tryz.laysM138:Go.Proofs.LaysM.n138 Tryz.prog Tryz.laysM138_ren:={
 mixed:=by kernel_rfl
 f138:=Tryz.func262.trans (congrArg some (by kernel_rfl))
 f143:=Tryz.func202.trans (congrArg some (by kernel_rfl))
 f195:=Tryz.func302.trans (congrArg some (by kernel_rfl))
 f217:=Tryz.func298.trans (congrArg some (by kernel_rfl))
 f218:=Tryz.func303.trans (congrArg some (by kernel_rfl))
 f219:=Tryz.func260.trans (congrArg some (by kernel_rfl))
 f224:=Tryz.func300.trans (congrArg some (by kernel_rfl))
 f225:=Tryz.func299.trans (congrArg some (by kernel_rfl))
 f266:=Tryz.func315.trans (congrArg some (by kernel_rfl))
 f267:=Tryz.func301.trans (congrArg some (by kernel_rfl))
 f314:=Tryz.func316.trans (congrArg some (by kernel_rfl))
 t0:=Tryz.underlying0
 a0:=Tryz.isAgg0
 z0:=Tryz.sizeOf0
 v0:=Tryz.zeroValue0
 t3:=Tryz.underlying3
 a3:=Tryz.isAgg3
 z3:=Tryz.sizeOf3
 v3:=Tryz.zeroValue3
 t4:=Tryz.underlying4
 a4:=Tryz.isAgg4
 z4:=Tryz.sizeOf4
 v4:=Tryz.zeroValue4
 t5:=Tryz.underlying5
 a5:=Tryz.isAgg5
 z5:=Tryz.sizeOf5
 v5:=Tryz.zeroValue5
 t9:=Tryz.underlying9
 a9:=Tryz.isAgg9
 z9:=Tryz.sizeOf9
 v9:=Tryz.zeroValue9
 t46:=Tryz.underlying274
 a46:=Tryz.isAgg274
 z46:=Tryz.sizeOf274
 v46:=Tryz.zeroValue274
 t51:=Tryz.underlying387
 a51:=Tryz.isAgg387
 z51:=Tryz.sizeOf387
 v51:=Tryz.zeroValue387
 t146:=Tryz.underlying410
 a146:=Tryz.isAgg410
 z146:=Tryz.sizeOf410
 v146:=Tryz.zeroValue410
 g1:=by kernel_rfl
 i0:=by kernel_rfl
 i3:=by kernel_rfl
 i4:=by kernel_rfl
 i5:=by kernel_rfl
 i9:=by kernel_rfl
 i46:=by kernel_rfl
 i51:=by kernel_rfl
 i146:=by kernel_rfl
 m1:=by kernel_rfl
 s1_3:=fun w h => Go.Proofs.cell_of_shapedOpen_int (zero:=#[.int .i64 0]) (t:=3) h (of_decide_eq_true (by kernel_rfl)) (by kernel_rfl) rfl (by kernel_rfl) (by kernel_rfl) Tryz.underlying3 }
open Go.RowKit Go.Lib in
theorem Tryz.strings_Count_shaped (s sub:ByteArray) (w:World) (h:w.ShapedOpen Tryz.prog) (hs:s.size < 4294967281) (h2:2 ≤ sub.size) :
  Calls Tryz.prog 262 #[.string s, .string sub] w fun e w' => e = .returned (.int .i64 (Lib.countB s sub)) ∧ w' = w:=Any.strings_Count_shaped Tryz.laysM138 s sub w h hs h2
def Tryz.lays207_ren:Go.Shelf.Ren:=⟨fun | 207 => 259 | n => n, fun | 9 => 9 | 4 => 4 | 3 => 3 | n => n, fun | n => n⟩
theorem Tryz.lays207:Go.Proofs.Lays.n207 Tryz.prog Tryz.lays207_ren:={
 mixed:=by kernel_rfl
 f207:=Tryz.func259.trans (congrArg some (by kernel_rfl))
 t3:=Tryz.underlying3
 a3:=Tryz.isAgg3
 z3:=Tryz.sizeOf3
 v3:=Tryz.zeroValue3
 t4:=Tryz.underlying4
 a4:=Tryz.isAgg4
 z4:=Tryz.sizeOf4
 v4:=Tryz.zeroValue4
 t9:=Tryz.underlying9
 a9:=Tryz.isAgg9
 z9:=Tryz.sizeOf9
 v9:=Tryz.zeroValue9 }
open Go.RowKit Go.Lib in
theorem Tryz.stringslite_HasSuffix (s p:ByteArray) (w:World) (hs:s.size ≤ 9223372036854775807) :
  Calls Tryz.prog 259 #[.string s, .string p] w fun e w' => e = .returned (.bool (Lib.hasSuffix s.data.toList p.data.toList)) ∧ w' = w:=Any.stringslite_HasSuffix Tryz.lays207 s p w hs
open Go.RowKit Go.Lib in
theorem Tryz.strings_Count_any (s sep:ByteArray) (m:Int) (w:World) (hs:s.size < 4294967281) (hm:w.cell? ⟨0, 0, none⟩ = some (.int .i64 m)) (h1:1 ≤ sep.size) :
  Calls Tryz.prog 262 #[.string s, .string sep] w fun e w' => e = .returned (.int .i64 (Lib.countB s sep)) ∧ w' = w:=Any.strings_Count_any Tryz.lays138 s sep m w hs hm h1
open Go.RowKit Go.Lib in
theorem Tryz.utf8_RuneCountInString_ascii (s:ByteArray) (w:World) (hs:s.size < 4294967281) (hascii:∀ (j:Nat) b, s.data.toList[j]? = some b → b.toNat < 128) :
  Calls Tryz.prog 302 #[.string s] w fun e w' => e = .returned (.int .i64 s.size) ∧ w' = w.iter s s.size:=Any.utf8_RuneCountInString_ascii Tryz.lays195 s w hs hascii
end Go.Proofs
set_option maxRecDepth 20000
namespace Go.V
open Go.Proofs Go.RowKit
theorem _root_.Go.V.Zcn {A B:Prop} (h:B) (t:Wr B → A:=by intro h; refine z7 (yc rfl rfl rfl rfl) rfl ?_;exact h.h):A:=t ⟨h⟩
theorem _root_.Go.V.Zal {A B:Prop} (h:B) (t:Wr B → A:=by intro h; refine z7 (qd L rfl rfl rfl rfl) rfl ?_;exact h.h):A:=t ⟨h⟩
theorem _root_.Go.V.Ze4 {A B:Prop} (h:B) (t:Wr B → A:=by intro h; refine z7 (q7 L (qn rfl) rfl rfl rfl rfl) rfl ?_;exact h.h):A:=t ⟨h⟩
theorem _root_.Go.V.Zao {A B:Prop} (h:B) (t:Wr B → A:=by intro h; refine z8 (zi rfl rfl rfl) rfl ?_;exact h.h):A:=t ⟨h⟩
theorem _root_.Go.V.ZcU {A B:Prop} (h:B) (t:Wr B → A:=by intro h; refine z8 (qd L rfl rfl rfl rfl) rfl ?_;exact h.h):A:=t ⟨h⟩
theorem _root_.Go.V.Zai {A B:Prop} (h:B) (t:Wr B → A:=by intro h; refine z7 (ye L rfl rfl rfl rfl rfl rfl rfl rfl rfl) rfl ?_;exact h.h):A:=t ⟨h⟩
theorem _root_.Go.V.ZdQ {A B:Prop} (h:B) (t:Wr B → A:=by intro h; refine z8 (q7 L (qn rfl) rfl rfl rfl rfl) rfl ?_;exact h.h):A:=t ⟨h⟩
theorem _root_.Go.V.Zdv {A B:Prop} (h:B) (t:Wr B → A:=by intro h; refine q6 (id:=1) [] mixed (by kernel_rfl) ?_;exact h.h):A:=t ⟨h⟩
theorem _root_.Go.V.Zfj {A B:Prop} (h:B) (t:Wr B → A:=by intro h; refine z8 (zz L (vs:=[_, _]) (qn rfl) rfl rfl rfl rfl ⟨_, rfl⟩) rfl ?_;exact h.h):A:=t ⟨h⟩
theorem _root_.Go.V.Zco {A B:Prop} (h:B) (t:Wr B → A:=by intro h; refine z7 (zz L (vs:=[_, _]) (qn rfl) rfl rfl rfl rfl ⟨_, rfl⟩) rfl ?_;exact h.h):A:=t ⟨h⟩
theorem _root_.Go.V.ZbQ {A B:Prop} (h:B) (t:Wr B → A:=by intro h; refine z7 (zvl rfl rfl rfl rfl (by assumption) rfl) rfl ?_;exact h.h):A:=t ⟨h⟩
theorem _root_.Go.V.Zcp {A B:Prop} (h:B) (t:Wr B → A:=by intro h; refine z8 (zvl rfl rfl rfl rfl (by assumption) rfl) rfl ?_;exact h.h):A:=t ⟨h⟩
theorem _root_.Go.V.Zdw {A B:Prop} (h:B) (t:Wr B → A:=by intro h; refine z7 (zz L (vs:=[_, _, _]) (qn rfl) rfl rfl rfl rfl ⟨_, rfl⟩) rfl ?_;exact h.h):A:=t ⟨h⟩
theorem _root_.Go.V.Ze5 {A B:Prop} (h:B) (t:Wr B → A:=by intro h; refine z7 (zm6 rfl rfl rfl rfl (decide_eq_false (by assumption))) rfl ?_;exact h.h):A:=t ⟨h⟩
theorem _root_.Go.V.Zej {A B:Prop} (h:B) (t:Wr B → A:=by intro h; refine z8 (ye L rfl rfl rfl rfl rfl rfl rfl rfl rfl) rfl ?_;exact h.h):A:=t ⟨h⟩
theorem _root_.Go.V.Zcq {A B:Prop} (h:B) (t:Wr B → A:=by intro h; refine qk ?_;refine zm ?_;exact h.h):A:=t ⟨h⟩
theorem _root_.Go.V.Zap {A B:Prop} (h:B) (t:Wr B → A:=by intro h; refine Zd ?_;refine Z6 ?_;exact h.h):A:=t ⟨h⟩
theorem _root_.Go.V.ZK {A B:Prop} (h:B) (t:Wr B → A:=by intro h; refine ZG ?_;refine Zcn ?_;exact h.h):A:=t ⟨h⟩
theorem _root_.Go.V.ZW {A B:Prop} (h:B) (t:Wr B → A:=by intro h; refine Zal ?_;refine Ze4 ?_;exact h.h):A:=t ⟨h⟩
theorem _root_.Go.V.Zaq {A B:Prop} (h:B) (t:Wr B → A:=by intro h; refine ZG ?_;refine Zap ?_;exact h.h):A:=t ⟨h⟩
theorem _root_.Go.V.ZB {A B:Prop} (h:B) (t:Wr B → A:=by intro h; refine Zao ?_;refine Zcq ?_;exact h.h):A:=t ⟨h⟩
theorem _root_.Go.V.ZZ {A B:Prop} (h:B) (t:Wr B → A:=by intro h; refine Z7 ?_;refine Za ?_;exact h.h):A:=t ⟨h⟩
theorem _root_.Go.V.Zac {A B:Prop} (h:B) (t:Wr B → A:=by intro h; refine ZK ?_;refine Zcn ?_;exact h.h):A:=t ⟨h⟩
theorem _root_.Go.V.Zbw {A B:Prop} (h:B) (t:Wr B → A:=by intro h; refine ZcU ?_;refine ZdQ ?_;exact h.h):A:=t ⟨h⟩
theorem _root_.Go.V.Ze6 {A B:Prop} (h:B) (t:Wr B → A:=by intro h; refine ZK ?_;refine ZaB ?_;exact h.h):A:=t ⟨h⟩
theorem _root_.Go.V.ZbR {A B:Prop} (h:B) (t:Wr B → A:=by intro h; refine Zal ?_;refine ZW ?_;exact h.h):A:=t ⟨h⟩
theorem _root_.Go.V.ZbS {A B:Prop} (h:B) (t:Wr B → A:=by intro h; refine Zd ?_;refine Zdv ?_;exact h.h):A:=t ⟨h⟩
theorem _root_.Go.V.ZbT {A B:Prop} (h:B) (t:Wr B → A:=by intro h; refine Zn ?_;refine Zfi ?_;exact h.h):A:=t ⟨h⟩
theorem _root_.Go.V.Zcr {A B:Prop} (h:B) (t:Wr B → A:=by intro h; refine ZK ?_;refine Zap ?_;exact h.h):A:=t ⟨h⟩
theorem _root_.Go.V.Zc4 {A B:Prop} (h:B) (t:Wr B → A:=by intro h; refine Ze6 ?_;refine ZW ?_;exact h.h):A:=t ⟨h⟩
theorem _root_.Go.V.Zc5 {A B:Prop} (h:B) (t:Wr B → A:=by intro h; refine Z2 ?_;refine Zb ?_;exact h.h):A:=t ⟨h⟩
theorem _root_.Go.V.ZfL {A B:Prop} (h:B) (t:Wr B → A:=by intro h; refine zj ?_;refine Zx ?_;exact h.h):A:=t ⟨h⟩
theorem _root_.Go.V.Zdx {A B:Prop} (h:B) (t:Wr B → A:=by intro h; refine ZcU ?_;refine Zfj ?_;exact h.h):A:=t ⟨h⟩
theorem _root_.Go.V.Zdy {A B:Prop} (h:B) (t:Wr B → A:=by intro h; refine Zi ?_;refine ZU ?_;exact h.h):A:=t ⟨h⟩
theorem _root_.Go.V.Zdz {A B:Prop} (h:B) (t:Wr B → A:=by intro h; refine ZfL ?_;refine ZV ?_;exact h.h):A:=t ⟨h⟩
attribute [local irreducible] V N X VO Par StepOK Has Ret RetL Src
theorem zzp {a b:ByteArray} (ha:a.size ≤ 9223372036854775807) (hb:b.size ≤ 9223372036854775807) {w:World} {B:Heap} (hB:B.Le (hp w)) {t:Nat} {v:Value} (hv:SlB [.string a, .string b] t 2 v B) :
  Ret Tryz.prog 236 [v] w B (fun v _ => v = .int .i64 (zcf [a, b])):=by
 exact zxd [a, b] (by intro s hs; simp at hs; rcases hs with rfl | rfl <;> assumption) (by simp) hB (hv.toV rfl)
theorem zzo {a b c:ByteArray} (ha:a.size ≤ 9223372036854775807) (hb:b.size ≤ 9223372036854775807) (hc:c.size ≤ 9223372036854775807) {w:World} {B:Heap} (hB:B.Le (hp w)) {t:Nat} {v:Value} (hv:SlB [.string a, .string b, .string c] t 3 v B) :
  Ret Tryz.prog 236 [v] w B (fun v _ => v = .int .i64 (zcf [a, b, c])):=by
 exact zxd [a, b, c] (by intro s hs; simp at hs; rcases hs with rfl | rfl | rfl <;> assumption) (by simp) hB (hv.toV rfl)
theorem zdq {a b:ByteArray} (ha:a.size ≤ 9223372036854775807) (hb:b.size ≤ 9223372036854775807) {w:World} {B:Heap} (hB:B.Le (hp w)) :
  Ret Tryz.prog 204 [.agg #[.string a, .string b]] w B (fun v _ => v = .int .i64 (zcf [a, b])):=by
 refine qw Tryz.func204 rfl Tryz.ntmps204 (Nat.le_of_ble_eq_true rfl) hB ?_
 refine Zcr ?_;refine ZW ?_;refine ZW ?_;refine Zai ?_;refine z7 (zq L rfl rfl (zn rfl) rfl rfl rfl (fun u H hH _ _ v hv => zzp (by first | assumption | omega | decide) (by first | assumption | omega | decide) hH hv)) rfl ?_;refine Zc ?_
 refine qv L (rs:=[.tmp 2]) rfl (fun _ _ h => h) Since.refl fun u H hH hle => ?_
 rfl
theorem zfc {a b c:ByteArray} (ha:a.size ≤ 9223372036854775807) (hb:b.size ≤ 9223372036854775807) (hc:c.size ≤ 9223372036854775807) {w:World} {B:Heap} (hB:B.Le (hp w)) :
  Ret Tryz.prog 166 [.agg #[.string a, .string b, .string c]] w B (fun v _ => v = .int .i64 (zcf [a, b, c])):=by
 refine qw Tryz.func166 rfl Tryz.ntmps166 (Nat.le_of_ble_eq_true rfl) hB ?_
 refine Zcr ?_;refine ZbR ?_;refine ZbR ?_;refine ZW ?_;refine Zai ?_;refine z7 (zq L rfl rfl (zn rfl) rfl rfl rfl (fun u H hH _ _ v hv => zzo (by first | assumption | omega | decide) (by first | assumption | omega | decide) (by first | assumption | omega | decide) hH hv)) rfl ?_;refine Zc ?_
 refine qv L (rs:=[.tmp 2]) rfl (fun _ _ h => h) Since.refl fun u H hH hle => ?_
 rfl
def zgf (a b c:ByteArray):Int:=if c = ⟨#[]⟩ then zcf [a, b] else zcf [a, b, c]
theorem zjs {a b c:ByteArray} (ha:a.size ≤ 9223372036854775807) (hb:b.size ≤ 9223372036854775807) (hc:c.size ≤ 9223372036854775807) {w:World} {B:Heap} (hB:B.Le (hp w)) :
  Ret Tryz.prog 167 [.agg #[.string a, .string b, .string c]] w B (fun v _ => v = .int .i64 (zgf a b c)):=by
 refine qw Tryz.func167 rfl Tryz.ntmps167 (Nat.le_of_ble_eq_true rfl) hB ?_
 by_cases h:c = ⟨#[]⟩
 ·refine Zc4 ?_;refine z7 (zm6 rfl rfl rfl rfl (decide_eq_true (by assumption))) rfl ?_;refine ZbM ?_;refine Zal ?_;refine Zco ?_;refine z7 (zq L rfl rfl (zn rfl) rfl rfl rfl (fun u H hH _ _ => zdq (by first | assumption | omega | decide) (by first | assumption | omega | decide) hH)) rfl ?_;refine Zc ?_
  refine qv L (rs:=[.tmp 2]) rfl (fun _ _ h => h) Since.refl fun u H hH hle => ?_
  exact congrArg (Value.int .i64) (show zcf [a, b] = zgf a b c from (if_pos h).symm)
 ·refine Zc4 ?_;refine Ze5 ?_;refine Zq ?_;refine Zx ?_;refine Zdw ?_;refine z7 (zq L rfl rfl (zn rfl) rfl rfl rfl (fun u H hH _ _ => zfc (by first | assumption | omega | decide) (by first | assumption | omega | decide) (by first | assumption | omega | decide) hH)) rfl ?_;refine Zc ?_
  refine qv L (rs:=[.tmp 2]) rfl (fun _ _ h => h) Since.refl fun u H hH hle => ?_
  exact congrArg (Value.int .i64) (show zcf [a, b, c] = zgf a b c from (if_neg h).symm)
abbrev sCol:ByteArray:=⟨#[58]⟩
abbrev sHash:ByteArray:=⟨#[35]⟩
def zi6 (a b:ByteArray):ByteArray:=a ++ sCol ++ b
def zdh (a b c:ByteArray):ByteArray:=zi6 a b ++ sHash ++ c
def zen (a b c:ByteArray):ByteArray:=if c = ⟨#[]⟩ then zi6 a b else zdh a b c
theorem zdu:sCol.size = 1:=rfl
theorem zc0:sHash.size = 1:=rfl
theorem objT_size (a b:ByteArray):(zi6 a b).size = a.size + b.size + 1:=by
 unfold zi6; rw [ByteArray.size_append, ByteArray.size_append, zdu]; omega
theorem goalT_size (a b c:ByteArray):(zdh a b c).size = a.size + b.size + c.size + 2:=by
 unfold zdh; rw [ByteArray.size_append, ByteArray.size_append, objT_size, zc0]; omega
theorem text_ret {a b:ByteArray} (ha:a.size ≤ 1099511627776) (hb:b.size ≤ 1099511627776) {w:World} {B:Heap} (hB:B.Le (hp w)) :
  Ret Tryz.prog 256 [.agg #[.string a, .string b]] w B (fun v _ => v = .string (zi6 a b)):=by
 have hz:a.size + sCol.size ≤ 9223372036854775807:=by rw [zdu]; omega
 have hz2:(a ++ sCol).size + b.size ≤ 9223372036854775807:=by rw [ByteArray.size_append, zdu]; omega
 refine qw Tryz.func256 rfl Tryz.ntmps256 (Nat.le_of_ble_eq_true rfl) hB ?_
 refine Zcr ?_;refine ZW ?_;refine ZbQ ?_;refine ZW ?_;refine ZbQ ?_;refine Zc ?_
 refine qv L (rs:=[.tmp 2]) rfl (fun _ _ h => h) Since.refl fun u H hH hle => ?_
 rfl
theorem zih {a b c:ByteArray} (ha:a.size ≤ 1099511627776) (hb:b.size ≤ 1099511627776) (hc:c.size ≤ 1099511627776) {w:World} {B:Heap} (hB:B.Le (hp w)) :
  Ret Tryz.prog 196 [.agg #[.string a, .string b, .string c]] w B (fun v _ => v = .string (zdh a b c)):=by
 have hz:(zi6 a b).size + sHash.size ≤ 9223372036854775807:=by rw [zc0, objT_size]; omega
 have hz2:(zi6 a b ++ sHash).size + c.size ≤ 9223372036854775807:=by rw [ByteArray.size_append, zc0, objT_size]; omega
 refine qw Tryz.func196 rfl Tryz.ntmps196 (Nat.le_of_ble_eq_true rfl) hB ?_
 refine ZK ?_;refine ZbS ?_;refine Zdx ?_;refine z8 (zq L rfl rfl (zn rfl) rfl rfl rfl (fun u H hH _ _ => text_ret (by first | assumption | omega | decide) (by first | assumption | omega | decide) hH)) rfl ?_;refine Zcp ?_;refine Zbw ?_;refine Zcp ?_;refine ZB ?_
 refine qv L (rs:=[.tmp 2]) rfl (fun _ _ h => h) Since.refl fun u H hH hle => ?_
 rfl
theorem zod {a b c:ByteArray} (ha:a.size ≤ 1099511627776) (hb:b.size ≤ 1099511627776) (hc:c.size ≤ 1099511627776) {w:World} {B:Heap} (hB:B.Le (hp w)) :
  Ret Tryz.prog 197 [.agg #[.string a, .string b, .string c]] w B (fun v _ => v = .string (zen a b c)):=by
 refine qw Tryz.func197 rfl Tryz.ntmps197 (Nat.le_of_ble_eq_true rfl) hB ?_
 by_cases h:c = ⟨#[]⟩
 ·refine Zc4 ?_;refine z7 (zm6 rfl rfl rfl rfl (decide_eq_true (by assumption))) rfl ?_;refine ZbM ?_;refine Zal ?_;refine Zco ?_;refine z7 (zq L rfl rfl (zn rfl) rfl rfl rfl (fun u H hH _ _ => text_ret (by first | assumption | omega | decide) (by first | assumption | omega | decide) hH)) rfl ?_;refine Zc ?_
  refine qv L (rs:=[.tmp 2]) rfl (fun _ _ h => h) Since.refl fun u H hH hle => ?_
  exact congrArg Value.string (show zi6 a b = zen a b c from (if_pos h).symm)
 ·refine Zc4 ?_;refine Ze5 ?_;refine Zq ?_;refine Zx ?_;refine Zdw ?_;refine z7 (zq L rfl rfl (zn rfl) rfl rfl rfl (fun u H hH _ _ => zih (by first | assumption | omega | decide) (by first | assumption | omega | decide) (by first | assumption | omega | decide) hH)) rfl ?_;refine Zc ?_
  refine qv L (rs:=[.tmp 2]) rfl (fun _ _ h => h) Since.refl fun u H hH hle => ?_
  exact congrArg Value.string (show zdh a b c = zen a b c from (if_neg h).symm)

def z0m (a b:ByteArray):Int:=Lib.compareBytes a.data.toList b.data.toList
theorem zmr {a b:ByteArray} {w:World} {B:Heap} (hB:B.Le (hp w)):Ret Tryz.prog 238 [.string a, .string b] w B (fun v _ => v = .int .i64 (z0m a b)):=Ret.of_same hB (Tryz.strings_Compare a b w)
def orL:List Int → Int
 | [] => 0
 | x :: l => if x = 0 then orL l else x
theorem zvh:∀ (l:List Int) (k:Nat) (s:Int), (∀ x ∈ l.take k, x = 0) → l[k]? = some s → s ≠ 0 → orL l = s
 | [], k, s, _, h, _ => by simp at h
 | x :: l, 0, s, _, h, hc => by simp at h; subst h; simp [orL, hc]
 | x :: l, k + 1, s, ha, h, hc => by
  simp only [List.take_succ_cons] at ha
  simp only [List.getElem?_cons_succ] at h
  have hx:=ha x (List.mem_cons_self ..)
  simp only [orL, if_pos hx]
  exact zvh l k s (fun y hy => ha y (List.mem_cons_of_mem _ hy)) h hc
theorem zrq:∀ (l:List Int), (∀ x ∈ l, x = 0) → orL l = 0
 | [], _ => rfl
 | x :: l, h => by simp only [orL, if_pos (h x (List.mem_cons_self ..))]; exact zrq l fun y hy => h y (List.mem_cons_of_mem _ hy)
set_option maxHeartbeats 400000 in
theorem z3p (l:List Int) (hlen:l.length ≤ 1000) {e:TypeId} {fu:Bool} {v:Value} {w:World} {B:Heap} (hB:B.Le (hp w)) (hv:SlV e 1 (l.map (Value.int .i64)) l.length fu v B) :
  Ret Tryz.prog 168 [v] w B (fun v _ => v = .int .i64 (orL l)):=by
 refine qw Tryz.func168 rfl Tryz.ntmps168 (Nat.le_of_ble_eq_true rfl) hB ?_
 refine zbf 0 (SlV e 1 (l.map (Value.int .i64)) l.length fu) rfl SlV.mono hv ?_
 refine Zaq ?_;refine Zdy ?_;refine ZbT ?_
 refine zam (fun k:Nat => [(3, .is (.int .i64 0)), (6, .sat (SlV e 1 (l.map (Value.int .i64)) l.length fu)), (7, .is (.int .i64 l.length)), (8, .is (.int .i64 k))])
  (fun k => k ≤ l.length ∧ ∀ x ∈ l.take k, x = 0) (fun k => l.length - k) 0 ⟨Nat.zero_le _, by simp⟩ ⟨rfl, rfl, rfl, rfl, trivial⟩ ?_
 rintro k ⟨hk, hall⟩
 by_cases hlt:k < l.length
 ·have hs:l[k]? = some l[k]:=List.getElem?_eq_getElem hlt
  generalize l[k] = s at hs
  have hc:((l.map (Value.int .i64)).drop (k * 1)).take 1 = [.int .i64 s]:=zz8 (by simp [hs])
  by_cases h0:s = 0
  ·refine Zdz ?_;refine Zv ?_;refine Zbu ?_;refine ZeR ?_;refine Zd ?_;refine Zc5 ?_;refine ZA ?_;refine ZaO ?_;refine ZL ?_;refine ZbP ?_
   refine y9 (k + 1) ⟨hlt, ?_⟩ (by omega) ⟨rfl, rfl, rfl, rfl, trivial⟩
   rw [List.take_add_one, hs]
   intro x hx
   rcases List.mem_append.1 hx with hx | hx
   ·exact hall x hx
   ·simp at hx; rw [hx, h0]
  ·refine Zdz ?_;refine Zv ?_;refine Zbu ?_;refine ZeR ?_;refine Zd ?_;refine Zc5 ?_;refine ZH ?_;refine ZJ ?_;refine Zc ?_
   refine qv L (rs:=[.tmp 2]) rfl (fun _ _ h => h) Since.refl fun u H hH hle => ?_
   exact congrArg _ (zvh l k s hall hs h0).symm
 ·refine ZfL ?_;refine ZaC ?_;refine ZZ ?_;refine Zc ?_
  refine qv L (rs:=[.tmp 2]) rfl (fun _ _ h => h) Since.refl fun u H hH hle => ?_
  have:l.take k = l:=List.take_of_length_le (by omega)
  exact congrArg _ (zrq l (this ▸ hall)).symm
theorem zm3 {x y:Int} {w:World} {B:Heap} (hB:B.Le (hp w)) {t:Nat} {v:Value} (hv:SlB [.int .i64 x, .int .i64 y] t 2 v B) :
  Ret Tryz.prog 168 [v] w B (fun v _ => v = .int .i64 (orL [x, y])):=by
 exact z3p [x, y] (by simp) hB (hv.toV rfl)
def z6k (a b c d:ByteArray):Int:=orL [z0m a c, z0m b d]
def z6l (a b r c d s:ByteArray):Int:=orL [z6k a b c d, z0m r s]
theorem zzf {a b c d:ByteArray} {w:World} {B:Heap} (hB:B.Le (hp w)) :
  Ret Tryz.prog 237 [.agg #[.string a, .string b], .agg #[.string c, .string d]] w B (fun v _ => v = .int .i64 (z6k a b c d)):=by
 refine qw Tryz.func237 rfl Tryz.ntmps237 (Nat.le_of_ble_eq_true rfl) hB ?_
 refine Zac ?_;refine ZbS ?_;refine Zbw ?_;refine Zbw ?_;refine z8 (zq L rfl rfl (zn rfl) rfl rfl rfl (fun u H hH _ _ => zmr hH)) rfl ?_;refine Zbw ?_;refine Zbw ?_;refine z8 (zq L rfl rfl (zn rfl) rfl rfl rfl (fun u H hH _ _ => zmr hH)) rfl ?_;refine Zej ?_;refine z8 (zq L rfl rfl (zn rfl) rfl rfl rfl (fun u H hH _ _ v hv => zm3 hH hv)) rfl ?_;refine ZB ?_
 refine qv L (rs:=[.tmp 4]) rfl (fun _ _ h => h) Since.refl fun u H hH hle => ?_
 rfl
theorem znr {a b r c d s:ByteArray} {w:World} {B:Heap} (hB:B.Le (hp w)) :
  Ret Tryz.prog 169 [.agg #[.string a, .string b, .string r], .agg #[.string c, .string d, .string s]] w B (fun v _ => v = .int .i64 (z6l a b r c d s)):=by
 refine qw Tryz.func169 rfl Tryz.ntmps169 (Nat.le_of_ble_eq_true rfl) hB ?_
 refine Zac ?_;refine ZbS ?_;refine Zdx ?_;refine Zdx ?_;refine z8 (zq L rfl rfl (zn rfl) rfl rfl rfl (fun u H hH _ _ => zzf hH)) rfl ?_;refine Zbw ?_;refine Zbw ?_;refine z8 (zq L rfl rfl (zn rfl) rfl rfl rfl (fun u H hH _ _ => zmr hH)) rfl ?_;refine Zej ?_;refine z8 (zq L rfl rfl (zn rfl) rfl rfl rfl (fun u H hH _ _ v hv => zm3 hH hv)) rfl ?_;refine ZB ?_
 refine qv L (rs:=[.tmp 4]) rfl (fun _ _ h => h) Since.refl fun u H hH hle => ?_
 rfl
theorem cmpU_ret {a b r c d s:ByteArray} {w:World} {B:Heap} (hB:B.Le (hp w)) :
  Ret Tryz.prog 170 [.agg #[.string a, .string b, .string r], .agg #[.string c, .string d, .string s]] w B (fun v _ => v = .int .i64 (z6l a b r c d s)):=by
 refine qw Tryz.func170 rfl Tryz.ntmps170 (Nat.le_of_ble_eq_true rfl) hB ?_
 refine Zac ?_;refine Zap ?_;refine Zdw ?_;refine Zdw ?_;refine z7 (zq L rfl rfl (zn rfl) rfl rfl rfl (fun u H hH _ _ => znr hH)) rfl ?_;refine Zc ?_
 refine qv L (rs:=[.tmp 4]) rfl (fun _ _ h => h) Since.refl fun u H hH hle => ?_
 rfl
end Go.V
set_option maxRecDepth 20000
namespace Go.V
open Go.Proofs Go.RowKit
theorem _root_.Go.V.ZeS {A B:Prop} (h:B) (t:Wr B → A:=by intro h; refine z7 (zo rfl rfl rfl rfl) rfl ?_;exact h.h):A:=t ⟨h⟩
theorem _root_.Go.V.Zam {A B:Prop} (h:B) (t:Wr B → A:=by intro h; refine z7 (ql L rfl rfl rfl rfl rfl rfl rfl rfl) rfl ?_;exact h.h):A:=t ⟨h⟩
theorem _root_.Go.V.Zag {A B:Prop} (h:B) (t:Wr B → A:=by intro h; refine z7 (qh L rfl rfl rfl rfl) rfl ?_;exact h.h):A:=t ⟨h⟩
theorem _root_.Go.V.Zr {A B:Prop} (h:B) (t:Wr B → A:=by intro h; refine z7 (yk rfl rfl rfl rfl) rfl ?_;exact h.h):A:=t ⟨h⟩
theorem _root_.Go.V.Zek {A B:Prop} (h:B) (t:Wr B → A:=by intro h; refine z7 (y5 (cs:=[_, _]) rfl rfl z5k rfl rfl) rfl ?_;exact h.h):A:=t ⟨h⟩
theorem _root_.Go.V.ZdR {A B:Prop} (h:B) (t:Wr B → A:=by intro h; refine ZeS ?_;refine ZeS ?_;exact h.h):A:=t ⟨h⟩
theorem _root_.Go.V.ZbU {A B:Prop} (h:B) (t:Wr B → A:=by intro h; refine Za ?_;refine ZdR ?_;exact h.h):A:=t ⟨h⟩
theorem _root_.Go.V.Zt {A B:Prop} (h:B) (t:Wr B → A:=by intro h; refine Zu ?_;refine Zc ?_;exact h.h):A:=t ⟨h⟩
theorem _root_.Go.V.Za2 {A B:Prop} (h:B) (t:Wr B → A:=by intro h; refine Zu ?_;refine Zd ?_;exact h.h):A:=t ⟨h⟩
theorem _root_.Go.V.ZdS {A B:Prop} (h:B) (t:Wr B → A:=by intro h; refine Zu ?_;refine Zi ?_;exact h.h):A:=t ⟨h⟩
theorem _root_.Go.V.ZaI {A B:Prop} (h:B) (t:Wr B → A:=by intro h; refine ZG ?_;refine Zag ?_;exact h.h):A:=t ⟨h⟩
theorem _root_.Go.V.Zau {A B:Prop} (h:B) (t:Wr B → A:=by intro h; refine ZG ?_;refine Zu ?_;exact h.h):A:=t ⟨h⟩
theorem _root_.Go.V.Zah {A B:Prop} (h:B) (t:Wr B → A:=by intro h; refine Zb ?_;refine Zb ?_;exact h.h):A:=t ⟨h⟩
theorem _root_.Go.V.ZdT {A B:Prop} (h:B) (t:Wr B → A:=by intro h; refine Zu ?_;refine ZdS ?_;exact h.h):A:=t ⟨h⟩
theorem _root_.Go.V.Zav {A B:Prop} (h:B) (t:Wr B → A:=by intro h; refine ZU ?_;refine Zb ?_;exact h.h):A:=t ⟨h⟩
theorem _root_.Go.V.Za7 {A B:Prop} (h:B) (t:Wr B → A:=by intro h; refine Zf ?_;refine Zq ?_;exact h.h):A:=t ⟨h⟩
theorem _root_.Go.V.Zbh {A B:Prop} (h:B) (t:Wr B → A:=by intro h; refine ZbU ?_;refine ZeS ?_;exact h.h):A:=t ⟨h⟩
theorem _root_.Go.V.Zd0 {A B:Prop} (h:B) (t:Wr B → A:=by intro h; refine Zu ?_;refine Zt ?_;exact h.h):A:=t ⟨h⟩
attribute [local irreducible] V N X VO Par StepOK Has Ret RetL Src
def GlobM (B:Heap):Prop:=∃ m cs t fr, B 0 = some (.cells cs t fr) ∧ cs[0]? = some (.int .i64 m)
theorem GlobM.of_cell {w:World} {m:Int} (h:w.cell? ⟨0, 0, none⟩ = some (.int .i64 m)):GlobM (hp w):=by
 unfold World.cell? at h
 split at h
 ·rename_i cs t fr hb
  exact ⟨m, cs, t, fr, hb, by simpa using h⟩
 ·cases h
theorem GlobM.mono {B H:Heap} (h:GlobM B) (hl:B.Le H):GlobM H:=let ⟨m, cs, t, fr, hb, hc⟩:=h; ⟨m, cs, t, fr, hl _ _ hb, hc⟩
def zcy (s:ByteArray) (c:UInt8):ByteArray × ByteArray × Bool :=
 (⟨(Lib.cut s.data.toList [c]).1.toArray⟩, ⟨(Lib.cut s.data.toList [c]).2.1.toArray⟩, (Lib.cut s.data.toList [c]).2.2)
def zp0 (s:ByteArray) (c:UInt8):Bool:=decide (0 ≤ Lib.indexByte s.data.toList c)
def zxl (s:ByteArray) (c:UInt8):Nat:=Lib.countByte s.data.toList c
theorem zej {s:ByteArray} {c:UInt8} {f:Bool} (hs:s.size ≤ 1000000) {w:World} {B:Heap} (hB:B.Le (hp w)) (hM:GlobM B) (hf:(zcy s c).2.2 = f) :
  Ret Tryz.prog 131 [.string s, .string ⟨#[c]⟩] w B (fun v _ => v = .tuple #[.string (zcy s c).1, .string (zcy s c).2.1, .bool f]):=by
 obtain ⟨m, cs, t, fr, hb, hc⟩:=hM
 subst hf
 refine Ret.of_drawn hB (Tryz.strings_Cut s ⟨#[c]⟩ m w (by omega) ?_)
 rw [zav (hB _ _ hb)]; exact hc
theorem zbn {s:ByteArray} {c:UInt8} {f:Bool} {w:World} {B:Heap} (hB:B.Le (hp w)) (hf:zp0 s c = f) :
  Ret Tryz.prog 132 [.string s, .string ⟨#[c]⟩] w B (fun v _ => v = .bool f):=by
 subst hf
 exact Ret.of_same hB (Tryz.strings_Contains_one s c w)
theorem count_ret {s:ByteArray} {c:UInt8} {w:World} {B:Heap} (hB:B.Le (hp w)) :
  Ret Tryz.prog 262 [.string s, .string ⟨#[c]⟩] w B (fun v _ => v = .int .i64 (zxl s c)):=Ret.of_same hB (Tryz.strings_Count_one s c w)
theorem zhf (s:ByteArray) (c:UInt8):(zcy s c).1.size ≤ s.size ∧ (zcy s c).2.1.size ≤ s.size:=by
 unfold zcy Lib.cut
 have hl:=za9 s
 have e:∀ l:List UInt8, (ByteArray.mk l.toArray).size = l.length:=fun l => by show l.toArray.size = _; simp
 generalize s.data.toList = l at hl ⊢
 rw [← hl]
 split
 ·simp only [e, List.length_take, List.length_drop]; omega
 ·simp only [e, List.length_nil]; omega
def zbx (s:ByteArray):Option (ByteArray × ByteArray × ByteArray × Bool) :=
 if ((zcy s 58).2.2 && !zp0 (zcy s 58).1 35 && !zp0 (zcy s 58).2.1 58) = true ∧ zxl (zcy s 58).2.1 35 ≤ 1 then
  some ((zcy s 58).1, (zcy (zcy s 58).2.1 35).1, (zcy (zcy s 58).2.1 35).2.1, (zcy (zcy s 58).2.1 35).2.2)
 else none
theorem zj8 {s a b c:ByteArray} {d:Bool} (h:zbx s = some (a, b, c, d)):a.size ≤ s.size ∧ b.size ≤ s.size ∧ c.size ≤ s.size:=by
 unfold zbx at h
 split at h
 ·cases h
  have h1:=zhf s 58
  have h2:=zhf (zcy s 58).2.1 35
  omega
 ·cases h
set_option maxHeartbeats 400000 in
theorem znq {s:ByteArray} {f:Bool} (hs:s.size ≤ 1000000) {w:World} {B:Heap} (hB:B.Le (hp w)) (hM:GlobM B) (hf:((zcy s 58).2.2 && !zp0 (zcy s 58).1 35 && !zp0 (zcy s 58).2.1 58) = f) :
  Ret Tryz.prog 261 [.string s, .string ⟨#[58]⟩] w B (fun v _ => v = .tuple #[.string (zcy s 58).1, .string (zcy s 58).2.1, .bool f]):=by
 subst hf
 refine qw Tryz.func261 rfl Tryz.ntmps261 (Nat.le_of_ble_eq_true rfl) hB ?_
 cases h1:(zcy s 58).2.2
 ·refine Zau ?_;refine Zu ?_;refine Zap ?_;refine Zb ?_;refine z7 (zq L rfl rfl (zn rfl) rfl rfl rfl (fun u H hH hle _ => zej (by assumption) hH (GlobM.mono (by assumption) hle) (by assumption))) rfl ?_;refine Zbh ?_;refine Zu ?_;refine Za2 ?_;refine ZU ?_;refine Zah ?_;refine Zbs ?_;refine ZeQ ?_;refine Zak ?_;refine Zd0 ?_
  refine qv L (rs:=[.tmp 4, .tmp 5, .tmp 6]) rfl (fun _ _ h => h) Since.refl fun u H hH hle => ?_
  rfl
 ·cases h2:zp0 (zcy s 58).1 35
  ·cases h3:zp0 (zcy s 58).2.1 58
   ·refine Zau ?_;refine Zu ?_;refine Zap ?_;refine Zb ?_;refine z7 (zq L rfl rfl (zn rfl) rfl rfl rfl (fun u H hH hle _ => zej (by assumption) hH (GlobM.mono (by assumption) hle) (by assumption))) rfl ?_;refine Zbh ?_;refine Zu ?_;refine Za2 ?_;refine Zav ?_;refine Zw ?_;refine z7 (zq L rfl rfl (zn rfl) rfl rfl rfl (fun u H hH _ _ => zbn hH (by assumption))) rfl ?_;refine Zr ?_;refine Zf ?_;refine Zb ?_;refine z7 (zq L rfl rfl (zn rfl) rfl rfl rfl (fun u H hH _ _ => zbn hH (by assumption))) rfl ?_;refine Zr ?_;refine Zf ?_;refine Zd0 ?_
    refine qv L (rs:=[.tmp 4, .tmp 5, .tmp 6]) rfl (fun _ _ h => h) Since.refl fun u H hH hle => ?_
    rfl
   ·refine Zau ?_;refine Zu ?_;refine Zap ?_;refine Zb ?_;refine z7 (zq L rfl rfl (zn rfl) rfl rfl rfl (fun u H hH hle _ => zej (by assumption) hH (GlobM.mono (by assumption) hle) (by assumption))) rfl ?_;refine Zbh ?_;refine Zu ?_;refine Za2 ?_;refine Zav ?_;refine Zw ?_;refine z7 (zq L rfl rfl (zn rfl) rfl rfl rfl (fun u H hH _ _ => zbn hH (by assumption))) rfl ?_;refine Zr ?_;refine Zf ?_;refine Zb ?_;refine z7 (zq L rfl rfl (zn rfl) rfl rfl rfl (fun u H hH _ _ => zbn hH (by assumption))) rfl ?_;refine Zr ?_;refine Zf ?_;refine Zd0 ?_
    refine qv L (rs:=[.tmp 4, .tmp 5, .tmp 6]) rfl (fun _ _ h => h) Since.refl fun u H hH hle => ?_
    rfl
  ·refine Zau ?_;refine Zu ?_;refine Zap ?_;refine Zb ?_;refine z7 (zq L rfl rfl (zn rfl) rfl rfl rfl (fun u H hH hle _ => zej (by assumption) hH (GlobM.mono (by assumption) hle) (by assumption))) rfl ?_;refine Zbh ?_;refine Zu ?_;refine Za2 ?_;refine Zav ?_;refine Zw ?_;refine z7 (zq L rfl rfl (zn rfl) rfl rfl rfl (fun u H hH _ _ => zbn hH (by assumption))) rfl ?_;refine Zr ?_;refine Zf ?_;refine Zak ?_;refine Zd0 ?_
   refine qv L (rs:=[.tmp 4, .tmp 5, .tmp 6]) rfl (fun _ _ h => h) Since.refl fun u H hH hle => ?_
   rfl
set_option maxHeartbeats 400000 in
theorem zlq {s:ByteArray} (hs:s.size ≤ 1000000) {w:World} {B:Heap} (hB:B.Le (hp w)) (hM:GlobM B) (h:zbx s = none) :
  Ret Tryz.prog 203 [.string s] w B (fun v _ => v = .tuple #[.agg #[.string ⟨#[]⟩, .string ⟨#[]⟩], .string ⟨#[]⟩, .bool false, .bool false]):=by
 refine qw Tryz.func203 rfl Tryz.ntmps203 (Nat.le_of_ble_eq_true rfl) hB ?_
 unfold zbx at h
 cases h1:((zcy s 58).2.2 && !zp0 (zcy s 58).1 35 && !zp0 (zcy s 58).2.1 58)
 ·refine ZaI ?_;refine Zu ?_;refine Zu ?_;refine Zap ?_;refine Zd ?_;refine Zav ?_;refine z7 (zq L rfl rfl (zn rfl) rfl rfl rfl (fun u H hH hle _ => znq (by assumption) hH (GlobM.mono (by assumption) hle) (by assumption))) rfl ?_;refine Zbh ?_;refine ZdT ?_;refine Zm ?_;refine Zr ?_;refine Zak ?_;refine Zs ?_;refine Zv ?_;refine Zek ?_;refine Zam ?_;refine Zd0 ?_
  refine qv L (rs:=[.cell 2 29, .tmp 3, .tmp 4, .tmp 5]) rfl (fun _ _ h => h) Since.refl fun u H hH hle => ?_
  exact ⟨_, qp rfl, rfl, rfl⟩
 ·have h2:¬ zxl (zcy s 58).2.1 35 ≤ 1:=fun h2 => by rw [if_pos ⟨h1, h2⟩] at h; cases h
  clear h
  refine ZaI ?_;refine Zu ?_;refine Zu ?_;refine Zap ?_;refine Zd ?_;refine Zav ?_;refine z7 (zq L rfl rfl (zn rfl) rfl rfl rfl (fun u H hH hle _ => znq (by assumption) hH (GlobM.mono (by assumption) hle) (by assumption))) rfl ?_;refine Zbh ?_;refine ZdT ?_;refine Zm ?_;refine Zr ?_;refine Zb ?_;refine z7 (zq L rfl rfl (zn rfl) rfl rfl rfl (fun u H hH _ _ => count_ret hH)) rfl ?_;refine ZP ?_;refine Zbt ?_;refine Zv ?_;refine Zek ?_;refine Zam ?_;refine Zd0 ?_
  refine qv L (rs:=[.cell 2 29, .tmp 3, .tmp 4, .tmp 5]) rfl (fun _ _ h => h) Since.refl fun u H hH hle => ?_
  exact ⟨_, qp rfl, rfl, rfl⟩
set_option maxHeartbeats 400000 in
theorem zcn {s a b c:ByteArray} {d:Bool} (hs:s.size ≤ 1000000) {w:World} {B:Heap} (hB:B.Le (hp w)) (hM:GlobM B) (h:zbx s = some (a, b, c, d)) :
  Ret Tryz.prog 203 [.string s] w B (fun v _ => v = .tuple #[.agg #[.string a, .string b], .string c, .bool d, .bool true]):=by
 refine qw Tryz.func203 rfl Tryz.ntmps203 (Nat.le_of_ble_eq_true rfl) hB ?_
 unfold zbx at h
 split at h
 ·rename_i hc
  obtain ⟨h1, h2⟩:=hc
  cases h
  have hz:=zhf s 58
  have hz2:(zcy s 58).2.1.size ≤ 1000000:=by omega
  refine ZaI ?_;refine Zu ?_;refine Zu ?_;refine Zap ?_;refine Zd ?_;refine Zav ?_;refine z7 (zq L rfl rfl (zn rfl) rfl rfl rfl (fun u H hH hle _ => znq (by assumption) hH (GlobM.mono (by assumption) hle) (by assumption))) rfl ?_;refine Zbh ?_;refine ZdT ?_;refine Zm ?_;refine Zr ?_;refine Zb ?_;refine z7 (zq L rfl rfl (zn rfl) rfl rfl rfl (fun u H hH _ _ => count_ret hH)) rfl ?_;refine Z3 ?_;refine Za7 ?_;refine ZN ?_;refine z7 (zq L rfl rfl (zn rfl) rfl rfl rfl (fun u H hH hle _ => zej (by assumption) hH (GlobM.mono (by assumption) hle) rfl)) rfl ?_;refine Zbh ?_;refine Zu ?_;refine Za2 ?_;refine ZQ ?_;refine Zb ?_;refine Zek ?_;refine Zb ?_;refine Zam ?_;refine Zd0 ?_
  refine qv L (rs:=[.cell 2 29, .tmp 3, .tmp 4, .tmp 5]) rfl (fun _ _ h => h) Since.refl fun u H hH hle => ?_
  exact ⟨_, qp rfl, rfl, rfl⟩
 ·cases h
end Go.V
set_option maxRecDepth 20000
namespace Go.V
open Go.Proofs Go.RowKit
theorem _root_.Go.V.ZR {A B:Prop} (h:B) (t:Wr B → A:=by intro h; refine z7 (yg rfl rfl rfl rfl (decide_eq_false (by omega))) rfl ?_;exact h.h):A:=t ⟨h⟩
theorem _root_.Go.V.Z9 {A B:Prop} (h:B) (t:Wr B → A:=by intro h; refine z7 (yg rfl rfl rfl rfl (decide_eq_true (by omega))) rfl ?_;exact h.h):A:=t ⟨h⟩
theorem _root_.Go.V.ZcV {A B:Prop} (h:B) (t:Wr B → A:=by intro h; refine z7 (zz L (vs:=[_, _]) (qp rfl) rfl rfl rfl rfl ⟨_, rfl⟩) rfl ?_;exact h.h):A:=t ⟨h⟩
theorem _root_.Go.V.Zel {A B:Prop} (h:B) (t:Wr B → A:=by intro h; refine z7 (y5 (cs:=[_, _, _]) rfl rfl z61 rfl rfl) rfl ?_;exact h.h):A:=t ⟨h⟩
theorem _root_.Go.V.Ze7 {A B:Prop} (h:B) (t:Wr B → A:=by intro h; refine z7 (y5 (cs:=[_, _, _]) rfl rfl z62 rfl rfl) rfl ?_;exact h.h):A:=t ⟨h⟩
theorem _root_.Go.V.Zfk {A B:Prop} (h:B) (t:Wr B → A:=by intro h; refine z7 (zz L (vs:=[_, _, _]) (qp rfl) rfl rfl rfl rfl ⟨_, rfl⟩) rfl ?_;exact h.h):A:=t ⟨h⟩
theorem _root_.Go.V.Ze {A B:Prop} (h:B) (t:Wr B → A:=by intro h; refine zj ?_;refine zj ?_;exact h.h):A:=t ⟨h⟩
theorem _root_.Go.V.Z1 {A B:Prop} (h:B) (t:Wr B → A:=by intro h; refine ZU ?_;refine Za ?_;exact h.h):A:=t ⟨h⟩
theorem _root_.Go.V.Zbi {A B:Prop} (h:B) (t:Wr B → A:=by intro h; refine Zag ?_;refine Zam ?_;exact h.h):A:=t ⟨h⟩
theorem _root_.Go.V.Zaw {A B:Prop} (h:B) (t:Wr B → A:=by intro h; refine Zy ?_;refine Ze ?_;exact h.h):A:=t ⟨h⟩
theorem _root_.Go.V.ZO {A B:Prop} (h:B) (t:Wr B → A:=by intro h; refine ZL ?_;refine Za ?_;exact h.h):A:=t ⟨h⟩
theorem _root_.Go.V.ZaJ {A B:Prop} (h:B) (t:Wr B → A:=by intro h; refine Zam ?_;refine Zc ?_;exact h.h):A:=t ⟨h⟩
theorem _root_.Go.V.Zbj {A B:Prop} (h:B) (t:Wr B → A:=by intro h; refine Zap ?_;refine Za ?_;exact h.h):A:=t ⟨h⟩
theorem _root_.Go.V.Zad {A B:Prop} (h:B) (t:Wr B → A:=by intro h; refine ZA ?_;refine Zq ?_;exact h.h):A:=t ⟨h⟩
theorem _root_.Go.V.Zgg {A B:Prop} (h:B) (t:Wr B → A:=by intro h; refine ZbU ?_;refine ZdR ?_;exact h.h):A:=t ⟨h⟩
theorem _root_.Go.V.Zgh {A B:Prop} (h:B) (t:Wr B → A:=by intro h; refine Zgg ?_;refine Zbi ?_;exact h.h):A:=t ⟨h⟩
theorem _root_.Go.V.ZdU {A B:Prop} (h:B) (t:Wr B → A:=by intro h; refine Zgh ?_;refine ZdT ?_;exact h.h):A:=t ⟨h⟩
theorem _root_.Go.V.Ze8 {A B:Prop} (h:B) (t:Wr B → A:=by intro h; refine Zbi ?_;refine Zaw ?_;exact h.h):A:=t ⟨h⟩
theorem _root_.Go.V.Zb7 {A B:Prop} (h:B) (t:Wr B → A:=by intro h; refine ZaI ?_;refine Zbj ?_;exact h.h):A:=t ⟨h⟩
theorem _root_.Go.V.ZeT {A B:Prop} (h:B) (t:Wr B → A:=by intro h; refine Z1 ?_;refine Zr ?_;exact h.h):A:=t ⟨h⟩
theorem _root_.Go.V.ZbV {A B:Prop} (h:B) (t:Wr B → A:=by intro h; refine Za ?_;refine ZaJ ?_;exact h.h):A:=t ⟨h⟩
theorem _root_.Go.V.Zcs {A B:Prop} (h:B) (t:Wr B → A:=by intro h; refine Zf ?_;refine Z8 ?_;exact h.h):A:=t ⟨h⟩
theorem _root_.Go.V.Zd1 {A B:Prop} (h:B) (t:Wr B → A:=by intro h; refine ZdU ?_;refine ZeT ?_;exact h.h):A:=t ⟨h⟩
attribute [local irreducible] V N X VO Par StepOK Has Ret RetL Src
abbrev zdi:ByteArray:=⟨#[]⟩
def poA (s:ByteArray):ByteArray × ByteArray × Int :=
 match zbx s with
 | none => (zdi, zdi, 5)
 | some (a, b, _, d) => if d = true then (zdi, zdi, 5) else if zcf [a, b] = 0 then (a, b, 0) else (zdi, zdi, zcf [a, b])
def pgA (s:ByteArray):ByteArray × ByteArray × ByteArray × Int :=
 match zbx s with
 | none => (zdi, zdi, zdi, 5)
 | some (a, b, c, d) => if d = false then (zdi, zdi, zdi, 5) else if zcf [a, b, c] = 0 then (a, b, c, 0) else (zdi, zdi, zdi, zcf [a, b, c])
def psA (s:ByteArray):ByteArray × ByteArray × ByteArray × Int :=
 match zbx s with
 | none => (zdi, zdi, zdi, 5)
 | some (a, b, c, d) => if zcf [a, b] = 0 then (if d = true then (if chk c = 0 then (a, b, c, 0) else (zdi, zdi, zdi, chk c)) else (a, b, c, 0)) else (zdi, zdi, zdi, zcf [a, b])
set_option maxHeartbeats 400000 in
theorem z3o {s:ByteArray} {r:ByteArray × ByteArray × ByteArray × Int} (hr:pgA s = r) (hs:s.size ≤ 1000000) {w:World} {B:Heap} (hB:B.Le (hp w)) (hM:GlobM B) :
  Ret Tryz.prog 133 [.string s] w B (fun v _ => v = .tuple #[.agg #[.string r.1, .string r.2.1, .string r.2.2.1], .int .i64 r.2.2.2]):=by
 refine qw Tryz.func133 rfl Tryz.ntmps133 (Nat.le_of_ble_eq_true rfl) hB ?_
 unfold pgA at hr
 cases hp:zbx s with
 | none =>
  rw [hp] at hr; simp only at hr; subst hr
  refine Zb7 ?_;refine z7 (zq L rfl rfl (zn rfl) rfl rfl rfl (fun u H hH hle _ => zlq (by assumption) hH (GlobM.mono (by assumption) hle) (by assumption))) rfl ?_;refine Zd1 ?_;refine Ze3 ?_;refine Zbt ?_;refine Zx ?_;refine Ze7 ?_;refine ZaJ ?_
  refine qv L (rs:=[.cell 2 31, .tmp 3]) rfl (fun _ _ h => h) Since.refl fun u H hH hle => ?_
  exact ⟨_, qp rfl, rfl, rfl⟩
 | some p =>
  obtain ⟨a, b, c, d⟩:=p
  rw [hp] at hr; simp only at hr
  have hz:=zj8 hp
  have ha:a.size ≤ 1099511627776:=by omega
  have hb:b.size ≤ 1099511627776:=by omega
  have hc:c.size ≤ 1099511627776:=by omega
  cases d with
  | false =>
   rw [if_pos rfl] at hr; subst hr
   refine Zb7 ?_;refine z7 (zq L rfl rfl (zn rfl) rfl rfl rfl (fun u H hH hle _ => zcn (by assumption) hH (GlobM.mono (by assumption) hle) (by assumption))) rfl ?_;refine Zd1 ?_;refine Zb ?_;refine Zr ?_;refine Zbt ?_;refine Zx ?_;refine Ze7 ?_;refine ZaJ ?_
   refine qv L (rs:=[.cell 2 31, .tmp 3]) rfl (fun _ _ h => h) Since.refl fun u H hH hle => ?_
   exact ⟨_, qp rfl, rfl, rfl⟩
  | true =>
   rw [if_neg (by decide)] at hr
   by_cases h0:zcf [a, b, c] = 0
   ·rw [if_pos h0] at hr; subst hr
    refine Zb7 ?_;refine z7 (zq L rfl rfl (zn rfl) rfl rfl rfl (fun u H hH hle _ => zcn (by assumption) hH (GlobM.mono (by assumption) hle) (by assumption))) rfl ?_;refine Zd1 ?_;refine Zb ?_;refine Zr ?_;refine Za7 ?_;refine Zv ?_;refine ZcV ?_;refine Za ?_;refine Ze7 ?_;refine Ze8 ?_;refine Z2 ?_;refine Zfk ?_;refine z7 (zq L rfl rfl (zn rfl) rfl rfl rfl (fun u H hH _ _ => zfc (by first | assumption | omega | decide) (by first | assumption | omega | decide) (by first | assumption | omega | decide) hH)) rfl ?_;refine Zd ?_;refine ZJ ?_;refine Zad ?_;refine Z7 ?_;refine Zfk ?_;refine ZaJ ?_
    refine qv L (rs:=[.cell 2 31, .tmp 3]) rfl (fun _ _ h => h) Since.refl fun u H hH hle => ?_
    exact ⟨_, qp rfl, rfl, rfl⟩
   ·rw [if_neg h0] at hr; subst hr
    refine Zb7 ?_;refine z7 (zq L rfl rfl (zn rfl) rfl rfl rfl (fun u H hH hle _ => zcn (by assumption) hH (GlobM.mono (by assumption) hle) (by assumption))) rfl ?_;refine Zd1 ?_;refine Zb ?_;refine Zr ?_;refine Za7 ?_;refine Zv ?_;refine ZcV ?_;refine Za ?_;refine Ze7 ?_;refine Ze8 ?_;refine Z2 ?_;refine Zfk ?_;refine z7 (zq L rfl rfl (zn rfl) rfl rfl rfl (fun u H hH _ _ => zfc (by first | assumption | omega | decide) (by first | assumption | omega | decide) (by first | assumption | omega | decide) hH)) rfl ?_;refine Zd ?_;refine ZJ ?_;refine ZH ?_;refine ZL ?_;refine Ze7 ?_;refine ZbV ?_
    refine qv L (rs:=[.cell 2 31, .tmp 3]) rfl (fun _ _ h => h) Since.refl fun u H hH hle => ?_
    exact ⟨_, qp rfl, rfl, rfl⟩
set_option maxHeartbeats 400000 in
theorem z3k {s:ByteArray} {r:ByteArray × ByteArray × ByteArray × Int} (hr:psA s = r) (hs:s.size ≤ 1000000) {w:World} {B:Heap} (hB:B.Le (hp w)) (hM:GlobM B) :
  Ret Tryz.prog 134 [.string s] w B (fun v _ => v = .tuple #[.agg #[.string r.1, .string r.2.1, .string r.2.2.1], .int .i64 r.2.2.2]):=by
 refine qw Tryz.func134 rfl Tryz.ntmps134 (Nat.le_of_ble_eq_true rfl) hB ?_
 unfold psA at hr
 cases hp:zbx s with
 | none =>
  rw [hp] at hr; simp only at hr; subst hr
  refine Zb7 ?_;refine z7 (zq L rfl rfl (zn rfl) rfl rfl rfl (fun u H hH hle _ => zlq (by assumption) hH (GlobM.mono (by assumption) hle) (by assumption))) rfl ?_;refine Zd1 ?_;refine Zs ?_;refine Zx ?_;refine Zel ?_;refine ZaJ ?_
  refine qv L (rs:=[.cell 2 32, .tmp 3]) rfl (fun _ _ h => h) Since.refl fun u H hH hle => ?_
  exact ⟨_, qp rfl, rfl, rfl⟩
 | some p =>
  obtain ⟨a, b, c, d⟩:=p
  rw [hp] at hr; simp only at hr
  have hz:=zj8 hp
  have ha:a.size ≤ 1099511627776:=by omega
  have hb:b.size ≤ 1099511627776:=by omega
  have hc:c.size ≤ 1099511627776:=by omega
  by_cases h0:zcf [a, b] = 0
  ·rw [if_pos h0] at hr
   cases d with
   | false =>
    rw [if_neg (by decide)] at hr; subst hr
    refine Zb7 ?_;refine z7 (zq L rfl rfl (zn rfl) rfl rfl rfl (fun u H hH hle _ => zcn (by assumption) hH (GlobM.mono (by assumption) hle) (by assumption))) rfl ?_;refine Zd1 ?_;refine Zq ?_;refine Zv ?_;refine ZcV ?_;refine z7 (zq L rfl rfl (zn rfl) rfl rfl rfl (fun u H hH _ _ => zdq (by first | assumption | omega | decide) (by first | assumption | omega | decide) hH)) rfl ?_;refine Zi ?_;refine Zc5 ?_;refine Zbs ?_;refine ZbN ?_;refine ZO ?_;refine Zad ?_;refine Zaj ?_;refine ZcV ?_;refine Za ?_;refine Zel ?_;refine ZaJ ?_
    refine qv L (rs:=[.cell 2 32, .tmp 3]) rfl (fun _ _ h => h) Since.refl fun u H hH hle => ?_
    exact ⟨_, qp rfl, rfl, rfl⟩
   | true =>
    rw [if_pos rfl] at hr
    by_cases h1:chk c = 0
    ·rw [if_pos h1] at hr; subst hr
     refine Zb7 ?_;refine z7 (zq L rfl rfl (zn rfl) rfl rfl rfl (fun u H hH hle _ => zcn (by assumption) hH (GlobM.mono (by assumption) hle) (by assumption))) rfl ?_;refine Zd1 ?_;refine Zq ?_;refine Zv ?_;refine ZcV ?_;refine z7 (zq L rfl rfl (zn rfl) rfl rfl rfl (fun u H hH _ _ => zdq (by first | assumption | omega | decide) (by first | assumption | omega | decide) hH)) rfl ?_;refine Zi ?_;refine Z2 ?_;refine Zw ?_;refine Z9 ?_;refine Zcs ?_;refine ZJ ?_;refine z7 (zq L rfl rfl (zn rfl) rfl rfl rfl (fun u H hH _ _ => check_ret _ (by first | omega | decide) hH)) rfl ?_;refine Zi ?_;refine ZO ?_;refine Zad ?_;refine Zaj ?_;refine ZcV ?_;refine Za ?_;refine Zel ?_;refine ZaJ ?_
     refine qv L (rs:=[.cell 2 32, .tmp 3]) rfl (fun _ _ h => h) Since.refl fun u H hH hle => ?_
     exact ⟨_, qp rfl, rfl, rfl⟩
    ·rw [if_neg h1] at hr; subst hr
     refine Zb7 ?_;refine z7 (zq L rfl rfl (zn rfl) rfl rfl rfl (fun u H hH hle _ => zcn (by assumption) hH (GlobM.mono (by assumption) hle) (by assumption))) rfl ?_;refine Zd1 ?_;refine Zq ?_;refine Zv ?_;refine ZcV ?_;refine z7 (zq L rfl rfl (zn rfl) rfl rfl rfl (fun u H hH _ _ => zdq (by first | assumption | omega | decide) (by first | assumption | omega | decide) hH)) rfl ?_;refine Zi ?_;refine Z2 ?_;refine Zw ?_;refine Z9 ?_;refine Zcs ?_;refine ZJ ?_;refine z7 (zq L rfl rfl (zn rfl) rfl rfl rfl (fun u H hH _ _ => check_ret _ (by first | omega | decide) hH)) rfl ?_;refine Zi ?_;refine ZO ?_;refine ZH ?_;refine Z7 ?_;refine Zel ?_;refine ZbV ?_
     refine qv L (rs:=[.cell 2 32, .tmp 3]) rfl (fun _ _ h => h) Since.refl fun u H hH hle => ?_
     exact ⟨_, qp rfl, rfl, rfl⟩
  ·rw [if_neg h0] at hr; subst hr
   cases d
   ·refine Zb7 ?_;refine z7 (zq L rfl rfl (zn rfl) rfl rfl rfl (fun u H hH hle _ => zcn (by assumption) hH (GlobM.mono (by assumption) hle) (by assumption))) rfl ?_;refine Zd1 ?_;refine Zq ?_;refine Zv ?_;refine ZcV ?_;refine z7 (zq L rfl rfl (zn rfl) rfl rfl rfl (fun u H hH _ _ => zdq (by first | assumption | omega | decide) (by first | assumption | omega | decide) hH)) rfl ?_;refine Zi ?_;refine Zc5 ?_;refine Zbs ?_;refine ZbN ?_;refine ZO ?_;refine ZH ?_;refine Z7 ?_;refine Zel ?_;refine ZbV ?_
    refine qv L (rs:=[.cell 2 32, .tmp 3]) rfl (fun _ _ h => h) Since.refl fun u H hH hle => ?_
    exact ⟨_, qp rfl, rfl, rfl⟩
   ·refine Zb7 ?_;refine z7 (zq L rfl rfl (zn rfl) rfl rfl rfl (fun u H hH hle _ => zcn (by assumption) hH (GlobM.mono (by assumption) hle) (by assumption))) rfl ?_;refine Zd1 ?_;refine Zq ?_;refine Zv ?_;refine ZcV ?_;refine z7 (zq L rfl rfl (zn rfl) rfl rfl rfl (fun u H hH _ _ => zdq (by first | assumption | omega | decide) (by first | assumption | omega | decide) hH)) rfl ?_;refine Zi ?_;refine Z2 ?_;refine Zw ?_;refine ZR ?_;refine ZbN ?_;refine ZO ?_;refine ZH ?_;refine Z7 ?_;refine Zel ?_;refine ZbV ?_
    refine qv L (rs:=[.cell 2 32, .tmp 3]) rfl (fun _ _ h => h) Since.refl fun u H hH hle => ?_
    exact ⟨_, qp rfl, rfl, rfl⟩
theorem zqo {s a b c:ByteArray} {e:Int} (hr:pgA s = (a, b, c, e)) (hs:s.size ≤ 1000000) {w:World} {B:Heap} (hB:B.Le (hp w)) (hM:GlobM B) :
  Ret Tryz.prog 133 [.string s] w B (fun v _ => v = .tuple #[.agg #[.string a, .string b, .string c], .int .i64 e]):=z3o hr hs hB hM
theorem zva {s a b c:ByteArray} {e:Int} (hr:psA s = (a, b, c, e)) (hs:s.size ≤ 1000000) {w:World} {B:Heap} (hB:B.Le (hp w)) (hM:GlobM B) :
  Ret Tryz.prog 134 [.string s] w B (fun v _ => v = .tuple #[.agg #[.string a, .string b, .string c], .int .i64 e]):=z3k hr hs hB hM
end Go.V
set_option maxRecDepth 20000
namespace Go.V
open Go.Proofs Go.RowKit
theorem _root_.Go.V.Za3 {A B:Prop} (h:B) (t:Wr B → A:=by intro h; refine z7 (yl rfl rfl rfl rfl (decide_eq_true (by omega))) rfl ?_;exact h.h):A:=t ⟨h⟩
theorem _root_.Go.V.ZE {A B:Prop} (h:B) (t:Wr B → A:=by intro h; refine z7 (yl rfl rfl rfl rfl (decide_eq_false (by omega))) rfl ?_;exact h.h):A:=t ⟨h⟩
theorem _root_.Go.V.Zbk {A B:Prop} (h:B) (t:Wr B → A:=by intro h; refine z7 (zrt rfl rfl rfl rfl (decide_eq_true (by omega))) rfl ?_;exact h.h):A:=t ⟨h⟩
theorem _root_.Go.V.Zb8 {A B:Prop} (h:B) (t:Wr B → A:=by intro h; refine z7 (zrt rfl rfl rfl rfl (decide_eq_false (by omega))) rfl ?_;exact h.h):A:=t ⟨h⟩
theorem _root_.Go.V.ZX {A B:Prop} (h:B) (t:Wr B → A:=by intro h; refine Zu ?_;refine zk ?_;exact h.h):A:=t ⟨h⟩
theorem _root_.Go.V.ZaZ {A B:Prop} (h:B) (t:Wr B → A:=by intro h; refine Zx ?_;refine Zb ?_;exact h.h):A:=t ⟨h⟩
theorem _root_.Go.V.Zba {A B:Prop} (h:B) (t:Wr B → A:=by intro h; refine Zdq ?_;refine ZfK ?_;exact h.h):A:=t ⟨h⟩
theorem _root_.Go.V.ZS {A B:Prop} (h:B) (t:Wr B → A:=by intro h; refine Zc ?_;refine qe ?_;exact h.h):A:=t ⟨h⟩
theorem _root_.Go.V.ZaP {A B:Prop} (h:B) (t:Wr B → A:=by intro h; refine ZaA ?_;refine ZX ?_;exact h.h):A:=t ⟨h⟩
theorem _root_.Go.V.ZdV {A B:Prop} (h:B) (t:Wr B → A:=by intro h; refine Ze ?_;refine ZaZ ?_;exact h.h):A:=t ⟨h⟩
theorem _root_.Go.V.ZaD {A B:Prop} (h:B) (t:Wr B → A:=by intro h; refine ZeO ?_;refine qe ?_;exact h.h):A:=t ⟨h⟩
theorem _root_.Go.V.ZaQ {A B:Prop} (h:B) (t:Wr B → A:=by intro h; refine ZdV ?_;refine Zaf ?_;exact h.h):A:=t ⟨h⟩
theorem _root_.Go.V.Zbl {A B:Prop} (h:B) (t:Wr B → A:=by intro h; refine Zaq ?_;refine Za ?_;exact h.h):A:=t ⟨h⟩
theorem _root_.Go.V.Zd2 {A B:Prop} (h:B) (t:Wr B → A:=by intro h; refine Zk ?_;refine ZaP ?_;exact h.h):A:=t ⟨h⟩
attribute [local irreducible] V N X VO Par StepOK Has Ret RetL Src
set_option maxHeartbeats 1000000 in
theorem zer {s:ByteArray} (hs:s.size ≤ 9223372036854775807) {w:World} {B:Heap} (hB:B.Le (hp w)) :
  Ret Tryz.prog 175 [.string s] w B (fun v _ => v = .int .i64 (chk s)):=by
 refine qw Tryz.func175 rfl Tryz.ntmps175 (Nat.le_of_ble_eq_true rfl) hB ?_
 by_cases h0:1 ≤ s.size ∧ s.size ≤ 16
 ·obtain ⟨h1, h2⟩:=h0
  refine Zbl ?_;refine Zaf ?_;refine ZP ?_;refine Zb ?_;refine Zaf ?_;refine Zbk ?_;refine Zf ?_;refine Zdy ?_;refine ZS ?_
  refine zam (fun p:Nat × Bool => [(0, .is (.string s)), (3, .is (.bool p.2)), (4, .is (.int .i64 p.1))])
   (fun p => p.1 ≤ s.size ∧ (p.2 = true → (s.data.toList.take p.1).all okB = true) ∧ (p.2 = false → chk s = 6)) (fun p => s.size - p.1) (0, true) ⟨Nat.zero_le _, fun _ => by simp, fun h => by cases h⟩ ⟨rfl, rfl, rfl, trivial⟩ ?_
  rintro ⟨k, b⟩ ⟨hk, hall, hbad⟩
  dsimp only at hk hall hbad ⊢
  by_cases hlt:k < s.size
  ·cases b with
   | false =>
    refine ZaQ ?_;refine ZY ?_;refine Zb ?_;refine Zf ?_;refine Zba ?_;refine zj ?_;refine ZJ ?_;refine Zq ?_;refine Z7 ?_;refine Zc ?_
    refine qv L (rs:=[.tmp 2]) rfl (fun _ _ h => h) Since.refl fun u H hH hle => ?_
    exact congrArg _ (hbad rfl).symm
   | true =>
    obtain ⟨c, hc⟩:=getElem?_lt hlt
    have hu:=z0v c
    by_cases a1:97 ≤ (c.toNat:Int)
    ·by_cases a4:(c.toNat:Int) ≤ 122
     ·refine ZaQ ?_;refine ZY ?_;refine Zb ?_;refine Zcs ?_;refine ZaD ?_;refine Z2 ?_;refine ZaM ?_;refine Za3 ?_;refine Zdt ?_;refine Zbk ?_;refine Zf ?_;refine ZbO ?_;refine Zbs ?_;refine Zbs ?_;refine Zbs ?_;refine Zf ?_;refine ZX ?_;refine Za5 ?_;refine Zd2 ?_
      exact y9 (x:=(k, true)) (k + 1, true) ⟨hlt, fun _ => zi0 hc (z3t (by omega) (by omega)) (hall rfl), fun h => (by cases h)⟩ (by dsimp only; omega) ⟨rfl, rfl, rfl, trivial⟩
     ·refine ZaQ ?_;refine ZY ?_;refine Zb ?_;refine Zcs ?_;refine ZaD ?_;refine Z2 ?_;refine ZaM ?_;refine Za3 ?_;refine Zdt ?_;refine Zb8 ?_;refine ZaN ?_;refine Zdp ?_;refine Za3 ?_;refine Zdt ?_;refine Zb8 ?_;refine Zf ?_;refine Zf ?_;refine ZX ?_;refine Za5 ?_;refine Zd2 ?_
      exact y9 (x:=(k, true)) (k + 1, false) ⟨hlt, fun h => (by cases h), fun _ => zl9 hc (z3u (by omega))⟩ (by dsimp only; omega) ⟨rfl, rfl, rfl, trivial⟩
    ·by_cases a2:48 ≤ (c.toNat:Int)
     ·by_cases a3:(c.toNat:Int) ≤ 57
      ·refine ZaQ ?_;refine ZY ?_;refine Zb ?_;refine Zcs ?_;refine ZaD ?_;refine Z2 ?_;refine ZaM ?_;refine ZE ?_;refine ZbO ?_;refine ZaN ?_;refine Zdp ?_;refine Za3 ?_;refine Zdt ?_;refine Zbk ?_;refine Zf ?_;refine Zf ?_;refine ZX ?_;refine Za5 ?_;refine Zd2 ?_
       exact y9 (x:=(k, true)) (k + 1, true) ⟨hlt, fun _ => zi0 hc (z3s (by omega) (by omega)) (hall rfl), fun h => (by cases h)⟩ (by dsimp only; omega) ⟨rfl, rfl, rfl, trivial⟩
      ·refine ZaQ ?_;refine ZY ?_;refine Zb ?_;refine Zcs ?_;refine ZaD ?_;refine Z2 ?_;refine ZaM ?_;refine ZE ?_;refine ZbO ?_;refine ZaN ?_;refine Zdp ?_;refine Za3 ?_;refine Zdt ?_;refine Zb8 ?_;refine Zf ?_;refine Zf ?_;refine ZX ?_;refine Za5 ?_;refine Zd2 ?_
       exact y9 (x:=(k, true)) (k + 1, false) ⟨hlt, fun h => (by cases h), fun _ => zl9 hc (z3v (by omega) (by omega))⟩ (by dsimp only; omega) ⟨rfl, rfl, rfl, trivial⟩
     ·refine ZaQ ?_;refine ZY ?_;refine Zb ?_;refine Zcs ?_;refine ZaD ?_;refine Z2 ?_;refine ZaM ?_;refine ZE ?_;refine ZbO ?_;refine ZaN ?_;refine Zdp ?_;refine ZE ?_;refine ZbO ?_;refine Zf ?_;refine Zf ?_;refine ZX ?_;refine Za5 ?_;refine Zd2 ?_
      exact y9 (x:=(k, true)) (k + 1, false) ⟨hlt, fun h => (by cases h), fun _ => zl9 hc (z3w (by omega) (by omega))⟩ (by dsimp only; omega) ⟨rfl, rfl, rfl, trivial⟩
  ·cases b with
   | false =>
    refine ZaQ ?_;refine ZI ?_;refine Za ?_;refine ZeQ ?_;refine Zba ?_;refine zj ?_;refine ZJ ?_;refine Zq ?_;refine Z7 ?_;refine Zc ?_
    refine qv L (rs:=[.tmp 2]) rfl (fun _ _ h => h) Since.refl fun u H hH hle => ?_
    exact congrArg _ (hbad rfl).symm
   | true =>
    refine ZaQ ?_;refine ZI ?_;refine Za ?_;refine ZeQ ?_;refine Zba ?_;refine zj ?_;refine ZJ ?_;refine Zs ?_;refine ZL ?_;refine Zc ?_
    refine qv L (rs:=[.tmp 2]) rfl (fun _ _ h => h) Since.refl fun u H hH hle => ?_
    exact congrArg _ (zw6 h1 h2 (zsn (by omega) (hall rfl))).symm
 ·have hbad:=zq2 h0
  by_cases h1:1 ≤ s.size
  ·have h2:16 < s.size:=by omega
   refine Zbl ?_;refine Zaf ?_;refine ZP ?_;refine Zb ?_;refine Zaf ?_;refine Zb8 ?_;refine Zf ?_;refine Zdy ?_;refine ZS ?_
   refine zam (fun _:Unit => [(0, .is (.string s)), (3, .is (.bool false)), (4, .is (.int .i64 0))]) (fun _ => True) (fun _ => 0) () trivial ⟨rfl, rfl, rfl, trivial⟩ ?_
   rintro _ _
   refine ZaQ ?_;refine ZY ?_;refine Zb ?_;refine Zf ?_;refine Zba ?_;refine zj ?_;refine ZJ ?_;refine Zq ?_;refine Z7 ?_;refine Zc ?_
   refine qv L (rs:=[.tmp 2]) rfl (fun _ _ h => h) Since.refl fun u H hH hle => ?_
   exact congrArg _ hbad.symm
  ·refine Zbl ?_;refine Zaf ?_;refine Z3 ?_;refine Zak ?_;refine Zdy ?_;refine ZS ?_
   refine zam (fun _:Unit => [(0, .is (.string s)), (3, .is (.bool false)), (4, .is (.int .i64 0))]) (fun _ => True) (fun _ => 0) () trivial ⟨rfl, rfl, rfl, trivial⟩ ?_
   rintro _ _
   refine ZaQ ?_;refine ZI ?_;refine Za ?_;refine ZeQ ?_;refine Zba ?_;refine zj ?_;refine ZJ ?_;refine Zq ?_;refine Z7 ?_;refine Zc ?_
   refine qv L (rs:=[.tmp 2]) rfl (fun _ _ h => h) Since.refl fun u H hH hle => ?_
   exact congrArg _ hbad.symm
theorem max2 (a b:ByteArray):(if chk b > chk a then chk b else chk a) = zcf [a, b]:=by
 simp only [zcf]
 rcases zbo a with h | h <;> rcases zbo b with h' | h' <;> simp [h, h']
theorem z5r (a b c:ByteArray):(if chk c > zcf [a, b] then chk c else zcf [a, b]) = zcf [a, b, c]:=by
 simp only [zcf]
 rcases zbo a with h | h <;> rcases zbo b with h' | h' <;> rcases zbo c with h'' | h'' <;> simp [h, h', h'']
theorem zdv {a b:ByteArray} (ha:a.size ≤ 9223372036854775807) (hb:b.size ≤ 9223372036854775807) {w:World} {B:Heap} (hB:B.Le (hp w)) :
  Ret Tryz.prog 174 [.agg #[.string a, .string b]] w B (fun v _ => v = .int .i64 (zcf [a, b])):=by
 refine qw Tryz.func174 rfl Tryz.ntmps174 (Nat.le_of_ble_eq_true rfl) hB ?_
 refine ZK ?_;refine ZbS ?_;refine Zbw ?_;refine z8 (zq L rfl rfl (zn rfl) rfl rfl rfl (fun u H hH _ _ => zer (by first | omega | decide) hH)) rfl ?_;refine Zbw ?_;refine z8 (zq L rfl rfl (zn rfl) rfl rfl rfl (fun u H hH _ _ => zer (by first | omega | decide) hH)) rfl ?_;refine z8 (zgi rfl rfl rfl rfl rfl) rfl ?_;refine ZB ?_
 refine qv L (rs:=[.tmp 2]) rfl (fun _ _ h => h) Since.refl fun u H hH hle => ?_
 exact congrArg _ (max2 a b)
theorem zov {a b c:ByteArray} (ha:a.size ≤ 9223372036854775807) (hb:b.size ≤ 9223372036854775807) (hc:c.size ≤ 9223372036854775807) {w:World} {B:Heap} (hB:B.Le (hp w)) :
  Ret Tryz.prog 125 [.agg #[.string a, .string b, .string c]] w B (fun v _ => v = .int .i64 (zcf [a, b, c])):=by
 refine qw Tryz.func125 rfl Tryz.ntmps125 (Nat.le_of_ble_eq_true rfl) hB ?_
 refine ZK ?_;refine ZbS ?_;refine Zdx ?_;refine z8 (zq L rfl rfl (zn rfl) rfl rfl rfl (fun u H hH _ _ => zdv (by first | assumption | omega | decide) (by first | assumption | omega | decide) hH)) rfl ?_;refine Zbw ?_;refine z8 (zq L rfl rfl (zn rfl) rfl rfl rfl (fun u H hH _ _ => zer (by first | omega | decide) hH)) rfl ?_;refine z8 (zgi rfl rfl rfl rfl rfl) rfl ?_;refine ZB ?_
 refine qv L (rs:=[.tmp 2]) rfl (fun _ _ h => h) Since.refl fun u H hH hle => ?_
 exact congrArg _ (z5r a b c)
end Go.V
set_option maxRecDepth 20000
namespace Go.V
open Go.Proofs Go.RowKit
theorem _root_.Go.V.ZdW {A B:Prop} (h:B) (t:Wr B → A:=by intro h; refine q6 (id:=3) [] mixed (by kernel_rfl) ?_;exact h.h):A:=t ⟨h⟩
theorem _root_.Go.V.ZbW {A B:Prop} (h:B) (t:Wr B → A:=by intro h; refine ZR ?_;refine Zq ?_;exact h.h):A:=t ⟨h⟩
attribute [local irreducible] V N X VO Par StepOK Has Ret RetL Src
theorem zrl {c:ByteArray} (h:c.size = 0):c = ⟨#[]⟩:=by
 obtain ⟨⟨l⟩⟩:=c
 have h':l.length = 0:=h
 rw [List.eq_nil_of_length_eq_zero h']
theorem zig {a b c:ByteArray} (ha:a.size ≤ 9223372036854775807) (hb:b.size ≤ 9223372036854775807) (hc:c.size ≤ 9223372036854775807) {w:World} {B:Heap} (hB:B.Le (hp w)) :
  Ret Tryz.prog 126 [.agg #[.string a, .string b, .string c]] w B (fun v _ => v = .int .i64 (zgf a b c)):=by
 refine qw Tryz.func126 rfl Tryz.ntmps126 (Nat.le_of_ble_eq_true rfl) hB ?_
 by_cases h:c.size = 0
 ·refine Zc4 ?_;refine Zaf ?_;refine Z9 ?_;refine ZbM ?_;refine Zal ?_;refine Zco ?_;refine z7 (zq L rfl rfl (zn rfl) rfl rfl rfl (fun u H hH _ _ => zdv (by first | assumption | omega | decide) (by first | assumption | omega | decide) hH)) rfl ?_;refine Zc ?_
  refine qv L (rs:=[.tmp 2]) rfl (fun _ _ h => h) Since.refl fun u H hH hle => ?_
  exact congrArg (Value.int .i64) (show zcf [a, b] = zgf a b c from (if_pos (zrl h)).symm)
 ·refine Zc4 ?_;refine Zaf ?_;refine ZbW ?_;refine ZdW ?_;refine Zdx ?_;refine z8 (zq L rfl rfl (zn rfl) rfl rfl rfl (fun u H hH _ _ => zdv (by first | assumption | omega | decide) (by first | assumption | omega | decide) hH)) rfl ?_;refine Zbw ?_;refine z8 (zq L rfl rfl (zn rfl) rfl rfl rfl (fun u H hH _ _ => zer (by first | omega | decide) hH)) rfl ?_;refine z8 (zgi rfl rfl rfl rfl rfl) rfl ?_;refine ZB ?_
  refine qv L (rs:=[.tmp 2]) rfl (fun _ _ h => h) Since.refl fun u H hH hle => ?_
  exact congrArg (Value.int .i64) ((z5r a b c).trans (show zcf [a, b, c] = zgf a b c from (if_neg (fun e => h (by subst e; rfl))).symm))
theorem zmw {a b c:ByteArray} (ha:a.size ≤ 1099511627776) (hb:b.size ≤ 1099511627776) (hc:c.size ≤ 1099511627776) {w:World} {B:Heap} (hB:B.Le (hp w)) :
  Ret Tryz.prog 127 [.agg #[.string a, .string b, .string c]] w B (fun v _ => v = .string (zdh a b c)):=by
 have hz:a.size + sCol.size ≤ 9223372036854775807:=by rw [zdu]; omega
 have hz2:(a ++ sCol).size + b.size ≤ 9223372036854775807:=by rw [ByteArray.size_append, zdu]; omega
 have hz3:(a ++ sCol ++ b).size + sHash.size ≤ 9223372036854775807:=by rw [zc0]; have:=objT_size a b; unfold zi6 at this; omega
 have hz4:(a ++ sCol ++ b ++ sHash).size + c.size ≤ 9223372036854775807:=by rw [ByteArray.size_append, zc0]; have:=objT_size a b; unfold zi6 at this; omega
 refine qw Tryz.func127 rfl Tryz.ntmps127 (Nat.le_of_ble_eq_true rfl) hB ?_
 refine Zcr ?_;refine ZbR ?_;refine ZbQ ?_;refine ZbR ?_;refine ZbQ ?_;refine ZbQ ?_;refine ZW ?_;refine ZbQ ?_;refine Zc ?_
 refine qv L (rs:=[.tmp 2]) rfl (fun _ _ h => h) Since.refl fun u H hH hle => ?_
 rfl
theorem zmv {a b c:ByteArray} (ha:a.size ≤ 1099511627776) (hb:b.size ≤ 1099511627776) (hc:c.size ≤ 1099511627776) {w:World} {B:Heap} (hB:B.Le (hp w)) :
  Ret Tryz.prog 128 [.agg #[.string a, .string b, .string c]] w B (fun v _ => v = .string (zen a b c)):=by
 have hz:a.size + sCol.size ≤ 9223372036854775807:=by rw [zdu]; omega
 have hz2:(a ++ sCol).size + b.size ≤ 9223372036854775807:=by rw [ByteArray.size_append, zdu]; omega
 have hz3:(a ++ sCol ++ b).size + sHash.size ≤ 9223372036854775807:=by rw [zc0]; have:=objT_size a b; unfold zi6 at this; omega
 have hz4:(a ++ sCol ++ b ++ sHash).size + c.size ≤ 9223372036854775807:=by rw [ByteArray.size_append, zc0]; have:=objT_size a b; unfold zi6 at this; omega
 refine qw Tryz.func128 rfl Tryz.ntmps128 (Nat.le_of_ble_eq_true rfl) hB ?_
 by_cases h:c.size = 0
 ·refine Zc4 ?_;refine Zaf ?_;refine Z9 ?_;refine ZbM ?_;refine ZbR ?_;refine ZbQ ?_;refine ZbR ?_;refine ZbQ ?_;refine Zc ?_
  refine qv L (rs:=[.tmp 2]) rfl (fun _ _ h => h) Since.refl fun u H hH hle => ?_
  exact congrArg Value.string (show zi6 a b = zen a b c from (if_pos (zrl h)).symm)
 ·refine Zc4 ?_;refine Zaf ?_;refine ZbW ?_;refine Zx ?_;refine ZbR ?_;refine ZbQ ?_;refine ZbR ?_;refine ZbQ ?_;refine ZbQ ?_;refine ZW ?_;refine ZbQ ?_;refine Zc ?_
  refine qv L (rs:=[.tmp 2]) rfl (fun _ _ h => h) Since.refl fun u H hH hle => ?_
  exact congrArg Value.string (show zdh a b c = zen a b c from (if_neg (fun e => h (by subst e; rfl))).symm)
end Go.V
set_option maxRecDepth 20000
namespace Go.V
open Go.RowKit
def noB (s:ByteArray) (c:UInt8):Prop:=c ∉ s.data.toList
theorem zfb (r:List UInt8) (c:UInt8):∀ (l:List UInt8), c ∉ l → Lib.indexByte (l ++ c :: r) c = l.length
 | [], _ => by simp [Lib.indexByte]
 | b :: l, h => by
  have h1:¬ (b == c) = true:=fun e => h (by rw [beq_iff_eq] at e; rw [e]; exact List.mem_cons_self ..)
  have ih:=zfb r c l (fun e => h (List.mem_cons_of_mem _ e))
  rw [List.cons_append, Lib.indexByte, if_neg h1, ih, if_neg (by rw [beq_iff_eq]; omega)]
  simp
theorem zfw (c:UInt8):∀ (l:List UInt8), c ∉ l → Lib.indexByte l c = -1
 | [], _ => rfl
 | b :: l, h => by
  have h1:¬ (b == c) = true:=fun e => h (by rw [beq_iff_eq] at e; rw [e]; exact List.mem_cons_self ..)
  rw [Lib.indexByte, if_neg h1, zfw c l (fun e => h (List.mem_cons_of_mem _ e))]
  rfl
theorem z2b {l r:List UInt8} {c:UInt8} (h:c ∉ l):Lib.cut (l ++ c :: r) [c] = (l, r, true):=by
 unfold Lib.cut
 rw [Lib.index_one, zfb r c l h, if_pos (by omega)]
 simp
theorem z4j {l:List UInt8} {c:UInt8} (h:c ∉ l):Lib.cut l [c] = (l, [], false):=by
 unfold Lib.cut
 rw [Lib.index_one, zfw c l h, if_neg (by omega)]
theorem zas (a b:ByteArray):(a ++ b).data.toList = a.data.toList ++ b.data.toList:=by
 rw [ByteArray.data_append, Array.toList_append]
theorem zbr {a b:ByteArray} (h:a.data.toList = b.data.toList):a = b:=by
 obtain ⟨⟨x⟩⟩:=a; obtain ⟨⟨y⟩⟩:=b; simp at h; subst h; rfl
theorem ba_of (a:ByteArray):(⟨a.data.toList.toArray⟩:ByteArray) = a:=by obtain ⟨⟨l⟩⟩:=a; rfl
theorem zeh {a b:ByteArray} {c:UInt8} (h:noB a c):zcy (a ++ ⟨#[c]⟩ ++ b) c = (a, b, true):=by
 have e:(a ++ ⟨#[c]⟩ ++ b).data.toList = a.data.toList ++ c :: b.data.toList:=by rw [zas, zas]; simp
 unfold zcy
 rw [e, z2b h]
theorem znp {a:ByteArray} {c:UInt8} (h:noB a c):zcy a c = (a, ⟨#[]⟩, false):=by
 unfold zcy
 rw [z4j h]
theorem zfx {a:ByteArray} {c:UInt8} (h:noB a c):zp0 a c = false:=by
 unfold zp0
 rw [zfw c _ h]; rfl
theorem zw2 {a:ByteArray} {c:UInt8} (h:noB a c):zxl a c = 0:=by
 unfold zxl Lib.countByte
 exact List.count_eq_zero_of_not_mem h
theorem zbe {a b:ByteArray} {c:UInt8} (h:noB a c) (k:noB b c):noB (a ++ b) c:=by
 unfold noB at *
 rw [zas]
 simp [h, k]
theorem zc3 {c d:UInt8} (h:c ≠ d):noB ⟨#[d]⟩ c:=by unfold noB; simp [h]
structure z21 (s:ByteArray):Prop where
 colon:noB s 58
 hash:noB s 35
theorem zef {s:ByteArray} (h:chk s = 0):z21 s:=by
 unfold chk at h
 split at h
 ·rename_i hc
  have:=List.all_eq_true.1 hc.2.2
  exact ⟨fun hm => by have:=this _ hm; revert this; decide, fun hm => by have:=this _ hm; revert this; decide⟩
 ·exact absurd h (by decide)
theorem zve {a b:ByteArray} (ha:z21 a) (hb:z21 b):zbx (zi6 a b) = some (a, b, ⟨#[]⟩, false):=by
 have h1:zcy (zi6 a b) 58 = (a, b, true):=zeh ha.colon
 unfold zbx
 rw [h1]
 simp only [zfx ha.hash, zfx hb.colon, zw2 hb.hash, znp hb.hash]
 simp
theorem zlr {a b c:ByteArray} (ha:z21 a) (hb:z21 b) (hc:z21 c):zbx (zdh a b c) = some (a, b, c, true):=by
 have e:zdh a b c = a ++ sCol ++ (b ++ sHash ++ c):=by unfold zdh zi6; apply zbr; simp only [zas, List.append_assoc]
 have h1:zcy (zdh a b c) 58 = (a, b ++ sHash ++ c, true):=by rw [e]; exact zeh ha.colon
 have h2:noB (b ++ sHash ++ c) 58:=zbe (zbe hb.colon (zc3 (by decide))) hc.colon
 have h3:zxl (b ++ sHash ++ c) 35 = 1:=by
  unfold zxl Lib.countByte
  rw [zas, zas, List.count_append, List.count_append, List.count_eq_zero_of_not_mem hb.hash, List.count_eq_zero_of_not_mem hc.hash]
  simp
 have h4:zcy (b ++ sHash ++ c) 35 = (b, c, true):=zeh hb.hash
 unfold zbx
 rw [h1]
 simp only [zfx ha.hash, zfx h2, h3, h4]
 simp
theorem z4r {a b:ByteArray} (h:zcf [a, b] = 0):chk a = 0 ∧ chk b = 0:=by
 simp only [zcf] at h
 rcases zbo a with h1 | h1 <;> rcases zbo b with h2 | h2 <;> simp [h1, h2] at h ⊢
theorem zq6 {a b c:ByteArray} (h:zcf [a, b, c] = 0):chk a = 0 ∧ chk b = 0 ∧ chk c = 0:=by
 simp only [zcf] at h
 rcases zbo a with h1 | h1 <;> rcases zbo b with h2 | h2 <;> rcases zbo c with h3 | h3 <;> simp [h1, h2, h3] at h ⊢
theorem zsp {a b:ByteArray} (ha:chk a = 0) (hb:chk b = 0):zcf [a, b] = 0:=by simp [zcf, ha, hb]
theorem zzn {a b c:ByteArray} (ha:chk a = 0) (hb:chk b = 0) (hc:chk c = 0):zcf [a, b, c] = 0:=by simp [zcf, ha, hb, hc]
theorem zeo {a b c:ByteArray} (h:zgf a b c = 0):chk a = 0 ∧ chk b = 0 ∧ (c = ⟨#[]⟩ ∨ chk c = 0):=by
 unfold zgf at h
 split at h
 ·rename_i hc; exact ⟨(z4r h).1, (z4r h).2, .inl hc⟩
 ·exact ⟨(zq6 h).1, (zq6 h).2.1, .inr (zq6 h).2.2⟩
theorem z1a {a b c:ByteArray} (h:zgf a b c = 0):psA (zen a b c) = (a, b, c, 0):=by
 obtain ⟨ha, hb, hc⟩:=zeo h
 unfold psA zen
 by_cases h0:c = ⟨#[]⟩
 ·subst h0
  rw [if_pos rfl, zve (zef ha) (zef hb)]
  simp only [zsp ha hb, if_true]
  simp
 ·have hc':chk c = 0:=hc.resolve_left h0
  rw [if_neg h0, zlr (zef ha) (zef hb) (zef hc')]
  simp only [zsp ha hb, hc', if_true]
theorem z1g {a b c:ByteArray} (ha:chk a = 0) (hb:chk b = 0) (hc:chk c = 0):pgA (zdh a b c) = (a, b, c, 0):=by
 unfold pgA
 rw [zlr (zef ha) (zef hb) (zef hc)]
 simp [zzn ha hb hc]
theorem subjT_size (a b c:ByteArray):(zen a b c).size ≤ a.size + b.size + c.size + 2:=by
 unfold zen; split
 ·rw [objT_size]; omega
 ·rw [goalT_size]; omega
end Go.V
set_option maxRecDepth 20000
namespace Go.V
open Go.Proofs Go.RowKit
theorem _root_.Go.V.Zg {A B:Prop} (h:B) (t:Wr B → A:=by intro h; refine z8 (zg rfl rfl rfl) rfl ?_;exact h.h):A:=t ⟨h⟩
theorem _root_.Go.V.Zan {A B:Prop} (h:B) (t:Wr B → A:=by intro h; refine z8 (qo rfl rfl rfl rfl (by assumption)) rfl ?_;exact h.h):A:=t ⟨h⟩
theorem _root_.Go.V.Zbx {A B:Prop} (h:B) (t:Wr B → A:=by intro h; refine z7 (yf rfl rfl rfl rfl (zaa (by omega) (by omega))) rfl ?_;exact h.h):A:=t ⟨h⟩
theorem _root_.Go.V.Zb9 {A B:Prop} (h:B) (t:Wr B → A:=by intro h; refine q6 (id:=8) [] mixed (by kernel_rfl) ?_;exact h.h):A:=t ⟨h⟩
theorem _root_.Go.V.ZcW {A B:Prop} (h:B) (t:Wr B → A:=by intro h; refine z8 (ql L rfl rfl rfl rfl rfl rfl rfl rfl) rfl ?_;exact h.h):A:=t ⟨h⟩
theorem _root_.Go.V.Zfl {A B:Prop} (h:B) (t:Wr B → A:=by intro h; refine z8 (zz L (vs:=[_, _]) (qp rfl) rfl rfl rfl rfl ⟨_, rfl⟩) rfl ?_;exact h.h):A:=t ⟨h⟩
theorem _root_.Go.V.Ze9 {A B:Prop} (h:B) (t:Wr B → A:=by intro h; refine q6 (id:=5) [] mixed (by kernel_rfl) ?_;exact h.h):A:=t ⟨h⟩
theorem _root_.Go.V.ZeA {A B:Prop} (h:B) (t:Wr B → A:=by intro h; refine q6 (id:=7) [] mixed (by kernel_rfl) ?_;exact h.h):A:=t ⟨h⟩
theorem _root_.Go.V.Zp {A B:Prop} (h:B) (t:Wr B → A:=by intro h; refine Zg ?_;refine Zg ?_;exact h.h):A:=t ⟨h⟩
theorem _root_.Go.V.ZaK {A B:Prop} (h:B) (t:Wr B → A:=by intro h; refine qk ?_;refine ZbK ?_;exact h.h):A:=t ⟨h⟩
theorem _root_.Go.V.Zaa {A B:Prop} (h:B) (t:Wr B → A:=by intro h; refine ZbU ?_;refine Za2 ?_;exact h.h):A:=t ⟨h⟩
theorem _root_.Go.V.Zax {A B:Prop} (h:B) (t:Wr B → A:=by intro h; refine Za3 ?_;refine Z8 ?_;exact h.h):A:=t ⟨h⟩
theorem _root_.Go.V.Zby {A B:Prop} (h:B) (t:Wr B → A:=by intro h; refine Zb ?_;refine ZP ?_;exact h.h):A:=t ⟨h⟩
theorem _root_.Go.V.ZbA {A B:Prop} (h:B) (t:Wr B → A:=by intro h; refine ZbU ?_;refine ZdS ?_;exact h.h):A:=t ⟨h⟩
theorem _root_.Go.V.ZbX {A B:Prop} (h:B) (t:Wr B → A:=by intro h; refine Ze ?_;refine Zm ?_;exact h.h):A:=t ⟨h⟩
theorem _root_.Go.V.Zc6 {A B:Prop} (h:B) (t:Wr B → A:=by intro h; refine Ze3 ?_;refine Zf ?_;exact h.h):A:=t ⟨h⟩
def fi (c:UInt8):List UInt8 → Nat
 | [] => 0
 | x :: l => if x = c then 0 else fi c l + 1
theorem z4g {c:UInt8}:∀ {l:List UInt8}, c ∉ l → fi c l = l.length
 | [], _ => rfl
 | x :: l, h => by
  rw [fi, if_neg fun e => h (by rw [e]; exact List.mem_cons_self ..), z4g fun e => h (List.mem_cons_of_mem _ e), List.length_cons]
theorem zsa {c:UInt8} {q:List UInt8}:∀ {p:List UInt8}, c ∉ p → fi c (p ++ q) = p.length + fi c q
 | [], _ => by simp
 | x :: p, h => by
  rw [List.cons_append, fi, if_neg fun e => h (by rw [e]; exact List.mem_cons_self ..), zsa fun e => h (List.mem_cons_of_mem _ e), List.length_cons]; omega
theorem z4h {c:UInt8} {q:List UInt8}:∀ {p:List UInt8}, c ∈ p → fi c (p ++ q) < p.length
 | x :: p, h => by
  rw [List.cons_append, fi]
  split
  ·simp
  ·rename_i hx
   have:=z4h (q:=q) ((List.mem_cons.1 h).resolve_left fun e => hx e.symm)
   simp only [List.length_cons]; omega
theorem zhy (s:ByteArray) (c:UInt8):noB s c ∨ ∃ a b, s = a ++ ⟨#[c]⟩ ++ b ∧ noB a c:=by
 by_cases h:c ∈ s.data.toList
 ·obtain ⟨p, q, e, hp⟩:=List.eq_append_cons_of_mem h
  refine .inr ⟨⟨p.toArray⟩, ⟨q.toArray⟩, zbr ?_, by unfold noB; simpa using hp⟩
  rw [zas, zas, e]
  simp
 ·exact .inl h
theorem zfd (p q r:ByteArray) (i j:Nat) (hi:i = p.size) (hj:j = p.size + q.size):(p ++ q ++ r).extract i j = q:=by
 subst hi hj
 apply zbr
 rw [ByteArray.data_extract, Array.toList_extract, List.extract, zas, zas]
 have h1:p.data.toList.length = p.size:=za9 p
 have h2:q.data.toList.length = q.size:=za9 q
 rw [List.append_assoc, ← h1, List.drop_left, List.take_left' (by omega)]
theorem znj {a:ByteArray} {c:UInt8} (h:¬ noB a c):zp0 a c = true:=by
 rcases zhy a c with h1 | ⟨p, q, rfl, hp⟩
 ·exact absurd h1 h
 ·unfold zp0
  have e:(p ++ ⟨#[c]⟩ ++ q).data.toList = p.data.toList ++ c :: q.data.toList:=by rw [zas, zas]; simp
  rw [e, zfb _ _ _ hp]
  simp
def rp1 (s:ByteArray):ByteArray × ByteArray × ByteArray × Bool × Int :=
 match zbx s with
 | none => (zdi, zdi, zdi, false, 5)
 | some (x, y, z, d) => (x, y, z, d, if d = true then zcf [x, y, z] else zcf [x, y])
theorem zi8 (a b:ByteArray) (c:UInt8):(a ++ ⟨#[c]⟩ ++ b).data.toList = a.data.toList ++ c :: b.data.toList:=by rw [zas, zas]; simp
theorem zna (a b:ByteArray) (c:UInt8):(a ++ ⟨#[c]⟩ ++ b).size = a.size + 1 + b.size:=by rw [ByteArray.size_append, ByteArray.size_append]; rfl
theorem zpn {s:ByteArray} {c:UInt8} (h:¬ noB s c):0 < s.data.toList.count c:=List.count_pos_iff.2 (Classical.not_not.1 h)
attribute [local irreducible] V N X VO Par StepOK Has Ret RetL Src
set_option maxHeartbeats 1000000 in
theorem zcg {s:ByteArray} {c:UInt8} {a n:Nat} (ha:fi c s.data.toList = a) (hn:s.data.toList.count c = n) (hs:s.size ≤ 1000000) {w:World} {B:Heap} (hB:B.Le (hp w)) :
  Ret Tryz.prog 173 [.string s, .int .u8 c.toNat] w B (fun v _ => v = .tuple #[.int .i64 a, .int .i64 n]):=by
 subst ha hn
 have hlen:=za9 s
 refine qw Tryz.func173 rfl Tryz.ntmps173 (Nat.le_of_ble_eq_true rfl) hB ?_
 refine Zau ?_;refine Zbj ?_;refine Zaf ?_;refine ZdS ?_;refine Z1 ?_;refine Zaf ?_;refine Zbx ?_;refine ZS ?_
 refine zam (fun x:Nat × Nat × Nat × Int => [(0, .is (.string s)), (1, .is (.int .u8 c.toNat)), (6, .is (.int .i64 x.2.1)), (7, .is (.int .i64 x.2.2.1)), (8, .is (.int .i64 x.2.2.2))])
  (fun x => x.1 ≤ s.size ∧ x.2.1 = x.1 + fi c (s.data.toList.drop x.1) ∧ x.2.2.1 = (s.data.toList.drop x.1).count c ∧ x.2.2.2 = (x.1:Int) - 1 ∧ x.2.2.1 ≤ s.size - x.1) (fun x => x.1) (s.size, s.size, 0, (s.size:Int) - 1)
  ⟨Nat.le_refl _, by rw [List.drop_eq_nil_of_le (by omega)]; rfl, by rw [List.drop_eq_nil_of_le (by omega)]; rfl, rfl, Nat.zero_le _⟩ ⟨rfl, rfl, rfl, rfl, rfl, trivial⟩ ?_
 rintro ⟨i, a, n, z⟩ ⟨hi, ha, hn, hz, hb⟩
 dsimp only at hi ha hn hz hb ⊢
 cases i with
 | zero =>
  rw [List.drop_zero] at ha hn
  have hz0:z < 0:=by omega
  obtain rfl:a = fi c s.data.toList:=by omega
  subst hn
  refine ZbX ?_;refine ZE ?_;refine Zba ?_;refine Z7 ?_;refine Zb ?_;refine Zt ?_
  refine qv L (rs:=[.tmp 4, .tmp 5]) rfl (fun _ _ h => h) Since.refl fun u H hH hle => ?_
  rfl
 | succ k =>
  obtain rfl:z = (k:Int):=by omega
  obtain ⟨x, hc⟩:=getElem?_lt (show k < s.size by omega)
  have hd:s.data.toList[k]? = some x:=by
   have:s.data[k]? = some x:=hc
   simpa using this
  have hdr:s.data.toList.drop k = x :: s.data.toList.drop (k + 1):=by
   have h1:k < s.data.toList.length:=by omega
   rw [List.drop_eq_getElem_cons h1]
   rw [List.getElem?_eq_getElem h1] at hd
   rw [Option.some.inj hd]
  by_cases hx:x = c
  ·subst hx
   refine ZbX ?_;refine Zax ?_;refine Ze2 ?_;refine Z2 ?_;refine ZaM ?_;refine Za ?_;refine Z9 ?_;refine Zs ?_;refine ZJ ?_;refine Zc ?_;refine ZO ?_;refine ZaP ?_;refine Za5 ?_;refine Zk ?_;refine Zbx ?_;refine ZX ?_
   exact y9 (x:=(k + 1, a, n, (k:Int))) (k, k, n + 1, (k:Int) - 1) ⟨by dsimp only; omega, by dsimp only; rw [hdr, fi, if_pos rfl]; rfl, by dsimp only; rw [hdr, List.count_cons_self, hn], rfl, by dsimp only; omega⟩ (by dsimp only; omega) ⟨rfl, rfl, rfl, rfl, rfl, trivial⟩
  ·have hxc:(x.toNat:Int) ≠ (c.toNat:Int):=fun e => hx (UInt8.toNat_inj.1 (by omega))
   refine ZbX ?_;refine Zax ?_;refine Ze2 ?_;refine Z2 ?_;refine ZaM ?_;refine Za ?_;refine ZR ?_;refine ZaO ?_;refine Zk ?_;refine Zbx ?_;refine ZX ?_
   exact y9 (x:=(k + 1, a, n, (k:Int))) (k, a, n, (k:Int) - 1) ⟨by dsimp only; omega, by dsimp only; rw [hdr, fi, if_neg hx, ha]; omega, by dsimp only; rw [hdr, List.count_cons_of_ne hx, hn], rfl, by dsimp only; omega⟩ (by dsimp only; omega) ⟨rfl, rfl, rfl, rfl, rfl, trivial⟩
set_option maxHeartbeats 2000000 in
theorem zqh {s:ByteArray} {r:ByteArray × ByteArray × ByteArray × Bool × Int} (hr:rp1 s = r) (hs:s.size ≤ 1000000) {w:World} {B:Heap} (hB:B.Le (hp w)) :
  Ret Tryz.prog 106 [.string s] w B (fun v _ => v = .tuple #[.agg #[.string r.1, .string r.2.1], .string r.2.2.1, .bool r.2.2.2.1, .int .i64 r.2.2.2.2]):=by
 subst hr
 have bad:zbx s = none → ∀ {m k m2 k2:Nat}, fi 58 s.data.toList = m → s.data.toList.count 58 = k → fi 35 s.data.toList = m2 → s.data.toList.count 35 = k2 → (k ≠ 1 ∨ 1 < k2 ∨ m2 < m) →
   Ret Tryz.prog 106 [.string s] w B (fun v _ => v = .tuple #[.agg #[.string (rp1 s).1, .string (rp1 s).2.1], .string (rp1 s).2.2.1, .bool (rp1 s).2.2.2.1, .int .i64 (rp1 s).2.2.2.2]):=by
  intro hp m k m2 k2 e1 e2 e3 e4 hor
  have hr1:rp1 s = (zdi, zdi, zdi, false, 5):=by unfold rp1; rw [hp]
  rw [hr1]
  refine qw Tryz.func106 rfl Tryz.ntmps106 (Nat.le_of_ble_eq_true rfl) hB ?_
  by_cases c1:k = 1
  ·by_cases c2:1 < k2
   ·refine ZaI ?_;refine Zu ?_;refine Zu ?_;refine Zbj ?_;refine z7 (zq L rfl rfl (zn rfl) rfl rfl rfl (fun u H hH _ _ => zcg (c:=58) e1 e2 hs hH)) rfl ?_;refine Zaa ?_;refine Z1 ?_;refine z7 (zq L rfl rfl (zn rfl) rfl rfl rfl (fun u H hH _ _ => zcg (c:=35) e3 e4 hs hH)) rfl ?_;refine ZbA ?_;refine Zm ?_;refine ZA ?_;refine Zby ?_;refine Zf ?_;refine Zak ?_;refine Zs ?_;refine Zv ?_;refine Zek ?_;refine Zam ?_;refine Zd0 ?_
    refine qv L (rs:=[.cell 2 29, .tmp 3, .tmp 4, .tmp 5]) rfl (fun _ _ h => h) Since.refl fun u H hH hle => ?_
    exact ⟨_, qp rfl, rfl, rfl⟩
   ·have c3:m2 < m:=by omega
    refine ZaI ?_;refine Zu ?_;refine Zu ?_;refine Zbj ?_;refine z7 (zq L rfl rfl (zn rfl) rfl rfl rfl (fun u H hH _ _ => zcg (c:=58) e1 e2 hs hH)) rfl ?_;refine Zaa ?_;refine Z1 ?_;refine z7 (zq L rfl rfl (zn rfl) rfl rfl rfl (fun u H hH _ _ => zcg (c:=35) e3 e4 hs hH)) rfl ?_;refine ZbA ?_;refine Zm ?_;refine ZA ?_;refine Zb ?_;refine Z3 ?_;refine ZaN ?_;refine ZY ?_;refine Zbt ?_;refine Zv ?_;refine Zek ?_;refine Zam ?_;refine Zd0 ?_
    refine qv L (rs:=[.cell 2 29, .tmp 3, .tmp 4, .tmp 5]) rfl (fun _ _ h => h) Since.refl fun u H hH hle => ?_
    exact ⟨_, qp rfl, rfl, rfl⟩
  ·refine ZaI ?_;refine Zu ?_;refine Zu ?_;refine Zbj ?_;refine z7 (zq L rfl rfl (zn rfl) rfl rfl rfl (fun u H hH _ _ => zcg (c:=58) e1 e2 hs hH)) rfl ?_;refine Zaa ?_;refine Z1 ?_;refine z7 (zq L rfl rfl (zn rfl) rfl rfl rfl (fun u H hH _ _ => zcg (c:=35) e3 e4 hs hH)) rfl ?_;refine ZbA ?_;refine Zm ?_;refine Zbv ?_;refine Zc6 ?_;refine Zak ?_;refine Zs ?_;refine Zv ?_;refine Zek ?_;refine Zam ?_;refine Zd0 ?_
   refine qv L (rs:=[.cell 2 29, .tmp 3, .tmp 4, .tmp 5]) rfl (fun _ _ h => h) Since.refl fun u H hH hle => ?_
   exact ⟨_, qp rfl, rfl, rfl⟩
 rcases zhy s 58 with h58 | ⟨a, b, rfl, ha⟩
 ·refine bad ?_ rfl rfl rfl rfl (.inl ?_)
  ·unfold zbx; rw [znp h58]; simp
  ·rw [List.count_eq_zero_of_not_mem h58]; decide
 ·have hcut:zcy (a ++ ⟨#[58]⟩ ++ b) 58 = (a, b, true):=zeh ha
  have hls:=zi8 a b 58
  have hsz:=zna a b 58
  by_cases hb:noB b 58
  ·have hf1:fi 58 (a ++ ⟨#[58]⟩ ++ b).data.toList = a.size:=by rw [hls, zsa ha, za9]; simp [fi]
   have hc1:(a ++ ⟨#[58]⟩ ++ b).data.toList.count 58 = 1:=by rw [hls, List.count_append, List.count_cons_self, List.count_eq_zero_of_not_mem ha, List.count_eq_zero_of_not_mem hb]
   by_cases ha3:noB a 35
   ·have hf2:fi 35 (a ++ ⟨#[58]⟩ ++ b).data.toList = a.size + 1 + fi 35 b.data.toList:=by rw [hls, zsa ha3, za9, fi, if_neg (by decide)]; omega
    have hc2:(a ++ ⟨#[58]⟩ ++ b).data.toList.count 35 = b.data.toList.count 35:=by rw [hls, List.count_append, List.count_eq_zero_of_not_mem ha3, List.count_cons_of_ne (by decide)]; omega
    have hn1:=zfx ha3
    have hn2:=zfx hb
    have za:a.size ≤ 1099511627776:=by omega
    have zb:b.size ≤ 1099511627776:=by omega
    have hadd1:IntKind.i64.wrap ((a.size:Int) + 1) = ((a.size + 1:Nat):Int):=zaa (by omega) (by omega) |>.trans (by omega)
    have x1:(a ++ ⟨#[58]⟩ ++ b).extract 0 a.size = a:=by
     have:=zfd ⟨#[]⟩ a (⟨#[58]⟩ ++ b) 0 a.size rfl (by show _ = 0 + _; omega)
     conv => rhs; rw [← this]
     congr 1; apply zbr; simp [zas]
    rcases zhy b 35 with hb3 | ⟨c, e, rfl, hc3⟩
    ·have hp:zbx (a ++ ⟨#[58]⟩ ++ b) = some (a, b, zdi, false):=by
      unfold zbx; rw [hcut]
      simp only [hn1, hn2, zw2 hb3, znp hb3]
      simp
     have hr1:rp1 (a ++ ⟨#[58]⟩ ++ b) = (a, b, zdi, false, zcf [a, b]):=by unfold rp1; rw [hp]; rfl
     rw [hr1]
     have hf3:fi 35 (a ++ ⟨#[58]⟩ ++ b).data.toList = a.size + 1 + b.size:=by rw [hf2, z4g hb3, za9]
     have hc3:(a ++ ⟨#[58]⟩ ++ b).data.toList.count 35 = 0:=by rw [hc2, List.count_eq_zero_of_not_mem hb3]
     have x2:(a ++ ⟨#[58]⟩ ++ b).extract (a.size + 1) (a.size + 1 + b.size) = b:=by
      have:=zfd (a ++ ⟨#[58]⟩) b ⟨#[]⟩ (a.size + 1) (a.size + 1 + b.size) (by rw [ByteArray.size_append]; rfl) (by rw [ByteArray.size_append]; rfl)
      conv => rhs; rw [← this]
      congr 1; apply zbr; simp [zas]
     generalize a ++ ⟨#[58]⟩ ++ b = s at *
     refine qw Tryz.func106 rfl Tryz.ntmps106 (Nat.le_of_ble_eq_true rfl) hB ?_
     refine ZaI ?_;refine Zu ?_;refine Zu ?_;refine Zbj ?_;refine z7 (zq L rfl rfl (zn rfl) rfl rfl rfl (fun u H hH _ _ => zcg (c:=58) hf1 hc1 hs hH)) rfl ?_;refine Zaa ?_;refine Z1 ?_;refine z7 (zq L rfl rfl (zn rfl) rfl rfl rfl (fun u H hH _ _ => zcg (c:=35) hf3 hc3 hs hH)) rfl ?_;refine ZbA ?_;refine Zm ?_;refine ZA ?_;refine Zb ?_;refine Z3 ?_;refine ZaN ?_;refine ZI ?_;refine Za7 ?_;refine Ze9 ?_;refine Zp ?_;refine z8 (za1 L (kl:=.i64) (pl:=0) 0 a.size rfl rfl rfl rfl rfl ⟨rfl, rfl⟩ (by omega) (by omega) x1) rfl ?_;refine Zp ?_;refine Zan ?_;refine Zg ?_;refine z8 (za1 L (a.size + 1) (a.size + 1 + b.size) rfl rfl rfl rfl ⟨rfl, rfl⟩ ⟨rfl, rfl⟩ (by omega) (by omega) x2) rfl ?_;refine z8 (y5 (cs:=[_, _]) rfl rfl z5k rfl rfl) rfl ?_;refine z8 (qh L rfl rfl rfl rfl) rfl ?_;refine ZcW ?_;refine ZaK ?_;refine zj ?_;refine ZJ ?_;refine Z9 ?_;refine Zs ?_;refine ZeA ?_;refine Zfl ?_;refine Zfl ?_;refine z8 (zq L rfl rfl (zn rfl) rfl rfl rfl (fun u H hH _ _ => zdv (by first | assumption | omega | decide) (by first | assumption | omega | decide) hH)) rfl ?_;refine ZcW ?_;refine Zao ?_;refine Zao ?_;refine ZB ?_
     refine qv L (rs:=[.cell 2 29, .tmp 3, .tmp 4, .tmp 5]) rfl (fun _ _ h => h) Since.refl fun u H hH hle => ?_
     exact ⟨_, qp rfl, rfl, rfl⟩
    ·have hls2:=zi8 c e 35
     have hsz2:=zna c e 35
     by_cases he3:noB e 35
     ·have hcn:(c ++ ⟨#[35]⟩ ++ e).data.toList.count 35 = 1:=by rw [hls2, List.count_append, List.count_cons_self, List.count_eq_zero_of_not_mem hc3, List.count_eq_zero_of_not_mem he3]
      have hp:zbx (a ++ ⟨#[58]⟩ ++ (c ++ ⟨#[35]⟩ ++ e)) = some (a, c, e, true):=by
       unfold zbx; rw [hcut]
       have h4:zxl (c ++ ⟨#[35]⟩ ++ e) 35 = 1:=hcn
       simp only [hn1, hn2, h4, zeh hc3]
       simp
      have hr1:rp1 (a ++ ⟨#[58]⟩ ++ (c ++ ⟨#[35]⟩ ++ e)) = (a, c, e, true, zcf [a, c, e]):=by unfold rp1; rw [hp]; rfl
      rw [hr1]
      have hf3:fi 35 (a ++ ⟨#[58]⟩ ++ (c ++ ⟨#[35]⟩ ++ e)).data.toList = a.size + 1 + c.size:=by rw [hf2, hls2, zsa hc3, za9]; simp [fi]
      have hc4:(a ++ ⟨#[58]⟩ ++ (c ++ ⟨#[35]⟩ ++ e)).data.toList.count 35 = 1:=by rw [hc2, hcn]
      have x2:(a ++ ⟨#[58]⟩ ++ (c ++ ⟨#[35]⟩ ++ e)).extract (a.size + 1) (a.size + 1 + c.size) = c:=by
       have:=zfd (a ++ ⟨#[58]⟩) c (⟨#[35]⟩ ++ e) (a.size + 1) (a.size + 1 + c.size) (by rw [ByteArray.size_append]; rfl) (by rw [ByteArray.size_append]; rfl)
       conv => rhs; rw [← this]
       congr 1; apply zbr; simp [zas]
      have x3:(a ++ ⟨#[58]⟩ ++ (c ++ ⟨#[35]⟩ ++ e)).extract (a.size + 1 + c.size + 1) (a ++ ⟨#[58]⟩ ++ (c ++ ⟨#[35]⟩ ++ e)).size = e:=by
       have:=zfd (a ++ ⟨#[58]⟩ ++ c ++ ⟨#[35]⟩) e ⟨#[]⟩ (a.size + 1 + c.size + 1) (a ++ ⟨#[58]⟩ ++ (c ++ ⟨#[35]⟩ ++ e)).size (by simp only [ByteArray.size_append]; rfl) (by simp only [ByteArray.size_append]; rw [show (⟨#[58]⟩:ByteArray).size = 1 from rfl, show (⟨#[35]⟩:ByteArray).size = 1 from rfl]; omega)
       conv => rhs; rw [← this]
       congr 1; apply zbr; simp [zas]
      have hsz3:(a ++ ⟨#[58]⟩ ++ (c ++ ⟨#[35]⟩ ++ e)).size = a.size + 1 + (c.size + 1 + e.size):=by rw [hsz, hsz2]
      have zc:c.size ≤ 1099511627776:=by omega
      have ze:e.size ≤ 1099511627776:=by omega
      have hadd2:IntKind.i64.wrap (((a.size + 1 + c.size:Nat):Int) + 1) = ((a.size + 1 + c.size + 1:Nat):Int):=zaa (by omega) (by omega) |>.trans (by omega)
      have hmx:=z5r a c e
      generalize a ++ ⟨#[58]⟩ ++ (c ++ ⟨#[35]⟩ ++ e) = s at *
      refine qw Tryz.func106 rfl Tryz.ntmps106 (Nat.le_of_ble_eq_true rfl) hB ?_
      refine ZaI ?_;refine Zu ?_;refine Zu ?_;refine Zbj ?_;refine z7 (zq L rfl rfl (zn rfl) rfl rfl rfl (fun u H hH _ _ => zcg (c:=58) hf1 hc1 hs hH)) rfl ?_;refine Zaa ?_;refine Z1 ?_;refine z7 (zq L rfl rfl (zn rfl) rfl rfl rfl (fun u H hH _ _ => zcg (c:=35) hf3 hc4 hs hH)) rfl ?_;refine ZbA ?_;refine Zm ?_;refine ZA ?_;refine Zb ?_;refine Z3 ?_;refine ZaN ?_;refine ZI ?_;refine Za7 ?_;refine Ze9 ?_;refine Zp ?_;refine z8 (za1 L (kl:=.i64) (pl:=0) 0 a.size rfl rfl rfl rfl rfl ⟨rfl, rfl⟩ (by omega) (by omega) x1) rfl ?_;refine Zp ?_;refine Zan ?_;refine Zg ?_;refine z8 (za1 L (a.size + 1) (a.size + 1 + c.size) rfl rfl rfl rfl ⟨rfl, rfl⟩ ⟨rfl, rfl⟩ (by omega) (by omega) x2) rfl ?_;refine z8 (y5 (cs:=[_, _]) rfl rfl z5k rfl rfl) rfl ?_;refine z8 (qh L rfl rfl rfl rfl) rfl ?_;refine ZcW ?_;refine ZaK ?_;refine zj ?_;refine ZJ ?_;refine ZbW ?_;refine Zb9 ?_;refine Zfl ?_;refine Zp ?_;refine Zan ?_;refine z8 (za1 L (kh:=.i64) (ph:=0) (a.size + 1 + c.size + 1) _ rfl rfl rfl rfl ⟨rfl, rfl⟩ rfl (by omega) (by omega) x3) rfl ?_;refine Zfl ?_;refine z8 (zq L rfl rfl (zn rfl) rfl rfl rfl (fun u H hH _ _ => zdv (by first | assumption | omega | decide) (by first | assumption | omega | decide) hH)) rfl ?_;refine Zp ?_;refine Zan ?_;refine z8 (za1 L (kh:=.i64) (ph:=0) (a.size + 1 + c.size + 1) _ rfl rfl rfl rfl ⟨rfl, rfl⟩ rfl (by omega) (by omega) x3) rfl ?_;refine z8 (zq L rfl rfl (zn rfl) rfl rfl rfl (fun u H hH _ _ => zer (by first | omega | decide) hH)) rfl ?_;refine z8 (zgi rfl rfl rfl rfl (by assumption)) rfl ?_;refine ZcW ?_;refine Zao ?_;refine Zao ?_;refine ZB ?_
      refine qv L (rs:=[.cell 2 29, .tmp 3, .tmp 4, .tmp 5]) rfl (fun _ _ h => h) Since.refl fun u H hH hle => ?_
      exact ⟨_, qp rfl, rfl, rfl⟩
     ·have hcn:1 < (c ++ ⟨#[35]⟩ ++ e).data.toList.count 35:=by have:=zpn he3; rw [hls2, List.count_append, List.count_cons_self]; omega
      refine bad ?_ rfl rfl rfl rfl (.inr (.inl (by rw [hc2]; exact hcn)))
      unfold zbx; rw [hcut]
      have h4:¬ zxl (c ++ ⟨#[35]⟩ ++ e) 35 ≤ 1:=by unfold zxl Lib.countByte; omega
      simp only [h4, and_false, if_false]
   ·refine bad ?_ rfl rfl rfl rfl (.inr (.inr ?_))
    ·unfold zbx; rw [hcut]
     simp only [znj ha3]
     simp
    ·rw [hf1, hls, ← za9]
     exact z4h (Classical.not_not.1 ha3)
  ·refine bad ?_ rfl rfl rfl rfl (.inl ?_)
   ·unfold zbx; rw [hcut]
    simp only [znj hb]
    simp
   ·have:=zpn hb
    rw [hls, List.count_append, List.count_cons_self]; omega
theorem zby {s x y z:ByteArray} {d:Bool} {e:Int} (hr:rp1 s = (x, y, z, d, e)) (hs:s.size ≤ 1000000) {w:World} {B:Heap} (hB:B.Le (hp w)) :
  Ret Tryz.prog 106 [.string s] w B (fun v _ => v = .tuple #[.agg #[.string x, .string y], .string z, .bool d, .int .i64 e]):=zqh hr hs hB
end Go.V
set_option maxRecDepth 20000
namespace Go.V.L11
open Go.Proofs Go.RowKit Go.V
abbrev sNl:ByteArray:=⟨#[10]⟩
def zt8:List UInt8 → List UInt8 → List (List UInt8)
 | acc, [] => if acc = [] then [] else [acc]
 | acc, c :: l => if c = 10 then (acc ++ [c]) :: zt8 [] l else zt8 (acc ++ [c]) l
theorem zwi:∀ {l acc:List UInt8}, 10 ∉ l → zt8 acc l = if acc ++ l = [] then [] else [acc ++ l]
 | [], acc, _ => by rw [List.append_nil]; rfl
 | c :: l, acc, h => by
  rw [List.mem_cons, not_or] at h
  show (if c = 10 then _ else _) = _
  rw [if_neg (Ne.symm h.1), zwi h.2, List.append_assoc]
  rfl
theorem zr3:∀ {a b acc:List UInt8}, 10 ∉ a → zt8 acc (a ++ 10 :: b) = (acc ++ a ++ [10]) :: zt8 [] b
 | [], b, acc, _ => by rw [List.append_nil]; exact if_pos rfl
 | c :: a, b, acc, h => by
  rw [List.mem_cons, not_or] at h
  show (if c = 10 then _ else _) = _
  rw [if_neg (Ne.symm h.1)]
  refine (zr3 (a:=a) (b:=b) (acc:=acc ++ [c]) h.2).trans ?_
  simp
def zd5 (s:ByteArray):List ByteArray:=(zt8 [] s.data.toList).map fun l => ⟨l.toArray⟩
theorem zne:zd5 ⟨#[]⟩ = []:=rfl
theorem ba_of (s:ByteArray):(⟨s.data.toList.toArray⟩:ByteArray) = s:=by cases s; simp
theorem z1x {s:ByteArray} (h:noB s 10) (hn:s ≠ ⟨#[]⟩):zd5 s = [s]:=by
 unfold zd5
 rw [zwi h, List.nil_append, if_neg (fun e => hn (zbr e)), List.map_cons, List.map_nil, ba_of]
theorem zr4 {a b:ByteArray} (h:noB a 10):zd5 (a ++ sNl ++ b) = (a ++ sNl) :: zd5 b:=by
 unfold zd5
 have e:(a ++ sNl ++ b).data.toList = a.data.toList ++ 10 :: b.data.toList:=by simp [zas]
 rw [e, zr3 h, List.map_cons, List.nil_append]
 congr 1
def zno (x:ByteArray):Option ByteArray:=if x.data.toList.getLast? = some 10 then some ⟨x.data.toList.dropLast.toArray⟩ else none
theorem z19 (a:ByteArray):zno (a ++ sNl) = some a:=by
 unfold zno
 have e:(a ++ sNl).data.toList = a.data.toList ++ [10]:=by simp [zas]
 rw [e, if_pos (by simp), List.dropLast_concat, ba_of]
theorem zk0 {x r:ByteArray} (h:zno x = some r):x = r ++ sNl:=by
 unfold zno at h
 split at h
 ·rename_i hl
  cases h
  apply zbr
  rw [zas]
  obtain ⟨ys, hy⟩:=List.getLast?_eq_some_iff.1 hl
  show x.data.toList = x.data.toList.dropLast.toArray.toList ++ [10]
  rw [hy]; simp
 ·cases h
def ze5 {X:Type} (rd:ByteArray → X × Int):List X → Nat → List ByteArray → List X × Nat × Int
 | out, _, [] => (out, 0, 0)
 | out, n, x :: xs => if 4096 < n then ([], n, 3) else match zno x with
  | none => ([], n, 5)
  | some r => if (rd r).2 ≠ 0 then ([], n, (rd r).2) else ze5 rd (out ++ [(rd r).1]) (n + 1) xs
def zi5 {X:Type} (rd:ByteArray → X × Int) (s:ByteArray):List X × Nat × Int:=if 1048576 < s.size then ([], 0, 3) else ze5 rd [] 1 (zd5 s)
def zik {X:Type} (rd:ByteArray → X × Int) (n:Nat) (x:ByteArray):Bool:=decide (4096 < n) || match zno x with | none => true | some r => (rd r).2 != 0
def zbq {X:Type} (rd:ByteArray → X × Int):Nat → List ByteArray → Bool
 | _, [] => true
 | n, x :: xs => !zik rd n x && zbq rd (n + 1) xs
def zhp {X:Type} (rd:ByteArray → X × Int) (xs:List ByteArray):List X:=xs.filterMap fun x => (zno x).map fun r => (rd r).1
theorem zfr {X:Type} {rd:ByteArray → X × Int}:∀ {xs ys:List ByteArray} {out:List X} {n:Nat}, zbq rd n xs = true → ze5 rd out n (xs ++ ys) = ze5 rd (out ++ zhp rd xs) (n + xs.length) ys
 | [], ys, out, n, _ => by simp [zhp]
 | x :: xs, ys, out, n, h => by
  unfold zbq at h
  rw [Bool.and_eq_true] at h
  obtain ⟨h1, h2⟩:=h
  unfold zik at h1
  simp only [Bool.not_eq_true', Bool.or_eq_false_iff, decide_eq_false_iff_not] at h1
  obtain ⟨h3, h4⟩:=h1
  have e:ze5 rd out n (x :: xs ++ ys) = if 4096 < n then ([], n, 3) else match zno x with
   | none => ([], n, 5)
   | some r => if (rd r).2 ≠ 0 then ([], n, (rd r).2) else ze5 rd (out ++ [(rd r).1]) (n + 1) (xs ++ ys):=rfl
  rw [e, if_neg h3]
  cases hx:zno x with
  | none => rw [hx] at h4; cases h4
  | some r =>
   rw [hx] at h4
   have h5:¬ (rd r).2 ≠ 0:=by simpa using h4
   dsimp only
   rw [if_neg h5, zfr h2]
   have e2:zhp rd (x :: xs) = (rd r).1 :: zhp rd xs:=by
    unfold zhp
    rw [List.filterMap_cons, hx]; rfl
   rw [e2, List.append_assoc, List.length_cons, show n + 1 + xs.length = n + (xs.length + 1) by omega]
   rfl
theorem zb4 {X:Type} {rd:ByteArray → X × Int} {y:ByteArray}:∀ {ls:List ByteArray} {n:Nat}, zbq rd n (ls ++ [y]) = (zbq rd n ls && !zik rd (n + ls.length) y)
 | [], n => by simp [zbq]
 | x :: ls, n => by
  show (!zik rd n x && zbq rd (n + 1) (ls ++ [y])) = ((!zik rd n x && zbq rd (n + 1) ls) && _)
  rw [zb4, List.length_cons, show n + 1 + ls.length = n + (ls.length + 1) by omega, Bool.and_assoc]
def zir {X:Type} (rd:ByteArray → X × Int):Nat → List ByteArray → List X
 | _, [] => []
 | n, x :: xs => if zik rd n x = true then [] else zhp rd [x] ++ zir rd (n + 1) xs
theorem zdd {X:Type} {rd:ByteArray → X × Int} {ys:List ByteArray}:∀ {ls:List ByteArray} {n:Nat}, zbq rd n ls = true → zir rd n (ls ++ ys) = zhp rd ls ++ zir rd (n + ls.length) ys
 | [], n, _ => by simp [zhp]
 | x :: ls, n, h => by
  unfold zbq at h
  rw [Bool.and_eq_true] at h
  have h1:zik rd n x = false:=by simpa using h.1
  show (if zik rd n x = true then [] else zhp rd [x] ++ zir rd (n + 1) (ls ++ ys)) = _
  rw [if_neg (by rw [h1]; decide), zdd h.2, List.length_cons, show n + 1 + ls.length = n + (ls.length + 1) by omega, ← List.append_assoc]
  congr 1
  unfold zhp
  rw [← List.filterMap_append]
  rfl
theorem zh0 {X:Type} {rd:ByteArray → X × Int} {ls:List ByteArray} (h:zbq rd 1 ls = true):ze5 rd [] 1 ls = (zhp rd ls, 0, 0):=by
 have:=zfr (rd:=rd) (xs:=ls) (ys:=[]) (out:=[]) h
 rw [List.append_nil] at this
 rw [this]; rfl
theorem zh1 {X:Type} {rd:ByteArray → X × Int} {ls:List ByteArray} (h:zbq rd 1 ls = true):zir rd 1 ls = zhp rd ls:=by
 have:=zdd (rd:=rd) (ys:=[]) h
 rw [List.append_nil] at this
 rw [this]
 exact List.append_nil _
theorem zn1 {X:Type} {rd:ByteArray → X × Int} {ls:List ByteArray} {y r:ByteArray} (h:zno y = some r):zhp rd (ls ++ [y]) = zhp rd ls ++ [(rd r).1]:=by
 unfold zhp
 rw [List.filterMap_append]
 congr 1
 simp [h]
theorem zix {X:Type} {rd:ByteArray → X × Int} {ls:List ByteArray}:(zhp rd ls).length ≤ ls.length:=List.length_filterMap_le ..
theorem zi3 {X:Type} {rd:ByteArray → X × Int} {ls ys:List ByteArray} {y:ByteArray} (h:zbq rd 1 ls = true) (hn:4096 < 1 + ls.length):ze5 rd [] 1 (ls ++ y :: ys) = ([], 1 + ls.length, 3):=by
 rw [zfr h]; exact if_pos hn
theorem zg4 {X:Type} {rd:ByteArray → X × Int} {ls ys:List ByteArray} {y:ByteArray} (h:zbq rd 1 ls = true) (hn:¬ 4096 < 1 + ls.length) (he:zno y = none):ze5 rd [] 1 (ls ++ y :: ys) = ([], 1 + ls.length, 5):=by
 rw [zfr h]
 unfold ze5
 rw [if_neg hn, he]
theorem zi4 {X:Type} {rd:ByteArray → X × Int} {ls ys:List ByteArray} {y r:ByteArray} (h:zbq rd 1 ls = true) (hn:¬ 4096 < 1 + ls.length) (he:zno y = some r) (hr:(rd r).2 ≠ 0):ze5 rd [] 1 (ls ++ y :: ys) = ([], 1 + ls.length, (rd r).2):=by
 rw [zfr h]
 unfold ze5
 rw [if_neg hn, he]
 exact if_pos hr
theorem zym {X:Type} {rd:ByteArray → X × Int} {ls ys:List ByteArray} {y:ByteArray} (h:zbq rd 1 ls = true) (hb:zik rd (1 + ls.length) y = true):ze5 rd [] 1 (ls ++ y :: ys) = ze5 rd [] 1 (ls ++ [y]):=by
 by_cases hn:4096 < 1 + ls.length
 ·rw [zi3 h hn, zi3 h hn]
 ·cases he:zno y with
  | none => rw [zg4 h hn he, zg4 h hn he]
  | some r =>
   have hr:(rd r).2 ≠ 0:=by
    unfold zik at hb
    rw [he] at hb
    simpa [hn] using hb
   rw [zi4 h hn he hr, zi4 h hn he hr]
theorem zkr:∀ {l acc x:List UInt8}, x ∈ zt8 acc l → x.length ≤ acc.length + l.length
 | [], acc, x, h => by
  have h':x ∈ if acc = [] then ([]:List (List UInt8)) else [acc]:=h
  split at h'
  ·cases h'
  ·rw [List.mem_singleton] at h'
   subst h'
   simp
 | c :: l, acc, x, h => by
  have h':x ∈ if c = 10 then (acc ++ [c]) :: zt8 [] l else zt8 (acc ++ [c]) l:=h
  rw [List.length_cons]
  split at h'
  ·rcases List.mem_cons.1 h' with rfl | h2
   ·simp
   ·have:=zkr h2
    simp at this
    omega
  ·have:=zkr h'
   simp at this
   omega
theorem zpe {s y:ByteArray} (h:y ∈ zd5 s):y.size ≤ s.size:=by
 unfold zd5 at h
 obtain ⟨l, hl, rfl⟩:=List.mem_map.1 h
 have:=zkr hl
 rw [za9] at this
 show l.toArray.size ≤ _
 simpa using this
theorem zm0 {X:Type} {rd:ByteArray → X × Int}:∀ {xs:List ByteArray} {n:Nat} {out:List X}, zbq rd n xs = false → (ze5 rd out n xs).1 = []
 | [], _, _, h => by cases h
 | x :: xs, n, out, h => by
  unfold zbq at h
  unfold ze5
  by_cases hn:4096 < n
  ·rw [if_pos hn]
  ·rw [if_neg hn]
   cases he:zno x with
   | none => rfl
   | some r =>
    dsimp only
    by_cases hr:(rd r).2 ≠ 0
    ·rw [if_pos hr]
    ·rw [if_neg hr]
     have hb:zik rd n x = false:=by
      unfold zik
      rw [he]
      simp at hr
      simp [hn, hr]
     rw [hb] at h
     exact zm0 (by simpa using h)
end Go.V.L11
set_option maxRecDepth 20000
namespace Go.V
open Go.RowKit
def z42 (P:Program) (f:FuncId) (caps:List Value) (gr:GR) (w:World) (B:Heap) (xs:zbm):Prop :=
 ∀ (l:Nat) (J:zbm → GR) (stop:zbm → Bool) (C Cg:Nat → Prop), stop [] = false → zk5 P l J stop xs → (J []).P B w C → (∀ k, C k → k < w.heap.size ∧ B k = none) → gr.P B w Cg → (∀ k, Cg k → k < w.heap.size ∧ B k = none) → (∀ k, C k → ¬ Cg k) →
  RetL P f (.func (.yield l) #[] #[] :: caps) w B (fun k => C k ∨ Cg k) fun _ H u => ∃ C', (J (za5 stop [] xs)).P H u C' ∧ ∀ k, C' k → ((C k ∨ Cg k) ∨ w.heap.size ≤ k) ∧ k < u.heap.size ∧ H k = none
section
variable {P:Program} {F:Fr} {B:Heap} {O:Boxes} {n:Nat} {ops:Array Oper} {κ:Kap} {d:Nat} {ty:TypeId} {pos:String} {aft:Array Edge} {g:Option (Nat × Bool)} {a:Act} {u:World} {H:Heap} {fp:Nat → Nat → Prop} {os:List Oper} {Q:Exit → Act → World → Prop} {ex:Exs}
def JcX (Cg:Nat → Prop) (F:Fr) (B:Heap) (n:Nat) (a0:Act) (H0:Heap) (N1:Nat) (O':zbm → Boxes) (K:zbm → Kap) (pre:zbm):GR where
 P Hit u C:=∃ Hc fp, HasH F B (O' pre) n (K pre) a0 u Hc fp ∧ H0.Le Hc ∧ H0.Le Hit ∧ (∀ y ∈ O' pre, y.1 < N1) ∧ N1 ≤ u.heap.size ∧ F.w0.heap.size ≤ N1 ∧
  (∀ k, Cg k → k < N1 ∧ (F.w0.heap.size ≤ k ∨ F.L k) ∧ Hc k = none) ∧ (∀ y ∈ O' pre, ¬ Cg y.1) ∧ (∀ t r k, K pre t = some (.own r) → fp t k → ¬ Cg k) ∧
  (∀ k, C k ↔ (k < N1 ∧ H0 k = none ∧ ¬ Cg k) ∨ (N1 ≤ k ∧ ((Hc k).isSome = true ∨ ∃ t r, K pre t = some (.own r) ∧ fp t k)))
 st:=by
  rintro Hit u C Hit' u' ⟨Hc, fp, hh, h1, h2, h3, h4, h5, hx1, hx2, hx3, hC⟩ hle hsub hon hk
  have hCt:∀ t r k, K pre t = some (.own r) → fp t k → C k:=fun t r k ht hf => by
   rw [hC]
   rcases Nat.lt_or_ge k N1 with hlt | hge
   ·refine .inl ⟨hlt, ?_, hx3 t r k ht hf⟩
    have:=((hh.slot t _ ht).2 k hf).2.1
    cases hx:H0 k with
    | none => rfl
    | some o => rw [h1 k o hx] at this; cases this
   ·exact .inr ⟨hge, .inr ⟨t, r, ht, hf⟩⟩
  have hCb:∀ y ∈ O' pre, C y.1:=fun y hy => by
   rw [hC]
   refine .inl ⟨h3 y hy, ?_, hx2 y hy⟩
   have:=(hh.boxes y hy).2.1
   cases hx:H0 y.1 with
   | none => rfl
   | some o => rw [h1 _ o hx] at this; cases this
  have hold:∀ k o, H0 k = some o → u'.heap[k]? = u.heap[k]?:=fun k o ho =>
   ((hsub k o (hle k o (h2 k o ho))):u'.heap[k]? = some o).trans ((hh.sub k o (h1 k o ho)):u.heap[k]? = some o).symm
  have hsub':Hc.Le (hp u'):=fun k o ho => by
   show u'.heap[k]? = some o
   cases hx:H0 k with
   | some o' => rw [hold k o' hx]; exact hh.sub k o ho
   | none =>
    rw [hk k ((hC k).2 ?_)]
    ·exact hh.sub k o ho
    ·rcases Nat.lt_or_ge k N1 with hlt | hge
     ·exact .inl ⟨hlt, hx, fun hg => by rw [(hx1 k hg).2.2] at ho; cases ho⟩
     ·exact .inr ⟨hge, .inl (by rw [ho]; rfl)⟩
  refine ⟨Hc, fp, ⟨hh.size, hh.defers, hh.nodup, hh.marks, hh.lent, ?_, hsub', hh.base, hh.fresh, fun y hy => ?_, hh.apart, fun t k ht => ?_, hh.owns, hh.mono⟩, h1, h2.trans hle, h3, Nat.le_trans h4 hon.size, h5, hx1, hx2, hx3, hC⟩
  ·refine ⟨hon.os.trans hh.keep.os, hon.tape.trans hh.keep.tape, hon.output.trans hh.keep.output, Nat.le_trans hh.keep.size hon.size, fun k hk' hl => ?_, Nat.le_trans hh.keep.dr hon.dr⟩
   refine Eq.trans ?_ (hh.keep.block k hk' hl)
   cases hx:H0 k with
   | some o => exact hold k o hx
   | none => exact hk k ((hC k).2 (.inl ⟨by omega, hx, fun hg => by
     rcases (hx1 k hg).2.1 with h | h
     ·omega
     ·exact hl h⟩))
  ·obtain ⟨g1, g2, g3⟩:=hh.boxes y hy
   exact ⟨(hk _ (hCb y hy)).trans g1, g2, g3⟩
  ·have hs:=hh.slot t k ht
   cases k with
   | is _ => exact hs
   | sat _ => exact hs
   | own r => exact ⟨r.st hs.1 (Heap.Le.refl _) hsub' hon fun k hf => hk k (hCt t r k ht hf), fun k hf => by
     obtain ⟨g1, g2, g3, g4⟩:=hs.2 k hf
     exact ⟨Nat.lt_of_lt_of_le g1 hon.size, g2, g3, g4⟩⟩
theorem zpv (L:Tabs P) (gi:Nat) {gr:GR} {f:Operand} {params:Array Tmp} {assign body:Code} {gf:Nat} {caps:List Value}
  (fx:List (Nat × Value)) (G:zbm → List (Nat × Res)) (K1:zbm → List Value → List (Nat × Kn)) (xs:zbm) (stop:zbm → Bool) (jc:zbm → Code)
  (hr:F.r = none) (hf:evK κ f = some (.func (.func gf) #[] caps.toArray)) (hfn:L.fn gf = some ())
  (hgi:κ gi = some (.own gr.res)) (hGi:∀ pre, ∀ p ∈ G pre, p.1 ≠ gi) (h0:LiveOK (gK' (G []) ++ z0l fx) κ) (hG:∀ pre, ∀ p ∈ G pre, n ≤ p.1) (hst0:stop [] = false)
  (hps:∀ x ∈ xs, x.length = params.size) (hpn:∀ t ∈ params.toList, t < n)
  (hit:∀ u H, H.Le (hp u) → B.Le H → z42 P gf caps gr u H xs)
  (hassign:∀ (w1:World) (Ln:Nat → Prop) (B':Heap) (l D:Nat) (o:Obj) (pre:zbm) (x:List Value), pre ++ [x] <+: xs → stop pre = false → B.Le B' →
   V P ⟨w1, some l, [], Ln⟩ B' n ((l, o) :: (D, .deferred (some [])) :: O) (z43 (KK fx (G pre)) (params.toList.zip x)) assign (Exit.then (fun a u => Has ⟨w1, some l, [], Ln⟩ B' ((l, o) :: (D, .deferred (some [])) :: O) n (ofL (K1 pre x)) a u) (fun _ _ _ => False)))
  (hbody:∀ (w1:World) (Ln:Nat → Prop) (B':Heap) (l D:Nat) (o:Obj) (pre:zbm) (x:List Value), pre ++ [x] <+: xs → stop pre = false → B.Le B' →
   V P ⟨w1, some l, [], Ln⟩ B' n ((l, o) :: (D, .deferred (some [])) :: O) (ofL (K1 pre x)) body (zz0 ⟨w1, some l, [], Ln⟩ B' n ((l, o) :: (D, .deferred (some [])) :: O) G stop jc (pre ++ [x])))
  (hdone:∀ (l D:Nat) (o:Obj), stop (za5 stop [] xs) = false → N ⟨F.w0, F.r, .m D :: F.ds, F.L⟩ B n ((l, o) :: (D, .deferred (some [])) :: O) (KK fx (G (za5 stop [] xs))) Q)
  (hstop:∀ (l D:Nat) (o:Obj), stop (za5 stop [] xs) = true → V P ⟨F.w0, F.r, .m D :: F.ds, F.L⟩ B n ((l, o) :: (D, .deferred (some [])) :: O) (KK fx (G (za5 stop [] xs))) (jc (za5 stop [] xs)) Q) :
  V P F B n O κ (.rangeFunc f params assign body) Q:=by
 obtain ⟨w0, r, ds, Lf⟩:=F
 dsimp only at hr
 subst hr
 rintro a u ⟨H, fp, hh⟩
 have e := hh.env (ops := #[]) (o := ⟨none, .move f, 0, "", #[], none⟩) (κ := κ) (fun _ _ => rfl)
 have hfe:a.eval f = .func (.func gf) #[] caps.toArray:=e.is_ f _ (by simp [Op.operands]) hf
 refine wpIn_rangeFunc fun fn _ => ?_
 -- the record
 have hD0:(.loop { state:=.ready, pending:=none, fn, tmps:=a.tmps, params, assign, body, defers:=u.heap.size }:Obj) = .loop { state:=.ready, pending:=none, fn, tmps:=a.tmps, params, assign, body, defers:=u.heap.size }:=rfl
 generalize hrec:({ state:=.ready, pending:=none, fn, tmps:=a.tmps, params, assign, body, defers:=u.heap.size }:Loop) = rec0 at hD0
 have hh1:=(hh.newBox (.deferred (some []))).newBox (.loop rec0)
 rw [World.size_alloc] at hh1
 generalize hw1:(u.alloc (.deferred (some []))).alloc (.loop rec0) = w1 at hh1
 have hN1:w1.heap.size = u.heap.size + 2:=by subst hw1; simp
 let recS:zbm → Loop:=fun pre => if stop pre = true then { rec0 with state:=.done, pending:=some (jc pre) } else rec0
 let O':zbm → Boxes:=fun pre => (u.heap.size + 1, .loop (recS pre)) :: (u.heap.size, .deferred (some [])) :: O
 let F1:Fr:=⟨w0, none, [], Lf⟩
 let a0:Act:={ tmps:=a.tmps, defers:=[] }
 have hCg:=fun k (hk:fp gi k) => ((hh1.slot gi _ hgi).2 k hk)
 have hCg0:=fun k (hk:fp gi k) => ((hh.slot gi _ hgi).2 k hk)
 have hCg1:∀ k, fp gi k → k < w1.heap.size:=fun k hk => (hCg k hk).1
 let J:zbm → GR:=JcX (fp gi) F1 B n a0 H w1.heap.size O' fun pre => KK fx (G pre)
 have hrec0:rec0.state = .ready ∧ rec0.pending = none ∧ rec0.fn = fn ∧ rec0.tmps = a.tmps ∧ rec0.params = params ∧ rec0.assign = assign ∧ rec0.body = body:=by subst hrec; exact ⟨rfl, rfl, rfl, rfl, rfl, rfl, rfl⟩
 have hO'mem:∀ pre pre' y, y ∈ O' pre' → ∃ y' ∈ O' pre, y'.1 = y.1:=fun pre pre' y hy => by
  rcases List.mem_cons.1 hy with rfl | hy
  ·exact ⟨_, List.mem_cons_self .., rfl⟩
  ·exact ⟨y, List.mem_cons_of_mem _ hy, rfl⟩
 have hfix:∀ t k, ofL (z0l fx) t = some k → ∀ v, k = .is v → a0.eval (.tmp t) = v:=fun t k ht v hv => by
  subst hv
  exact hh.slot t _ ((LiveOK.right h0).get ht)
 have hrecS0:recS [] = rec0:=if_neg (by rw [hst0]; simp)
 -- at the start
 have hstart:HasH F1 B (O' []) n (KK fx (G [])) a0 w1 H fp:=by
  have h2:=hh1.sub_kap (κ2:=KK fx (G [])) fun t k hk => h0.get hk
  have:O' [] = (u.heap.size + 1, .loop rec0) :: (u.heap.size, .deferred (some [])) :: O:=by show (_, Obj.loop (recS [])) :: _ = _; rw [hrecS0]
  rw [this]
  exact ⟨h2.size, rfl, List.nodup_nil, (fun _ h => by cases h), h2.lent, h2.keep, h2.sub, h2.base, h2.fresh, h2.boxes, h2.apart, h2.slot, h2.owns, h2.mono⟩
 have hOg0:∀ pre, ∀ y ∈ O' pre, ¬ fp gi y.1:=fun pre y hy hg => by
  rcases List.mem_cons.1 hy with rfl | hy
  ·have:=(hCg0 _ hg).1; dsimp only at this; omega
  ·rcases List.mem_cons.1 hy with rfl | hy
   ·have:=(hCg0 _ hg).1; dsimp only at this; omega
   ·exact (hCg0 _ hg).2.2.2 y hy rfl
 have hyg:=hOg0 []
 have hKgi:∀ pre, ofL (gK' (G pre)) gi = none:=fun pre => by
  have:∀ l:List (Nat × Res), (∀ p ∈ l, p.1 ≠ gi) → ofL (gK' l) gi = none:=fun l => by
   induction l with
   | nil => exact fun _ => rfl
   | cons p l ih =>
    intro h
    show upd (ofL (gK' l)) p.1 (.own p.2) gi = none
    rw [zad _ _ (Ne.symm (h p (List.mem_cons_self ..)))]
    exact ih fun q hq => h q (List.mem_cons_of_mem _ hq)
  exact this _ (hGi pre)
 have hKne:∀ pre t r, KK fx (G pre) t = some (.own r) → t ≠ gi:=fun pre t r ht he => by
  subst he
  have:=zio (hG pre) ht
  rw [hKgi pre] at this; cases this
 have hog:∀ t r k, KK fx (G []) t = some (.own r) → fp t k → ¬ fp gi k:=fun t r k ht hf hg =>
  hh.owns t gi r gr.res (hKne [] t r ht) (h0.get ht) hgi k hf hg
 let C0:Nat → Prop:=fun k => (k < w1.heap.size ∧ H k = none ∧ ¬ fp gi k) ∨ (w1.heap.size ≤ k ∧ ((H k).isSome = true ∨ ∃ t r, KK fx (G []) t = some (.own r) ∧ fp t k))
 have hJ0:(J []).P H w1 C0:=⟨H, fp, hstart, Heap.Le.refl _, Heap.Le.refl _, fun y hy => zac (hstart.boxes y hy).1, Nat.le_refl _, hstart.keep.size, fun k hk => ⟨hCg1 k hk, (hCg k hk).2.2.1, (hCg k hk).2.1⟩, fun y hy hg => hyg y hy hg, hog, fun _ => Iff.rfl⟩
 have hC0:∀ k, C0 k → k < w1.heap.size ∧ H k = none:=fun k hk => by
  rcases hk with h | ⟨h1, h | ⟨t, r, ht, hf⟩⟩
  ·exact ⟨h.1, h.2.1⟩
  ·rw [za8 hstart.sub h1] at h; cases h
  ·have:=((hstart.slot t _ ht).2 k hf).1
   omega
 -- the rounds
 have hY:zk5 P (u.heap.size + 1) J stop xs:=by
  rintro pre x hpre hstp v Hit C hsubv ⟨Hc, fpc, hc, c1, c2, c3, c4, c5, x1, x2, x3, c6⟩ hCv
  have hrp:recS pre = rec0:=if_neg (by rw [hstp]; simp)
  have hOp:O' pre = (u.heap.size + 1, .loop rec0) :: (u.heap.size, .deferred (some [])) :: O:=by show (_, Obj.loop (recS pre)) :: _ = _; rw [hrp]
  rw [hOp] at hc
  have hl:v.heap[u.heap.size + 1]? = some (.loop rec0):=(hc.boxes _ (List.mem_cons_self ..)).1
  have hxl:x.length = params.size:=hps x (hpre.subset (by simp))
  have hyr:=run_yield (P:=P) (args:=x.toArray) hl (by rw [hrec0.2.2.2.2.1]; simpa using hxl)
  rw [hrec0.2.2.1, hrec0.2.2.2.1, hrec0.2.2.2.2.1, hrec0.2.2.2.2.2.1, hrec0.2.2.2.2.2.2] at hyr
  refine ⟨fn, _, assign, body, hyr, roundIn_of_wpIn trivial ?_⟩
  -- the round's frame
  let Cr:Nat → Prop:=fun k => (∃ y ∈ O' pre, y.1 = k) ∨ ∃ t r, KK fx (G pre) t = some (.own r) ∧ fpc t k
  have hCrC:∀ k, Cr k → C k ∧ k < v.heap.size ∧ (w0.heap.size ≤ k ∨ Lf k):=fun k hk => by
   rcases hk with ⟨y, hy, rfl⟩ | ⟨t, r, ht, hf⟩
   ·rw [hOp] at hy
    obtain ⟨g1, g2, g3⟩:=hc.boxes y hy
    refine ⟨(c6 _).2 (.inl ⟨c3 y (by rw [hOp]; exact hy), ?_, x2 y (by rw [hOp]; exact hy)⟩), zac g1, g3⟩
    cases hx:H y.1 with
    | none => rfl
    | some o => rw [c1 _ o hx] at g2; cases g2
   ·obtain ⟨g1, g2, g3, g4⟩:=(hc.slot t _ ht).2 k hf
    refine ⟨(c6 k).2 ?_, g1, g3⟩
    rcases Nat.lt_or_ge k w1.heap.size with hlt | hge
    ·refine .inl ⟨hlt, ?_, x3 t r k ht hf⟩
     cases hx:H k with
     | none => rfl
     | some o => rw [c1 _ o hx] at g2; cases g2
    ·exact .inr ⟨hge, .inr ⟨t, r, ht, hf⟩⟩
  have hCrg:∀ k, Cr k → ¬ fp gi k:=fun k hk => by
   rcases hk with ⟨y, hy, rfl⟩ | ⟨t, r, ht, hf⟩
   ·exact x2 y hy
   ·exact x3 t r k ht hf
  let Fr':Fr:=⟨v, some (u.heap.size + 1), [], Cr⟩
  have hr0:HasH Fr' Hc ((u.heap.size + 1, .loop rec0) :: (u.heap.size, .deferred (some [])) :: O) n (KK fx (G pre)) a0 v Hc fpc :=
   ⟨hc.size, rfl, List.nodup_nil, (fun _ h => by cases h), fun k hk => (hCrC k hk).2.1, Keep.refl _ _, hc.sub, Heap.Le.refl _, fun _ _ _ => rfl, fun y hy => ⟨(hc.boxes y hy).1, (hc.boxes y hy).2.1, .inr (.inl ⟨y, by rw [hOp]; exact hy, rfl⟩)⟩, hc.apart, fun t k hk => by
    have hs:=hc.slot t k hk
    cases k with
    | is _ => exact hs
    | sat _ => exact hs
    | own r => exact ⟨hs.1, fun k hf => by
      obtain ⟨g1, g2, g3, g4⟩:=hs.2 k hf
      exact ⟨g1, g2, .inr (.inr ⟨t, r, hk, hf⟩), g4⟩⟩, hc.owns, hc.mono⟩
  have hBc:B.Le Hc:=hc.base
  have hr1:=hr0.putP (params.toList.zip x) (fun p hp => hpn p.1 (List.of_mem_zip hp).1)
  have hfold:(params.zip x.toArray).foldl (fun tmps (t, a) => tmps.setIfInBounds t a) a.tmps = (params.toList.zip x).foldl (fun t p => t.setIfInBounds p.1 p.2) a.tmps:=by
   rw [← Array.foldl_toList, Array.toList_zip]
  rw [hfold]
  -- how a round ends
  have fin:∀ (e:Option Code) (a1:Act) (u1:World), (match e with | none => stop (pre ++ [x]) = false | some c => stop (pre ++ [x]) = true ∧ jc (pre ++ [x]) = c) →
    Has Fr' Hc ((u.heap.size + 1, .loop { rec0 with state:=.busy }) :: (u.heap.size, .deferred (some [])) :: O) n (ofL (gK' (G (pre ++ [x])))) a1 u1 →
    ∃ z w', (Instr.endRound (u.heap.size + 1) e).run P u1 = .ok z w' ∧ Ending.returned z = .returned (.bool (!stop (pre ++ [x]))) ∧ ∃ C', (J (pre ++ [x])).P Hit w' C' ∧ Keep C v w' ∧ ∀ k, C' k → (C k ∨ v.heap.size ≤ k) ∧ k < w'.heap.size:=by
   rintro e a1 u1 he ⟨Hd, fpd, hd⟩
   have hl1:=(hd.boxes _ (List.mem_cons_self ..)).1
   have hrun:=run_endRound (P:=P) e hl1
   have hrecE:({ ({ rec0 with state:=.busy }:Loop) with state:=if e.isNone then .ready else .done, pending:=e }:Loop) = recS (pre ++ [x]):=by
    cases e with
    | none =>
     have:recS (pre ++ [x]) = rec0:=if_neg (by rw [he]; simp)
     rw [this]
     obtain ⟨g1, g2, _⟩:=hrec0
     cases hq:rec0
     rw [hq] at g1 g2
     dsimp only at g1 g2 ⊢
     rw [g1, g2]; rfl
    | some c =>
     have:recS (pre ++ [x]) = { rec0 with state:=.done, pending:=some (jc (pre ++ [x])) }:=if_pos he.1
     rw [this, he.2]; rfl
   rw [hrecE] at hrun
   have hv:(e.isNone) = !stop (pre ++ [x]):=by
    cases e with
    | none => rw [he]; rfl
    | some c => rw [he.1]; rfl
   refine ⟨_, _, hrun, by rw [hv], ?_⟩
   have hd2:=hd.boxSet (O1:=[]) (ds:=[]) (a':=a1) (Chg.putObj (o:=.loop (recS (pre ++ [x]))) (zac hl1)) (List.Sublist.refl _) (by simp) rfl hd.defers
   generalize u1.putObj (u.heap.size + 1) (.loop (recS (pre ++ [x]))) = u2 at hd2 ⊢
   have hd2':HasH Fr' Hc (O' (pre ++ [x])) n (ofL (gK' (G (pre ++ [x])))) a1 u2 Hd fpd:=hd2
   have hOg:∀ y ∈ O' (pre ++ [x]), (w0.heap.size ≤ y.1 ∨ Lf y.1) ∧ y.1 < w1.heap.size:=fun y hy => by
    obtain ⟨y', hy', hyy⟩:=hO'mem pre _ y hy
    rw [← hyy]
    exact ⟨(hc.boxes y' (by rw [← hOp]; exact hy')).2.2, c3 y' hy'⟩
   have hfull:HasH F1 B (O' (pre ++ [x])) n (KK fx (G (pre ++ [x]))) a0 u2 Hd fpd:=by
    refine ⟨hh.size, rfl, List.nodup_nil, (fun _ h => by cases h), hc.lent, hc.keep.trans hd2'.keep fun i hi hci => ?_, hd2'.sub, hBc.trans hd2'.base, fun k hk hlk => ?_, fun y hy => ⟨(hd2'.boxes y hy).1, (hd2'.boxes y hy).2.1, (hOg y hy).1⟩, hd2'.apart, fun t k hk => ?_, fun s t r r' hst h1 h2 => ?_, fun t k hk => ?_⟩
    ·rcases (hCrC i hci).2.2 with h | h
     ·exact absurd hi (by show ¬ (i < w0.heap.size); omega)
     ·exact h
    ·refine (hd2'.fresh k (Nat.lt_of_lt_of_le hk hc.keep.size) fun hcr => ?_).trans (hc.fresh k hk hlk)
     rcases (hCrC k hcr).2.2 with h | h
     ·exact absurd hk (by show ¬ (k < w0.heap.size); omega)
     ·exact hlk h
    ·rcases zji (hG _) hk with ⟨hnt, hgk, r, rfl⟩ | ⟨hfk, _, z, rfl⟩
     ·have hs:=hd2'.slot t _ hgk
      have e1:a0.eval (.tmp t) = a1.eval (.tmp t):=(znn (a:=a0) (n:=n) hh.size hnt).trans (znn hd2'.size hnt).symm
      rw [e1]
      refine ⟨hs.1, fun k hf => ?_⟩
      obtain ⟨g1, g2, g3, g4⟩:=hs.2 k hf
      refine ⟨g1, g2, ?_, g4⟩
      rcases g3 with g3 | g3
      ·exact .inl (Nat.le_trans hc.keep.size g3)
      ·exact (hCrC k g3).2.2
     ·exact hfix t _ hfk z rfl
    ·exact hd2'.owns s t r r' hst (zio (hG _) h1) (zio (hG _) h2)
    ·rcases zji (hG _) hk with ⟨_, _, r, rfl⟩ | ⟨_, _, z, rfl⟩ <;> trivial
   have hHd:Hc.Le Hd:=hd2'.base
   refine ⟨fun k => (k < w1.heap.size ∧ H k = none ∧ ¬ fp gi k) ∨ (w1.heap.size ≤ k ∧ ((Hd k).isSome = true ∨ ∃ t r, KK fx (G (pre ++ [x])) t = some (.own r) ∧ fpd t k)),
    ⟨Hd, fpd, hfull, c1.trans hHd, c2, fun y hy => (hOg y hy).2, Nat.le_trans c4 hd2'.keep.size, c5, fun k hk => ⟨(x1 k hk).1, (x1 k hk).2.1, (hd2'.fresh k (Nat.lt_of_lt_of_le (x1 k hk).1 c4) fun hcr => hCrg k hcr hk).trans (x1 k hk).2.2⟩, hOg0 _, fun t r k ht hf hg => by
     rcases ((hd2'.slot t _ (zio (hG _) ht)).2 k hf).2.2.1 with g | g
     ·have h7:=hCg1 k hg
      have h8:v.heap.size ≤ k:=g
      omega
     ·exact hCrg k g hg, fun _ => Iff.rfl⟩, hd2'.keep.weak fun k _ hk => (hCrC k hk).1, fun k hk => ?_⟩
   rcases hk with ⟨h1, h2, h2g⟩ | ⟨h1, h2 | ⟨t, r, ht, hf⟩⟩
   ·exact ⟨.inl ((c6 k).2 (.inl ⟨h1, h2, h2g⟩)), Nat.lt_of_lt_of_le h1 (Nat.le_trans c4 hd2'.keep.size)⟩
   ·obtain ⟨o, ho⟩:=Option.isSome_iff_exists.1 h2
    refine ⟨?_, hd2'.sub.size ho⟩
    rcases Nat.lt_or_ge k v.heap.size with hlt | hge
    ·by_cases hcr:Cr k
     ·exact .inl (hCrC k hcr).1
     ·refine .inl ((c6 k).2 (.inr ⟨h1, .inl ?_⟩))
      rw [← hd2'.fresh k hlt hcr, ho]; rfl
    ·exact .inr hge
   ·have hs:=(hd2'.slot t _ (zio (hG _) ht)).2 k hf
    refine ⟨?_, hs.1⟩
    rcases hs.2.2.1 with g | g
    ·exact .inr g
    ·exact .inl (hCrC k g).1
  refine Go.wpIn_mono (hassign v Cr Hc (u.heap.size + 1) u.heap.size (.loop rec0) pre x hpre hstp hBc _ v ⟨Hc, fpc, hr1⟩) fun e1 a1 u1 he1 => ?_
  cases e1 with
  | normal =>
   obtain ⟨Ha, fpa, ha⟩:=he1
   have hl1:=(ha.boxes _ (List.mem_cons_self ..)).1
   refine ⟨_, run_beginRound (P:=P) hl1 hrec0.1, ?_⟩
   have ha2:=ha.boxSet (O1:=[]) (ds:=[]) (a':=a1) (Chg.putObj (o:=.loop { rec0 with state:=.busy }) (zac hl1)) (List.Sublist.refl _) (by simp) rfl ha.defers
   refine Go.wpIn_mono (hbody v Cr Hc (u.heap.size + 1) u.heap.size (.loop { rec0 with state:=.busy }) pre x hpre hstp hBc a1 _ ⟨Ha, fpa, ha2⟩) fun e2 a2 u2 he2 => ?_
   cases e2 with
   | normal => exact fin none a2 u2 he2.1 he2.2
   | ret => exact fin (some .ret) a2 u2 ⟨he2.1, he2.2.1⟩ he2.2.2
   | exit id => exact fin (some (.exit id)) a2 u2 ⟨he2.1, he2.2.1⟩ he2.2.2
   | goto l => exact he2.elim
   | panic c => exact he2.elim
   | outgrown => exact he2.elim
  | exit id => exact he1.elim
  | goto l => exact he1.elim
  | ret => exact he1.elim
  | panic c => exact he1.elim
  | outgrown => exact he1.elim
 -- the call
 have hB1:B.Le H:=hh.base
 have hcall:=hit w1 H hstart.sub hB1 (u.heap.size + 1) J stop C0 (fp gi) hst0 hY hJ0 hC0 (hh1.slot gi _ hgi).1 (fun k hk => ⟨hCg1 k hk, (hCg k hk).2.1⟩) (fun k hk hg => by
  rcases hk with h | ⟨h1, _⟩
  ·exact h.2.2 hg
  ·have:=hCg1 k hg; omega)
 have hel:=run_enterLoop_outer (P:=P) (w:=u) fn a.tmps params assign body
 rw [hrec, hw1] at hel
 refine ⟨u.heap.size + 1, [z0i (.m u.heap.size)], w1, ⟨.fn (.func gf) caps.toArray, #[] ++ #[.func (.yield (u.heap.size + 1)) #[] #[]]⟩, w1, gf, (.func (.yield (u.heap.size + 1)) #[] #[] :: caps).toArray, w1, hel, ?_, fun _ _ => trivial, ?_, fun h => (by cases h), ?_⟩
 ·have hcv:a.eval (.const (.func (.yield (u.heap.size + 1)) #[] #[])) = .func (.yield (u.heap.size + 1)) #[] #[]:=rfl
  simp [resolve, rangeCall, hfe, Deferred.ofValue, hcv]
 ·simp only [invoke]
  rw [zdb L hfn]
  simp
 ·refine FW.call none _ (Calls.mono hcall fun e3 u3 hp => ?_)
  obtain ⟨z, rfl, H3, g3, C3, ⟨Hc, fpc, hc, c1, c2, c3, c4, c5, x1, x2, x3, c6⟩, _⟩:=hp
  generalize htk:za5 stop [] xs = tk at hc c3 hdone hstop c6
  have hl3:u3.heap[u.heap.size + 1]? = some (.loop (recS tk)):=(hc.boxes _ (List.mem_cons_self ..)).1
  have hnb:(recS tk).state ≠ .busy:=by
   show (if stop tk = true then ({ rec0 with state:=.done, pending:=some (jc tk) }:Loop) else rec0).state ≠ .busy
   split
   ·simp
   ·rw [hrec0.1]; simp
  have hpend:(recS tk).pending = if stop tk = true then some (jc tk) else none:=by
   show (if stop tk = true then ({ rec0 with state:=.done, pending:=some (jc tk) }:Loop) else rec0).pending = _
   split
   ·rfl
   ·exact hrec0.2.1
  refine ⟨_, _, run_endLoop hl3 hnb, ?_⟩
  have hc2:=hc.boxSet (O1:=[]) (ds:=[]) (a':=a0) (Chg.putObj (o:=.loop { recS tk with state:=.exhausted }) (zac hl3)) (List.Sublist.refl _) (by simp) rfl rfl
  have hDn:DM.m u.heap.size ∉ ds:=fun hm => by
   have:=zac (hh.boxes _ (hh.marks _ hm)).1
   exact absurd this (Nat.lt_irrefl _)
  have hfin:HasH ⟨w0, none, .m u.heap.size :: ds, Lf⟩ B ((u.heap.size + 1, .loop { recS tk with state:=.exhausted }) :: (u.heap.size, .deferred (some [])) :: O) n (KK fx (G tk)) { a with defers:=[z0i (.m u.heap.size)] ++ a.defers } (u3.putObj (u.heap.size + 1) (.loop { recS tk with state:=.exhausted })) Hc fpc :=
   ⟨hc2.size, by have:=hh.defers; dsimp only at this ⊢; rw [this]; rfl, List.nodup_cons.2 ⟨hDn, hh.nodup⟩, fun D hD => by
    rcases List.mem_cons.1 hD with e | hD
    ·cases e; exact List.mem_cons_of_mem _ (List.mem_cons_self ..)
    ·exact List.mem_cons_of_mem _ (List.mem_cons_of_mem _ (hh.marks D hD)), hc2.lent, hc2.keep, hc2.sub, hc2.base, hc2.fresh, hc2.boxes, hc2.apart, hc2.slot, hc2.owns, hc2.mono⟩
  generalize (Obj.loop { recS tk with state:=.exhausted }) = rx at hfin ⊢
  rw [hpend]
  cases hs:stop tk with
  | false =>
   simp only [Bool.false_eq_true, if_false]
   exact hdone _ _ _ hs _ _ ⟨Hc, fpc, hfin⟩
  | true =>
   simp only [if_true]
   exact hstop _ _ _ hs _ _ ⟨Hc, fpc, hfin⟩
end
end Go.V
set_option maxRecDepth 20000
namespace Go.V
open Go.RowKit
def zsL (P:Program) (e:TypeId) (k:Nat):List Value:=match P.info? e with
 | some i => match i.zero with
  | some z => (madeCells z.cells k).toList
  | none => []
 | none => []
theorem zld {P:Program} {e:TypeId} {s by_ k:Nat} (h:elI P e = some (s, by_)):(zsL P e k).length = k:=by
 obtain ⟨i, z, hi, hz, _, _, _, _⟩:=zeg h
 unfold zsL
 rw [hi]; dsimp only; rw [hz]
 simp [size_madeCells]
def SlE (e:TypeId) (s n:Nat) (xs:List Value):Res where
 P x _ u C:=xs.length = n * s ∧ ((n = 0 ∧ x = .slice none 0 0 ∧ ∀ k, ¬ C k) ∨ ∃ b, x = .slice (some ⟨b, 0, none⟩) n n ∧ u.heap[b]? = some (.cells xs.toArray e) ∧ n ≤ maxLen ∧ ∀ k, C k ↔ k = b)
 st:=fun ⟨hl, h⟩ _ _ _ hk => ⟨hl, by
  rcases h with h | ⟨b, h1, h2, h3, h4⟩
  ·exact .inl h
  ·exact .inr ⟨b, h1, (hk b ((h4 b).2 rfl)).trans h2, h3, h4⟩⟩
section
variable {P:Program} {F:Fr} {B:Heap} {O:Boxes} {n:Nat} {ops:Array Oper} {κ:Kap} {d:Nat} {ty:TypeId} {pos:String} {aft:Array Edge} {g:Option (Nat × Bool)} {a:Act} {u:World} {H:Heap} {fp:Nat → Nat → Prop} {os:List Oper} {Q:Exit → Act → World → Prop} {ex:Exs}
theorem zyn (L:Tabs P) {t e:TypeId} {x y:Operand} {kl kc:IntKind} {s by_:Nat} (c:Nat) {p q:Int} (hn:Nat.blt d n = true) (hg:gK ops κ ⟨some d, .makeSlice t x y, ty, pos, aft, g⟩ = some true) (ht:L.sl t = some e) (he:elI P e = some (s, by_))
  (hx:evK κ x = some (.int kl q)) (hy:evK κ y = some (.int kc p)) (hq:q = c) (hp:p = c) (hb:by_ * c ≤ 281474976710656) (hc:c ≤ maxLen):StepOK P F B n ops O κ ⟨some d, .makeSlice t x y, ty, pos, aft, g⟩ d (.own (SlE e s c (zsL P e (c * s)))):=by
 rintro κ' a u hl ⟨H, fp, hh⟩
 unfold After
 rw [if_pos (zah hh hl hg)]
 have en:=hh.env hl
 have hzl:=zld (k:=c * s) he
 obtain ⟨i, z, hi, hz, hs1, hs2, hs3, hs4⟩:=zeg he
 have h1:=en.is_ x _ (by simp [Op.operands]) hx
 have h2:=en.is_ y _ (by simp [Op.operands]) hy
 subst hp
 subst hq
 have hb':(i.bytes:Int) * (c:Int) ≤ 281474976710656:=by
  have h:((by_ * c:Nat):Int) ≤ 281474976710656:=by omega
  rw [hs2]; rwa [Int.natCast_mul] at h
 have h63:(c:Int) ≤ 9223372036854775807:=by simp [maxLen] at hc; omega
 have hr:=run_make (P:=P) u t e i z (Tabs.sl_spec ht) hi hz kl kc c c (by omega) (by omega) hb' h63
 simp only [Int.toNat_natCast] at hr
 have hrun:(execOp a.eval ⟨some d, .makeSlice t x y, ty, pos, aft, g⟩).run P u = .ok (.value (.slice (some ⟨u.heap.size, 0, none⟩) c c)) (u.alloc (.cells (madeCells z.cells (c * i.size)) e)):=by
  simp only [execOp, h1, h2, Sem.run_bind, hr, Result.andThen_ok]; rfl
 rw [hrun]
 simp only [Upon]
 have hzs:zsL P e (c * s) = (madeCells z.cells (c * i.size)).toList:=by
  unfold zsL
  rw [hi]; dsimp only; rw [hz, hs1]
 have hg2:=hh.grow (Grow.hid hh.sub (.cells (madeCells z.cells (c * i.size)) e))
 refine ⟨H, _, hg2.putR (C:=fun k => k = u.heap.size) (by simp [Act.put]) rfl (fun t ht => zat ht) ⟨hzl, .inr ⟨u.heap.size, zax (by rw [hh.size]; exact zn hn), by rw [zao, hzs], hc, fun _ => Iff.rfl⟩⟩ (fun k hk => ?_) fun t r' _ ht k hf hk => ?_⟩
 ·subst hk
  exact ⟨zac (zao u _), za8 hh.sub (Nat.le_refl _), .inl hh.keep.size, fun y hy e => by have:=zac (hh.boxes y hy).1; omega⟩
 ·have:=((hh.slot t _ ht).2 k hf).1
  omega
theorem Has.boxE {t:Nat} {e:TypeId} {s m:Nat} {xs:List Value} (hm:0 < m) (hk:κ t = some (.own (SlE e s m xs))) (h:Has F B O n κ a u) :
  ∃ b, (xs.length = m * s ∧ m ≤ maxLen) ∧ Has F B (bx b xs e :: O) n (upd κ t (.is (.slice (some ⟨b, 0, none⟩) m m))) a u:=by
 obtain ⟨H, fp, h⟩:=h
 obtain ⟨⟨hl, hv⟩, hM⟩:=h.slot t _ hk
 rcases hv with ⟨h0, _, _⟩ | ⟨b, hv, hb, h4, hC⟩
 ·omega
 ·have:=h.toBox hk hb ((hC b).2 rfl)
  rw [hv] at this
  exact ⟨b, ⟨hl, h4⟩, H, fp, this⟩
theorem Has.unboxE {t b m:Nat} {e:TypeId} {s:Nat} {xs:List Value} {O1 O2:Boxes} (hO:O = O1 ++ bx b xs e :: O2) (hd:F.ds = []) (hk:κ t = some (.is (.slice (some ⟨b, 0, none⟩) m m))) (hl:xs.length = m * s) (h4:m ≤ maxLen)
  (h:Has F B O n κ a u):Has F B (O1 ++ O2) n (upd κ t (.own (SlE e s m xs))) a u:=by
 obtain ⟨H, fp, h⟩:=h
 subst hO
 have hb:=(h.boxes (bx b xs e) (by simp)).1
 exact ⟨H, _, h.ofBox (by rw [hd]; simp) ⟨hl, .inr ⟨b, h.slot t _ hk, hb, h4, fun _ => Iff.rfl⟩⟩⟩
theorem z4y (t:Nat) {e:TypeId} {s m:Nat} {xs:List Value} {c:Code} (hm:0 < m) (hk:κ t = some (.own (SlE e s m xs)))
  (h:∀ b, (xs.length = m * s ∧ m ≤ maxLen) → V P F B n (bx b xs e :: O) (upd κ t (.is (.slice (some ⟨b, 0, none⟩) m m))) c Q):V P F B n O κ c Q:=fun a u hh =>
 let ⟨b, h1, h'⟩:=hh.boxE hm hk; h b h1 a u h'
theorem zzq (t:Nat) {b m:Nat} {e:TypeId} {s:Nat} {xs:List Value} (O1:Boxes) {O2:Boxes} {c:Code} (hO:O = O1 ++ bx b xs e :: O2) (hk:κ t = some (.is (.slice (some ⟨b, 0, none⟩) m m))) (hl:xs.length = m * s) (h4:m ≤ maxLen)
  (h:V P F B n (O1 ++ O2) (upd κ t (.own (SlE e s m xs))) c Q) (hd:F.ds = []:=by rfl):V P F B n O κ c Q:=fun a u hh => h a u (hh.unboxE hO hd hk hl h4)
theorem z3f {α:Type} {f:α → List Value} {s:Nat} (hf:∀ a, (f a).length = s) (l:List α) (k m:Nat) (zs:List Value) (y:α) (hl:l.length = k) (hz:zs.length = (m - k) * s) (hk:k < m) :
  (l.flatMap f ++ zs).take (k * s) ++ (f y ++ (l.flatMap f ++ zs).drop (k * s + s)) = (l ++ [y]).flatMap f ++ zs.drop s:=by
 have h1:(l.flatMap f).length = k * s:=by
  subst hl
  clear hz hk
  induction l with
  | nil => simp
  | cons x l ih => rw [List.flatMap_cons, List.length_append, hf, ih, List.length_cons, Nat.add_mul, Nat.one_mul]; omega
 have h2:s ≤ zs.length:=by rw [hz]; exact Nat.le_mul_of_pos_left _ (by omega)
 rw [← h1, List.take_left', List.drop_append]
 ·rw [List.drop_eq_nil_of_le (by omega), List.nil_append, show (l.flatMap f).length + s - (l.flatMap f).length = s by omega, List.flatMap_append]
  simp
 ·rfl
def z5b (w:World) (r:Res) (v:Value) (H:Heap) (u:World):Prop:=∃ C:Nat → Prop, r.P v H u C ∧ ∀ k, C k → w.heap.size ≤ k ∧ k < u.heap.size ∧ H k = none
def RetO (P:Program) (f:FuncId) (args:List Value) (w:World) (B:Heap) (r:Res):Prop:=RetL P f args w B noL (z5b w r)
theorem zck (L:Tabs P) {o:Oper} {d f:Nat} {args:Array Operand} {at_:Array TypeId} {cap:List Value} {r:Res} {fo:Operand}
  (hop:o.op = .call { callee:=.value fo, args:=args, argTypes:=at_ }) (hd:o.dst = some d) (hn:d < n) (hg:gK ops κ o = some true)
  (hf:evK κ fo = some (.func (.func f) #[] cap.toArray)) (hfn:L.fn f = some ())
  (h:∀ u H, H.Le (hp u) → B.Le H → Below F.w0.heap.size F.w0 F.w0 → Args κ H args.toList [] (fun vs => RetO P f (vs ++ cap) u H r)) :
  StepOK P F B n ops O κ o d (.own r):=by
 rintro κ' a u hl ⟨H, fp, hh⟩
 unfold After
 rw [if_pos (zah hh hl hg)]
 have e:=hh.env hl
 have hfe:a.eval fo = .func (.func f) #[] cap.toArray:=e.is_ fo _ (by simp [hop, Op.operands, Call.operands]) hf
 have hc:=Args.use e args.toList [] (fun x hx => by simp [hop, Op.operands, Call.operands] at hx ⊢; exact .inr hx) (h u H e.sub e.base (Below.refl _ _))
 simp only [List.reverse_nil, List.nil_append] at hc
 rw [zc8 L hop hfe hfn]
 simp only [Upon]
 refine Calls.mono hc fun e' u' hp => ?_
 obtain ⟨v, rfl, H', g', C, hv, hC⟩:=hp
 have h2:=hh.grow g'
 refine ⟨v, rfl, ?_⟩
 simp only [hd]
 refine ⟨H', _, h2.putR (C:=C) (by simp [Act.put]) rfl (fun t ht => zat ht) (by rw [zax (by rw [hh.size]; exact hn)]; exact hv) (fun k hk => ?_) fun t r' _ ht k hf hk => ?_⟩
 ·obtain ⟨h3, h4, h5⟩:=hC k hk
  exact ⟨h4, h5, .inl (Nat.le_trans hh.keep.size h3), fun y hy e => by have:=zac (hh.boxes y hy).1; omega⟩
 ·have h3:=(hC k hk).1
  have:=((hh.slot t _ ht).2 k hf).1
  omega
theorem zf2 {fn:Func} {B0:Heap} {t:Nat} {r:Res} (hrs:fn.results = #[.tmp t]) (hQ:∀ a u, bodyPostM Fence.wide 0 P fn (zff F.w0 B0 F.L (z5b F.w0 r)) .ret a u → Q .ret a u) (hs:Since F B0 B) (hk:κ t = some (.own r)) (hL:F.L = noL:=by rfl) (hm:zxm F.ds = true:=by rfl):V P F B n O κ .ret Q :=
 zsr hQ hs (hm:=hm) fun O' a u H fp _ hh => by
  obtain ⟨hown, hM⟩:=hh.slot t _ hk
  refine ⟨a.eval (.tmp t), ?_, fp t, hown, fun k hk => ?_⟩
  ·simp [results, hrs, Act.eval]
  ·obtain ⟨h1, h2, h3, _⟩:=hM k hk
   refine ⟨?_, h1, h2⟩
   rcases h3 with h3 | h3
   ·exact h3
   ·have h3':F.L k:=h3
    rw [hL] at h3'; exact h3'.elim
open Classical in
noncomputable def joinH (H:Heap) (u:World) (C:Nat → Prop):Heap:=fun k => if C k then hp u k else H k
theorem zjb {H:Heap} {u:World} {C:Nat → Prop} {k:Nat} (h:C k):joinH H u C k = hp u k:=if_pos h
theorem zdz {H:Heap} {u:World} {C:Nat → Prop} {k:Nat} (h:¬ C k):joinH H u C k = H k:=if_neg h
theorem zha {H:Heap} {u:World} {C:Nat → Prop} (h:H.Le (hp u)):(joinH H u C).Le (hp u):=fun k v hv => by
 by_cases hc:C k
 ·rwa [zjb hc] at hv
 ·rw [zdz hc] at hv; exact h _ _ hv
theorem znh {H:Heap} {u:World} {C:Nat → Prop} (h:∀ k, C k → H k = none):H.Le (joinH H u C):=fun k v hv => by
 by_cases hc:C k
 ·rw [h k hc] at hv; cases hv
 ·rwa [zdz hc]
def z56 (r:Res) (φ:Value → Heap → Prop):Prop:=∀ x H u C, r.P x H u C → φ x (joinH H u C)
theorem zr5 {e:TypeId} {s m:Nat} {xs:List Value}:z56 (SlE e s m xs) (SlV e s xs m true):=fun x H u C ⟨hl, h⟩ => ⟨hl, by
 rcases h with ⟨h0, hv, _⟩ | ⟨b, hv, hb, h3, hC⟩
 ·exact .inl ⟨h0, _, hv⟩
 ·exact .inr ⟨b, 0, m, _, _, _, hv, (zjb ((hC b).2 rfl)).trans hb, by simp, Nat.le_refl _, fun _ => rfl⟩⟩
def z0e (q:Nat) (l:List Operand):Bool:=l.any fun x => match x with | .tmp t => Nat.beq t q | _ => false
theorem RetO.toRet {P:Program} {f:FuncId} {args:List Value} {w:World} {B:Heap} {r:Res} {φ:Value → Heap → Prop} (h:RetO P f args w B r) (hl:z56 r φ):Ret P f args w B φ :=
 Calls.mono h fun _ u ⟨v, he, H, g, C, h1, h2⟩ => ⟨v, he, joinH H u C, ⟨g.keep, zha g.sub, fun k x hx => znh (fun k hk => (h2 k hk).2.2) _ _ (g.le _ _ hx), fun k hk hn => (zdz fun hc => by have:=(h2 k hc).1; omega).trans (g.fresh k hk hn)⟩, hl _ _ _ _ h1⟩
theorem zcx {f:FuncId} {fn:Func} {c:Code} {args:List Value} {w:World} {B:Heap} {r:Res} (hf:P.funcs[f]? = some fn) (hb:fn.body = some c) (hn:fn.ntmps = n)
  (hs:args.length ≤ n) (hB:B.Le (hp w)) (h:V P (Fr.pure w) B n [] (zh7 0 args) c (bodyPostM Fence.wide 0 P fn (zff w B noL (z5b w r)))):RetO P f args w B r :=
 zez hf hb (h _ w ⟨B, fun _ => noL, by subst hn; exact zex noL (fun _ h => h.elim) hs hB _⟩)
end
end Go.V
set_option maxRecDepth 20000
namespace Go.V
open Go.RowKit
def zaj (b:Nat) (cs:List Value) (ty:TypeId):Res where
 P _ _ u C:=u.heap[b]? = some (.cells cs.toArray ty) ∧ ∀ k, C k ↔ k = b
 st:=fun ⟨h1, h2⟩ _ _ _ hk => ⟨(hk b ((h2 b).2 rfl)).trans h1, h2⟩
section
variable {P:Program} {F:Fr} {B:Heap} {O:Boxes} {n:Nat} {ops:Array Oper} {κ:Kap} {d:Nat} {ty:TypeId} {pos:String} {aft:Array Edge} {g:Option (Nat × Bool)} {a:Act} {u:World} {H:Heap} {fp:Nat → Nat → Prop} {os:List Oper} {Q:Exit → Act → World → Prop} {ex:Exs}
theorem Has.hold {t q:Nat} {cs:List Value} {ty:TypeId} (hk:κ t = some (.own (Cell cs ty))) (h:Has F B O n κ a u):∃ b, Has F B O n (upd (upd (upd κ t zdx) q (.own (zaj b cs ty))) t (.is (.pointer (some ⟨b, 0, none⟩)))) a u:=by
 obtain ⟨H, fp, h⟩:=h
 obtain ⟨⟨b, hv, hb, hC⟩, hM⟩:=h.slot t _ hk
 have h2:=h.usePut (d:=q) (a':=a) (r':=zaj b cs ty) (C:=fp t) hk ⟨Keep.refl _ _, h.sub, Heap.Le.refl _, fun _ _ _ => rfl⟩ rfl rfl (fun _ _ => rfl) ⟨hb, hC⟩ fun k hk => ⟨.inl hk, (hM k hk).1, (hM k hk).2.1⟩
 have h3:=h2.name t
 rw [hv] at h3
 exact ⟨b, H, _, h3⟩
theorem Has.release {t q b:Nat} {cs:List Value} {ty:TypeId} (hk:κ q = some (.own (zaj b cs ty))) (ht:κ t = some (.is (.pointer (some ⟨b, 0, none⟩)))) (h:Has F B O n κ a u):Has F B O n (upd (upd κ q zdx) t (.own (Cell cs ty))) a u:=by
 obtain ⟨H, fp, h⟩:=h
 obtain ⟨⟨hb, hC⟩, hM⟩:=h.slot q _ hk
 have hx:a.eval (.tmp t) = .pointer (some ⟨b, 0, none⟩):=h.slot t _ ht
 exact ⟨H, _, h.usePut (d:=t) (a':=a) (r':=Cell cs ty) (C:=fp q) hk ⟨Keep.refl _ _, h.sub, Heap.Le.refl _, fun _ _ _ => rfl⟩ rfl rfl (fun _ _ => rfl) ⟨b, hx, hb, hC⟩ fun k hk => ⟨.inl hk, (hM k hk).1, (hM k hk).2.1⟩⟩
theorem za3 (t q:Nat) {cs:List Value} {ty:TypeId} {c:Code} (hk:κ t = some (.own (Cell cs ty))) (h:∀ b, V P F B n O (upd (upd (upd κ t zdx) q (.own (zaj b cs ty))) t (.is (.pointer (some ⟨b, 0, none⟩)))) c Q):V P F B n O κ c Q:=fun a u hh => let ⟨b, h'⟩:=hh.hold (q:=q) hk; h b a u h'
theorem zb3 (t q:Nat) {b:Nat} {cs:List Value} {ty:TypeId} {c:Code} (hk:κ q = some (.own (zaj b cs ty))) (ht:κ t = some (.is (.pointer (some ⟨b, 0, none⟩)))) (h:V P F B n O (upd (upd κ q zdx) t (.own (Cell cs ty))) c Q):V P F B n O κ c Q:=fun a u hh => h a u (hh.release hk ht)
def StepOKR (P:Program) (F:Fr) (B:Heap) (n:Nat) (ops:Array Oper) (O:Boxes) (κ:Kap) (o:Oper) (q d:Nat) (k:Kn):Prop :=
 ∀ κ' a u, (∀ t ∈ o.looksAt ops, κ' t = κ t) → κ' q = κ q → Has F B O n κ' a u → After P ops o (fun a' u' => Has F B O n (upd κ' d k) a' u') a u
theorem y7 {o:Oper} {q d:Nat} {k:Kn} (hs:StepOKR P F B n ops O κ o q d k) (h:VO P F B n O ops (upd κ d k) os Q):VO P F B n O ops κ (o :: os) Q :=
 fun a u hh => After.mono (fun a' u' hh' => h a' u' hh') (hs κ a u (fun _ _ => rfl) rfl hh)
theorem qf {o:Oper} {q d:Nat} {k:Kn} (hs:StepOKR P F B n ops O κ o q d k) (hd:vd o = some d) (he:(exR ex o).contains q = true) (h:Par P F B n O ops ex (upd κ d k) os Q):Par P F B n O ops ex κ (o :: os) Q:=by
 have hm:q ∈ exR ex o:=by simpa using he
 refine ⟨[(d, k)], fun p hp => ?_, fun κ' a u hl hh => hs κ' a u (fun t ht => hl t (List.mem_append_left _ ht)) (hl q (List.mem_append_right _ (List.mem_append_right _ hm))) hh, h⟩
 simp only [List.mem_cons, List.mem_nil_iff, or_false] at hp
 subst hp
 exact List.mem_append_left _ (by simp [hd])
def znu (P:Program) (F:Fr) (B:Heap) (n:Nat) (ops:Array Oper) (O:Boxes) (κ:Kap) (o:Oper) (q:Nat) (k:Kn):Prop :=
 ∀ κ' a u, (∀ t ∈ o.looksAt ops, κ' t = κ t) → κ' q = κ q → Has F B O n κ' a u → After P ops o (fun a' u' => Has F B O n (upd κ' q k) a' u') a u
theorem zal {o:Oper} {q:Nat} {k:Kn} (hs:znu P F B n ops O κ o q k) (h:VO P F B n O ops (upd κ q k) os Q):VO P F B n O ops κ (o :: os) Q :=
 fun a u hh => After.mono (fun a' u' hh' => h a' u' hh') (hs κ a u (fun _ _ => rfl) rfl hh)
theorem ym {o:Oper} {q:Nat} {k:Kn} (hs:znu P F B n ops O κ o q k) (he:(exO ex o).contains q = true) (h:Par P F B n O ops ex (upd κ q k) os Q):Par P F B n O ops ex κ (o :: os) Q:=by
 have hm:q ∈ exO ex o:=by simpa using he
 refine ⟨[(q, k)], fun p hp => ?_, fun κ' a u hl hh => hs κ' a u (fun t ht => hl t (List.mem_append_left _ ht)) (hl q (List.mem_append_right _ (List.mem_append_left _ hm))) hh, h⟩
 simp only [List.mem_cons, List.mem_nil_iff, or_false] at hp
 subst hp
 exact List.mem_append_right _ hm
theorem zca (L:Tabs P) (q:Nat) {r:Res} {Φ:Heap → Prop} {o:Oper} {d f:Nat} {args:Array Operand} {at_:Array TypeId} {cap:List Value} {c:Value} {fo:Operand}
  (hop:o.op = .call { callee:=.value fo, args:=args, argTypes:=at_ }) (hd:o.dst = some d) (hn:d < n) (hg:gK ops κ o = some true)
  (hf:evK κ fo = some (.func (.func f) #[] cap.toArray)) (hfn:L.fn f = some ()) (hq:κ q = some (.own r)) (hm:z0e q o.op.operands.toList = false) (hl:∀ v H u C, r.P v H u C → Φ (joinH H u C))
  (h:∀ u H, H.Le (hp u) → B.Le H → Φ H → Args κ H args.toList [] (fun vs => Ret P f (vs ++ cap) u H (fun v _ => v = c))) :
  StepOKR P F B n ops O κ o q d (.is c):=by
 rintro κ' a u hlk hqk ⟨H, fp, hh⟩
 unfold After
 rw [if_pos (zah hh hlk hg)]
 have e:=hh.env hlk
 have hfe:a.eval fo = .func (.func f) #[] cap.toArray:=e.is_ fo _ (by simp [hop, Op.operands, Call.operands]) hf
 obtain ⟨hown, hM⟩:=hh.slot q _ (hqk.trans hq)
 have hle:H.Le (joinH H u (fp q)):=znh fun k hk => (hM k hk).2.1
 have hqo:∀ t, Operand.tmp t ∈ o.op.operands → t ≠ q:=fun t ht e => by
  subst e
  have:z0e t o.op.operands.toList = true:=List.any_eq_true.2 ⟨Operand.tmp t, by simpa using ht, Nat.beq_refl t⟩
  rw [this] at hm; cases hm
 have e1:Env F B O κ o a u (joinH H u (fp q)) fp:=by
  refine ⟨e.is_, fun t ψ ht hk => ?_, fun t r' ht hk => ?_, zha hh.sub, fun k v hv => hle _ _ (hh.base _ _ hv), fun y hy => ?_, hh.keep⟩
  ·have hk':κ' t = some (.sat ψ):=(hlk t (zdo ht)).trans hk
   exact hh.mono t _ hk' _ _ _ (e.sat_ t ψ ht hk) hle
  ·obtain ⟨h1, h2⟩:=e.own_ t r' ht hk
   have hk':κ' t = some (.own r'):=(hlk t (zdo ht)).trans hk
   refine ⟨r'.st h1 hle (zha hh.sub) ⟨rfl, rfl, rfl, Nat.le_refl _, Nat.le_refl _⟩ fun _ _ => rfl, fun k hk2 => ?_⟩
   obtain ⟨g1, g2, g3, g4⟩:=h2 k hk2
   exact ⟨g1, (zdz (hh.owns t q r' _ (hqo t ht) hk' (hqk.trans hq) k hk2)).trans g2, g3, g4⟩
  ·obtain ⟨h1, h2, h3⟩:=e.boxes y hy
   exact ⟨h1, (zdz fun hc => (hM _ hc).2.2.2 y hy rfl).trans h2, h3⟩
 have hc:=Args.use e1 args.toList [] (fun x hx => by simp [hop, Op.operands, Call.operands] at hx ⊢; exact .inr hx) (h u (joinH H u (fp q)) e1.sub e1.base (hl _ _ _ _ hown))
 simp only [List.reverse_nil, List.nil_append] at hc
 rw [zc8 L hop hfe hfn]
 simp only [Upon]
 refine Calls.mono hc fun e' u' hp => ?_
 obtain ⟨v, rfl, H', g', hv⟩:=hp
 refine ⟨v, rfl, ?_⟩
 simp only [hd]
 have g2:Grow noL u H u' H:=⟨g'.keep, fun k x hx => by
  have h1:=hh.sub _ _ hx
  exact (g'.keep.block k (zac h1) fun h => h).trans h1, Heap.Le.refl _, fun _ _ _ => rfl⟩
 exact ⟨H, fp, (hh.grow g2).put (k:=.is c) hn trivial hv⟩
theorem zay (L:Tabs P) {x:Operand} {q b:Nat} {t t':TypeId} {s off:Nat} {cs vs:List Value} (hx:evK κ x = some (.pointer (some ⟨b, off, none⟩))) (hq:κ q = some (.own (zaj b cs t'))) (hn:Nat.blt d n = true) (hg:gK ops κ ⟨some d, .load t x, ty, pos, aft, g⟩ = some true)
  (hl:L.ld t = some (true, s)) (hlen:vs.length = s) (hc:∃ r, cs.drop off = vs ++ r):StepOKR P F B n ops O κ ⟨some d, .load t x, ty, pos, aft, g⟩ q d (.is (.agg vs.toArray)):=by
 rintro κ' a u hlk hqk ⟨H, fp, hh⟩
 unfold After
 rw [if_pos (zah hh hlk hg)]
 have e:=hh.env hlk
 have h1:=e.is_ x _ (by simp [Op.operands]) hx
 obtain ⟨⟨h2, hC⟩, hM⟩:=hh.slot q _ (hqk.trans hq)
 obtain ⟨r, hc⟩:=hc
 have hrun:(execOp a.eval ⟨some d, .load t x, ty, pos, aft, g⟩).run P u = .ok (.value (.agg vs.toArray)) u:=by
  simp only [execOp, h1, Instr.loadAt, Instr.sureAddr, Sem.run_bind, Sem.run_pure, Result.andThen_ok]
  rw [zb9 (Tabs.ld_spec hl) u _ vs hlen (fun j v hj => by
   have h3:cs[off + j]? = some v:=by
    have:=congrArg (·[j]?) hc
    simp only [List.getElem?_drop] at this
    rw [this, List.getElem?_append_left (by
     rcases Nat.lt_or_ge j vs.length with h | h
     ·exact h
     ·rw [List.getElem?_eq_none h] at hj; cases hj)]
    exact hj
   show u.cell? (Addr.add ⟨b, off, none⟩ j) = some v
   have:Addr.add ⟨b, off, none⟩ j = ⟨b, off + j, none⟩:=by simp [Addr.add]
   rw [this, zav h2]; simpa using h3)]
  rfl
 rw [hrun]
 simp only [Upon]
 exact ⟨H, fp, hh.put (k:=.is (.agg vs.toArray)) (zn hn) trivial rfl⟩
theorem zy (L:Tabs P) {x:Operand} {q b:Nat} {t t':TypeId} {s off:Nat} {cs r:List Value} {v:Value} (hx:evK κ x = some (.pointer (some ⟨b, off, none⟩))) (hq:κ q = some (.own (zaj b cs t'))) (hn:Nat.blt d n = true) (hg:gK ops κ ⟨some d, .load t x, ty, pos, aft, g⟩ = some true)
  (hl:L.ld t = some (false, s)) (hc:cs.drop off = v :: r):StepOKR P F B n ops O κ ⟨some d, .load t x, ty, pos, aft, g⟩ q d (.is v):=by
 rintro κ' a u hlk hqk ⟨H, fp, hh⟩
 unfold After
 rw [if_pos (zah hh hlk hg)]
 have e:=hh.env hlk
 have h1:=e.is_ x _ (by simp [Op.operands]) hx
 obtain ⟨⟨h2, hC⟩, hM⟩:=hh.slot q _ (hqk.trans hq)
 have h3:cs[off]? = some v:=by
  have:=congrArg (·[0]?) hc
  simpa using this
 have hrun:(execOp a.eval ⟨some d, .load t x, ty, pos, aft, g⟩).run P u = .ok (.value v) u:=by
  simp only [execOp, h1, Instr.loadAt, Instr.sureAddr, Sem.run_bind, Sem.run_pure, Result.andThen_ok]
  rw [zcv (Tabs.ld_spec hl) u _ v (by rw [zav h2]; simpa using h3)]
  rfl
 rw [hrun]
 simp only [Upon]
 exact ⟨H, fp, hh.put (k:=.is v) (zn hn) trivial rfl⟩
theorem qz (L:Tabs P) {t t':TypeId} {ag:Bool} {z b off q:Nat} {p x:Operand} {v:Value} {cs cs':List Value} (hg:gK ops κ ⟨none, .store t p x, ty, pos, aft, g⟩ = some true) (hp:evK κ p = some (.pointer (some ⟨b, off, none⟩))) (hq:κ q = some (.own (zaj b cs t'))) (hx:evK κ x = some v)
  (hl:L.ld t = some (ag, z)) (hlen:(za7 v).length = z) (hcs:Nat.ble (off + z) cs.length = true) (hpl:(za7 v).all zdj = true) (hr:cs.take off ++ (za7 v ++ cs.drop (off + z)) = cs') :
  znu P F B n ops O κ ⟨none, .store t p x, ty, pos, aft, g⟩ q (.own (zaj b cs' t')):=by
 rintro κ' a u hlk hqk ⟨H, fp, hh⟩
 subst hr
 unfold After
 rw [if_pos (zah hh hlk hg)]
 have e:=hh.env hlk
 have hev:=e.is_ x v (by simp [Op.operands]) hx
 have hes:=e.is_ p _ (by simp [Op.operands]) hp
 have hqs:=hqk.trans hq
 obtain ⟨⟨hb, hC⟩, hM⟩:=hh.slot q _ hqs
 have hrun:(execOp a.eval ⟨none, .store t p x, ty, pos, aft, g⟩).run P u = .ok .skip (u.setRow b (cs.take off ++ (za7 v ++ cs.drop (off + z))).toArray):=by
  simp only [execOp, hes, hev, Instr.storeAt, Instr.sureAddr, Sem.run_bind, Sem.run_pure, Result.andThen_ok]
  have:=zcu (P:=P) (off:=off) (Tabs.ld_spec hl) hb hlen (Nat.le_of_ble_eq_true hcs) hpl
  rw [this]
  simp
 rw [hrun]
 simp only [Upon, Act.put]
 have hset:=setRow_heap u b cs.toArray (cs.take off ++ (za7 v ++ cs.drop (off + z))).toArray t' (0, 0) hb
 have hbm:=hM b ((hC b).2 rfl)
 have:=hh.usePut (d:=q) (a':=a) (r':=zaj b (cs.take off ++ (za7 v ++ cs.drop (off + z))) t') (C:=fun k => k = b) hqs (zc5 hh.sub hb ((hC b).2 rfl) hbm.2.1 _) rfl rfl (fun _ _ => rfl) ⟨hset, fun _ => Iff.rfl⟩ (fun k hk => by
  subst hk; exact ⟨.inl ((hC k).2 rfl), by rw [setRow_size]; exact hbm.1, hbm.2.1⟩)
 rw [zbv] at this
 exact ⟨H, _, this⟩
end
end Go.V
set_option maxRecDepth 20000
namespace Go.V
open Go.Proofs Go.RowKit
section
variable {α:Type} [Inhabited α] {enc:α → List Value} {k:Nat}
end
section
variable {P:Program} {F:Fr} {B:Heap} {O:Boxes} {n:Nat} {ops:Array Oper} {κ:Kap} {ty:TypeId} {pos:String} {aft:Array Edge} {g:Option (Nat × Bool)}
end
end Go.V
set_option maxRecDepth 20000
namespace Go.V
open Go.Proofs Go.RowKit
def z6q (w:World) (C:Nat → Prop) (r:Res) (v:Value) (H:Heap) (u:World):Prop:=∃ C':Nat → Prop, r.P v H u C' ∧ ∀ k, C' k → (C k ∨ w.heap.size ≤ k) ∧ k < u.heap.size ∧ H k = none
def RetT (P:Program) (f:FuncId) (args:List Value) (w:World) (B:Heap) (C:Nat → Prop) (r:Res):Prop:=RetL P f args w B C (z6q w C r)
section
variable {P:Program} {F:Fr} {B:Heap} {O:Boxes} {n:Nat} {ops:Array Oper} {κ:Kap} {d:Nat} {ty:TypeId} {pos:String} {aft:Array Edge} {g:Option (Nat × Bool)} {a:Act} {u:World} {H:Heap} {fp:Nat → Nat → Prop} {Q:Exit → Act → World → Prop}
theorem z4t {fn:Func} {B0:Heap} {t:Nat} {r:Res} (hrs:fn.results = #[.tmp t]) (hQ:∀ a u, bodyPostM Fence.wide 0 P fn (zff F.w0 B0 F.L (z6q F.w0 F.L r)) .ret a u → Q .ret a u) (hs:Since F B0 B) (hk:κ t = some (.own r)) (hm:zxm F.ds = true:=by rfl):V P F B n O κ .ret Q :=
 zsr hQ hs (hm:=hm) fun O' a u H fp _ hh => by
  obtain ⟨hown, hM⟩:=hh.slot t _ hk
  refine ⟨a.eval (.tmp t), ?_, fp t, hown, fun k hk => ?_⟩
  ·simp [results, hrs, Act.eval]
  ·obtain ⟨h1, h2, h3, _⟩:=hM k hk
   exact ⟨h3.symm, h1, h2⟩
theorem z2p (t q:Nat) {e:TypeId} {s m:Nat} {xs:List Value} {c:Code} (hk:κ t = some (.own (SlR e s m xs)))
  (h0:m = 0 → xs = [] → V P F B n O (upd κ t (.is (.slice none 0 0))) c Q)
  (h:∀ b cap rest, xs.length = m * s → m ≤ cap → cap ≤ maxLen → (xs ++ rest).length = cap * s → V P F B n O (upd (upd (upd κ t zdx) q (.own (zaj b (xs ++ rest) e))) t (.is (.slice (some ⟨b, 0, none⟩) m cap))) c Q):V P F B n O κ c Q:=fun a u hh => by
 obtain ⟨H, fp, hh⟩:=hh
 obtain ⟨⟨hl, hv⟩, hM⟩:=hh.slot t _ hk
 rcases hv with ⟨hm, hv, _⟩ | ⟨b, cap, rest, hv, hb, h3, h4, h5, hC⟩
 ·have h3:=hh.name t
  rw [hv] at h3
  subst hm
  exact h0 rfl (List.eq_nil_of_length_eq_zero (by simpa using hl)) a u ⟨H, _, h3⟩
 ·have h2:=hh.usePut (d:=q) (a':=a) (r':=zaj b (xs ++ rest) e) (C:=fp t) hk ⟨Keep.refl _ _, hh.sub, Heap.Le.refl _, fun _ _ _ => rfl⟩ rfl rfl (fun _ _ => rfl) ⟨hb, hC⟩ fun k hk => ⟨.inl hk, (hM k hk).1, (hM k hk).2.1⟩
  have h3':=h2.name t
  rw [hv] at h3'
  exact h b cap rest hl h3 h4 h5 a u ⟨H, _, h3'⟩
theorem zt2 (t q:Nat) {b m cap:Nat} {e:TypeId} {s:Nat} {xs rest cs:List Value} {c:Code} (hcs:cs = xs ++ rest) (hk:κ q = some (.own (zaj b cs e))) (ht:κ t = some (.is (.slice (some ⟨b, 0, none⟩) m cap))) (hl:xs.length = m * s) (hm:m ≤ cap) (hc:cap ≤ maxLen) (hcl:cs.length = cap * s)
  (h:V P F B n O (upd (upd κ q zdx) t (.own (SlR e s m xs))) c Q):V P F B n O κ c Q:=fun a u hh => by
 subst hcs
 obtain ⟨H, fp, hh⟩:=hh
 obtain ⟨⟨hb, hC⟩, hM⟩:=hh.slot q _ hk
 have hx:a.eval (.tmp t) = .slice (some ⟨b, 0, none⟩) m cap:=hh.slot t _ ht
 exact h a u ⟨H, _, hh.usePut (d:=t) (a':=a) (r':=SlR e s m xs) (C:=fp q) hk ⟨Keep.refl _ _, hh.sub, Heap.Le.refl _, fun _ _ _ => rfl⟩ rfl rfl (fun _ _ => rfl) ⟨hl, .inr ⟨b, cap, rest, hx, hb, hm, hc, hcl, hC⟩⟩ fun k hk => ⟨.inl hk, (hM k hk).1, (hM k hk).2.1⟩⟩
theorem z0f {t t':TypeId} {x y:Operand} {k k2:IntKind} {p q r:Int} (hn:Nat.blt d n = true) (hg:gK ops κ ⟨some d, .binOp .shr t x y t', ty, pos, aft, g⟩ = some true) (hx:evK κ x = some (.int k p)) (hy:evK κ y = some (.int k2 q)) (h0:0 ≤ q) (hb:p.fdiv (2 ^ min q.toNat k.bits) = r) :
  StepOK P F B n ops O κ ⟨some d, .binOp .shr t x y t', ty, pos, aft, g⟩ d (.is (.int k r)):=zb0 hn hg hx hy fun u => by subst hb; simp [eqGuard_shr, binOp_shr, Op.shift, Int.not_lt.2 h0]
theorem zgj (L:Tabs P) {t e:TypeId} {ag:Bool} {s:Nat} {z:Value} (hn:Nat.blt d n = true) (hg:gK ops κ ⟨some d, .buildSlice t 0 #[], ty, pos, aft, g⟩ = some true) (ht:L.sl t = some e) (hl:L.ld e = some (ag, s)) (hz:L.zr e = some z) :
  StepOK P F B n ops O κ ⟨some d, .buildSlice t 0 #[], ty, pos, aft, g⟩ d (.own (SlR e s 0 [])):=by
 rintro κ' a u hlk ⟨H, fp, hh⟩
 unfold After
 rw [if_pos (zah hh hlk hg)]
 have hrun:(execOp a.eval ⟨some d, .buildSlice t 0 #[], ty, pos, aft, g⟩).run P u = .ok (.value (.slice (some ⟨u.heap.size, 0, none⟩) 0 0)) (u.alloc (.cells #[] e)):=by
  have hzz:=Tabs.zr_spec hz
  unfold zrI at hzz
  split at hzz
  ·rename_i it hit
   have hzr:(zeroValue e).run P u = .ok z u:=by simp [zeroValue, typeInfo, hit, hzz]
   simp only [execOp, Sem.run_bind]
   have e0:(Array.map (fun x:Nat × Operand => (x.1, a.eval x.2)) #[]) = (#[]:Array (Nat × Value)):=by simp
   rw [e0]
   have hfill:Instr.fill (fun i => some (i * s, s)) #[] [] = some #[]:=by simp [Instr.fill]
   simp only [Instr.buildSlice, Sem.run_bind, run_underlying (Tabs.sl_spec ht), Result.andThen_ok, zbg (Tabs.ld_spec hl)]
   simp only [Nat.zero_mul, if_true, Sem.run_pure, Result.andThen_ok]
   have e1:(Array.range 0).map (fun _:Nat => (default:Value)) = #[]:=by simp
   simp [newRow, hfill, e1]
  ·cases hzz
 rw [hrun]
 simp only [Upon]
 have hg2:=hh.grow (Grow.hid hh.sub (.cells #[] e))
 refine ⟨H, _, hg2.putR (C:=fun k => k = u.heap.size) (by simp [Act.put]) rfl (fun t ht => zat ht) ⟨by simp, .inr ⟨u.heap.size, 0, [], zax (by rw [hh.size]; exact zn hn), zao _ _, Nat.le_refl _, by simp [maxLen], by simp, fun _ => Iff.rfl⟩⟩ (fun k hk => ?_) fun t r' _ ht k hf hk => ?_⟩
 ·subst hk
  exact ⟨zac (zao u _), za8 hh.sub (Nat.le_refl _), .inl hh.keep.size, fun y hy e => by have:=zac (hh.boxes y hy).1; omega⟩
 ·have:=((hh.slot t _ ht).2 k hf).1
  omega
end
end Go.V
