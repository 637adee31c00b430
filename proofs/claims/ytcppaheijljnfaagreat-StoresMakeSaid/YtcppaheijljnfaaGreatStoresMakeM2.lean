/- Texts on the way to StoresMake, part 2: one behind another. -/
import Derived.Test.YtcppaheijljnfaaGreatStoresMakeM1
import Derived.Test.YtcppaheijljnfaaGreatProg
import Derived.Shelf.Small.Bits
import Derived.Shelf.Small.Strs
import Derived.Shelf.Strconv.Itoa0
import Derived.Shelf.SlSortCmp.NoneTotal
import Derived.Lib.IndexMore
import Derived.Lib.IndexLaws
import Derived.Lib.IndexBytes
import Derived.Laws.RangeString
import Derived.Laws.Runes
import Derived.Scope
set_option linter.unusedVariables false
set_option linter.unusedSimpArgs false
set_option maxRecDepth 20000
namespace Go.V
open Go.RowKit
def zg8 {X:Type} (φ:X → Heap → Prop):Prop:=∀ x H H', φ x H → Heap.Le H H' → φ x H'
def ExR {X:Type} (r:X → Res) (φ:X → Heap → Prop) (hφ:zg8 φ):Res where
 P v H u C:=∃ x, φ x H ∧ (r x).P v H u C
 st:=fun ⟨x, h1, h2⟩ hle hs hon hk => ⟨x, hφ _ _ _ h1 hle, (r x).st h2 hle hs hon hk⟩
section
variable {P:Program} {F:Fr} {B:Heap} {O:Boxes} {n:Nat} {ops:Array Oper} {κ:Kap} {a:Act} {u:World} {H:Heap} {fp:Nat → Nat → Prop} {os:List Oper} {Q:Exit → Act → World → Prop}
theorem HasH.turnR {t:Nat} {r r':Res} (h:HasH F B O n κ a u H fp) (hk:κ t = some (.own r)) (hr:r'.P (a.eval (.tmp t)) H u (fp t)):HasH F B O n (upd κ t (.own r')) a u H fp:=by
 refine ⟨h.size, h.defers, h.nodup, h.marks, h.lent, h.keep, h.sub, h.base, h.fresh, h.boxes, h.apart, fun s k hs => ?_, fun s q r1 r2 hsq h1 h2 => ?_, fun s k hs => ?_⟩
 ·by_cases hst:s = t
  ·subst hst; rw [zaf] at hs; cases hs; exact ⟨hr, (h.slot s _ hk).2⟩
  ·rw [zac _ _ hst] at hs; exact h.slot s k hs
 ·have key:∀ x r, upd κ t (.own r') x = some (.own r) → ∃ r2, κ x = some (.own r2):=fun x r hx => by
   by_cases hxd:x = t
   ·subst hxd; exact ⟨_, hk⟩
   ·rw [zac _ _ hxd] at hx; exact ⟨_, hx⟩
  obtain ⟨_, k1⟩:=key _ _ h1
  obtain ⟨_, k2⟩:=key _ _ h2
  exact h.owns s q _ _ hsq k1 k2
 ·by_cases hst:s = t
  ·subst hst; rw [zaf] at hs; cases hs; trivial
  ·rw [zac _ _ hst] at hs; exact h.mono s k hs
theorem Has.opnX {X:Type} {t:Nat} {r:X → Res} {φ:X → Heap → Prop} {hφ:zg8 φ} (hk:κ t = some (.own (ExR r φ hφ))) (h:Has F B O n κ a u):∃ x H, Since F B H ∧ φ x H ∧ Has F H O n (upd κ t (.own (r x))) a u:=by
 obtain ⟨H, fp, h⟩:=h
 obtain ⟨⟨x, h1, h2⟩, _⟩:=h.slot t _ hk
 exact ⟨x, H, h.isSince, h1, H, fp, (h.turnR hk h2).rebase⟩
theorem Has.clsX {X:Type} {t:Nat} {r:X → Res} {φ:X → Heap → Prop} (hφ:zg8 φ) (x:X) (hx:φ x B) (hk:κ t = some (.own (r x))) (h:Has F B O n κ a u):Has F B O n (upd κ t (.own (ExR r φ hφ))) a u:=by
 obtain ⟨H, fp, h⟩:=h
 exact ⟨H, fp, h.turnR hk ⟨x, hφ _ _ _ hx h.base, (h.slot t _ hk).1⟩⟩
theorem zc9 {X:Type} (t:Nat) {r:X → Res} {φ:X → Heap → Prop} {hφ:zg8 φ} {c:Code} (hk:κ t = some (.own (ExR r φ hφ))) (h:∀ x H, Since F B H → φ x H → V P F H n O (upd κ t (.own (r x))) c Q):V P F B n O κ c Q:=fun a u hh => by
 obtain ⟨x, H, hs, hx, hh'⟩:=hh.opnX hk
 exact h x H hs hx a u hh'
theorem z03 {X:Type} (t:Nat) {r:X → Res} {φ:X → Heap → Prop} (hφ:zg8 φ) (x:X) {c:Code} (hx:φ x B) (hk:κ t = some (.own (r x))) (h:V P F B n O (upd κ t (.own (ExR r φ hφ))) c Q):V P F B n O κ c Q:=fun a u hh => h a u (hh.clsX hφ x hx hk)
theorem zpk {X:Type} (t:Nat) {r:X → Res} {φ:X → Heap → Prop} (hφ:zg8 φ) (x:X) (hx:φ x B) (hk:κ t = some (.own (r x))) (h:N F B n O (upd κ t (.own (ExR r φ hφ))) Q):N F B n O κ Q:=fun a u hh => h a u (hh.clsX hφ x hx hk)
end
theorem zc8 {α:Type} {f:α → List Value} {s:Nat} (hf:∀ a, (f a).length = s):∀ (l:List α) (i:Nat) (a:α), l[i]? = some a → ((l.flatMap f).drop (i * s)).take s = f a
 | [], _, _, h => by simp at h
 | z :: l, 0, a, h => by simp at h; subst h; rw [Nat.zero_mul, List.drop_zero, List.flatMap_cons, List.take_append_of_le_length (by rw [hf]; exact Nat.le_refl _), List.take_of_length_le (by rw [hf]; exact Nat.le_refl _)]
 | z :: l, i + 1, a, h => by
  simp only [List.getElem?_cons_succ] at h
  rw [← zc8 hf l i a h, List.flatMap_cons]
  congr 1
  have e:(i + 1) * s = (f z).length + i * s:=by rw [hf, Nat.succ_mul]; omega
  rw [e, ← List.drop_drop, List.drop_left]
theorem zcq {α:Type} {f:α → List Value} {s:Nat} (hf:∀ a, (f a).length = s) (l:List α):(l.flatMap f).length = l.length * s:=by
 induction l with
 | nil => simp
 | cons a l ih => rw [List.flatMap_cons, List.length_append, ih, hf, List.length_cons, Nat.succ_mul, Nat.add_comm]
theorem zae {α:Type} {l:List α} {i:Nat} (h:i < l.length):∃ a, l[i]? = some a:=⟨l[i], List.getElem?_eq_getElem h⟩
theorem get_lt {α:Type} {l:List α} {i:Nat} {a:α} (h:l[i]? = some a):i < l.length:=by
 rcases Nat.lt_or_ge i l.length with h' | h'
 ·exact h'
 ·rw [List.getElem?_eq_none h'] at h; cases h
theorem zaq {e:TypeId} {s n:Nat} {xs:List Value} {fu:Bool} {v:Value} {H:Heap} (h:SlV e s xs n fu v H):∃ p c, v = .slice p n c:=by
 obtain ⟨_, ⟨h0, p, rfl⟩ | ⟨b, off, cap, cs, ty0, fr, rfl, _⟩⟩:=h
 ·exact ⟨p, 0, by rw [h0]⟩
 ·exact ⟨_, _, rfl⟩
theorem zq1 {e:TypeId} {s n c:Nat} {xs:List Value} {fu:Bool} {H:Heap} (h:SlV e s xs n fu (.slice none n c) H):n = 0 ∧ c = 0:=by
 obtain ⟨_, ⟨h0, p, e⟩ | ⟨b, off, cap, cs, ty0, fr, e, _⟩⟩:=h
 ·cases e; exact ⟨h0, rfl⟩
 ·cases e
end Go.V
set_option maxRecDepth 20000
namespace Go.V
open Go.RowKit
variable {P:Program} {F:Fr} {B:Heap} {n:Nat} {O:Boxes} {κ:Kap} {Q R:Exit → Act → World → Prop}
def z5p (P:Program) (F:Fr) (_:Heap) (_:Nat) (R:Exit → Act → World → Prop) (y:Code) (Q:Exit → Act → World → Prop):Prop :=
 (∀ a u, R .normal a u → y.wpIn (FW F.r) 0 P Q a u) ∧ ∀ e a u, e ≠ .normal → R e a u → Q e a u
theorem zd6 {T:Type} (Fk:T → List (Nat × Kn)) (I:T → Prop) (Ob:T → Boxes) {y:Code} (hy:∀ t, I t → V P F B n (Ob t) (ofL (Fk t)) y Q) :
  z5p P F B n (Exit.then (fun a u => ∃ t, I t ∧ Has F B (Ob t) n (ofL (Fk t)) a u) Q) y Q :=
 ⟨fun a u ⟨t, hI, hh⟩ => hy t hI a u hh, fun e a u he h => by cases e <;> first | exact absurd rfl he | exact h⟩
theorem za7 {T:Type} {B0:Heap} {Fk:T → List (Nat × Kn)} {I:T → Prop} {Ob:T → Boxes} (t:T) (hs:Since F B0 B) (hI:I t) (hO:O = Ob t) (hl:LiveOK (Fk t) κ) :
  N F B n O κ (Exit.then (fun a u => ∃ t, I t ∧ Has F B0 (Ob t) n (ofL (Fk t)) a u) Q):=fun _ _ hh => ⟨t, hI, hO ▸ (hh.live hl).since hs⟩
section
variable {ops:Array Oper} {ty:TypeId} {pos:String} {aft:Array Edge} {g:Option (Nat × Bool)}
theorem zkm (L:Tabs P) {t t':TypeId} {s q:Nat} {ag:Bool} {z:Nat} {cs:List Value} {φ:Value → Heap → Prop} {X:Type} (f:X → List Value) (ψ:X → Heap → Prop) (hψ:zg8 ψ)
  (hφ:∀ v H, φ v H → ∃ x, ψ x H ∧ zav v = f x) (hf:∀ x, (f x).length = z ∧ (f x).all zbs = true)
  (hg:gK ops κ ⟨none, .store t (.tmp s) (.tmp q), ty, pos, aft, g⟩ = some true) (hk:κ s = some (.own (Cell cs t'))) (hx:κ q = some (.sat φ))
  (hl:L.ld t = some (ag, z)) (hcs:cs.length = z) :
  StepOK P F B n ops O κ ⟨none, .store t (.tmp s) (.tmp q), ty, pos, aft, g⟩ s (.own (ExR (fun x => Cell (f x) t') ψ hψ)):=by
 rintro κ' a u hlk ⟨H, fp, hh⟩
 unfold After
 rw [if_pos (zag hh hlk hg)]
 have e:=hh.env hlk
 obtain ⟨x, hx1, hx2⟩:=hφ _ _ (e.sat_ q _ (by simp [Op.operands]) hx)
 have hks:κ' s = some (.own (Cell cs t')):=(hlk s (zdv (by simp [Op.operands]))).trans hk
 obtain ⟨⟨b, hes, hb, hC⟩, hM⟩:=hh.slot s _ hks
 have hrun:(execOp a.eval ⟨none, .store t (.tmp s) (.tmp q), ty, pos, aft, g⟩).run P u = .ok .skip (u.setRow b (f x).toArray):=by
  simp only [execOp, hes, Instr.storeAt, Instr.sureAddr, Sem.run_bind, Sem.run_pure, Result.andThen_ok]
  have:=zb4 (P:=P) (off:=0) (v:=a.eval (.tmp q)) (Tabs.ld_spec hl) hb (by rw [hx2]; exact (hf x).1) (by omega) (by rw [hx2]; exact (hf x).2)
  rw [this, hx2, List.drop_of_length_le (by omega)]
  simp
 rw [hrun]
 simp only [Upon, Act.put]
 have hset:=setRow_heap u b cs.toArray (f x).toArray t' (0, 0) hb
 have hbm:=hM b ((hC b).2 rfl)
 have:=hh.usePut (d:=s) (a':=a) (r':=ExR (fun x => Cell (f x) t') ψ hψ) (C:=fun k => k = b) hks (zbu hh.sub hb ((hC b).2 rfl) hbm.2.1 _) rfl rfl (fun _ _ => rfl) ⟨x, hx1, b, hes, hset, fun _ => Iff.rfl⟩ (fun k hk => by
  subst hk; exact ⟨.inl ((hC k).2 rfl), by rw [setRow_size]; exact hbm.1, hbm.2.1⟩)
 rw [zbf] at this
 exact ⟨H, _, this⟩
end
end Go.V
set_option maxRecDepth 20000
namespace Go.V
open Go.RowKit
def okB (c:UInt8):Bool:=(97 ≤ c && c ≤ 122) || (48 ≤ c && c ≤ 57)
def chk (s:ByteArray):Int:=if 1 ≤ s.size ∧ s.size ≤ 16 ∧ s.data.toList.all okB = true then 0 else 6
theorem zb1 (s:ByteArray):chk s = 0 ∨ chk s = 6:=by unfold chk; split <;> simp
theorem zqi {s:ByteArray} (h:¬ (1 ≤ s.size ∧ s.size ≤ 16)):chk s = 6:=by
 unfold chk; rw [if_neg]; intro h'; exact h ⟨h'.1, h'.2.1⟩
theorem zw1 {s:ByteArray} (h1:1 ≤ s.size) (h2:s.size ≤ 16) (h:s.data.toList.all okB = true):chk s = 0:=by
 unfold chk; rw [if_pos ⟨h1, h2, h⟩]
theorem zmb {s:ByteArray} {k:Nat} {c:UInt8} (hc:s[k]? = some c) (h:okB c = false):chk s = 6:=by
 unfold chk; rw [if_neg]
 rintro ⟨_, _, hall⟩
 have hm:c ∈ s.data.toList:=by
  have:s.data[k]? = some c:=hc
  exact Array.mem_toList_iff.2 (Array.mem_of_getElem? this)
 rw [List.all_eq_true] at hall
 rw [hall c hm] at h; cases h
theorem getElem?_lt {s:ByteArray} {k:Nat} (h:k < s.size):∃ c, s[k]? = some c:=⟨s[k], by rw [getElem?_pos]⟩
theorem zi7 {s:ByteArray} {k:Nat} {c:UInt8} (hc:s[k]? = some c) (h:okB c = true) (ha:(s.data.toList.take k).all okB = true):(s.data.toList.take (k + 1)).all okB = true:=by
 have hd:s.data.toList[k]? = some c:=by
  have:s.data[k]? = some c:=hc
  simpa using this
 rw [List.take_add_one, hd]
 simp [List.all_append, ha, h]
theorem zby (s:ByteArray):s.data.toList.length = s.size:=by rw [Array.length_toList]; rfl
theorem zr8 {s:ByteArray} {k:Nat} (h:s.size ≤ k) (ha:(s.data.toList.take k).all okB = true):s.data.toList.all okB = true:=by
 rwa [List.take_of_length_le (by rw [zby]; exact h)] at ha
theorem z3o (c:UInt8):(c.toNat:Int) < 256:=by have:=c.toNat_lt; omega
theorem z4d {c:UInt8} (h1:(c.toNat:Int) < 97) (h2:(c.toNat:Int) < 48):okB c = false:=by
 simp [okB, UInt8.le_iff_toNat_le]; omega
theorem z4c {c:UInt8} (h1:(c.toNat:Int) < 97) (h2:57 < (c.toNat:Int)):okB c = false:=by
 simp [okB, UInt8.le_iff_toNat_le]; omega
theorem z4b {c:UInt8} (h1:122 < (c.toNat:Int)):okB c = false:=by
 simp [okB, UInt8.le_iff_toNat_le]; omega
theorem z4a {c:UInt8} (h1:¬ (c.toNat:Int) < 97) (h2:¬ 122 < (c.toNat:Int)):okB c = true:=by
 simp [okB, UInt8.le_iff_toNat_le]; omega
theorem z39 {c:UInt8} (h1:¬ (c.toNat:Int) < 48) (h2:¬ 57 < (c.toNat:Int)):okB c = true:=by
 simp [okB, UInt8.le_iff_toNat_le]; omega
theorem zz9 {vs:List Value} {j:Nat} {v:Value} (h:vs[j]? = some v):(vs.drop (j * 1)).take 1 = [v]:=by
 obtain ⟨hl, he⟩:=List.getElem?_eq_some_iff.1 h
 rw [Nat.mul_one, List.drop_eq_getElem_cons hl, he]
 rfl
theorem z3q {l:List ByteArray} {j:Nat} {s:ByteArray} (h:l[j]? = some s):((l.map Value.string).drop (j * 1)).take 1 = [.string s]:=zz9 (by simp [h])
end Go.V
namespace Go.V
open Go.Proofs
set_option maxRecDepth 100000
theorem mixed:Tryz.prog.follows .mixedOrders = true:=by kernel_rfl
def ldL:List (Nat × (Bool × Nat)):=[(1, (false, 1)), (2, (false, 1)), (3, (false, 1)), (4, (false, 1)), (5, (false, 1)), (6, (false, 1)), (7, (true, 4)), (8, (true, 4)), (9, (false, 1)), (10, (false, 1)), 
  (11, (false, 1)), (12, (false, 1)), (13, (true, 2)), (14, (true, 2)), (15, (false, 1)), (16, (false, 1)), (17, (false, 1)), (18, (true, 1)), (19, (true, 1)), (20, (false, 1)), 
  (21, (false, 1)), (22, (false, 1)), (23, (true, 1)), (24, (true, 1)), (25, (false, 1)), (26, (false, 1)), (27, (false, 1)), (28, (false, 1)), (29, (false, 1)), (30, (false, 1)), 
  (31, (true, 2)), (32, (true, 2)), (33, (true, 3)), (34, (true, 3)), (35, (false, 1)), (36, (false, 1)), (37, (false, 1)), (38, (false, 1)), (39, (false, 1)), (40, (true, 2)), 
  (41, (true, 2)), (42, (true, 2)), (43, (true, 2)), (44, (true, 4)), (45, (true, 4)), (46, (false, 1)), (48, (false, 1)), (49, (false, 1)), (50, (false, 1)), (51, (false, 1)), 
  (52, (false, 1)), (53, (false, 1)), (54, (false, 1)), (55, (false, 1)), (56, (false, 1)), (58, (false, 1)), (59, (false, 1)), (61, (false, 1)), (62, (false, 1)), (63, (false, 1)), 
  (64, (false, 1)), (65, (true, 1)), (66, (true, 1)), (67, (true, 1)), (68, (true, 1)), (69, (true, 5)), (70, (true, 5)), (71, (false, 1)), (72, (false, 1)), (73, (true, 2)), 
  (74, (true, 2)), (75, (false, 1)), (76, (false, 1)), (78, (false, 1)), (79, (false, 1)), (81, (false, 1)), (82, (false, 1)), (83, (false, 1)), (84, (false, 1)), (85, (false, 1)), 
  (86, (false, 1)), (87, (false, 1)), (88, (true, 2)), (89, (true, 2)), (90, (false, 1)), (91, (false, 1)), (92, (false, 1)), (93, (true, 4)), (94, (true, 4)), (95, (false, 1)), 
  (96, (false, 1)), (97, (false, 1)), (98, (false, 1)), (99, (false, 1)), (100, (false, 1)), (102, (false, 1)), (103, (false, 1)), (104, (false, 1)), (105, (false, 1)), 
  (107, (false, 1)), (108, (true, 2)), (109, (true, 2)), (110, (true, 3)), (111, (true, 3)), (112, (true, 3)), (113, (true, 6)), (114, (true, 6)), (116, (false, 1)), (117, (true, 7)), 
  (118, (true, 7)), (119, (true, 7)), (120, (true, 7)), (121, (false, 1)), (123, (false, 1)), (124, (false, 1)), (125, (false, 1)), (126, (false, 1)), (127, (false, 1)), 
  (129, (false, 1)), (131, (false, 1)), (133, (false, 1)), (134, (false, 1)), (135, (false, 1)), (136, (true, 2)), (137, (true, 2)), (138, (false, 1)), (139, (false, 1)), 
  (140, (false, 1)), (141, (false, 1)), (142, (false, 1)), (143, (false, 1)), (144, (false, 1)), (145, (false, 1)), (146, (false, 1)), (147, (false, 1)), (148, (true, 3)), 
  (149, (false, 1)), (150, (false, 1)), (151, (false, 1)), (152, (false, 1)), (153, (false, 1)), (154, (false, 1)), (155, (false, 1)), (156, (true, 0)), (157, (true, 6)), 
  (158, (true, 6)), (160, (false, 1)), (162, (false, 1)), (163, (false, 1)), (165, (false, 1)), (166, (false, 1)), (168, (false, 1)), (170, (false, 1)), (172, (false, 1)), 
  (173, (false, 1)), (175, (false, 1)), (177, (false, 1)), (178, (false, 1)), (179, (false, 1)), (180, (false, 1)), (181, (false, 1)), (182, (false, 1)), (183, (false, 1)), 
  (184, (false, 1)), (185, (true, 2)), (186, (false, 1)), (187, (false, 1)), (188, (false, 1)), (189, (false, 1)), (191, (false, 1)), (192, (false, 1)), (193, (false, 1)), 
  (194, (false, 1)), (195, (false, 1)), (196, (false, 1)), (197, (false, 1)), (198, (false, 1)), (199, (false, 1)), (200, (false, 1)), (201, (false, 1)), (202, (false, 1)), 
  (204, (false, 1)), (205, (false, 1)), (206, (false, 1)), (207, (true, 10)), (208, (true, 10)), (209, (false, 1)), (210, (false, 1)), (211, (false, 1)), (212, (false, 1)), 
  (213, (false, 1)), (214, (false, 1)), (215, (false, 1)), (216, (false, 1)), (217, (false, 1)), (218, (false, 1)), (219, (false, 1)), (220, (false, 1)), (221, (false, 1)), 
  (222, (false, 1)), (223, (false, 1)), (224, (false, 1)), (225, (false, 1)), (226, (false, 1)), (227, (false, 1)), (228, (false, 1)), (229, (false, 1)), (230, (false, 1)), 
  (231, (false, 1)), (232, (false, 1)), (233, (false, 1)), (234, (false, 1)), (235, (false, 1)), (236, (false, 1)), (237, (false, 1)), (238, (false, 1)), (239, (false, 1)), 
  (240, (false, 1)), (241, (false, 1)), (242, (false, 1)), (243, (false, 1)), (244, (false, 1)), (245, (false, 1)), (246, (false, 1)), (248, (false, 1)), (249, (false, 1)), 
  (250, (false, 1)), (251, (false, 1)), (252, (false, 1)), (253, (false, 1)), (254, (false, 1)), (255, (false, 1)), (256, (false, 1)), (257, (false, 1)), (258, (false, 1)), 
  (259, (false, 1)), (260, (false, 1)), (261, (false, 1)), (263, (false, 1)), (264, (false, 1)), (265, (false, 1)), (266, (true, 4)), (267, (true, 4)), (268, (true, 0)), 
  (269, (true, 0)), (270, (true, 0)), (271, (false, 1)), (272, (false, 1)), (273, (false, 1)), (274, (false, 1)), (275, (false, 1)), (276, (false, 1)), (277, (true, 11)), 
  (278, (true, 11)), (279, (false, 1))]
def slL:List (Nat × Nat):=[(22, 70), (28, 49), (30, 89), (36, 45), (37, 50), (50, 114), (64, 148), (72, 137), (79, 120), (95, 29), (96, 118), (154, 158), (250, 3), (253, 9)]
def stL:List (Nat × Unit):=[(9, ()), (10, ()), (11, ())]
def foL:List ((Nat × Nat) × Nat):=[((7, 0), 0), ((7, 1), 1), ((7, 2), 2), ((7, 3), 3), ((8, 0), 0), ((8, 1), 1), ((8, 2), 2), ((8, 3), 3), ((13, 0), 0), ((13, 1), 1), ((14, 0), 0), ((14, 1), 1), ((18, 0), 0), 
  ((19, 0), 0), ((23, 0), 0), ((24, 0), 0), ((31, 0), 0), ((31, 1), 1), ((32, 0), 0), ((32, 1), 1), ((33, 0), 0), ((33, 1), 1), ((34, 0), 0), ((34, 1), 1), ((40, 0), 0), ((40, 1), 1), 
  ((41, 0), 0), ((41, 1), 1), ((42, 0), 0), ((43, 0), 0), ((44, 0), 0), ((44, 1), 2), ((45, 0), 0), ((45, 1), 2), ((65, 0), 0), ((66, 0), 0), ((67, 0), 0), ((68, 0), 0), ((69, 0), 0), 
  ((69, 1), 1), ((69, 2), 2), ((69, 3), 3), ((69, 4), 4), ((70, 0), 0), ((70, 1), 1), ((70, 2), 2), ((70, 3), 3), ((70, 4), 4), ((73, 0), 0), ((73, 1), 1), ((74, 0), 0), ((74, 1), 1), 
  ((88, 0), 0), ((88, 1), 1), ((89, 0), 0), ((89, 1), 1), ((93, 0), 0), ((93, 1), 1), ((93, 2), 2), ((94, 0), 0), ((94, 1), 1), ((94, 2), 2), ((108, 0), 0), ((108, 1), 1), 
  ((109, 0), 0), ((109, 1), 1), ((110, 0), 0), ((110, 1), 2), ((111, 0), 0), ((111, 1), 2), ((112, 0), 0), ((112, 1), 2), ((113, 0), 0), ((113, 1), 3), ((114, 0), 0), ((114, 1), 3), 
  ((117, 0), 0), ((117, 1), 6), ((118, 0), 0), ((118, 1), 6), ((119, 0), 0), ((119, 1), 6), ((120, 0), 0), ((120, 1), 6), ((136, 0), 0), ((136, 1), 1), ((137, 0), 0), ((137, 1), 1), 
  ((157, 0), 0), ((158, 0), 0), ((207, 0), 0), ((207, 1), 6), ((207, 2), 7), ((207, 3), 8), ((207, 4), 9), ((208, 0), 0), ((208, 1), 6), ((208, 2), 7), ((208, 3), 8), ((208, 4), 9), 
  ((266, 0), 0), ((266, 1), 1), ((266, 2), 2), ((266, 3), 3), ((267, 0), 0), ((267, 1), 1), ((267, 2), 2), ((267, 3), 3), ((277, 0), 0), ((277, 1), 1), ((277, 2), 2), ((277, 3), 3), 
  ((277, 4), 4), ((277, 5), 5), ((277, 6), 6), ((277, 7), 7), ((277, 8), 8), ((277, 9), 9), ((277, 10), 10), ((278, 0), 0), ((278, 1), 1), ((278, 2), 2), ((278, 3), 3), ((278, 4), 4), 
  ((278, 5), 5), ((278, 6), 6), ((278, 7), 7), ((278, 8), 8), ((278, 9), 9), ((278, 10), 10)]
def zrL:List (Nat × Value):=[(1, .nilFunc), (2, .int .i64 0), (3, .int .i64 0), (4, .bool false), (5, .int .u8 0), (6, .int .u8 0), (7, .agg #[.int .i64 0, .int .i64 0, .bool false, .int .u8 0]), 
  (8, .agg #[.int .i64 0, .int .i64 0, .bool false, .int .u8 0]), (9, .string ⟨#[]⟩), (10, .string ⟨#[]⟩), (11, .string ⟨#[]⟩), (12, .int .u64 0), 
  (13, .agg #[.string ⟨#[]⟩, .int .u64 0]), (14, .agg #[.string ⟨#[]⟩, .int .u64 0]), (15, .pointer none), (16, .pointer none), (17, .pointer none), (18, .agg #[.pointer none]), 
  (19, .agg #[.pointer none]), (20, .nilIface), (21, .int .i32 0), (22, .slice none 0 0), (23, .agg #[.slice none 0 0]), (24, .agg #[.slice none 0 0]), (25, .pointer none), 
  (26, .nilFunc), (27, .nilFunc), (28, .slice none 0 0), (29, .pointer none), (30, .slice none 0 0), (31, .agg #[.slice none 0 0, .slice none 0 0]), 
  (32, .agg #[.slice none 0 0, .slice none 0 0]), (33, .agg #[.pointer none, .slice none 0 0, .slice none 0 0]), (34, .agg #[.pointer none, .slice none 0 0, .slice none 0 0]), 
  (35, .nilFunc), (36, .slice none 0 0), (37, .slice none 0 0), (38, .nilFunc), (39, .pointer none), (40, .agg #[.nilFunc, .pointer none]), (41, .agg #[.nilFunc, .pointer none]), 
  (42, .agg #[.nilFunc, .pointer none]), (43, .agg #[.nilFunc, .pointer none]), (44, .agg #[.nilFunc, .pointer none, .nilFunc, .pointer none]), 
  (45, .agg #[.nilFunc, .pointer none, .nilFunc, .pointer none]), (46, .int .i64 0), (48, .nilFunc), (49, .int .u64 0), (50, .slice none 0 0), (51, .nilFunc), (52, .nilFunc), 
  (53, .nilFunc), (54, .nilFunc), (55, .nilFunc), (56, .nilFunc), (58, .nilFunc), (59, .nilFunc), (61, .nilFunc), (62, .nilFunc), (63, .nilFunc), (64, .slice none 0 0), 
  (65, .agg #[.slice none 0 0]), (66, .agg #[.slice none 0 0]), (67, .agg #[.slice none 0 0]), (68, .agg #[.slice none 0 0]), 
  (69, .agg #[.int .u8 0, .slice none 0 0, .slice none 0 0, .int .u8 0, .int .i64 0]), (70, .agg #[.int .u8 0, .slice none 0 0, .slice none 0 0, .int .u8 0, .int .i64 0]), 
  (71, .nilFunc), (72, .slice none 0 0), (73, .agg #[.slice none 0 0, .int .i64 0]), (74, .agg #[.slice none 0 0, .int .i64 0]), (75, .nilFunc), (76, .nilFunc), (78, .nilFunc), 
  (79, .slice none 0 0), (81, .nilFunc), (82, .nilFunc), (83, .nilFunc), (84, .nilFunc), (85, .nilFunc), (86, .nilFunc), (87, .nilFunc), (88, .agg #[.bool false, .slice none 0 0]), 
  (89, .agg #[.bool false, .slice none 0 0]), (90, .nilFunc), (91, .nilFunc), (92, .map none), (93, .agg #[.int .u64 0, .map none, .slice none 0 0, .int .i64 0]), 
  (94, .agg #[.int .u64 0, .map none, .slice none 0 0, .int .i64 0]), (95, .slice none 0 0), (96, .slice none 0 0), (97, .nilFunc), (98, .nilFunc), (99, .nilFunc), (100, .nilFunc), 
  (102, .nilFunc), (103, .nilFunc), (104, .nilFunc), (105, .nilFunc), (107, .nilFunc), (108, .agg #[.string ⟨#[]⟩, .string ⟨#[]⟩]), (109, .agg #[.string ⟨#[]⟩, .string ⟨#[]⟩]), 
  (110, .agg #[.string ⟨#[]⟩, .string ⟨#[]⟩, .string ⟨#[]⟩]), (111, .agg #[.string ⟨#[]⟩, .string ⟨#[]⟩, .string ⟨#[]⟩]), (112, .agg #[.string ⟨#[]⟩, .string ⟨#[]⟩, .string ⟨#[]⟩]), 
  (113, .agg #[.string ⟨#[]⟩, .string ⟨#[]⟩, .string ⟨#[]⟩, .string ⟨#[]⟩, .string ⟨#[]⟩, .string ⟨#[]⟩]), 
  (114, .agg #[.string ⟨#[]⟩, .string ⟨#[]⟩, .string ⟨#[]⟩, .string ⟨#[]⟩, .string ⟨#[]⟩, .string ⟨#[]⟩]), (116, .nilFunc), 
  (117, .agg #[.string ⟨#[]⟩, .string ⟨#[]⟩, .string ⟨#[]⟩, .string ⟨#[]⟩, .string ⟨#[]⟩, .string ⟨#[]⟩, .bool false]), 
  (118, .agg #[.string ⟨#[]⟩, .string ⟨#[]⟩, .string ⟨#[]⟩, .string ⟨#[]⟩, .string ⟨#[]⟩, .string ⟨#[]⟩, .bool false]), 
  (119, .agg #[.string ⟨#[]⟩, .string ⟨#[]⟩, .string ⟨#[]⟩, .string ⟨#[]⟩, .string ⟨#[]⟩, .string ⟨#[]⟩, .bool false]), 
  (120, .agg #[.string ⟨#[]⟩, .string ⟨#[]⟩, .string ⟨#[]⟩, .string ⟨#[]⟩, .string ⟨#[]⟩, .string ⟨#[]⟩, .bool false]), (121, .nilFunc), (123, .nilFunc), (124, .nilFunc), 
  (125, .nilFunc), (126, .nilFunc), (127, .nilFunc), (129, .nilFunc), (131, .nilFunc), (133, .nilFunc), (134, .nilFunc), (135, .nilFunc), (136, .agg #[.int .u64 0, .int .i64 0]), 
  (137, .agg #[.int .u64 0, .int .i64 0]), (138, .nilFunc), (139, .nilFunc), (140, .nilFunc), (141, .nilFunc), (142, .nilFunc), (143, .nilFunc), (144, .nilFunc), (145, .nilFunc), 
  (146, .nilFunc), (147, .nilFunc), (148, .agg #[.int .u8 0, .int .u8 0, .int .u8 0]), (149, .nilFunc), (150, .nilFunc), (151, .nilFunc), (152, .nilFunc), (153, .int .u64 0), 
  (154, .slice none 0 0), (155, .nilFunc), (156, .agg #[]), (157, .agg #[.string ⟨#[]⟩, .string ⟨#[]⟩, .string ⟨#[]⟩, .string ⟨#[]⟩, .string ⟨#[]⟩, .string ⟨#[]⟩]), 
  (158, .agg #[.string ⟨#[]⟩, .string ⟨#[]⟩, .string ⟨#[]⟩, .string ⟨#[]⟩, .string ⟨#[]⟩, .string ⟨#[]⟩]), (160, .nilFunc), (162, .nilFunc), (163, .nilFunc), (165, .nilFunc), 
  (166, .nilFunc), (168, .nilFunc), (170, .nilFunc), (172, .nilFunc), (173, .nilFunc), (175, .nilFunc), (177, .nilFunc), (178, .nilFunc), (179, .nilFunc), (180, .nilFunc), 
  (181, .nilFunc), (182, .nilFunc), (183, .nilFunc), (184, .nilFunc), (185, .agg #[.int .u8 0, .int .u8 0]), (186, .nilFunc), (187, .nilFunc), (188, .nilFunc), (189, .int .i64 0), 
  (191, .nilFunc), (192, .nilFunc), (193, .nilFunc), (194, .nilFunc), (195, .nilFunc), (196, .nilFunc), (197, .int .u32 0), (198, .nilFunc), (199, .nilFunc), (200, .nilFunc), 
  (201, .nilFunc), (202, .nilFunc), (204, .nilFunc), (205, .nilFunc), (206, .nilFunc), 
  (207, .agg #[.string ⟨#[]⟩, .string ⟨#[]⟩, .string ⟨#[]⟩, .string ⟨#[]⟩, .string ⟨#[]⟩, .string ⟨#[]⟩, .pointer none, .pointer none, .int .i64 0, .int .i64 0]), 
  (208, .agg #[.string ⟨#[]⟩, .string ⟨#[]⟩, .string ⟨#[]⟩, .string ⟨#[]⟩, .string ⟨#[]⟩, .string ⟨#[]⟩, .pointer none, .pointer none, .int .i64 0, .int .i64 0]), (209, .nilFunc), 
  (210, .nilFunc), (211, .nilFunc), (212, .nilFunc), (213, .nilFunc), (214, .nilFunc), (215, .nilFunc), (216, .nilFunc), (217, .nilFunc), (218, .nilFunc), (219, .nilFunc), 
  (220, .nilFunc), (221, .nilFunc), (222, .nilFunc), (223, .nilFunc), (224, .nilFunc), (225, .nilFunc), (226, .nilFunc), (227, .nilFunc), (228, .nilFunc), (229, .nilFunc), 
  (230, .nilFunc), (231, .nilFunc), (232, .nilFunc), (233, .int .u64 0), (234, .nilFunc), (235, .nilFunc), (236, .pointer none), (237, .nilFunc), (238, .nilFunc), (239, .nilFunc), 
  (240, .nilFunc), (241, .nilFunc), (242, .nilFunc), (243, .nilFunc), (244, .nilFunc), (245, .nilFunc), (246, .nilFunc), (248, .nilFunc), (249, .nilFunc), (250, .slice none 0 0), 
  (251, .nilFunc), (252, .nilFunc), (253, .slice none 0 0), (254, .pointer none), (255, .nilFunc), (256, .nilFunc), (257, .nilFunc), (258, .nilFunc), (259, .nilFunc), (260, .nilFunc), 
  (261, .nilFunc), (263, .nilFunc), (264, .nilFunc), (265, .nilFunc), (266, .agg #[.pointer none, .pointer none, .pointer none, .string ⟨#[]⟩]), 
  (267, .agg #[.pointer none, .pointer none, .pointer none, .string ⟨#[]⟩]), (268, .agg #[]), (269, .agg #[]), (270, .agg #[]), (271, .int .u8 0), (272, .int .u8 0), (273, .nilFunc), 
  (274, .pointer none), (275, .int .i32 0), (276, .int .i32 0), 
  (277, .agg #[.int .u64 0, .int .u64 0, .int .u32 0, .int .u8 0, .int .u8 0, .int .u8 0, .int .u8 0, .nilFunc, .pointer none, .int .i32 0, .int .i32 0]), 
  (278, .agg #[.int .u64 0, .int .u64 0, .int .u32 0, .int .u8 0, .int .u8 0, .int .u8 0, .int .u8 0, .nilFunc, .pointer none, .int .i32 0, .int .i32 0])]
def fnL:List (Nat × Unit):=[(3, ()), (4, ()), (5, ()), (6, ()), (7, ()), (8, ()), (9, ()), (10, ()), (11, ()), (12, ()), (13, ()), (14, ()), (15, ()), (16, ()), (17, ()), (18, ()), (19, ()), (20, ()), 
  (21, ()), (22, ()), (23, ()), (24, ()), (25, ()), (26, ()), (27, ()), (28, ()), (29, ()), (30, ()), (31, ()), (32, ()), (33, ()), (34, ()), (35, ()), (36, ()), (37, ()), (38, ()), 
  (39, ()), (40, ()), (41, ()), (42, ()), (43, ()), (44, ()), (45, ()), (46, ()), (47, ()), (48, ()), (49, ()), (50, ()), (51, ()), (52, ()), (53, ()), (54, ()), (55, ()), (56, ()), 
  (57, ()), (58, ()), (59, ()), (60, ()), (61, ()), (62, ()), (63, ()), (64, ()), (65, ()), (66, ()), (67, ()), (68, ()), (69, ()), (70, ()), (71, ()), (72, ()), (73, ()), (74, ()), 
  (75, ()), (76, ()), (77, ()), (78, ()), (79, ()), (80, ()), (81, ()), (82, ()), (83, ()), (84, ()), (85, ()), (86, ()), (87, ()), (88, ()), (89, ()), (90, ()), (91, ()), (92, ()), 
  (93, ()), (94, ()), (95, ()), (96, ()), (97, ()), (98, ()), (99, ()), (100, ()), (101, ()), (102, ()), (103, ()), (104, ()), (105, ()), (106, ()), (107, ()), (108, ()), (109, ()), 
  (110, ()), (111, ()), (112, ()), (113, ()), (114, ()), (115, ()), (116, ()), (117, ()), (118, ()), (119, ()), (120, ()), (121, ()), (122, ()), (123, ()), (124, ()), (125, ()), 
  (126, ()), (127, ()), (128, ()), (129, ()), (130, ()), (131, ()), (132, ()), (133, ()), (134, ()), (135, ()), (136, ()), (137, ()), (138, ()), (139, ()), (140, ()), (141, ()), 
  (142, ()), (143, ()), (144, ()), (145, ()), (146, ()), (147, ()), (148, ()), (149, ()), (150, ()), (151, ()), (152, ()), (153, ()), (154, ()), (156, ()), (157, ()), (158, ()), 
  (159, ()), (160, ()), (161, ()), (162, ()), (163, ()), (164, ()), (165, ()), (166, ()), (167, ()), (168, ()), (169, ()), (170, ()), (171, ()), (172, ()), (173, ()), (174, ()), 
  (175, ()), (176, ()), (177, ()), (178, ()), (180, ()), (181, ()), (182, ()), (183, ()), (184, ()), (186, ())]
theorem z4l:ldL.all (fun p => ldI Tryz.prog p.1 == some p.2) = true:=by kernel_rfl
theorem z3t:slL.all (fun p => slI Tryz.prog p.1 == some p.2) = true:=by kernel_rfl
theorem z3r:stL.all (fun p => stI Tryz.prog p.1 == some p.2) = true:=by kernel_rfl
theorem z4w:foL.all (fun p => foI Tryz.prog p.1 == some p.2) = true:=by kernel_rfl
theorem z3k:zrL.map (fun p => zrI Tryz.prog p.1) = zrL.map (fun p => some p.2):=by kernel_rfl
theorem z4x : fnL.all (fun p => match Tryz.prog.funcs[p.1]? with | some fn => fn.body.isSome && fn.name != "runtime.NumGoroutine" | none => false) = true := by kernel_rfl
def L:Tabs Tryz.prog:=⟨ldL, slL, stL, foL, zrL, fnL, z4l, z3t, z3r, z4w, z3k, z4x⟩
theorem z7m:elI Tryz.prog 45 = some (4, 32):=by kernel_rfl
theorem zzb:elI Tryz.prog 49 = some (1, 8):=by kernel_rfl
theorem z6x:elI Tryz.prog 89 = some (2, 32):=by kernel_rfl
theorem zqe:elI Tryz.prog 114 = some (6, 96):=by kernel_rfl
theorem z6y:elI Tryz.prog 118 = some (7, 104):=by kernel_rfl
theorem zzc:elI Tryz.prog 120 = some (7, 104):=by kernel_rfl
theorem zi4:elI Tryz.prog 137 = some (2, 16):=by kernel_rfl
theorem z42:elI Tryz.prog 158 = some (6, 104):=by kernel_rfl
theorem z30:PL Tryz.prog 32 [(0, 1), (1, 1)] [.slice none 0 0, .slice none 0 0]:=⟨by kernel_rfl, .agg #[.slice none 0 0, .slice none 0 0], by kernel_rfl, rfl⟩
theorem z7f:PL Tryz.prog 34 [(0, 1), (1, 2)] [.pointer none, .slice none 0 0, .slice none 0 0]:=⟨by kernel_rfl, .agg #[.pointer none, .slice none 0 0, .slice none 0 0], by kernel_rfl, rfl⟩
theorem z7w:PL Tryz.prog 41 [(0, 1), (1, 1)] [.nilFunc, .pointer none]:=⟨by kernel_rfl, .agg #[.nilFunc, .pointer none], by kernel_rfl, rfl⟩
theorem z7v:PL Tryz.prog 43 [(0, 2)] [.nilFunc, .pointer none]:=⟨by kernel_rfl, .agg #[.nilFunc, .pointer none], by kernel_rfl, rfl⟩
theorem z58:PL Tryz.prog 45 [(0, 2), (2, 2)] [.nilFunc, .pointer none, .nilFunc, .pointer none]:=⟨by kernel_rfl, .agg #[.nilFunc, .pointer none, .nilFunc, .pointer none], by kernel_rfl, rfl⟩
theorem z7u:PL Tryz.prog 74 [(0, 1), (1, 1)] [.slice none 0 0, .int .i64 0]:=⟨by kernel_rfl, .agg #[.slice none 0 0, .int .i64 0], by kernel_rfl, rfl⟩
theorem z57:PL Tryz.prog 89 [(0, 1), (1, 1)] [.bool false, .slice none 0 0]:=⟨by kernel_rfl, .agg #[.bool false, .slice none 0 0], by kernel_rfl, rfl⟩
theorem z7e:PL Tryz.prog 94 [(0, 1), (1, 1), (2, 2)] [.int .u64 0, .map none, .slice none 0 0, .int .i64 0]:=⟨by kernel_rfl, .agg #[.int .u64 0, .map none, .slice none 0 0, .int .i64 0], by kernel_rfl, rfl⟩
theorem z1s:PL Tryz.prog 109 [(0, 1), (1, 1)] [.string ⟨#[]⟩, .string ⟨#[]⟩]:=⟨by kernel_rfl, .agg #[.string ⟨#[]⟩, .string ⟨#[]⟩], by kernel_rfl, rfl⟩
theorem z36:PL Tryz.prog 111 [(0, 2), (2, 1)] [.string ⟨#[]⟩, .string ⟨#[]⟩, .string ⟨#[]⟩]:=⟨by kernel_rfl, .agg #[.string ⟨#[]⟩, .string ⟨#[]⟩, .string ⟨#[]⟩], by kernel_rfl, rfl⟩
theorem z35:PL Tryz.prog 112 [(0, 2), (2, 1)] [.string ⟨#[]⟩, .string ⟨#[]⟩, .string ⟨#[]⟩]:=⟨by kernel_rfl, .agg #[.string ⟨#[]⟩, .string ⟨#[]⟩, .string ⟨#[]⟩], by kernel_rfl, rfl⟩
theorem z6b:PL Tryz.prog 114 [(0, 3), (3, 3)] [.string ⟨#[]⟩, .string ⟨#[]⟩, .string ⟨#[]⟩, .string ⟨#[]⟩, .string ⟨#[]⟩, .string ⟨#[]⟩]:=⟨by kernel_rfl, .agg #[.string ⟨#[]⟩, .string ⟨#[]⟩, .string ⟨#[]⟩, .string ⟨#[]⟩, .string ⟨#[]⟩, .string ⟨#[]⟩], by kernel_rfl, rfl⟩
theorem z34:PL Tryz.prog 118 [(0, 6), (6, 1)] [.string ⟨#[]⟩, .string ⟨#[]⟩, .string ⟨#[]⟩, .string ⟨#[]⟩, .string ⟨#[]⟩, .string ⟨#[]⟩, .bool false]:=⟨by kernel_rfl, .agg #[.string ⟨#[]⟩, .string ⟨#[]⟩, .string ⟨#[]⟩, .string ⟨#[]⟩, .string ⟨#[]⟩, .string ⟨#[]⟩, .bool false], by kernel_rfl, rfl⟩
theorem z1r:PL Tryz.prog 120 [(0, 6), (6, 1)] [.string ⟨#[]⟩, .string ⟨#[]⟩, .string ⟨#[]⟩, .string ⟨#[]⟩, .string ⟨#[]⟩, .string ⟨#[]⟩, .bool false]:=⟨by kernel_rfl, .agg #[.string ⟨#[]⟩, .string ⟨#[]⟩, .string ⟨#[]⟩, .string ⟨#[]⟩, .string ⟨#[]⟩, .string ⟨#[]⟩, .bool false], by kernel_rfl, rfl⟩
theorem z6a:PL Tryz.prog 137 [(0, 1), (1, 1)] [.int .u64 0, .int .i64 0]:=⟨by kernel_rfl, .agg #[.int .u64 0, .int .i64 0], by kernel_rfl, rfl⟩
theorem z33:PL Tryz.prog 156 [] []:=⟨by kernel_rfl, .agg #[], by kernel_rfl, rfl⟩
theorem z32:PL Tryz.prog 158 [(0, 6), (6, 0)] [.string ⟨#[]⟩, .string ⟨#[]⟩, .string ⟨#[]⟩, .string ⟨#[]⟩, .string ⟨#[]⟩, .string ⟨#[]⟩]:=⟨by kernel_rfl, .agg #[.string ⟨#[]⟩, .string ⟨#[]⟩, .string ⟨#[]⟩, .string ⟨#[]⟩, .string ⟨#[]⟩, .string ⟨#[]⟩], by kernel_rfl, rfl⟩
theorem z31:PL Tryz.prog 185 [(0, 1), (1, 1)] [.int .u8 0, .int .u8 0]:=⟨by kernel_rfl, .agg #[.int .u8 0, .int .u8 0], by kernel_rfl, rfl⟩
theorem z59:PL Tryz.prog 208 [(0, 6), (6, 1), (7, 1), (8, 1), (9, 1)] [.string ⟨#[]⟩, .string ⟨#[]⟩, .string ⟨#[]⟩, .string ⟨#[]⟩, .string ⟨#[]⟩, .string ⟨#[]⟩, .pointer none, .pointer none, .int .i64 0, .int .i64 0]:=⟨by kernel_rfl, .agg #[.string ⟨#[]⟩, .string ⟨#[]⟩, .string ⟨#[]⟩, .string ⟨#[]⟩, .string ⟨#[]⟩, .string ⟨#[]⟩, .pointer none, .pointer none, .int .i64 0, .int .i64 0], by kernel_rfl, rfl⟩
theorem bt4:Tryz.prog.underlying 4 = some .bool:=by kernel_rfl
theorem z6f:nkI Tryz.prog 29 = some 0:=by kernel_rfl
theorem z7x:nkI Tryz.prog 38 = some 3:=by kernel_rfl
theorem z6e:nkI Tryz.prog 39 = some 0:=by kernel_rfl
theorem z7h:nkI Tryz.prog 72 = some 1:=by kernel_rfl
theorem z7g:nkI Tryz.prog 79 = some 1:=by kernel_rfl
theorem z6w:EqT Tryz.prog 109 [0, 0]:=⟨by kernel_rfl, by kernel_rfl, by kernel_rfl⟩
theorem z41:EqT Tryz.prog 111 [0, 0, 0]:=⟨by kernel_rfl, by kernel_rfl, by kernel_rfl⟩
theorem z2n:EqT Tryz.prog 114 [0, 0, 0, 0, 0, 0]:=⟨by kernel_rfl, by kernel_rfl, by kernel_rfl⟩
theorem z6v:EqT Tryz.prog 137 [1, 1]:=⟨by kernel_rfl, by kernel_rfl, by kernel_rfl⟩
theorem zbl:(Tryz.prog.underlying 3).isSome = true ∧ ikI Tryz.prog 49 = some .u64:=⟨by kernel_rfl, by kernel_rfl⟩
theorem zbw:(Tryz.prog.underlying 3).isSome = true ∧ ikI Tryz.prog 153 = some .u64:=⟨by kernel_rfl, by kernel_rfl⟩
theorem zwv:(Tryz.prog.underlying 3).isSome = true ∧ ikI Tryz.prog 233 = some .u64:=⟨by kernel_rfl, by kernel_rfl⟩
theorem zze:(Tryz.prog.underlying 5).isSome = true ∧ ikI Tryz.prog 3 = some .i64:=⟨by kernel_rfl, by kernel_rfl⟩
theorem z0r:(Tryz.prog.underlying 5).isSome = true ∧ ikI Tryz.prog 49 = some .u64:=⟨by kernel_rfl, by kernel_rfl⟩
theorem zbx:(Tryz.prog.underlying 153).isSome = true ∧ ikI Tryz.prog 3 = some .i64:=⟨by kernel_rfl, by kernel_rfl⟩
theorem z62:arI Tryz.prog 148 = some (3, 5):=by kernel_rfl
theorem z5f:arI Tryz.prog 185 = some (2, 5):=by kernel_rfl
end Go.V
set_option maxRecDepth 20000
namespace Go.V
open Go.Proofs Go.RowKit
structure _root_.Go.V.Wr (B:Prop):Prop where
 h:B
theorem _root_.Go.V.Za {A B:Prop} (h:B) (t:Wr B → A:=by intro h; refine z7 (zd rfl rfl rfl) rfl ?_;exact h.h):A:=t ⟨h⟩
theorem _root_.Go.V.ZF {A B:Prop} (h:B) (t:Wr B → A:=by intro h; refine z7 (zg rfl rfl rfl) rfl ?_;exact h.h):A:=t ⟨h⟩
theorem _root_.Go.V.Zgg {A B:Prop} (h:B) (t:Wr B → A:=by intro h; refine z7 (zn rfl (zk rfl) rfl) rfl ?_;exact h.h):A:=t ⟨h⟩
theorem _root_.Go.V.ZT {A B:Prop} (h:B) (t:Wr B → A:=by intro h; refine z7 (qs rfl rfl rfl rfl (decide_eq_true (by omega))) rfl ?_;exact h.h):A:=t ⟨h⟩
theorem _root_.Go.V.Zg {A B:Prop} (h:B) (t:Wr B → A:=by intro h; refine z7 (qd rfl rfl rfl rfl) rfl ?_;exact h.h):A:=t ⟨h⟩
theorem _root_.Go.V.ZbP {A B:Prop} (h:B) (t:Wr B → A:=by intro h; refine zo rfl ?_;exact h.h):A:=t ⟨h⟩
theorem _root_.Go.V.Z4 {A B:Prop} (h:B) (t:Wr B → A:=by intro h; refine z7 (qs rfl rfl rfl rfl (decide_eq_false (by omega))) rfl ?_;exact h.h):A:=t ⟨h⟩
theorem _root_.Go.V.ZaR {A B:Prop} (h:B) (t:Wr B → A:=by intro h; refine qe rfl ?_;exact h.h):A:=t ⟨h⟩
theorem _root_.Go.V.Zfj {A B:Prop} (h:B) (t:Wr B → A:=by intro h; refine zf (id:=0) ?_;exact h.h):A:=t ⟨h⟩
theorem _root_.Go.V.Zae {A B:Prop} (h:B) (t:Wr B → A:=by intro h; refine zf (id:=1) ?_;exact h.h):A:=t ⟨h⟩
theorem _root_.Go.V.Zcg {A B:Prop} (h:B) (t:Wr B → A:=by intro h; refine z7 (y7 rfl rfl rfl rfl (zaa (by omega) (by omega))) rfl ?_;exact h.h):A:=t ⟨h⟩
theorem _root_.Go.V.Zt {A B:Prop} (h:B) (t:Wr B → A:=by intro h; refine zf (id:=3) ?_;exact h.h):A:=t ⟨h⟩
theorem _root_.Go.V.Zy {A B:Prop} (h:B) (t:Wr B → A:=by intro h; refine zf (id:=2) ?_;exact h.h):A:=t ⟨h⟩
theorem _root_.Go.V.ZV {A B:Prop} (h:B) (t:Wr B → A:=by intro h; refine zf (id:=4) ?_;exact h.h):A:=t ⟨h⟩
theorem _root_.Go.V.Z7 {A B:Prop} (h:B) (t:Wr B → A:=by intro h; refine z7 (yr rfl rfl rfl rfl (decide_eq_false (by omega))) rfl ?_;exact h.h):A:=t ⟨h⟩
theorem _root_.Go.V.Zo {A B:Prop} (h:B) (t:Wr B → A:=by intro h; refine zf (id:=5) ?_;exact h.h):A:=t ⟨h⟩
theorem _root_.Go.V.ZC {A B:Prop} (h:B) (t:Wr B → A:=by intro h; refine z7 (yr rfl rfl rfl rfl (decide_eq_true (by omega))) rfl ?_;exact h.h):A:=t ⟨h⟩
theorem _root_.Go.V.Zp {A B:Prop} (h:B) (t:Wr B → A:=by intro h; refine zf (id:=7) ?_;exact h.h):A:=t ⟨h⟩
theorem _root_.Go.V.Zz {A B:Prop} (h:B) (t:Wr B → A:=by intro h; refine zf (id:=6) ?_;exact h.h):A:=t ⟨h⟩
theorem _root_.Go.V.ZL {A B:Prop} (h:B) (t:Wr B → A:=by intro h; refine z7 (z14 L rfl rfl rfl rfl) rfl ?_;exact h.h):A:=t ⟨h⟩
theorem _root_.Go.V.ZbQ {A B:Prop} (h:B) (t:Wr B → A:=by intro h; refine z7 (zop L rfl rfl rfl rfl rfl (by assumption)) rfl ?_;exact h.h):A:=t ⟨h⟩
theorem _root_.Go.V.Z8 {A B:Prop} (h:B) (t:Wr B → A:=by intro h; refine zf (id:=8) ?_;exact h.h):A:=t ⟨h⟩
theorem _root_.Go.V.ZM {A B:Prop} (h:B) (t:Wr B → A:=by intro h; refine zf (id:=9) ?_;exact h.h):A:=t ⟨h⟩
theorem _root_.Go.V.Z6 {A B:Prop} (h:B) (t:Wr B → A:=by intro h; refine zi ?_;refine zj ?_;exact h.h):A:=t ⟨h⟩
theorem _root_.Go.V.Zb {A B:Prop} (h:B) (t:Wr B → A:=by intro h; refine ZF ?_;refine Z6 ?_;exact h.h):A:=t ⟨h⟩
theorem _root_.Go.V.Zc {A B:Prop} (h:B) (t:Wr B → A:=by intro h; refine zh ?_;refine zh ?_;exact h.h):A:=t ⟨h⟩
theorem _root_.Go.V.Zd {A B:Prop} (h:B) (t:Wr B → A:=by intro h; refine Za ?_;refine Za ?_;exact h.h):A:=t ⟨h⟩
theorem _root_.Go.V.ZeC {A B:Prop} (h:B) (t:Wr B → A:=by intro h; refine Z6 ?_;refine ZbP ?_;exact h.h):A:=t ⟨h⟩
theorem _root_.Go.V.ZaB {A B:Prop} (h:B) (t:Wr B → A:=by intro h; refine zq ?_;refine zj ?_;exact h.h):A:=t ⟨h⟩
theorem _root_.Go.V.Ze {A B:Prop} (h:B) (t:Wr B → A:=by intro h; refine Zb ?_;refine zh ?_;exact h.h):A:=t ⟨h⟩
theorem _root_.Go.V.ZW {A B:Prop} (h:B) (t:Wr B → A:=by intro h; refine Z6 ?_;refine ZaR ?_;exact h.h):A:=t ⟨h⟩
theorem _root_.Go.V.ZR {A B:Prop} (h:B) (t:Wr B → A:=by intro h; refine zh ?_;refine Zfj ?_;exact h.h):A:=t ⟨h⟩
theorem _root_.Go.V.Zj {A B:Prop} (h:B) (t:Wr B → A:=by intro h; refine Zb ?_;refine Zc ?_;exact h.h):A:=t ⟨h⟩
theorem _root_.Go.V.Zd6 {A B:Prop} (h:B) (t:Wr B → A:=by intro h; refine ZaB ?_;refine zh ?_;exact h.h):A:=t ⟨h⟩
theorem _root_.Go.V.Zai {A B:Prop} (h:B) (t:Wr B → A:=by intro h; refine qh ?_;refine zh ?_;exact h.h):A:=t ⟨h⟩
theorem _root_.Go.V.Zc7 {A B:Prop} (h:B) (t:Wr B → A:=by intro h; refine Zgg ?_;refine Zgg ?_;exact h.h):A:=t ⟨h⟩
theorem _root_.Go.V.Z0 {A B:Prop} (h:B) (t:Wr B → A:=by intro h; refine ZW ?_;refine zh ?_;exact h.h):A:=t ⟨h⟩
theorem _root_.Go.V.Zm {A B:Prop} (h:B) (t:Wr B → A:=by intro h; refine Z6 ?_;refine zh ?_;exact h.h):A:=t ⟨h⟩
theorem _root_.Go.V.ZbC {A B:Prop} (h:B) (t:Wr B → A:=by intro h; refine Zj ?_;refine Zae ?_;exact h.h):A:=t ⟨h⟩
theorem _root_.Go.V.ZeD {A B:Prop} (h:B) (t:Wr B → A:=by intro h; refine yu ?_;refine y8 ?_;exact h.h):A:=t ⟨h⟩
theorem _root_.Go.V.ZgC {A B:Prop} (h:B) (t:Wr B → A:=by intro h; refine ZeD ?_;refine y8 ?_;exact h.h):A:=t ⟨h⟩
theorem _root_.Go.V.Zgh {A B:Prop} (h:B) (t:Wr B → A:=by intro h; refine ZgC ?_;refine yt ?_;exact h.h):A:=t ⟨h⟩
theorem _root_.Go.V.ZbR {A B:Prop} (h:B) (t:Wr B → A:=by intro h; refine yc ?_;refine zj ?_;exact h.h):A:=t ⟨h⟩
theorem _root_.Go.V.Zeu {A B:Prop} (h:B) (t:Wr B → A:=by intro h; refine ZeC ?_;refine ZaB ?_;exact h.h):A:=t ⟨h⟩
theorem _root_.Go.V.Zbl {A B:Prop} (h:B) (t:Wr B → A:=by intro h; refine Zd6 ?_;refine Zai ?_;exact h.h):A:=t ⟨h⟩
theorem _root_.Go.V.Zr {A B:Prop} (h:B) (t:Wr B → A:=by intro h; refine Zeu ?_;refine Zc ?_;exact h.h):A:=t ⟨h⟩
theorem _root_.Go.V.Z1 {A B:Prop} (h:B) (t:Wr B → A:=by intro h; refine Zt ?_;refine Za ?_;exact h.h):A:=t ⟨h⟩
theorem _root_.Go.V.Zgz {A B:Prop} (h:B) (t:Wr B → A:=by intro h; refine Zgh ?_;refine zj ?_;exact h.h):A:=t ⟨h⟩
theorem _root_.Go.V.Z2 {A B:Prop} (h:B) (t:Wr B → A:=by intro h; refine Zd ?_;refine Za ?_;exact h.h):A:=t ⟨h⟩
theorem _root_.Go.V.Z9 {A B:Prop} (h:B) (t:Wr B → A:=by intro h; refine Zo ?_;refine Za ?_;exact h.h):A:=t ⟨h⟩
theorem _root_.Go.V.Zgi {A B:Prop} (h:B) (t:Wr B → A:=by intro h; refine Za ?_;refine Zc7 ?_;exact h.h):A:=t ⟨h⟩
theorem _root_.Go.V.ZN {A B:Prop} (h:B) (t:Wr B → A:=by intro h; refine ZbC ?_;refine Za ?_;exact h.h):A:=t ⟨h⟩
theorem _root_.Go.V.ZaC {A B:Prop} (h:B) (t:Wr B → A:=by intro h; refine ZeC ?_;refine zq ?_;exact h.h):A:=t ⟨h⟩
theorem _root_.Go.V.Zc8 {A B:Prop} (h:B) (t:Wr B → A:=by intro h; refine Zgg ?_;refine Zg ?_;exact h.h):A:=t ⟨h⟩
theorem _root_.Go.V.Zg0 {A B:Prop} (h:B) (t:Wr B → A:=by intro h; refine Zm ?_;refine ZaR ?_;exact h.h):A:=t ⟨h⟩
theorem _root_.Go.V.ZgD {A B:Prop} (h:B) (t:Wr B → A:=by intro h; refine ZT ?_;refine Zg0 ?_;exact h.h):A:=t ⟨h⟩
theorem _root_.Go.V.Zan {A B:Prop} (h:B) (t:Wr B → A:=by intro h; refine ZgD ?_;refine Zbl ?_;exact h.h):A:=t ⟨h⟩
theorem _root_.Go.V.Za4 {A B:Prop} (h:B) (t:Wr B → A:=by intro h; refine ZaC ?_;refine ZbR ?_;exact h.h):A:=t ⟨h⟩
theorem _root_.Go.V.ZfF {A B:Prop} (h:B) (t:Wr B → A:=by intro h; refine Zgi ?_;refine Zc7 ?_;exact h.h):A:=t ⟨h⟩
theorem _root_.Go.V.Zbw {A B:Prop} (h:B) (t:Wr B → A:=by intro h; refine Z0 ?_;refine Zy ?_;exact h.h):A:=t ⟨h⟩
theorem _root_.Go.V.ZeV {A B:Prop} (h:B) (t:Wr B → A:=by intro h; refine Z6 ?_;refine qh ?_;exact h.h):A:=t ⟨h⟩
theorem _root_.Go.V.Zg1 {A B:Prop} (h:B) (t:Wr B → A:=by intro h; refine Za ?_;refine zi ?_;exact h.h):A:=t ⟨h⟩
theorem _root_.Go.V.ZgE {A B:Prop} (h:B) (t:Wr B → A:=by intro h; refine Zm ?_;refine ZbP ?_;exact h.h):A:=t ⟨h⟩
theorem _root_.Go.V.Zg2 {A B:Prop} (h:B) (t:Wr B → A:=by intro h; refine ZgE ?_;refine Zgz ?_;exact h.h):A:=t ⟨h⟩
theorem _root_.Go.V.Zgj {A B:Prop} (h:B) (t:Wr B → A:=by intro h; refine Z4 ?_;refine Zg2 ?_;exact h.h):A:=t ⟨h⟩
theorem _root_.Go.V.ZeE {A B:Prop} (h:B) (t:Wr B → A:=by intro h; refine Za ?_;refine ZeV ?_;exact h.h):A:=t ⟨h⟩
theorem _root_.Go.V.ZaS {A B:Prop} (h:B) (t:Wr B → A:=by intro h; refine Zgi ?_;refine Zc8 ?_;exact h.h):A:=t ⟨h⟩
theorem _root_.Go.V.ZeF {A B:Prop} (h:B) (t:Wr B → A:=by intro h; refine zh ?_;refine ZV ?_;exact h.h):A:=t ⟨h⟩
theorem _root_.Go.V.Zbm {A B:Prop} (h:B) (t:Wr B → A:=by intro h; refine Z2 ?_;refine ZbQ ?_;exact h.h):A:=t ⟨h⟩
theorem _root_.Go.V.Zbb {A B:Prop} (h:B) (t:Wr B → A:=by intro h; refine Zgj ?_;refine zh ?_;exact h.h):A:=t ⟨h⟩
theorem _root_.Go.V.Zbx {A B:Prop} (h:B) (t:Wr B → A:=by intro h; refine ZR ?_;refine ZN ?_;exact h.h):A:=t ⟨h⟩
theorem _root_.Go.V.Zby {A B:Prop} (h:B) (t:Wr B → A:=by intro h; refine Zz ?_;refine Zd ?_;exact h.h):A:=t ⟨h⟩
theorem _root_.Go.V.Zfk {A B:Prop} (h:B) (t:Wr B → A:=by intro h; refine ZfF ?_;refine Zc7 ?_;exact h.h):A:=t ⟨h⟩
theorem _root_.Go.V.Zch {A B:Prop} (h:B) (t:Wr B → A:=by intro h; refine Z7 ?_;refine Zg ?_;exact h.h):A:=t ⟨h⟩
theorem _root_.Go.V.Zgk {A B:Prop} (h:B) (t:Wr B → A:=by intro h; refine ZeF ?_;refine Zan ?_;exact h.h):A:=t ⟨h⟩
theorem _root_.Go.V.Zci {A B:Prop} (h:B) (t:Wr B → A:=by intro h; refine Zcg ?_;refine Zg1 ?_;exact h.h):A:=t ⟨h⟩
theorem _root_.Go.V.Zc9 {A B:Prop} (h:B) (t:Wr B → A:=by intro h; refine ZfF ?_;refine Zg ?_;exact h.h):A:=t ⟨h⟩
theorem _root_.Go.V.Zg3 {A B:Prop} (h:B) (t:Wr B → A:=by intro h; refine Zgk ?_;refine Z9 ?_;exact h.h):A:=t ⟨h⟩
theorem _root_.Go.V.ZcU {A B:Prop} (h:B) (t:Wr B → A:=by intro h; refine Zp ?_;refine Zb ?_;exact h.h):A:=t ⟨h⟩
theorem _root_.Go.V.ZcV {A B:Prop} (h:B) (t:Wr B → A:=by intro h; refine Zfk ?_;refine Zc7 ?_;exact h.h):A:=t ⟨h⟩
theorem _root_.Go.V.ZcW {A B:Prop} (h:B) (t:Wr B → A:=by intro h; refine Zbw ?_;refine Zb ?_;exact h.h):A:=t ⟨h⟩
theorem _root_.Go.V.Zd7 {A B:Prop} (h:B) (t:Wr B → A:=by intro h; refine Zg3 ?_;refine Ze ?_;exact h.h):A:=t ⟨h⟩
theorem _root_.Go.V.ZdR {A B:Prop} (h:B) (t:Wr B → A:=by intro h; refine ZC ?_;refine Zg ?_;exact h.h):A:=t ⟨h⟩
theorem _root_.Go.V.ZdS {A B:Prop} (h:B) (t:Wr B → A:=by intro h; refine Zg ?_;refine Za4 ?_;exact h.h):A:=t ⟨h⟩
attribute [local irreducible] V N X VO Par StepOK Has Ret RetL Src
set_option maxHeartbeats 400000 in
theorem zpc (s:ByteArray) (hs:s.size ≤ 9223372036854775807) {w:World} {B:Heap} (hB:B.Le (hp w)) :
  Ret Tryz.prog 175 [.string s] w B (fun v _ => v = .int .i64 (chk s)):=by
 refine yf Tryz.func175 rfl Tryz.ntmps175 (Nat.le_of_ble_eq_true rfl) hB ?_
 by_cases h1:1 ≤ s.size
 ·by_cases h2:s.size ≤ 16
  ·refine Zbx ?_;refine ZL ?_;refine Z4 ?_;refine Zd ?_;refine ZL ?_;refine Zch ?_;refine Zr ?_;refine Z1 ?_;refine ZL ?_;refine ZeE ?_
   refine zal (fun k:Nat => [(0, .is (.string s)), (13, .is (.int .i64 s.size)), (14, .is (.int .i64 k))])
    (fun k => k ≤ s.size ∧ (s.data.toList.take k).all okB = true) (fun k => s.size - k) 0 ⟨Nat.zero_le _, by simp⟩ ⟨rfl, rfl, rfl, trivial⟩ ?_
   rintro k ⟨hk, hall⟩
   by_cases hlt:k < s.size
   ·obtain ⟨c, hc⟩:=getElem?_lt hlt
    have hu:=z3o c
    by_cases a1:(c.toNat:Int) < 97
    ·by_cases a2:(c.toNat:Int) < 48
     ·refine Zd7 ?_;refine Zby ?_;refine ZbQ ?_;refine ZT ?_;refine Zc9 ?_;refine Zbm ?_;refine ZT ?_;refine Zc9 ?_;refine Zg ?_;refine Z0 ?_;refine ZcU ?_
      refine ye L (rs:=[.tmp 2]) rfl (fun _ _ h => h) Since.refl fun u H hH hle => ?_
      exact congrArg _ (zmb hc (z4d a1 a2)).symm
     ·by_cases a3:57 < (c.toNat:Int)
      ·refine Zd7 ?_;refine Zby ?_;refine ZbQ ?_;refine ZT ?_;refine Zc9 ?_;refine Zbm ?_;refine Z4 ?_;refine Zbm ?_;refine ZdR ?_;refine Zg ?_;refine Z0 ?_;refine ZcU ?_
       refine ye L (rs:=[.tmp 2]) rfl (fun _ _ h => h) Since.refl fun u H hH hle => ?_
       exact congrArg _ (zmb hc (z4c a1 a3)).symm
      ·refine Zd7 ?_;refine Zby ?_;refine ZbQ ?_;refine ZT ?_;refine Zc9 ?_;refine Zbm ?_;refine Z4 ?_;refine Zbm ?_;refine Zch ?_;refine ZdS ?_;refine Z8 ?_;refine Zci ?_
       refine yi (k + 1) ⟨hlt, zi7 hc (z39 a2 a3) hall⟩ (by omega) ⟨rfl, rfl, rfl, trivial⟩
    ·by_cases a4:122 < (c.toNat:Int)
     ·have a5:57 < (c.toNat:Int):=by omega
      refine Zd7 ?_;refine Zby ?_;refine ZbQ ?_;refine Z4 ?_;refine Zbm ?_;refine ZdR ?_;refine Zbm ?_;refine Z4 ?_;refine Zbm ?_;refine ZdR ?_;refine Zg ?_;refine Z0 ?_;refine ZcU ?_
      refine ye L (rs:=[.tmp 2]) rfl (fun _ _ h => h) Since.refl fun u H hH hle => ?_
      exact congrArg _ (zmb hc (z4b a4)).symm
     ·refine Zd7 ?_;refine Zby ?_;refine ZbQ ?_;refine Z4 ?_;refine Zbm ?_;refine Zch ?_;refine ZcV ?_;refine Zc7 ?_;refine ZdS ?_;refine Z8 ?_;refine Zci ?_
      refine yi (k + 1) ⟨hlt, zi7 hc (z4a a1 a4) hall⟩ (by omega) ⟨rfl, rfl, rfl, trivial⟩
   ·refine ZeF ?_;refine Zbb ?_;refine ZM ?_;refine Zb ?_
    refine ye L (rs:=[.tmp 2]) rfl (fun _ _ h => h) Since.refl fun u H hH hle => ?_
    exact congrArg _ (zw1 h1 h2 (zr8 (by omega) hall)).symm
  ·refine Zbx ?_;refine ZL ?_;refine Z4 ?_;refine Zd ?_;refine ZL ?_;refine ZdR ?_;refine ZcW ?_
   refine ye L (rs:=[.tmp 2]) rfl (fun _ _ h => h) Since.refl fun u H hH hle => ?_
   exact congrArg _ (zqi (by omega)).symm
 ·refine Zbx ?_;refine ZL ?_;refine ZT ?_;refine ZaS ?_;refine ZcW ?_
  refine ye L (rs:=[.tmp 2]) rfl (fun _ _ h => h) Since.refl fun u H hH hle => ?_
  exact congrArg _ (zqi (by omega)).symm
end Go.V
set_option maxRecDepth 20000
namespace Go.V
open Go.Proofs Go.RowKit
theorem _root_.Go.V.Zf {A B:Prop} (h:B) (t:Wr B → A:=by intro h; refine z7 (zm rfl rfl rfl) rfl ?_;exact h.h):A:=t ⟨h⟩
theorem _root_.Go.V.Zao {A B:Prop} (h:B) (t:Wr B → A:=by intro h; refine z7 (qv L _ rfl rfl rfl rfl rfl rfl rfl (by first | omega | decide) (by assumption)) rfl ?_;exact h.h):A:=t ⟨h⟩
theorem _root_.Go.V.ZcX {A B:Prop} (h:B) (t:Wr B → A:=by intro h; refine z7 (qu L rfl rfl rfl rfl) rfl ?_;exact h.h):A:=t ⟨h⟩
theorem _root_.Go.V.ZK {A B:Prop} (h:B) (t:Wr B → A:=by intro h; refine z7 (yn rfl rfl rfl rfl (decide_eq_false (by omega))) rfl ?_;exact h.h):A:=t ⟨h⟩
theorem _root_.Go.V.ZcA {A B:Prop} (h:B) (t:Wr B → A:=by intro h; refine z7 (yn rfl rfl rfl rfl (decide_eq_true (by omega))) rfl ?_;exact h.h):A:=t ⟨h⟩
theorem _root_.Go.V.ZcB {A B:Prop} (h:B) (t:Wr B → A:=by intro h; refine z7 (yy L rfl rfl rfl rfl rfl) rfl ?_;exact h.h):A:=t ⟨h⟩
theorem _root_.Go.V.Zq {A B:Prop} (h:B) (t:Wr B → A:=by intro h; refine Zf ?_;refine ZcX ?_;exact h.h):A:=t ⟨h⟩
theorem _root_.Go.V.Zu {A B:Prop} (h:B) (t:Wr B → A:=by intro h; refine ZV ?_;refine Za ?_;exact h.h):A:=t ⟨h⟩
theorem _root_.Go.V.ZD {A B:Prop} (h:B) (t:Wr B → A:=by intro h; refine Zz ?_;refine Za ?_;exact h.h):A:=t ⟨h⟩
theorem _root_.Go.V.ZP {A B:Prop} (h:B) (t:Wr B → A:=by intro h; refine ZcA ?_;refine Z0 ?_;exact h.h):A:=t ⟨h⟩
theorem _root_.Go.V.Zfl {A B:Prop} (h:B) (t:Wr B → A:=by intro h; refine ZbC ?_;refine Zq ?_;exact h.h):A:=t ⟨h⟩
theorem _root_.Go.V.ZeW {A B:Prop} (h:B) (t:Wr B → A:=by intro h; refine ZR ?_;refine Zfl ?_;exact h.h):A:=t ⟨h⟩
theorem _root_.Go.V.Zd8 {A B:Prop} (h:B) (t:Wr B → A:=by intro h; refine Z8 ?_;refine Zb ?_;exact h.h):A:=t ⟨h⟩
attribute [local irreducible] V N X VO Par StepOK Has Ret RetL Src
def zda:List ByteArray → Int
 | [] => 0
 | s :: l => if chk s = 0 then zda l else chk s
theorem zpg:∀ (l:List ByteArray) (s:ByteArray), zda l = 0 → zda (l ++ [s]) = chk s
 | [], s, _ => by simp only [List.nil_append, zda]; split <;> simp_all
 | x :: l, s, h => by
  simp only [List.cons_append, zda] at h ⊢
  by_cases hx:chk x = 0
  ·rw [if_pos hx] at h ⊢; exact zpg l s h
  ·rw [if_neg hx] at h; exact absurd h hx
theorem zr9:∀ (l:List ByteArray) (k:Nat) (s:ByteArray), zda (l.take k) = 0 → l[k]? = some s → chk s ≠ 0 → zda l = chk s
 | [], k, s, _, h, _ => by simp at h
 | x :: l, 0, s, _, h, hc => by simp at h; subst h; simp [zda, hc]
 | x :: l, k + 1, s, ha, h, hc => by
  simp only [List.take_succ_cons, zda] at ha
  simp only [List.getElem?_cons_succ] at h
  by_cases hx:chk x = 0
  ·rw [if_pos hx] at ha
   simp only [zda, if_pos hx]
   exact zr9 l k s ha h hc
  ·rw [if_neg hx] at ha; exact absurd ha hx
set_option maxHeartbeats 400000 in
theorem zxa (l:List ByteArray) (hl:∀ s ∈ l, s.size ≤ 9223372036854775807) (hlen:l.length ≤ 1000) {e:TypeId} {fu:Bool} {v:Value} {w:World} {B:Heap} (hB:B.Le (hp w)) (hv:SlV e 1 (l.map Value.string) l.length fu v B) :
  Ret Tryz.prog 161 [v] w B (fun v _ => v = .int .i64 (zda l)):=by
 refine yf Tryz.func161 rfl Tryz.ntmps161 (Nat.le_of_ble_eq_true rfl) hB ?_
 refine zat 0 (SlV e 1 (l.map Value.string) l.length fu) rfl SlV.mono hv ?_
 refine ZeW ?_;refine ZeE ?_
 refine zal (fun k:Nat => [(6, .sat (SlV e 1 (l.map Value.string) l.length fu)), (7, .is (.int .i64 l.length)), (8, .is (.int .i64 k))])
  (fun k => k ≤ l.length ∧ zda (l.take k) = 0) (fun k => l.length - k) 0 ⟨Nat.zero_le _, by simp [zda]⟩ ⟨rfl, rfl, rfl, trivial⟩ ?_
 rintro k ⟨hk, hall⟩
 by_cases hlt:k < l.length
 ·have hs:l[k]? = some l[k]:=List.getElem?_eq_getElem hlt
  generalize l[k] = s at hs
  have hsz:s.size ≤ 9223372036854775807:=hl s (List.mem_of_getElem? hs)
  have hc:=z3q hs
  by_cases h0:chk s = 0
  ·refine zh ?_;refine Zy ?_;refine Zan ?_;refine Zt ?_;refine Zao ?_;refine ZcB ?_;refine Ze ?_;refine Zu ?_;refine z7 (zp L rfl rfl (zk rfl) rfl rfl rfl (fun u H hH _ _ => zpc _ (by first | omega | decide) hH)) rfl ?_;refine Ze ?_;refine Z9 ?_;refine ZK ?_;refine Za4 ?_;refine Zp ?_;refine Zci ?_
   refine yi (k + 1) ⟨hlt, ?_⟩ (by omega) ⟨rfl, rfl, rfl, trivial⟩
   rw [List.take_add_one, hs]
   show zda (l.take k ++ [s]) = 0
   rw [zpg _ _ hall, h0]
  ·refine zh ?_;refine Zy ?_;refine Zan ?_;refine Zt ?_;refine Zao ?_;refine ZcB ?_;refine Ze ?_;refine Zu ?_;refine z7 (zp L rfl rfl (zk rfl) rfl rfl rfl (fun u H hH _ _ => zpc _ (by first | omega | decide) hH)) rfl ?_;refine Ze ?_;refine Z9 ?_;refine ZP ?_;refine ZD ?_;refine Zb ?_
   refine ye L (rs:=[.tmp 2]) rfl (fun _ _ h => h) Since.refl fun u H hH hle => ?_
   exact congrArg _ (zr9 l k s hall hs h0).symm
 ·refine zh ?_;refine Zy ?_;refine Zbb ?_;refine Zd8 ?_
  refine ye L (rs:=[.tmp 2]) rfl (fun _ _ h => h) Since.refl fun u H hH hle => ?_
  have:l.take k = l:=List.take_of_length_le (by omega)
  exact congrArg _ (this ▸ hall).symm
end Go.V
namespace Go.Proofs
open Go.Shelf
def Tryz.lays213_ren:Go.Shelf.Ren:=⟨fun | 213 => 179 | 265 => 185 | n => n, fun | 9 => 9 | 3 => 3 | n => n, fun | n => n⟩
theorem Tryz.lays213:Go.Proofs.Lays.n213 Tryz.prog Tryz.lays213_ren:={
 mixed:=by kernel_rfl
 f213:=Tryz.func179.trans (congrArg some (by kernel_rfl))
 f265:=Tryz.func185.trans (congrArg some (by kernel_rfl))
 t3:=Tryz.underlying3
 a3:=Tryz.isAgg3
 z3:=Tryz.sizeOf3
 v3:=Tryz.zeroValue3
 t9:=Tryz.underlying9
 a9:=Tryz.isAgg9
 z9:=Tryz.sizeOf9
 v9:=Tryz.zeroValue9 }
open Go.RowKit in
theorem Tryz.bytealg_CompareString (a b:ByteArray) (w:World) :
  Calls Tryz.prog 179 #[.string a, .string b] w fun e w' => e = .returned (.int .i64 (Lib.compareBytes a.data.toList b.data.toList)) ∧ w' = w:=Any.bytealg_CompareString Tryz.lays213 a b w
def Tryz.lays106_ren:Go.Shelf.Ren:=⟨fun | 106 => 166 | 213 => 179 | 265 => 185 | n => n, fun | 9 => 9 | 3 => 3 | n => n, fun | n => n⟩
theorem Tryz.lays106:Go.Proofs.Lays.n106 Tryz.prog Tryz.lays106_ren:={
 mixed:=by kernel_rfl
 f106:=Tryz.func166.trans (congrArg some (by kernel_rfl))
 f213:=Tryz.func179.trans (congrArg some (by kernel_rfl))
 f265:=Tryz.func185.trans (congrArg some (by kernel_rfl))
 t3:=Tryz.underlying3
 a3:=Tryz.isAgg3
 z3:=Tryz.sizeOf3
 v3:=Tryz.zeroValue3
 t9:=Tryz.underlying9
 a9:=Tryz.isAgg9
 z9:=Tryz.sizeOf9
 v9:=Tryz.zeroValue9 }
open Go.RowKit in
theorem Tryz.strings_Compare (a b:ByteArray) (w:World) :
  Calls Tryz.prog 166 #[.string a, .string b] w fun e w' => e = .returned (.int .i64 (Lib.compareBytes a.data.toList b.data.toList)) ∧ w' = w:=Any.strings_Compare Tryz.lays106 a b w
def Tryz.lays129_ren:Go.Shelf.Ren:=⟨fun | 129 => 111 | n => n, fun | 53 => 49 | 3 => 3 | 4 => 4 | 46 => 153 | 5 => 5 | 9 => 9 | n => n, fun | n => n⟩
theorem Tryz.lays129:Go.Proofs.Lays.n129 Tryz.prog Tryz.lays129_ren:={
 mixed:=by kernel_rfl
 f129:=Tryz.func111.trans (congrArg some (by kernel_rfl))
 t3:=Tryz.underlying3
 a3:=Tryz.isAgg3
 z3:=Tryz.sizeOf3
 v3:=Tryz.zeroValue3
 t4:=Tryz.underlying4
 a4:=Tryz.isAgg4
 z4:=Tryz.sizeOf4
 v4:=Tryz.zeroValue4
 t5:=Tryz.underlying5
 a5:=Tryz.isAgg5
 z5:=Tryz.sizeOf5
 v5:=Tryz.zeroValue5
 t9:=Tryz.underlying9
 a9:=Tryz.isAgg9
 z9:=Tryz.sizeOf9
 v9:=Tryz.zeroValue9
 t46:=Tryz.underlying153
 a46:=Tryz.isAgg153
 z46:=Tryz.sizeOf153
 v46:=Tryz.zeroValue153
 t53:=Tryz.underlying49
 a53:=Tryz.isAgg49
 z53:=Tryz.sizeOf49
 v53:=Tryz.zeroValue49 }
theorem Tryz.bits_Len64 (x:Int) (w:World) (h0:0 ≤ x) (h1:x ≤ 18446744073709551615) :
  Calls Tryz.prog 111 #[.int .u64 x] w fun e w' => e = .returned (.int .i64 (Lib.bitLen x.toNat)) ∧ w' = w:=Any.bits_Len64 Tryz.lays129 x w h0 h1
end Go.Proofs
set_option maxRecDepth 20000
namespace Go.V
open Go.Proofs Go.RowKit
theorem _root_.Go.V.ZcC {A B:Prop} (h:B) (t:Wr B → A:=by intro h; refine z7 (yj rfl rfl rfl rfl) rfl ?_;exact h.h):A:=t ⟨h⟩
theorem _root_.Go.V.ZcY {A B:Prop} (h:B) (t:Wr B → A:=by intro h; refine z7 (zz L rfl rfl rfl rfl) rfl ?_;exact h.h):A:=t ⟨h⟩
theorem _root_.Go.V.Zg4 {A B:Prop} (h:B) (t:Wr B → A:=by intro h; refine z7 (qf L (qo rfl) rfl rfl rfl rfl) rfl ?_;exact h.h):A:=t ⟨h⟩
theorem _root_.Go.V.Zbn {A B:Prop} (h:B) (t:Wr B → A:=by intro h; refine z8 (zg rfl rfl rfl) rfl ?_;exact h.h):A:=t ⟨h⟩
theorem _root_.Go.V.Zcj {A B:Prop} (h:B) (t:Wr B → A:=by intro h; refine z7 (zw L (vs:=[_, _]) (qo rfl) rfl rfl rfl rfl ⟨_, rfl⟩) rfl ?_;exact h.h):A:=t ⟨h⟩
theorem _root_.Go.V.Zaa {A B:Prop} (h:B) (t:Wr B → A:=by intro h; refine z7 (yk L rfl rfl rfl rfl rfl rfl rfl rfl rfl) rfl ?_;exact h.h):A:=t ⟨h⟩
theorem _root_.Go.V.Za5 {A B:Prop} (h:B) (t:Wr B → A:=by intro h; refine z8 (zz L rfl rfl rfl rfl) rfl ?_;exact h.h):A:=t ⟨h⟩
theorem _root_.Go.V.Zev {A B:Prop} (h:B) (t:Wr B → A:=by intro h; refine z8 (qf L (qo rfl) rfl rfl rfl rfl) rfl ?_;exact h.h):A:=t ⟨h⟩
theorem _root_.Go.V.ZfG {A B:Prop} (h:B) (t:Wr B → A:=by intro h; refine z7 (zw L (vs:=[_, _, _]) (qo rfl) rfl rfl rfl rfl ⟨_, rfl⟩) rfl ?_;exact h.h):A:=t ⟨h⟩
theorem _root_.Go.V.ZbS {A B:Prop} (h:B) (t:Wr B → A:=by intro h; refine z8 (zw L (vs:=[_, _]) (qo rfl) rfl rfl rfl rfl ⟨_, rfl⟩) rfl ?_;exact h.h):A:=t ⟨h⟩
theorem _root_.Go.V.ZdT {A B:Prop} (h:B) (t:Wr B → A:=by intro h; refine qg (id:=1) [] mixed (by kernel_rfl) ?_;exact h.h):A:=t ⟨h⟩
theorem _root_.Go.V.Zfm {A B:Prop} (h:B) (t:Wr B → A:=by intro h; refine z8 (yk L rfl rfl rfl rfl rfl rfl rfl rfl rfl) rfl ?_;exact h.h):A:=t ⟨h⟩
theorem _root_.Go.V.Zaj {A B:Prop} (h:B) (t:Wr B → A:=by intro h; refine qt ?_;refine zj ?_;exact h.h):A:=t ⟨h⟩
theorem _root_.Go.V.ZY {A B:Prop} (h:B) (t:Wr B → A:=by intro h; refine ZR ?_;refine ZcC ?_;exact h.h):A:=t ⟨h⟩
theorem _root_.Go.V.Zx {A B:Prop} (h:B) (t:Wr B → A:=by intro h; refine ZeC ?_;refine Zd6 ?_;exact h.h):A:=t ⟨h⟩
theorem _root_.Go.V.ZS {A B:Prop} (h:B) (t:Wr B → A:=by intro h; refine Ze ?_;refine Zae ?_;exact h.h):A:=t ⟨h⟩
theorem _root_.Go.V.Zw {A B:Prop} (h:B) (t:Wr B → A:=by intro h; refine Zbn ?_;refine Zaj ?_;exact h.h):A:=t ⟨h⟩
theorem _root_.Go.V.Zv {A B:Prop} (h:B) (t:Wr B → A:=by intro h; refine ZcY ?_;refine Zg4 ?_;exact h.h):A:=t ⟨h⟩
theorem _root_.Go.V.ZaD {A B:Prop} (h:B) (t:Wr B → A:=by intro h; refine ZR ?_;refine ZS ?_;exact h.h):A:=t ⟨h⟩
theorem _root_.Go.V.Zaf {A B:Prop} (h:B) (t:Wr B → A:=by intro h; refine ZY ?_;refine ZcC ?_;exact h.h):A:=t ⟨h⟩
theorem _root_.Go.V.Zbo {A B:Prop} (h:B) (t:Wr B → A:=by intro h; refine Za5 ?_;refine Zev ?_;exact h.h):A:=t ⟨h⟩
theorem _root_.Go.V.Zbz {A B:Prop} (h:B) (t:Wr B → A:=by intro h; refine Z8 ?_;refine Za ?_;exact h.h):A:=t ⟨h⟩
theorem _root_.Go.V.Za8 {A B:Prop} (h:B) (t:Wr B → A:=by intro h; refine Zo ?_;refine Zd ?_;exact h.h):A:=t ⟨h⟩
theorem _root_.Go.V.Zbc {A B:Prop} (h:B) (t:Wr B → A:=by intro h; refine ZcY ?_;refine Zcj ?_;exact h.h):A:=t ⟨h⟩
theorem _root_.Go.V.Zb0 {A B:Prop} (h:B) (t:Wr B → A:=by intro h; refine ZY ?_;refine ZS ?_;exact h.h):A:=t ⟨h⟩
theorem _root_.Go.V.ZbD {A B:Prop} (h:B) (t:Wr B → A:=by intro h; refine ZY ?_;refine ZbC ?_;exact h.h):A:=t ⟨h⟩
theorem _root_.Go.V.ZcD {A B:Prop} (h:B) (t:Wr B → A:=by intro h; refine Zq ?_;refine ZeE ?_;exact h.h):A:=t ⟨h⟩
theorem _root_.Go.V.ZcZ {A B:Prop} (h:B) (t:Wr B → A:=by intro h; refine Ze ?_;refine ZdT ?_;exact h.h):A:=t ⟨h⟩
attribute [local irreducible] V N X VO Par StepOK Has Ret RetL Src
theorem zzt {a b:ByteArray} (ha:a.size ≤ 9223372036854775807) (hb:b.size ≤ 9223372036854775807) {w:World} {B:Heap} (hB:B.Le (hp w)) {t:Nat} {v:Value} (hv:SlB [.string a, .string b] t 2 v B) :
  Ret Tryz.prog 161 [v] w B (fun v _ => v = .int .i64 (zda [a, b])):=by
 exact zxa [a, b] (by intro s hs; simp at hs; rcases hs with rfl | rfl <;> assumption) (by simp) hB (hv.toV rfl)
theorem zzs {a b c:ByteArray} (ha:a.size ≤ 9223372036854775807) (hb:b.size ≤ 9223372036854775807) (hc:c.size ≤ 9223372036854775807) {w:World} {B:Heap} (hB:B.Le (hp w)) {t:Nat} {v:Value} (hv:SlB [.string a, .string b, .string c] t 3 v B) :
  Ret Tryz.prog 161 [v] w B (fun v _ => v = .int .i64 (zda [a, b, c])):=by
 exact zxa [a, b, c] (by intro s hs; simp at hs; rcases hs with rfl | rfl | rfl <;> assumption) (by simp) hB (hv.toV rfl)
theorem zs5 {a b:ByteArray} (ha:a.size ≤ 9223372036854775807) (hb:b.size ≤ 9223372036854775807) {w:World} {B:Heap} (hB:B.Le (hp w)) :
  Ret Tryz.prog 162 [.agg #[.string a, .string b]] w B (fun v _ => v = .int .i64 (zda [a, b])):=by
 refine yf Tryz.func162 rfl Tryz.ntmps162 (Nat.le_of_ble_eq_true rfl) hB ?_
 refine Zb0 ?_;refine Zv ?_;refine Zv ?_;refine Zaa ?_;refine z7 (zp L rfl rfl (zk rfl) rfl rfl rfl (fun u H hH _ _ v hv => zzt (by first | assumption | omega | decide) (by first | assumption | omega | decide) hH hv)) rfl ?_;refine Zb ?_
 refine ye L (rs:=[.tmp 2]) rfl (fun _ _ h => h) Since.refl fun u H hH hle => ?_
 rfl
theorem zhi {a b c:ByteArray} (ha:a.size ≤ 9223372036854775807) (hb:b.size ≤ 9223372036854775807) (hc:c.size ≤ 9223372036854775807) {w:World} {B:Heap} (hB:B.Le (hp w)) :
  Ret Tryz.prog 136 [.agg #[.string a, .string b, .string c]] w B (fun v _ => v = .int .i64 (zda [a, b, c])):=by
 refine yf Tryz.func136 rfl Tryz.ntmps136 (Nat.le_of_ble_eq_true rfl) hB ?_
 refine Zb0 ?_;refine ZcY ?_;refine Zv ?_;refine ZcY ?_;refine Zv ?_;refine Zv ?_;refine Zaa ?_;refine z7 (zp L rfl rfl (zk rfl) rfl rfl rfl (fun u H hH _ _ v hv => zzs (by first | assumption | omega | decide) (by first | assumption | omega | decide) (by first | assumption | omega | decide) hH hv)) rfl ?_;refine Zb ?_
 refine ye L (rs:=[.tmp 2]) rfl (fun _ _ h => h) Since.refl fun u H hH hle => ?_
 rfl
def zgu (a b c:ByteArray):Int:=if c = ⟨#[]⟩ then zda [a, b] else zda [a, b, c]
theorem zjv {a b c:ByteArray} (ha:a.size ≤ 9223372036854775807) (hb:b.size ≤ 9223372036854775807) (hc:c.size ≤ 9223372036854775807) {w:World} {B:Heap} (hB:B.Le (hp w)) :
  Ret Tryz.prog 137 [.agg #[.string a, .string b, .string c]] w B (fun v _ => v = .int .i64 (zgu a b c)):=by
 refine yf Tryz.func137 rfl Tryz.ntmps137 (Nat.le_of_ble_eq_true rfl) hB ?_
 by_cases h:c = ⟨#[]⟩
 ·refine ZbD ?_;refine Zv ?_;refine z7 (zvf rfl rfl rfl rfl (decide_eq_true (by assumption))) rfl ?_;refine Zbw ?_;refine Zbc ?_;refine z7 (zp L rfl rfl (zk rfl) rfl rfl rfl (fun u H hH _ _ => zs5 (by first | assumption | omega | decide) (by first | assumption | omega | decide) hH)) rfl ?_;refine Zb ?_
  refine ye L (rs:=[.tmp 2]) rfl (fun _ _ h => h) Since.refl fun u H hH hle => ?_
  exact congrArg (Value.int .i64) (show zda [a, b] = zgu a b c from (if_pos h).symm)
 ·refine ZbD ?_;refine Zv ?_;refine z7 (zvf rfl rfl rfl rfl (decide_eq_false (by assumption))) rfl ?_;refine Zx ?_;refine Zt ?_;refine ZfG ?_;refine z7 (zp L rfl rfl (zk rfl) rfl rfl rfl (fun u H hH _ _ => zhi (by first | assumption | omega | decide) (by first | assumption | omega | decide) (by first | assumption | omega | decide) hH)) rfl ?_;refine Zb ?_
  refine ye L (rs:=[.tmp 2]) rfl (fun _ _ h => h) Since.refl fun u H hH hle => ?_
  exact congrArg (Value.int .i64) (show zda [a, b, c] = zgu a b c from (if_neg h).symm)
def znq (a b:ByteArray):Int:=Lib.compareBytes a.data.toList b.data.toList
theorem zmn {a b:ByteArray} {w:World} {B:Heap} (hB:B.Le (hp w)):Ret Tryz.prog 166 [.string a, .string b] w B (fun v _ => v = .int .i64 (znq a b)):=Ret.of_same hB (Tryz.strings_Compare a b w)
def orL:List Int → Int
 | [] => 0
 | x :: l => if x = 0 then orL l else x
theorem zu8:∀ (l:List Int) (k:Nat) (s:Int), (∀ x ∈ l.take k, x = 0) → l[k]? = some s → s ≠ 0 → orL l = s
 | [], k, s, _, h, _ => by simp at h
 | x :: l, 0, s, _, h, hc => by simp at h; subst h; simp [orL, hc]
 | x :: l, k + 1, s, ha, h, hc => by
  simp only [List.take_succ_cons] at ha
  simp only [List.getElem?_cons_succ] at h
  have hx:=ha x (List.mem_cons_self ..)
  simp only [orL, if_pos hx]
  exact zu8 l k s (fun y hy => ha y (List.mem_cons_of_mem _ hy)) h hc
theorem zq8:∀ (l:List Int), (∀ x ∈ l, x = 0) → orL l = 0
 | [], _ => rfl
 | x :: l, h => by simp only [orL, if_pos (h x (List.mem_cons_self ..))]; exact zq8 l fun y hy => h y (List.mem_cons_of_mem _ hy)
set_option maxHeartbeats 400000 in
theorem z37 (l:List Int) (hlen:l.length ≤ 1000) {e:TypeId} {fu:Bool} {v:Value} {w:World} {B:Heap} (hB:B.Le (hp w)) (hv:SlV e 1 (l.map (Value.int .i64)) l.length fu v B) :
  Ret Tryz.prog 141 [v] w B (fun v _ => v = .int .i64 (orL l)):=by
 refine yf Tryz.func141 rfl Tryz.ntmps141 (Nat.le_of_ble_eq_true rfl) hB ?_
 refine zat 0 (SlV e 1 (l.map (Value.int .i64)) l.length fu) rfl SlV.mono hv ?_
 refine ZaD ?_;refine Zj ?_;refine Zy ?_;refine ZcD ?_
 refine zal (fun k:Nat => [(3, .is (.int .i64 0)), (6, .sat (SlV e 1 (l.map (Value.int .i64)) l.length fu)), (7, .is (.int .i64 l.length)), (8, .is (.int .i64 k))])
  (fun k => k ≤ l.length ∧ ∀ x ∈ l.take k, x = 0) (fun k => l.length - k) 0 ⟨Nat.zero_le _, by simp⟩ ⟨rfl, rfl, rfl, rfl, trivial⟩ ?_
 rintro k ⟨hk, hall⟩
 by_cases hlt:k < l.length
 ·have hs:l[k]? = some l[k]:=List.getElem?_eq_getElem hlt
  generalize l[k] = s at hs
  have hc:((l.map (Value.int .i64)).drop (k * 1)).take 1 = [.int .i64 s]:=zz9 (by simp [hs])
  by_cases h0:s = 0
  ·refine zh ?_;refine Zt ?_;refine Zan ?_;refine ZV ?_;refine Zao ?_;refine ZcB ?_;refine Ze ?_;refine Za8 ?_;refine ZK ?_;refine Za4 ?_;refine Zp ?_;refine Zci ?_
   refine yi (k + 1) ⟨hlt, ?_⟩ (by omega) ⟨rfl, rfl, rfl, rfl, trivial⟩
   rw [List.take_add_one, hs]
   intro x hx
   rcases List.mem_append.1 hx with hx | hx
   ·exact hall x hx
   ·simp at hx; rw [hx, h0]
  ·refine zh ?_;refine Zt ?_;refine Zan ?_;refine ZV ?_;refine Zao ?_;refine ZcB ?_;refine Ze ?_;refine Za8 ?_;refine ZP ?_;refine ZD ?_;refine Zb ?_
   refine ye L (rs:=[.tmp 2]) rfl (fun _ _ h => h) Since.refl fun u H hH hle => ?_
   exact congrArg _ (zu8 l k s hall hs h0).symm
 ·refine zh ?_;refine Zt ?_;refine Zbb ?_;refine Zbz ?_;refine Zb ?_
  refine ye L (rs:=[.tmp 2]) rfl (fun _ _ h => h) Since.refl fun u H hH hle => ?_
  have:l.take k = l:=List.take_of_length_le (by omega)
  exact congrArg _ (zq8 l (this ▸ hall)).symm
theorem zmy {x y:Int} {w:World} {B:Heap} (hB:B.Le (hp w)) {t:Nat} {v:Value} (hv:SlB [.int .i64 x, .int .i64 y] t 2 v B) :
  Ret Tryz.prog 141 [v] w B (fun v _ => v = .int .i64 (orL [x, y])):=by
 exact z37 [x, y] (by simp) hB (hv.toV rfl)
def zzh (a b c d:ByteArray):Int:=orL [znq a c, znq b d]
def z0v (a b r c d s:ByteArray):Int:=orL [zzh a b c d, znq r s]
theorem zzg {a b c d:ByteArray} {w:World} {B:Heap} (hB:B.Le (hp w)) :
  Ret Tryz.prog 165 [.agg #[.string a, .string b], .agg #[.string c, .string d]] w B (fun v _ => v = .int .i64 (zzh a b c d)):=by
 refine yf Tryz.func165 rfl Tryz.ntmps165 (Nat.le_of_ble_eq_true rfl) hB ?_
 refine Zaf ?_;refine ZcZ ?_;refine Zbo ?_;refine Zbo ?_;refine z8 (zp L rfl rfl (zk rfl) rfl rfl rfl (fun u H hH _ _ => zmn hH)) rfl ?_;refine Zbo ?_;refine Zbo ?_;refine z8 (zp L rfl rfl (zk rfl) rfl rfl rfl (fun u H hH _ _ => zmn hH)) rfl ?_;refine Zfm ?_;refine z8 (zp L rfl rfl (zk rfl) rfl rfl rfl (fun u H hH _ _ v hv => zmy hH hv)) rfl ?_;refine Zw ?_
 refine ye L (rs:=[.tmp 4]) rfl (fun _ _ h => h) Since.refl fun u H hH hle => ?_
 rfl
theorem zni {a b r c d s:ByteArray} {w:World} {B:Heap} (hB:B.Le (hp w)) :
  Ret Tryz.prog 142 [.agg #[.string a, .string b, .string r], .agg #[.string c, .string d, .string s]] w B (fun v _ => v = .int .i64 (z0v a b r c d s)):=by
 refine yf Tryz.func142 rfl Tryz.ntmps142 (Nat.le_of_ble_eq_true rfl) hB ?_
 refine Zaf ?_;refine ZcZ ?_;refine Za5 ?_;refine ZbS ?_;refine Za5 ?_;refine ZbS ?_;refine z8 (zp L rfl rfl (zk rfl) rfl rfl rfl (fun u H hH _ _ => zzg hH)) rfl ?_;refine Zbo ?_;refine Zbo ?_;refine z8 (zp L rfl rfl (zk rfl) rfl rfl rfl (fun u H hH _ _ => zmn hH)) rfl ?_;refine Zfm ?_;refine z8 (zp L rfl rfl (zk rfl) rfl rfl rfl (fun u H hH _ _ v hv => zmy hH hv)) rfl ?_;refine Zw ?_
 refine ye L (rs:=[.tmp 4]) rfl (fun _ _ h => h) Since.refl fun u H hH hle => ?_
 rfl
theorem cmpU_ret {a b r c d s:ByteArray} {w:World} {B:Heap} (hB:B.Le (hp w)) :
  Ret Tryz.prog 143 [.agg #[.string a, .string b, .string r], .agg #[.string c, .string d, .string s]] w B (fun v _ => v = .int .i64 (z0v a b r c d s)):=by
 refine yf Tryz.func143 rfl Tryz.ntmps143 (Nat.le_of_ble_eq_true rfl) hB ?_
 refine Zaf ?_;refine ZS ?_;refine ZfG ?_;refine ZfG ?_;refine z7 (zp L rfl rfl (zk rfl) rfl rfl rfl (fun u H hH _ _ => zni hH)) rfl ?_;refine Zb ?_
 refine ye L (rs:=[.tmp 4]) rfl (fun _ _ h => h) Since.refl fun u H hH hle => ?_
 rfl
end Go.V
set_option maxRecDepth 20000
namespace Go.V
open Go.Proofs Go.RowKit
theorem _root_.Go.V.Zh {A B:Prop} (h:B) (t:Wr B → A:=by intro h; refine z8 (zd rfl rfl rfl) rfl ?_;exact h.h):A:=t ⟨h⟩
theorem _root_.Go.V.Zak {A B:Prop} (h:B) (t:Wr B → A:=by intro h; refine zf (id:=11) ?_;exact h.h):A:=t ⟨h⟩
theorem _root_.Go.V.Zag {A B:Prop} (h:B) (t:Wr B → A:=by intro h; refine zf (id:=10) ?_;exact h.h):A:=t ⟨h⟩
theorem _root_.Go.V.ZbE {A B:Prop} (h:B) (t:Wr B → A:=by intro h; refine z8 (qs rfl rfl rfl rfl (decide_eq_true (by omega))) rfl ?_;exact h.h):A:=t ⟨h⟩
theorem _root_.Go.V.Zew {A B:Prop} (h:B) (t:Wr B → A:=by intro h; refine qg (id:=6) [] mixed (by kernel_rfl) ?_;exact h.h):A:=t ⟨h⟩
theorem _root_.Go.V.ZQ {A B:Prop} (h:B) (t:Wr B → A:=by intro h; refine zf (id:=12) ?_;exact h.h):A:=t ⟨h⟩
theorem _root_.Go.V.Zda {A B:Prop} (h:B) (t:Wr B → A:=by intro h; refine z8 (qs rfl rfl rfl rfl (decide_eq_false (by omega))) rfl ?_;exact h.h):A:=t ⟨h⟩
theorem _root_.Go.V.Zdb {A B:Prop} (h:B) (t:Wr B → A:=by intro h; refine z8 (yr rfl rfl rfl rfl (decide_eq_true (by omega))) rfl ?_;exact h.h):A:=t ⟨h⟩
theorem _root_.Go.V.Zd9 {A B:Prop} (h:B) (t:Wr B → A:=by intro h; refine z8 (yr rfl rfl rfl rfl (decide_eq_false (by omega))) rfl ?_;exact h.h):A:=t ⟨h⟩
theorem _root_.Go.V.Zck {A B:Prop} (h:B) (t:Wr B → A:=by intro h; refine qg (id:=4) [] mixed (by kernel_rfl) ?_;exact h.h):A:=t ⟨h⟩
theorem _root_.Go.V.ZgF {A B:Prop} (h:B) (t:Wr B → A:=by intro h; refine z8 (zop L rfl rfl rfl rfl rfl (by assumption)) rfl ?_;exact h.h):A:=t ⟨h⟩
theorem _root_.Go.V.ZfH {A B:Prop} (h:B) (t:Wr B → A:=by intro h; refine z7 (zm2 rfl rfl rfl rfl z6w (by assumption) rfl) rfl ?_;exact h.h):A:=t ⟨h⟩
theorem _root_.Go.V.Zi {A B:Prop} (h:B) (t:Wr B → A:=by intro h; refine Zh ?_;refine Zh ?_;exact h.h):A:=t ⟨h⟩
theorem _root_.Go.V.ZaT {A B:Prop} (h:B) (t:Wr B → A:=by intro h; refine ZF ?_;refine zi ?_;exact h.h):A:=t ⟨h⟩
theorem _root_.Go.V.Zcl {A B:Prop} (h:B) (t:Wr B → A:=by intro h; refine ZeC ?_;refine Zgz ?_;exact h.h):A:=t ⟨h⟩
theorem _root_.Go.V.ZE {A B:Prop} (h:B) (t:Wr B → A:=by intro h; refine Zb ?_;refine qh ?_;exact h.h):A:=t ⟨h⟩
theorem _root_.Go.V.ZaE {A B:Prop} (h:B) (t:Wr B → A:=by intro h; refine Zcg ?_;refine ZaT ?_;exact h.h):A:=t ⟨h⟩
theorem _root_.Go.V.ZdA {A B:Prop} (h:B) (t:Wr B → A:=by intro h; refine ZaR ?_;refine zh ?_;exact h.h):A:=t ⟨h⟩
theorem _root_.Go.V.ZbT {A B:Prop} (h:B) (t:Wr B → A:=by intro h; refine Zd6 ?_;refine qh ?_;exact h.h):A:=t ⟨h⟩
theorem _root_.Go.V.Zar {A B:Prop} (h:B) (t:Wr B → A:=by intro h; refine Zg ?_;refine ZW ?_;exact h.h):A:=t ⟨h⟩
theorem _root_.Go.V.Zdc {A B:Prop} (h:B) (t:Wr B → A:=by intro h; refine Zy ?_;refine Zd ?_;exact h.h):A:=t ⟨h⟩
theorem _root_.Go.V.ZaI {A B:Prop} (h:B) (t:Wr B → A:=by intro h; refine Zaj ?_;refine ZbP ?_;exact h.h):A:=t ⟨h⟩
theorem _root_.Go.V.ZbF {A B:Prop} (h:B) (t:Wr B → A:=by intro h; refine zq ?_;refine ZbR ?_;exact h.h):A:=t ⟨h⟩
theorem _root_.Go.V.Zcm {A B:Prop} (h:B) (t:Wr B → A:=by intro h; refine Zc ?_;refine Zdc ?_;exact h.h):A:=t ⟨h⟩
theorem _root_.Go.V.Zcn {A B:Prop} (h:B) (t:Wr B → A:=by intro h; refine ZbT ?_;refine Zc ?_;exact h.h):A:=t ⟨h⟩
theorem _root_.Go.V.ZcE {A B:Prop} (h:B) (t:Wr B → A:=by intro h; refine Zc ?_;refine Zbz ?_;exact h.h):A:=t ⟨h⟩
theorem _root_.Go.V.ZcF {A B:Prop} (h:B) (t:Wr B → A:=by intro h; refine Zag ?_;refine Za ?_;exact h.h):A:=t ⟨h⟩
theorem _root_.Go.V.ZcG {A B:Prop} (h:B) (t:Wr B → A:=by intro h; refine Zt ?_;refine Zv ?_;exact h.h):A:=t ⟨h⟩
theorem _root_.Go.V.Zdd {A B:Prop} (h:B) (t:Wr B → A:=by intro h; refine Zaf ?_;refine ZbC ?_;exact h.h):A:=t ⟨h⟩
theorem _root_.Go.V.ZdU {A B:Prop} (h:B) (t:Wr B → A:=by intro h; refine ZT ?_;refine Z2 ?_;exact h.h):A:=t ⟨h⟩
theorem _root_.Go.V.ZdV {A B:Prop} (h:B) (t:Wr B → A:=by intro h; refine Zi ?_;refine ZgF ?_;exact h.h):A:=t ⟨h⟩
theorem _root_.Go.V.ZdW {A B:Prop} (h:B) (t:Wr B → A:=by intro h; refine Zaj ?_;refine ZdA ?_;exact h.h):A:=t ⟨h⟩
theorem zzm:∀ (a b:List UInt8), Lib.compareBytes a b = -1 ∨ Lib.compareBytes a b = 0 ∨ Lib.compareBytes a b = 1
 | [], [] => .inr (.inl rfl)
 | [], _ :: _ => .inl rfl
 | _ :: _, [] => .inr (.inr rfl)
 | a :: xs, b :: bs => by
  unfold Lib.compareBytes
  split
  ·exact .inl rfl
  ·split
   ·exact .inr (.inr rfl)
   ·exact zzm xs bs
theorem zw4:∀ (a:List UInt8), Lib.compareBytes a a = 0
 | [] => rfl
 | a :: xs => by
  unfold Lib.compareBytes
  rw [if_neg (UInt8.lt_irrefl a), if_neg (UInt8.lt_irrefl a)]
  exact zw4 xs
theorem z5d:∀ (a b:List UInt8), Lib.compareBytes a b = 0 → a = b
 | [], [], _ => rfl
 | [], _ :: _, h => by cases h
 | _ :: _, [], h => by cases h
 | a :: xs, b :: bs, h => by
  unfold Lib.compareBytes at h
  split at h
  ·cases h
  ·split at h
   ·cases h
   ·rename_i h1 h2
    have:a = b:=UInt8.le_antisymm (UInt8.not_lt.1 h2) (UInt8.not_lt.1 h1)
    rw [this, z5d xs bs h]
theorem zw5:∀ (a b:List UInt8), Lib.compareBytes b a = - Lib.compareBytes a b
 | [], [] => rfl
 | [], _ :: _ => rfl
 | _ :: _, [] => rfl
 | a :: xs, b :: bs => by
  unfold Lib.compareBytes
  by_cases h1:a < b
  ·simp [h1, UInt8.lt_asymm h1]
  ·by_cases h2:b < a
   ·simp [h1, h2]
   ·simp [h1, h2]; exact zw5 xs bs
theorem zr4:∀ (a b c:List UInt8), Lib.compareBytes a b ≤ 0 → Lib.compareBytes b c ≤ 0 → Lib.compareBytes a c ≤ 0
 | [], _, [], _, _ => Int.le_refl _
 | [], _, _ :: _, _, _ => by unfold Lib.compareBytes; decide
 | _ :: _, [], _, h, _ => by unfold Lib.compareBytes at h; exact absurd h (by decide)
 | _ :: _, _ :: _, [], _, h => by unfold Lib.compareBytes at h; exact absurd h (by decide)
 | a :: xs, b :: bs, c :: cs, h1, h2 => by
  unfold Lib.compareBytes at h1 h2 ⊢
  by_cases ab:a < b
  ·by_cases bc:b < c
   ·rw [if_pos (UInt8.lt_trans ab bc)]; decide
   ·rw [if_neg bc] at h2
    by_cases cb:c < b
    ·rw [if_pos cb] at h2; exact absurd h2 (by decide)
    ·have:b = c:=UInt8.le_antisymm (UInt8.not_lt.1 cb) (UInt8.not_lt.1 bc)
     subst this; rw [if_pos ab]; decide
  ·rw [if_neg ab] at h1
   by_cases ba:b < a
   ·rw [if_pos ba] at h1; exact absurd h1 (by decide)
   ·have:a = b:=UInt8.le_antisymm (UInt8.not_lt.1 ba) (UInt8.not_lt.1 ab)
    subst this
    rw [if_neg ab] at h1
    by_cases ac:a < c
    ·rw [if_pos ac]; decide
    ·rw [if_neg ac] at h2 ⊢
     by_cases ca:c < a
     ·rw [if_pos ca] at h2; exact absurd h2 (by decide)
     ·rw [if_neg ca] at h2 ⊢
      exact zr4 xs bs cs h1 h2
structure Ord3 {α:Type} (c:α → α → Int):Prop where
 refl:∀ a, c a a = 0
 eq:∀ a b, c a b = 0 → a = b
 anti:∀ a b, c b a = - c a b
 trans:∀ a b d, c a b ≤ 0 → c b d ≤ 0 → c a d ≤ 0
theorem z5e {a b:ByteArray} (h:a.data.toList = b.data.toList):a = b:=by
 obtain ⟨⟨x⟩⟩:=a; obtain ⟨⟨y⟩⟩:=b; simp at h; subst h; rfl
theorem cmpB_ord:Ord3 znq:=⟨fun a => zw4 _, fun a b h => z5e (z5d _ _ h), fun a b => zw5 _ _, fun a b d h1 h2 => zr4 _ _ _ h1 h2⟩
def zxj {α β:Type} (c:α → α → Int) (e:β → β → Int) (x y:α × β):Int:=orL [c x.1 y.1, e x.2 y.2]
theorem zu9 (x y:Int):orL [x, y] = if x = 0 then y else x:=by
 simp only [orL]
 by_cases hx:x = 0
 ·rw [if_pos hx, if_pos hx]; split <;> simp_all
 ·rw [if_neg hx, if_neg hx]
theorem Ord3.lt_of {α:Type} {c:α → α → Int} (h:Ord3 c) {a b d:α} (h1:c a b ≤ 0) (h2:c b d ≤ 0) (h3:c a d = 0):c a b = 0 ∧ c b d = 0:=by
 obtain rfl:=h.eq _ _ h3
 have:=h.anti a b
 constructor <;> omega
theorem Ord3.lex {α β:Type} {c:α → α → Int} {e:β → β → Int} (hc:Ord3 c) (he:Ord3 e):Ord3 (zxj c e):=by
 refine ⟨fun a => ?_, fun a b h => ?_, fun a b => ?_, fun a b d h1 h2 => ?_⟩
 ·unfold zxj; rw [zu9, hc.refl, if_pos rfl, he.refl]
 ·unfold zxj at h
  rw [zu9] at h
  by_cases h0:c a.1 b.1 = 0
  ·rw [if_pos h0] at h
   exact Prod.ext (hc.eq _ _ h0) (he.eq _ _ h)
  ·rw [if_neg h0] at h; exact absurd h h0
 ·unfold zxj
  rw [zu9, zu9, hc.anti a.1 b.1, he.anti a.2 b.2]
  by_cases h0:c a.1 b.1 = 0
  ·rw [if_pos h0, if_pos (by omega)]
  ·rw [if_neg h0, if_neg (by omega)]
 ·unfold zxj at h1 h2 ⊢
  rw [zu9] at h1 h2 ⊢
  have l1:c a.1 b.1 ≤ 0:=by split at h1 <;> omega
  have l2:c b.1 d.1 ≤ 0:=by split at h2 <;> omega
  have l3:=hc.trans _ _ _ l1 l2
  by_cases h0:c a.1 d.1 = 0
  ·obtain ⟨e1, e2⟩:=hc.lt_of l1 l2 h0
   rw [if_pos e1] at h1
   rw [if_pos e2] at h2
   rw [if_pos h0]
   exact he.trans _ _ _ h1 h2
  ·rw [if_neg h0]; exact l3
abbrev zzz:=(ByteArray × ByteArray) × ByteArray
def z5c:zzz → zzz → Int:=zxj (zxj znq znq) znq
theorem cmp3_ord:Ord3 z5c:=(cmpB_ord.lex cmpB_ord).lex cmpB_ord
theorem zpb {a b c d:ByteArray}:zzh a b c d = 0 ↔ a = c ∧ b = d:=by
 have h:=cmpB_ord.lex cmpB_ord
 constructor
 ·intro e
  have:=h.eq (a, b) (c, d) e
  cases this; exact ⟨rfl, rfl⟩
 ·rintro ⟨rfl, rfl⟩; exact h.refl (a, b)
theorem z5b {a b c d:ByteArray} (h:a ≠ c):zzh a b c d = znq a c:=by
 unfold zzh; rw [zu9, if_neg fun e => h (cmpB_ord.eq _ _ e)]
theorem z5a {a b c d:ByteArray} (h:a = c):zzh a b c d = znq b d:=by
 unfold zzh; rw [zu9, if_pos (by rw [h]; exact cmpB_ord.refl _)]
theorem z0u {a b r c d s:ByteArray} (h:¬ (a = c ∧ b = d)):z0v a b r c d s = zzh a b c d:=by
 unfold z0v; rw [zu9, if_neg fun e => h (zpb.1 e)]
theorem z0t {a b r c d s:ByteArray} (h:a = c ∧ b = d):z0v a b r c d s = znq r s:=by
 unfold z0v; rw [zu9, if_pos (zpb.2 h)]
theorem zgc {s:ByteArray} {k:Nat} {c:UInt8} (h:s[k]? = some c):s.data.toList.drop k = c :: s.data.toList.drop (k + 1):=by
 have h':s.data.toList[k]? = some c:=by
  have:s.data[k]? = some c:=h
  simpa using this
 obtain ⟨hl, he⟩:=List.getElem?_eq_some_iff.1 h'
 rw [List.drop_eq_getElem_cons hl, he]
theorem zji {s:ByteArray} {k:Nat} (h:s.size ≤ k):s.data.toList.drop k = []:=List.drop_eq_nil_of_le (by rw [zby]; exact h)
def zqt (a b:ByteArray) (k:Nat):Prop:=znq a b = Lib.compareBytes (a.data.toList.drop k) (b.data.toList.drop k)
theorem z1a {a b:ByteArray} {k:Nat} {x y:UInt8} (h:zqt a b k) (hx:a[k]? = some x) (hy:b[k]? = some y) (hl:(x.toNat:Int) < y.toNat):znq a b = -1:=by
 unfold zqt at h
 rw [h, zgc hx, zgc hy, Lib.compareBytes, if_pos (UInt8.lt_iff_toNat_lt.2 (by omega))]
theorem z1b {a b:ByteArray} {k:Nat} {x y:UInt8} (h:zqt a b k) (hx:a[k]? = some x) (hy:b[k]? = some y) (hl:(y.toNat:Int) < x.toNat):znq a b = 1:=by
 unfold zqt at h
 have hl':y < x:=UInt8.lt_iff_toNat_lt.2 (by omega)
 rw [h, zgc hx, zgc hy, Lib.compareBytes, if_neg (UInt8.lt_asymm hl'), if_pos hl']
theorem zua {a b:ByteArray} {k:Nat} {x y:UInt8} (h:zqt a b k) (hx:a[k]? = some x) (hy:b[k]? = some y) (h1:¬ (x.toNat:Int) < y.toNat) (h2:¬ (y.toNat:Int) < x.toNat):zqt a b (k + 1):=by
 unfold zqt at h ⊢
 rw [h, zgc hx, zgc hy, Lib.compareBytes, if_neg (fun e => h1 (by have:=UInt8.lt_iff_toNat_lt.1 e; omega)), if_neg (fun e => h2 (by have:=UInt8.lt_iff_toNat_lt.1 e; omega))]
theorem zsg {a b:ByteArray} {k:Nat} (h:zqt a b k) (h1:a.size ≤ k) (h2:k < b.size):znq a b = -1:=by
 unfold zqt at h
 obtain ⟨y, hy⟩:=getElem?_lt h2
 rw [h, zji h1, zgc hy, Lib.compareBytes]
theorem zub {a b:ByteArray} {k:Nat} (h:zqt a b k) (h1:b.size ≤ k) (h2:k < a.size):znq a b = 1:=by
 unfold zqt at h
 obtain ⟨y, hy⟩:=getElem?_lt h2
 rw [h, zji h1, zgc hy, Lib.compareBytes]
theorem zuc {a b:ByteArray} {k:Nat} (h:zqt a b k) (h1:a.size ≤ k) (h2:b.size ≤ k):znq a b = 0:=by
 unfold zqt at h
 rw [h, zji h1, zji h2, Lib.compareBytes]
attribute [local irreducible] V N X VO Par StepOK Has Ret RetL Src
set_option maxHeartbeats 400000 in
theorem zgj {a b:ByteArray} (ha:a.size ≤ 9223372036854775807) (hb:b.size ≤ 9223372036854775807) {w:World} {B:Heap} (hB:B.Le (hp w)) :
  Ret Tryz.prog 181 [.string a, .string b] w B (fun v _ => v = .int .i64 (znq a b)):=by
 refine yf Tryz.func181 rfl Tryz.ntmps181 (Nat.le_of_ble_eq_true rfl) hB ?_
 refine ZR ?_;refine ZbC ?_;refine ZE ?_
 refine zal (fun k:Nat => [(0, .is (.string a)), (1, .is (.string b)), (5, .is (.int .i64 k))])
  (fun k => k ≤ a.size ∧ k ≤ b.size ∧ zqt a b k) (fun k => a.size - k) 0 ⟨Nat.zero_le _, Nat.zero_le _, rfl⟩ ⟨rfl, rfl, rfl, trivial⟩ ?_
 rintro k ⟨hk1, hk2, hall⟩
 by_cases h1:k < a.size
 ·by_cases h2:k < b.size
  ·obtain ⟨x, hx⟩:=getElem?_lt h1
   obtain ⟨y, hy⟩:=getElem?_lt h2
   by_cases hxy:(x.toNat:Int) < y.toNat
   ·refine Zcm ?_;refine ZL ?_;refine ZdU ?_;refine ZL ?_;refine ZT ?_;refine Zar ?_;refine Zcn ?_;refine Zck ?_;refine ZdV ?_;refine ZdV ?_;refine ZbE ?_;refine ZdW ?_;refine Zo ?_;refine Zb ?_
    refine ye L (rs:=[.tmp 4]) rfl (fun _ _ h => h) Since.refl fun u H hH hle => ?_
    exact congrArg _ (z1a hall hx hy hxy).symm
   ·by_cases hyx:(y.toNat:Int) < x.toNat
    ·refine Zcm ?_;refine ZL ?_;refine ZdU ?_;refine ZL ?_;refine ZT ?_;refine Zar ?_;refine Zcn ?_;refine Zck ?_;refine ZdV ?_;refine ZdV ?_;refine Zda ?_;refine ZaI ?_;refine Zd6 ?_;refine Zew ?_;refine ZdV ?_;refine ZdV ?_;refine Zdb ?_;refine ZdW ?_;refine ZcU ?_
     refine ye L (rs:=[.tmp 4]) rfl (fun _ _ h => h) Since.refl fun u H hH hle => ?_
     exact congrArg _ (z1b hall hx hy hyx).symm
    ·refine Zcm ?_;refine ZL ?_;refine ZdU ?_;refine ZL ?_;refine ZT ?_;refine Zar ?_;refine Zcn ?_;refine Zck ?_;refine ZdV ?_;refine ZdV ?_;refine Zda ?_;refine ZaI ?_;refine Zd6 ?_;refine Zew ?_;refine ZdV ?_;refine ZdV ?_;refine Zd9 ?_;refine ZaI ?_;refine ZbF ?_;refine Z1 ?_;refine ZaE ?_
     exact yi (k + 1) ⟨h1, h2, zua hall hx hy hxy hyx⟩ (by omega) ⟨rfl, rfl, rfl, trivial⟩
  ·refine Zcm ?_;refine ZL ?_;refine ZdU ?_;refine ZL ?_;refine Z4 ?_;refine Zg ?_;refine Zcl ?_;refine ZcE ?_;refine ZL ?_;refine Za ?_;refine ZL ?_;refine Z4 ?_;refine Zr ?_;refine ZcF ?_;refine ZL ?_;refine Za ?_;refine ZL ?_;refine ZC ?_;refine Z0 ?_;refine Zak ?_;refine Zb ?_
   refine ye L (rs:=[.tmp 4]) rfl (fun _ _ h => h) Since.refl fun u H hH hle => ?_
   exact congrArg _ (zub hall (by omega) h1).symm
 ·by_cases h2:k < b.size
  ·refine Zcm ?_;refine ZL ?_;refine Z4 ?_;refine Zc9 ?_;refine Zcl ?_;refine ZcE ?_;refine ZL ?_;refine Za ?_;refine ZL ?_;refine ZT ?_;refine Z0 ?_;refine ZM ?_;refine Zb ?_
   refine ye L (rs:=[.tmp 4]) rfl (fun _ _ h => h) Since.refl fun u H hH hle => ?_
   exact congrArg _ (zsg hall (by omega) h2).symm
  ·refine Zcm ?_;refine ZL ?_;refine Z4 ?_;refine Zc9 ?_;refine Zcl ?_;refine ZcE ?_;refine ZL ?_;refine Za ?_;refine ZL ?_;refine Z4 ?_;refine Zr ?_;refine ZcF ?_;refine ZL ?_;refine Za ?_;refine ZL ?_;refine Z7 ?_;refine Zx ?_;refine ZQ ?_;refine Zb ?_
   refine ye L (rs:=[.tmp 4]) rfl (fun _ _ h => h) Since.refl fun u H hH hle => ?_
   exact congrArg _ (zuc hall (by omega) (by omega)).symm
theorem zoi {a b c d:ByteArray} (ha:a.size ≤ 9223372036854775807) (hb:b.size ≤ 9223372036854775807) (hc:c.size ≤ 9223372036854775807) (hd:d.size ≤ 9223372036854775807) {w:World} {B:Heap} (hB:B.Le (hp w)) :
  Ret Tryz.prog 180 [.agg #[.string a, .string b], .agg #[.string c, .string d]] w B (fun v _ => v = .int .i64 (zzh a b c d)):=by
 refine yf Tryz.func180 rfl Tryz.ntmps180 (Nat.le_of_ble_eq_true rfl) hB ?_
 by_cases h:a = c
 ·have h':¬ a ≠ c:=fun e => e h
  refine Zdd ?_;refine Zv ?_;refine Zv ?_;refine z7 (zvd rfl rfl rfl rfl (decide_eq_false (by assumption))) rfl ?_;refine Zx ?_;refine ZcG ?_;refine Zv ?_;refine z7 (zp L rfl rfl (zk rfl) rfl rfl rfl (fun u H hH _ _ => zgj (by first | assumption | omega | decide) (by first | assumption | omega | decide) hH)) rfl ?_;refine Zb ?_
  refine ye L (rs:=[.tmp 4]) rfl (fun _ _ h => h) Since.refl fun u H hH hle => ?_
  exact congrArg _ (z5a h).symm
 ·have h':a ≠ c:=h
  refine Zdd ?_;refine Zv ?_;refine Zv ?_;refine z7 (zvd rfl rfl rfl rfl (decide_eq_true (by assumption))) rfl ?_;refine Zbw ?_;refine Zv ?_;refine Zv ?_;refine z7 (zp L rfl rfl (zk rfl) rfl rfl rfl (fun u H hH _ _ => zgj (by first | assumption | omega | decide) (by first | assumption | omega | decide) hH)) rfl ?_;refine Zb ?_
  refine ye L (rs:=[.tmp 4]) rfl (fun _ _ h => h) Since.refl fun u H hH hle => ?_
  exact congrArg _ (z5b h).symm
theorem zuy {a b r c d s:ByteArray} (ha:a.size ≤ 9223372036854775807) (hb:b.size ≤ 9223372036854775807) (hr:r.size ≤ 9223372036854775807) (hc:c.size ≤ 9223372036854775807) (hd:d.size ≤ 9223372036854775807) (hs:s.size ≤ 9223372036854775807) {w:World} {B:Heap} (hB:B.Le (hp w)) :
  Ret Tryz.prog 167 [.agg #[.string a, .string b, .string r], .agg #[.string c, .string d, .string s]] w B (fun v _ => v = .int .i64 (z0v a b r c d s)):=by
 refine yf Tryz.func167 rfl Tryz.ntmps167 (Nat.le_of_ble_eq_true rfl) hB ?_
 by_cases h:a = c ∧ b = d
 ·have h':=zy9 (decide_eq_true h)
  refine Zdd ?_;refine Zbc ?_;refine Zbc ?_;refine ZfH ?_;refine Zx ?_;refine ZcG ?_;refine Zv ?_;refine z7 (zp L rfl rfl (zk rfl) rfl rfl rfl (fun u H hH _ _ => zgj (by first | assumption | omega | decide) (by first | assumption | omega | decide) hH)) rfl ?_;refine Zb ?_
  refine ye L (rs:=[.tmp 4]) rfl (fun _ _ h => h) Since.refl fun u H hH hle => ?_
  exact congrArg _ (z0t h).symm
 ·have h':=zy9 (decide_eq_false h)
  refine Zdd ?_;refine Zbc ?_;refine Zbc ?_;refine ZfH ?_;refine Zbw ?_;refine Zbc ?_;refine Zbc ?_;refine z7 (zp L rfl rfl (zk rfl) rfl rfl rfl (fun u H hH _ _ => zoi (by first | assumption | omega | decide) (by first | assumption | omega | decide) (by first | assumption | omega | decide) (by first | assumption | omega | decide) hH)) rfl ?_;refine Zb ?_
  refine ye L (rs:=[.tmp 4]) rfl (fun _ _ h => h) Since.refl fun u H hH hle => ?_
  exact congrArg _ (z0u h).symm
theorem zux {a b r c d s:ByteArray} (ha:a.size ≤ 9223372036854775807) (hb:b.size ≤ 9223372036854775807) (hr:r.size ≤ 9223372036854775807) (hc:c.size ≤ 9223372036854775807) (hd:d.size ≤ 9223372036854775807) (hs:s.size ≤ 9223372036854775807) {w:World} {B:Heap} (hB:B.Le (hp w)) :
  Ret Tryz.prog 168 [.agg #[.string a, .string b, .string r], .agg #[.string c, .string d, .string s]] w B (fun v _ => v = .int .i64 (z0v a b r c d s)):=by
 refine yf Tryz.func168 rfl Tryz.ntmps168 (Nat.le_of_ble_eq_true rfl) hB ?_
 by_cases h:a = c ∧ b = d
 ·have h':=zy9 (decide_eq_true h)
  refine Zdd ?_;refine Zbc ?_;refine Zbc ?_;refine ZfH ?_;refine Zx ?_;refine ZcG ?_;refine Zv ?_;refine z7 (zp L rfl rfl (zk rfl) rfl rfl rfl (fun u H hH _ _ => zgj (by first | assumption | omega | decide) (by first | assumption | omega | decide) hH)) rfl ?_;refine Zb ?_
  refine ye L (rs:=[.tmp 4]) rfl (fun _ _ h => h) Since.refl fun u H hH hle => ?_
  exact congrArg _ (z0t h).symm
 ·have h':=zy9 (decide_eq_false h)
  refine Zdd ?_;refine Zbc ?_;refine Zbc ?_;refine ZfH ?_;refine Zbw ?_;refine Zbc ?_;refine Zbc ?_;refine z7 (zp L rfl rfl (zk rfl) rfl rfl rfl (fun u H hH _ _ => zoi (by first | assumption | omega | decide) (by first | assumption | omega | decide) (by first | assumption | omega | decide) (by first | assumption | omega | decide) hH)) rfl ?_;refine Zb ?_
  refine ye L (rs:=[.tmp 4]) rfl (fun _ _ h => h) Since.refl fun u H hH hle => ?_
  exact congrArg _ (z0u h).symm
end Go.V
set_option maxRecDepth 20000
namespace Go.V
open Go.Proofs Go.RowKit
section
variable {α:Type} {c:α → α → Int}
theorem Ord3.irr (h:Ord3 c) (a:α):¬ c a a < 0:=by rw [h.refl]; decide
theorem Ord3.asym (h:Ord3 c) {a b:α} (h1:c a b < 0):¬ c b a < 0:=by have:=h.anti a b; omega
theorem Ord3.tr (h:Ord3 c) {a b d:α} (h1:c a b < 0) (h2:c b d < 0):c a d < 0:=by
 have h3:=h.trans a b d (by omega) (by omega)
 by_cases h4:c a d = 0
 ·have:=h.lt_of (a:=a) (b:=b) (d:=d) (by omega) (by omega) h4; omega
 ·omega
theorem Ord3.ne (h:Ord3 c) {a b:α} (h1:c a b < 0):a ≠ b:=fun e => by subst e; exact h.irr a h1
theorem Ord3.tri (h:Ord3 c) {a b:α} (h1:¬ c a b < 0) (h2:a ≠ b):c b a < 0:=by
 have:=h.anti a b
 have h3:c a b ≠ 0:=fun e => h2 (h.eq _ _ e)
 omega
def Sst (c:α → α → Int) (l:List α):Prop:=l.Pairwise fun x y => c x y < 0
theorem Sst.nil:Sst c []:=List.Pairwise.nil
theorem Sst.nodup (h:Ord3 c) {l:List α} (hs:Sst c l):l.Nodup:=hs.imp fun h1 => h.ne h1
theorem zex (h:Ord3 c):∀ {l m:List α}, Sst c l → Sst c m → (∀ z, z ∈ l ↔ z ∈ m) → l = m
 | [], [], _, _, _ => rfl
 | [], y :: m, _, _, e => by have:=(e y).2 (List.mem_cons_self ..); cases this
 | y :: l, [], _, _, e => by have:=(e y).1 (List.mem_cons_self ..); cases this
 | y :: l, x :: m, hl, hm, e => by
  have h1:=List.pairwise_cons.1 hl
  have h2:=List.pairwise_cons.1 hm
  have exy:y = x:=by
   rcases List.mem_cons.1 ((e y).1 (List.mem_cons_self ..)) with e1 | e1
   ·exact e1
   ·rcases List.mem_cons.1 ((e x).2 (List.mem_cons_self ..)) with e2 | e2
    ·exact e2.symm
    ·exact absurd (h1.1 x e2) (h.asym (h2.1 y e1))
  subst exy
  congr 1
  refine zex h h1.2 h2.2 fun z => ?_
  constructor
  ·intro hz
   rcases List.mem_cons.1 ((e z).1 (List.mem_cons_of_mem _ hz)) with e1 | e1
   ·subst e1; exact absurd (h1.1 _ hz) (h.irr _)
   ·exact e1
  ·intro hz
   rcases List.mem_cons.1 ((e z).2 (List.mem_cons_of_mem _ hz)) with e1 | e1
   ·subst e1; exact absurd (h2.1 _ hz) (h.irr _)
   ·exact e1
def zhv (c:α → α → Int) (t:α):List α → List α
 | [] => [t]
 | y :: l => if c t y < 0 then t :: y :: l else y :: zhv c t l
theorem zd7 {t z:α}:∀ {l:List α}, z ∈ zhv c t l ↔ z = t ∨ z ∈ l
 | [] => by simp [zhv]
 | y :: l => by
  simp only [zhv]
  split
  ·simp
  ·rw [List.mem_cons, zd7, List.mem_cons]
   constructor
   ·rintro (e | e | e)
    ·exact .inr (.inl e)
    ·exact .inl e
    ·exact .inr (.inr e)
   ·rintro (e | e | e)
    ·exact .inr (.inl e)
    ·exact .inl e
    ·exact .inr (.inr e)
theorem zcp (t:α):∀ (l:List α), (zhv c t l).length = l.length + 1
 | [] => rfl
 | y :: l => by
  simp only [zhv]
  split
  ·rfl
  ·simp only [List.length_cons, zcp t l]
theorem zfb (h:Ord3 c) {t:α}:∀ {l:List α}, Sst c l → t ∉ l → Sst c (zhv c t l)
 | [], _, _ => List.pairwise_singleton ..
 | y :: l, hs, ht => by
  have h1:=List.pairwise_cons.1 hs
  simp only [zhv]
  split
  ·rename_i hlt
   refine List.pairwise_cons.2 ⟨fun z hz => ?_, hs⟩
   rcases List.mem_cons.1 hz with rfl | hz
   ·exact hlt
   ·exact h.tr hlt (h1.1 z hz)
  ·rename_i hlt
   refine List.pairwise_cons.2 ⟨fun z hz => ?_, zfb h h1.2 fun e => ht (List.mem_cons_of_mem _ e)⟩
   rcases zd7.1 hz with rfl | hz
   ·exact h.tri hlt fun e => ht (by rw [e]; exact List.mem_cons_self ..)
   ·exact h1.1 z hz
def zet (c:α → α → Int) (f:Bool → Bool → Bool):Nat → List α → List α → List α
 | 0, _, _ => []
 | n + 1, [], [] => []
 | n + 1, a :: l, [] => (if f true false = true then [a] else []) ++ zet c f n l []
 | n + 1, [], b :: m => (if f false true = true then [b] else []) ++ zet c f n [] m
 | n + 1, a :: l, b :: m =>
  if c a b < 0 then (if f true false = true then [a] else []) ++ zet c f n l (b :: m)
  else if c a b > 0 then (if f false true = true then [b] else []) ++ zet c f n (a :: l) m
  else (if f true true = true then [a] else []) ++ zet c f n l m
variable [DecidableEq α]
def zgv (c:α → α → Int):List α → List α → List α
 | out, [] => out
 | out, t :: r => zgv c (if t ∈ out then out else zhv c t out) r
theorem zf1 (h:Ord3 c):∀ {l out:List α}, Sst c out → Sst c (zgv c out l)
 | [], _, hs => hs
 | t :: r, out, hs => by
  simp only [zgv]
  refine zf1 h ?_
  split
  ·exact hs
  ·rename_i ht; exact zfb h hs ht
theorem zf8 {z:α}:∀ {l out:List α}, z ∈ zgv c out l ↔ z ∈ out ∨ z ∈ l
 | [], _ => by simp [zgv]
 | t :: r, out => by
  simp only [zgv]
  rw [zf8]
  split
  ·rename_i ht
   constructor
   ·rintro (e | e)
    ·exact .inl e
    ·exact .inr (List.mem_cons_of_mem _ e)
   ·rintro (e | e)
    ·exact .inl e
    ·rcases List.mem_cons.1 e with rfl | e
     ·exact .inl ht
     ·exact .inr e
  ·rw [zd7, List.mem_cons]
   constructor
   ·rintro ((e | e) | e)
    ·exact .inr (.inl e)
    ·exact .inl e
    ·exact .inr (.inr e)
   ·rintro (e | e | e)
    ·exact .inl (.inr e)
    ·exact .inl (.inl e)
    ·exact .inr e
theorem zin:∀ (l out:List α), (zgv c out l).length ≤ out.length + l.length
 | [], _ => Nat.le_refl _
 | t :: r, out => by
  have:=zin r (if t ∈ out then out else zhv c t out)
  simp only [zgv]
  refine Nat.le_trans this ?_
  split
  ·simp only [List.length_cons]; omega
  ·rw [zcp]; simp only [List.length_cons]; omega
end
end Go.V
set_option maxRecDepth 20000
namespace Go.V
open Go.RowKit
def zsL (P:Program) (e:TypeId) (k:Nat):List Value:=match P.info? e with
 | some i => match i.zero with
  | some z => (madeCells z.cells k).toList
  | none => []
 | none => []
theorem zlk {P:Program} {e:TypeId} {s by_ k:Nat} (h:elI P e = some (s, by_)):(zsL P e k).length = k:=by
 obtain ⟨i, z, hi, hz, _, _, _, _⟩:=zcf h
 unfold zsL
 rw [hi]; dsimp only; rw [hz]
 simp [size_madeCells]
def SlE (e:TypeId) (s n:Nat) (xs:List Value):Res where
 P x _ u C:=xs.length = n * s ∧ ((n = 0 ∧ x = .slice none 0 0 ∧ ∀ k, ¬ C k) ∨ ∃ b, x = .slice (some ⟨b, 0, none⟩) n n ∧ u.heap[b]? = some (.cells xs.toArray e) ∧ n ≤ maxLen ∧ ∀ k, C k ↔ k = b)
 st:=fun ⟨hl, h⟩ _ _ _ hk => ⟨hl, by
  rcases h with h | ⟨b, h1, h2, h3, h4⟩
  ·exact .inl h
  ·exact .inr ⟨b, h1, (hk b ((h4 b).2 rfl)).trans h2, h3, h4⟩⟩
section
variable {P:Program} {F:Fr} {B:Heap} {O:Boxes} {n:Nat} {ops:Array Oper} {κ:Kap} {d:Nat} {ty:TypeId} {pos:String} {aft:Array Edge} {g:Option (Nat × Bool)} {a:Act} {u:World} {H:Heap} {fp:Nat → Nat → Prop} {os:List Oper} {Q:Exit → Act → World → Prop} {ex:Exs}
theorem zjb (L:Tabs P) {t e:TypeId} {x y:Operand} {kl kc:IntKind} {s by_:Nat} (c:Nat) {p q:Int} (hn:Nat.blt d n = true) (hg:gK ops κ ⟨some d, .makeSlice t x y, ty, pos, aft, g⟩ = some true) (ht:L.sl t = some e) (he:elI P e = some (s, by_))
  (hx:evK κ x = some (.int kl q)) (hy:evK κ y = some (.int kc p)) (hq:q = c) (hp:p = c) (hb:by_ * c ≤ 281474976710656) (hc:c ≤ maxLen):StepOK P F B n ops O κ ⟨some d, .makeSlice t x y, ty, pos, aft, g⟩ d (.own (SlE e s c (zsL P e (c * s)))):=by
 rintro κ' a u hl ⟨H, fp, hh⟩
 unfold After
 rw [if_pos (zag hh hl hg)]
 have en:=hh.env hl
 have hzl:=zlk (k:=c * s) he
 obtain ⟨i, z, hi, hz, hs1, hs2, hs3, hs4⟩:=zcf he
 have h1:=en.is_ x _ (by simp [Op.operands]) hx
 have h2:=en.is_ y _ (by simp [Op.operands]) hy
 subst hp
 subst hq
 have hb':(i.bytes:Int) * (c:Int) ≤ 281474976710656:=by
  have h:((by_ * c:Nat):Int) ≤ 281474976710656:=by omega
  rw [hs2]; rwa [Int.natCast_mul] at h
 have h63:(c:Int) ≤ 9223372036854775807:=by simp [maxLen] at hc; omega
 have hr:=run_make (P:=P) u t e i z (Tabs.sl_spec ht) hi hz kl kc c c (by omega) (by omega) hb' h63
 simp only [Int.toNat_natCast] at hr
 have hrun:(execOp a.eval ⟨some d, .makeSlice t x y, ty, pos, aft, g⟩).run P u = .ok (.value (.slice (some ⟨u.heap.size, 0, none⟩) c c)) (u.alloc (.cells (madeCells z.cells (c * i.size)) e)):=by
  simp only [execOp, h1, h2, Sem.run_bind, hr, Result.andThen_ok]; rfl
 rw [hrun]
 simp only [Upon]
 have hzs:zsL P e (c * s) = (madeCells z.cells (c * i.size)).toList:=by
  unfold zsL
  rw [hi]; dsimp only; rw [hz, hs1]
 have hg2:=hh.grow (Grow.hid hh.sub (.cells (madeCells z.cells (c * i.size)) e))
 refine ⟨H, _, hg2.putR (C:=fun k => k = u.heap.size) (by simp [Act.put]) rfl (fun t ht => zap ht) ⟨hzl, .inr ⟨u.heap.size, zar (by rw [hh.size]; exact zk hn), by rw [zao, hzs], hc, fun _ => Iff.rfl⟩⟩ (fun k hk => ?_) fun t r' _ ht k hf hk => ?_⟩
 ·subst hk
  exact ⟨zai (zao u _), zbd hh.sub (Nat.le_refl _), .inl hh.keep.size, fun y hy e => by have:=zai (hh.boxes y hy).1; omega⟩
 ·have:=((hh.slot t _ ht).2 k hf).1
  omega
theorem Has.boxE {t:Nat} {e:TypeId} {s m:Nat} {xs:List Value} (hm:0 < m) (hk:κ t = some (.own (SlE e s m xs))) (h:Has F B O n κ a u) :
  ∃ b, (xs.length = m * s ∧ m ≤ maxLen) ∧ Has F B (bx b xs e :: O) n (upd κ t (.is (.slice (some ⟨b, 0, none⟩) m m))) a u:=by
 obtain ⟨H, fp, h⟩:=h
 obtain ⟨⟨hl, hv⟩, hM⟩:=h.slot t _ hk
 rcases hv with ⟨h0, _, _⟩ | ⟨b, hv, hb, h4, hC⟩
 ·omega
 ·have:=h.toBox hk hb ((hC b).2 rfl)
  rw [hv] at this
  exact ⟨b, ⟨hl, h4⟩, H, fp, this⟩
theorem Has.unboxE {t b m:Nat} {e:TypeId} {s:Nat} {xs:List Value} {O1 O2:Boxes} (hO:O = O1 ++ bx b xs e :: O2) (hd:F.ds = []) (hk:κ t = some (.is (.slice (some ⟨b, 0, none⟩) m m))) (hl:xs.length = m * s) (h4:m ≤ maxLen)
  (h:Has F B O n κ a u):Has F B (O1 ++ O2) n (upd κ t (.own (SlE e s m xs))) a u:=by
 obtain ⟨H, fp, h⟩:=h
 subst hO
 have hb:=(h.boxes (bx b xs e) (by simp)).1
 exact ⟨H, _, h.ofBox (by rw [hd]; simp) ⟨hl, .inr ⟨b, h.slot t _ hk, hb, h4, fun _ => Iff.rfl⟩⟩⟩
theorem z5k (t:Nat) {e:TypeId} {s m:Nat} {xs:List Value} {c:Code} (hm:0 < m) (hk:κ t = some (.own (SlE e s m xs)))
  (h:∀ b, (xs.length = m * s ∧ m ≤ maxLen) → V P F B n (bx b xs e :: O) (upd κ t (.is (.slice (some ⟨b, 0, none⟩) m m))) c Q):V P F B n O κ c Q:=fun a u hh =>
 let ⟨b, h1, h'⟩:=hh.boxE hm hk; h b h1 a u h'
theorem zzu (t:Nat) {b m:Nat} {e:TypeId} {s:Nat} {xs:List Value} (O1:Boxes) {O2:Boxes} {c:Code} (hO:O = O1 ++ bx b xs e :: O2) (hk:κ t = some (.is (.slice (some ⟨b, 0, none⟩) m m))) (hl:xs.length = m * s) (h4:m ≤ maxLen)
  (h:V P F B n (O1 ++ O2) (upd κ t (.own (SlE e s m xs))) c Q) (hd:F.ds = []:=by rfl):V P F B n O κ c Q:=fun a u hh => h a u (hh.unboxE hO hd hk hl h4)
theorem Has.pubE {t:Nat} {e:TypeId} {s m:Nat} {xs:List Value} (hk:κ t = some (.own (SlE e s m xs))) (h:Has F B O n κ a u):Has F B O n (upd κ t (.sat (SlV e s xs m true))) a u:=by
 obtain ⟨H, fp, h⟩:=h
 obtain ⟨⟨hl, hv⟩, hM⟩:=h.slot t _ hk
 rcases hv with ⟨rfl, hv, hC⟩ | ⟨b, hv, hb, h4, hC⟩
 ·have hx:xs = []:=List.eq_nil_of_length_eq_zero (by simpa using hl)
  subst hx
  have h2:=h.name t
  rw [hv] at h2
  have h3:Has F B O n (upd κ t (.is (.slice none 0 0))) a u:=⟨H, fp, h2⟩
  have h4:=h3.seen (t:=t) (SlV e s [] 0 true) (zaf _ _ _) SlV.mono ⟨by simp, .inl ⟨rfl, _, rfl⟩⟩
  rw [zbf] at h4
  exact h4
 ·obtain ⟨H', h'⟩:=h.pub (φ:=SlV e s xs m true) hk hb ((hC b).2 rfl) SlV.mono fun H' _ hb' => ⟨hl, .inr ⟨b, 0, m, _, _, (0, 0), hv, hb', by simp, Nat.le_refl _, fun _ => rfl⟩⟩
  exact ⟨H', fp, h'⟩
theorem z01 (t:Nat) {e:TypeId} {s m:Nat} {xs:List Value} {c:Code} (hk:κ t = some (.own (SlE e s m xs))) (h:V P F B n O (upd κ t (.sat (SlV e s xs m true))) c Q):V P F B n O κ c Q:=fun a u hh => h a u (hh.pubE hk)
theorem z3u {α:Type} {f:α → List Value} {s:Nat} (hf:∀ a, (f a).length = s) (l:List α) (k m:Nat) (zs:List Value) (y:α) (hl:l.length = k) (hz:zs.length = (m - k) * s) (hk:k < m) :
  (l.flatMap f ++ zs).take (k * s) ++ (f y ++ (l.flatMap f ++ zs).drop (k * s + s)) = (l ++ [y]).flatMap f ++ zs.drop s:=by
 have h1:(l.flatMap f).length = k * s:=by
  subst hl
  clear hz hk
  induction l with
  | nil => simp
  | cons x l ih => rw [List.flatMap_cons, List.length_append, hf, ih, List.length_cons, Nat.add_mul, Nat.one_mul]; omega
 have h2:s ≤ zs.length:=by rw [hz]; exact Nat.le_mul_of_pos_left _ (by omega)
 rw [← h1, List.take_left', List.drop_append]
 ·rw [List.drop_eq_nil_of_le (by omega), List.nil_append, show (l.flatMap f).length + s - (l.flatMap f).length = s by omega, List.flatMap_append]
  simp
 ·rfl
def z5n (w:World) (r:Res) (v:Value) (H:Heap) (u:World):Prop:=∃ C:Nat → Prop, r.P v H u C ∧ ∀ k, C k → w.heap.size ≤ k ∧ k < u.heap.size ∧ H k = none
def RetO (P:Program) (f:FuncId) (args:List Value) (w:World) (B:Heap) (r:Res):Prop:=RetL P f args w B noL (z5n w r)
theorem zdu (L:Tabs P) {o:Oper} {d f:Nat} {args:Array Operand} {at_:Array TypeId} {cap:List Value} {r:Res} {fo:Operand}
  (hop:o.op = .call { callee:=.value fo, args:=args, argTypes:=at_ }) (hd:o.dst = some d) (hn:d < n) (hg:gK ops κ o = some true)
  (hf:evK κ fo = some (.func (.func f) #[] cap.toArray)) (hfn:L.fn f = some ())
  (h:∀ u H, H.Le (hp u) → B.Le H → Below F.w0.heap.size F.w0 F.w0 → Args κ H args.toList [] (fun vs => RetO P f (vs ++ cap) u H r)) :
  StepOK P F B n ops O κ o d (.own r):=by
 rintro κ' a u hl ⟨H, fp, hh⟩
 unfold After
 rw [if_pos (zag hh hl hg)]
 have e:=hh.env hl
 have hfe:a.eval fo = .func (.func f) #[] cap.toArray:=e.is_ fo _ (by simp [hop, Op.operands, Call.operands]) hf
 have hc:=Args.use e args.toList [] (fun x hx => by simp [hop, Op.operands, Call.operands] at hx ⊢; exact .inr hx) (h u H e.sub e.base (Below.refl _ _))
 simp only [List.reverse_nil, List.nil_append] at hc
 rw [zde L hop hfe hfn]
 simp only [Upon]
 refine Calls.mono hc fun e' u' hp => ?_
 obtain ⟨v, rfl, H', g', C, hv, hC⟩:=hp
 have h2:=hh.grow g'
 refine ⟨v, rfl, ?_⟩
 simp only [hd]
 refine ⟨H', _, h2.putR (C:=C) (by simp [Act.put]) rfl (fun t ht => zap ht) (by rw [zar (by rw [hh.size]; exact hn)]; exact hv) (fun k hk => ?_) fun t r' _ ht k hf hk => ?_⟩
 ·obtain ⟨h3, h4, h5⟩:=hC k hk
  exact ⟨h4, h5, .inl (Nat.le_trans hh.keep.size h3), fun y hy e => by have:=zai (hh.boxes y hy).1; omega⟩
 ·have h3:=(hC k hk).1
  have:=((hh.slot t _ ht).2 k hf).1
  omega
theorem ziz {fn:Func} {B0:Heap} {t:Nat} {r:Res} (hrs:fn.results = #[.tmp t]) (hQ:∀ a u, bodyPostM Fence.wide 0 P fn (zfs F.w0 B0 F.L (z5n F.w0 r)) .ret a u → Q .ret a u) (hs:Since F B0 B) (hk:κ t = some (.own r)) (hL:F.L = noL:=by rfl):V P F B n O κ .ret Q :=
 zsa hQ hs fun O' a u H fp _ hh => by
  obtain ⟨hown, hM⟩:=hh.slot t _ hk
  refine ⟨a.eval (.tmp t), ?_, fp t, hown, fun k hk => ?_⟩
  ·simp [results, hrs, Act.eval]
  ·obtain ⟨h1, h2, h3, _⟩:=hM k hk
   refine ⟨?_, h1, h2⟩
   rcases h3 with h3 | h3
   ·exact h3
   ·have h3':F.L k:=h3
    rw [hL] at h3'; exact h3'.elim
open Classical in
noncomputable def joinH (H:Heap) (u:World) (C:Nat → Prop):Heap:=fun k => if C k then hp u k else H k
theorem zfk {H:Heap} {u:World} {C:Nat → Prop} {k:Nat} (h:C k):joinH H u C k = hp u k:=if_pos h
theorem zel {H:Heap} {u:World} {C:Nat → Prop} {k:Nat} (h:¬ C k):joinH H u C k = H k:=if_neg h
theorem zhg {H:Heap} {u:World} {C:Nat → Prop} (h:H.Le (hp u)):(joinH H u C).Le (hp u):=fun k v hv => by
 by_cases hc:C k
 ·rwa [zfk hc] at hv
 ·rw [zel hc] at hv; exact h _ _ hv
theorem zna {H:Heap} {u:World} {C:Nat → Prop} (h:∀ k, C k → H k = none):H.Le (joinH H u C):=fun k v hv => by
 by_cases hc:C k
 ·rw [h k hc] at hv; cases hv
 ·rwa [zel hc]
def z7a (r:Res) (φ:Value → Heap → Prop):Prop:=∀ x H u C, r.P x H u C → φ x (joinH H u C)
theorem zeu {e:TypeId} {s m:Nat} {xs:List Value}:z7a (SlE e s m xs) (SlV e s xs m true):=fun x H u C ⟨hl, h⟩ => ⟨hl, by
 rcases h with ⟨h0, hv, _⟩ | ⟨b, hv, hb, h3, hC⟩
 ·exact .inl ⟨h0, _, hv⟩
 ·exact .inr ⟨b, 0, m, _, _, _, hv, (zfk ((hC b).2 rfl)).trans hb, by simp, Nat.le_refl _, fun _ => rfl⟩⟩
def z0h (q:Nat) (l:List Operand):Bool:=l.any fun x => match x with | .tmp t => Nat.beq t q | _ => false
theorem RetO.toRet {P:Program} {f:FuncId} {args:List Value} {w:World} {B:Heap} {r:Res} {φ:Value → Heap → Prop} (h:RetO P f args w B r) (hl:z7a r φ):Ret P f args w B φ :=
 Calls.mono h fun _ u ⟨v, he, H, g, C, h1, h2⟩ => ⟨v, he, joinH H u C, ⟨g.keep, zhg g.sub, fun k x hx => zna (fun k hk => (h2 k hk).2.2) _ _ (g.le _ _ hx), fun k hk hn => (zel fun hc => by have:=(h2 k hc).1; omega).trans (g.fresh k hk hn)⟩, hl _ _ _ _ h1⟩
theorem zea {f:FuncId} {fn:Func} {c:Code} {args:List Value} {w:World} {B:Heap} {r:Res} (hf:P.funcs[f]? = some fn) (hb:fn.body = some c) (hn:fn.ntmps = n)
  (hs:args.length ≤ n) (hB:B.Le (hp w)) (h:V P (Fr.pure w) B n [] (zlg 0 args) c (bodyPostM Fence.wide 0 P fn (zfs w B noL (z5n w r)))):RetO P f args w B r :=
 zgp hf hb (h _ w ⟨B, fun _ => noL, by subst hn; exact zhh noL (fun _ h => h.elim) hs hB _⟩)
end
end Go.V
set_option maxRecDepth 20000
namespace Go.V
open Go.RowKit
def zan (b:Nat) (cs:List Value) (ty:TypeId):Res where
 P _ _ u C:=u.heap[b]? = some (.cells cs.toArray ty) ∧ ∀ k, C k ↔ k = b
 st:=fun ⟨h1, h2⟩ _ _ _ hk => ⟨(hk b ((h2 b).2 rfl)).trans h1, h2⟩
section
variable {P:Program} {F:Fr} {B:Heap} {O:Boxes} {n:Nat} {ops:Array Oper} {κ:Kap} {d:Nat} {ty:TypeId} {pos:String} {aft:Array Edge} {g:Option (Nat × Bool)} {a:Act} {u:World} {H:Heap} {fp:Nat → Nat → Prop} {os:List Oper} {Q:Exit → Act → World → Prop} {ex:Exs}
theorem Has.hold {t q:Nat} {cs:List Value} {ty:TypeId} (hk:κ t = some (.own (Cell cs ty))) (h:Has F B O n κ a u):∃ b, Has F B O n (upd (upd (upd κ t zec) q (.own (zan b cs ty))) t (.is (.pointer (some ⟨b, 0, none⟩)))) a u:=by
 obtain ⟨H, fp, h⟩:=h
 obtain ⟨⟨b, hv, hb, hC⟩, hM⟩:=h.slot t _ hk
 have h2:=h.usePut (d:=q) (a':=a) (r':=zan b cs ty) (C:=fp t) hk ⟨Keep.refl _ _, h.sub, Heap.Le.refl _, fun _ _ _ => rfl⟩ rfl rfl (fun _ _ => rfl) ⟨hb, hC⟩ fun k hk => ⟨.inl hk, (hM k hk).1, (hM k hk).2.1⟩
 have h3:=h2.name t
 rw [hv] at h3
 exact ⟨b, H, _, h3⟩
theorem zpi (t q:Nat) {cs:List Value} {ty:TypeId} {c:Code} (hk:κ t = some (.own (Cell cs ty))) (h:∀ b, V P F B n O (upd (upd (upd κ t zec) q (.own (zan b cs ty))) t (.is (.pointer (some ⟨b, 0, none⟩)))) c Q):V P F B n O κ c Q:=fun a u hh => let ⟨b, h'⟩:=hh.hold (q:=q) hk; h b a u h'
def zdr (P:Program) (F:Fr) (B:Heap) (n:Nat) (ops:Array Oper) (O:Boxes) (κ:Kap) (o:Oper) (q d:Nat) (k:Kn):Prop :=
 ∀ κ' a u, (∀ t ∈ o.looksAt ops, κ' t = κ t) → κ' q = κ q → Has F B O n κ' a u → After P ops o (fun a' u' => Has F B O n (upd κ' d k) a' u') a u
theorem yo {o:Oper} {q d:Nat} {k:Kn} (hs:zdr P F B n ops O κ o q d k) (h:VO P F B n O ops (upd κ d k) os Q):VO P F B n O ops κ (o :: os) Q :=
 fun a u hh => After.mono (fun a' u' hh' => h a' u' hh') (hs κ a u (fun _ _ => rfl) rfl hh)
theorem qn {o:Oper} {q d:Nat} {k:Kn} (hs:zdr P F B n ops O κ o q d k) (hd:vd o = some d) (he:(exR ex o).contains q = true) (h:Par P F B n O ops ex (upd κ d k) os Q):Par P F B n O ops ex κ (o :: os) Q:=by
 have hm:q ∈ exR ex o:=by simpa using he
 refine ⟨[(d, k)], fun p hp => ?_, fun κ' a u hl hh => hs κ' a u (fun t ht => hl t (List.mem_append_left _ ht)) (hl q (List.mem_append_right _ (List.mem_append_right _ hm))) hh, h⟩
 simp only [List.mem_cons, List.mem_nil_iff, or_false] at hp
 subst hp
 exact List.mem_append_left _ (by simp [hd])
def zgg (P:Program) (F:Fr) (B:Heap) (n:Nat) (ops:Array Oper) (O:Boxes) (κ:Kap) (o:Oper) (q:Nat) (k:Kn):Prop :=
 ∀ κ' a u, (∀ t ∈ o.looksAt ops, κ' t = κ t) → κ' q = κ q → Has F B O n κ' a u → After P ops o (fun a' u' => Has F B O n (upd κ' q k) a' u') a u
theorem zcr {o:Oper} {q:Nat} {k:Kn} (hs:zgg P F B n ops O κ o q k) (h:VO P F B n O ops (upd κ q k) os Q):VO P F B n O ops κ (o :: os) Q :=
 fun a u hh => After.mono (fun a' u' hh' => h a' u' hh') (hs κ a u (fun _ _ => rfl) rfl hh)
theorem zah {o:Oper} {q:Nat} {k:Kn} (hs:zgg P F B n ops O κ o q k) (he:(exO ex o).contains q = true) (h:Par P F B n O ops ex (upd κ q k) os Q):Par P F B n O ops ex κ (o :: os) Q:=by
 have hm:q ∈ exO ex o:=by simpa using he
 refine ⟨[(q, k)], fun p hp => ?_, fun κ' a u hl hh => hs κ' a u (fun t ht => hl t (List.mem_append_left _ ht)) (hl q (List.mem_append_right _ (List.mem_append_left _ hm))) hh, h⟩
 simp only [List.mem_cons, List.mem_nil_iff, or_false] at hp
 subst hp
 exact List.mem_append_right _ hm
theorem zak (L:Tabs P) (q:Nat) {r:Res} {Φ:Heap → Prop} {o:Oper} {d f:Nat} {args:Array Operand} {at_:Array TypeId} {cap:List Value} {c:Value} {fo:Operand}
  (hop:o.op = .call { callee:=.value fo, args:=args, argTypes:=at_ }) (hd:o.dst = some d) (hn:d < n) (hg:gK ops κ o = some true)
  (hf:evK κ fo = some (.func (.func f) #[] cap.toArray)) (hfn:L.fn f = some ()) (hq:κ q = some (.own r)) (hm:z0h q o.op.operands.toList = false) (hl:∀ v H u C, r.P v H u C → Φ (joinH H u C))
  (h:∀ u H, H.Le (hp u) → B.Le H → Φ H → Args κ H args.toList [] (fun vs => Ret P f (vs ++ cap) u H (fun v _ => v = c))) :
  zdr P F B n ops O κ o q d (.is c):=by
 rintro κ' a u hlk hqk ⟨H, fp, hh⟩
 unfold After
 rw [if_pos (zag hh hlk hg)]
 have e:=hh.env hlk
 have hfe:a.eval fo = .func (.func f) #[] cap.toArray:=e.is_ fo _ (by simp [hop, Op.operands, Call.operands]) hf
 obtain ⟨hown, hM⟩:=hh.slot q _ (hqk.trans hq)
 have hle:H.Le (joinH H u (fp q)):=zna fun k hk => (hM k hk).2.1
 have hqo:∀ t, Operand.tmp t ∈ o.op.operands → t ≠ q:=fun t ht e => by
  subst e
  have:z0h t o.op.operands.toList = true:=List.any_eq_true.2 ⟨Operand.tmp t, by simpa using ht, Nat.beq_refl t⟩
  rw [this] at hm; cases hm
 have e1:Env F B O κ o a u (joinH H u (fp q)) fp:=by
  refine ⟨e.is_, fun t ψ ht hk => ?_, fun t r' ht hk => ?_, zhg hh.sub, fun k v hv => hle _ _ (hh.base _ _ hv), fun y hy => ?_, hh.keep⟩
  ·have hk':κ' t = some (.sat ψ):=(hlk t (zdv ht)).trans hk
   exact hh.mono t _ hk' _ _ _ (e.sat_ t ψ ht hk) hle
  ·obtain ⟨h1, h2⟩:=e.own_ t r' ht hk
   have hk':κ' t = some (.own r'):=(hlk t (zdv ht)).trans hk
   refine ⟨r'.st h1 hle (zhg hh.sub) ⟨rfl, rfl, rfl, Nat.le_refl _, Nat.le_refl _⟩ fun _ _ => rfl, fun k hk2 => ?_⟩
   obtain ⟨g1, g2, g3, g4⟩:=h2 k hk2
   exact ⟨g1, (zel (hh.owns t q r' _ (hqo t ht) hk' (hqk.trans hq) k hk2)).trans g2, g3, g4⟩
  ·obtain ⟨h1, h2, h3⟩:=e.boxes y hy
   exact ⟨h1, (zel fun hc => (hM _ hc).2.2.2 y hy rfl).trans h2, h3⟩
 have hc:=Args.use e1 args.toList [] (fun x hx => by simp [hop, Op.operands, Call.operands] at hx ⊢; exact .inr hx) (h u (joinH H u (fp q)) e1.sub e1.base (hl _ _ _ _ hown))
 simp only [List.reverse_nil, List.nil_append] at hc
 rw [zde L hop hfe hfn]
 simp only [Upon]
 refine Calls.mono hc fun e' u' hp => ?_
 obtain ⟨v, rfl, H', g', hv⟩:=hp
 refine ⟨v, rfl, ?_⟩
 simp only [hd]
 have g2:Grow noL u H u' H:=⟨g'.keep, fun k x hx => by
  have h1:=hh.sub _ _ hx
  exact (g'.keep.block k (zai h1) fun h => h).trans h1, Heap.Le.refl _, fun _ _ _ => rfl⟩
 exact ⟨H, fp, (hh.grow g2).put (k:=.is c) hn trivial hv⟩
theorem zay (L:Tabs P) {x:Operand} {q b:Nat} {t t':TypeId} {s off:Nat} {cs vs:List Value} (hx:evK κ x = some (.pointer (some ⟨b, off, none⟩))) (hq:κ q = some (.own (zan b cs t'))) (hn:Nat.blt d n = true) (hg:gK ops κ ⟨some d, .load t x, ty, pos, aft, g⟩ = some true)
  (hl:L.ld t = some (true, s)) (hlen:vs.length = s) (hc:∃ r, cs.drop off = vs ++ r):zdr P F B n ops O κ ⟨some d, .load t x, ty, pos, aft, g⟩ q d (.is (.agg vs.toArray)):=by
 rintro κ' a u hlk hqk ⟨H, fp, hh⟩
 unfold After
 rw [if_pos (zag hh hlk hg)]
 have e:=hh.env hlk
 have h1:=e.is_ x _ (by simp [Op.operands]) hx
 obtain ⟨⟨h2, hC⟩, hM⟩:=hh.slot q _ (hqk.trans hq)
 obtain ⟨r, hc⟩:=hc
 have hrun:(execOp a.eval ⟨some d, .load t x, ty, pos, aft, g⟩).run P u = .ok (.value (.agg vs.toArray)) u:=by
  simp only [execOp, h1, Instr.loadAt, Instr.sureAddr, Sem.run_bind, Sem.run_pure, Result.andThen_ok]
  rw [zb5 (Tabs.ld_spec hl) u _ vs hlen (fun j v hj => by
   have h3:cs[off + j]? = some v:=by
    have:=congrArg (·[j]?) hc
    simp only [List.getElem?_drop] at this
    rw [this, List.getElem?_append_left (by
     rcases Nat.lt_or_ge j vs.length with h | h
     ·exact h
     ·rw [List.getElem?_eq_none h] at hj; cases hj)]
    exact hj
   show u.cell? (Addr.add ⟨b, off, none⟩ j) = some v
   have:Addr.add ⟨b, off, none⟩ j = ⟨b, off + j, none⟩:=by simp [Addr.add]
   rw [this, za1 h2]; simpa using h3)]
  rfl
 rw [hrun]
 simp only [Upon]
 exact ⟨H, fp, hh.put (k:=.is (.agg vs.toArray)) (zk hn) trivial rfl⟩
theorem qq (L:Tabs P) {x:Operand} {q b:Nat} {t t':TypeId} {s off:Nat} {cs r:List Value} {v:Value} (hx:evK κ x = some (.pointer (some ⟨b, off, none⟩))) (hq:κ q = some (.own (zan b cs t'))) (hn:Nat.blt d n = true) (hg:gK ops κ ⟨some d, .load t x, ty, pos, aft, g⟩ = some true)
  (hl:L.ld t = some (false, s)) (hc:cs.drop off = v :: r):zdr P F B n ops O κ ⟨some d, .load t x, ty, pos, aft, g⟩ q d (.is v):=by
 rintro κ' a u hlk hqk ⟨H, fp, hh⟩
 unfold After
 rw [if_pos (zag hh hlk hg)]
 have e:=hh.env hlk
 have h1:=e.is_ x _ (by simp [Op.operands]) hx
 obtain ⟨⟨h2, hC⟩, hM⟩:=hh.slot q _ (hqk.trans hq)
 have h3:cs[off]? = some v:=by
  have:=congrArg (·[0]?) hc
  simpa using this
 have hrun:(execOp a.eval ⟨some d, .load t x, ty, pos, aft, g⟩).run P u = .ok (.value v) u:=by
  simp only [execOp, h1, Instr.loadAt, Instr.sureAddr, Sem.run_bind, Sem.run_pure, Result.andThen_ok]
  rw [zcl (Tabs.ld_spec hl) u _ v (by rw [za1 h2]; simpa using h3)]
  rfl
 rw [hrun]
 simp only [Upon]
 exact ⟨H, fp, hh.put (k:=.is v) (zk hn) trivial rfl⟩
theorem yz (L:Tabs P) {t t':TypeId} {ag:Bool} {z b off q:Nat} {p x:Operand} {v:Value} {cs cs':List Value} (hg:gK ops κ ⟨none, .store t p x, ty, pos, aft, g⟩ = some true) (hp:evK κ p = some (.pointer (some ⟨b, off, none⟩))) (hq:κ q = some (.own (zan b cs t'))) (hx:evK κ x = some v)
  (hl:L.ld t = some (ag, z)) (hlen:(zav v).length = z) (hcs:Nat.ble (off + z) cs.length = true) (hpl:(zav v).all zbs = true) (hr:cs.take off ++ (zav v ++ cs.drop (off + z)) = cs') :
  zgg P F B n ops O κ ⟨none, .store t p x, ty, pos, aft, g⟩ q (.own (zan b cs' t')):=by
 rintro κ' a u hlk hqk ⟨H, fp, hh⟩
 subst hr
 unfold After
 rw [if_pos (zag hh hlk hg)]
 have e:=hh.env hlk
 have hev:=e.is_ x v (by simp [Op.operands]) hx
 have hes:=e.is_ p _ (by simp [Op.operands]) hp
 have hqs:=hqk.trans hq
 obtain ⟨⟨hb, hC⟩, hM⟩:=hh.slot q _ hqs
 have hrun:(execOp a.eval ⟨none, .store t p x, ty, pos, aft, g⟩).run P u = .ok .skip (u.setRow b (cs.take off ++ (zav v ++ cs.drop (off + z))).toArray):=by
  simp only [execOp, hes, hev, Instr.storeAt, Instr.sureAddr, Sem.run_bind, Sem.run_pure, Result.andThen_ok]
  have:=zb4 (P:=P) (off:=off) (Tabs.ld_spec hl) hb hlen (Nat.le_of_ble_eq_true hcs) hpl
  rw [this]
  simp
 rw [hrun]
 simp only [Upon, Act.put]
 have hset:=setRow_heap u b cs.toArray (cs.take off ++ (zav v ++ cs.drop (off + z))).toArray t' (0, 0) hb
 have hbm:=hM b ((hC b).2 rfl)
 have:=hh.usePut (d:=q) (a':=a) (r':=zan b (cs.take off ++ (zav v ++ cs.drop (off + z))) t') (C:=fun k => k = b) hqs (zbu hh.sub hb ((hC b).2 rfl) hbm.2.1 _) rfl rfl (fun _ _ => rfl) ⟨hset, fun _ => Iff.rfl⟩ (fun k hk => by
  subst hk; exact ⟨.inl ((hC k).2 rfl), by rw [setRow_size]; exact hbm.1, hbm.2.1⟩)
 rw [zbf] at this
 exact ⟨H, _, this⟩
theorem z23 (t q:Nat) {e:TypeId} {s m:Nat} {xs:List Value} {c:Code} (hm:0 < m) (hk:κ t = some (.own (SlE e s m xs)))
  (h:∀ b, xs.length = m * s → V P F B n O (upd (upd (upd κ t zec) q (.own (zan b xs e))) t (.is (.slice (some ⟨b, 0, none⟩) m m))) c Q):V P F B n O κ c Q:=fun a u hh => by
 obtain ⟨H, fp, hh⟩:=hh
 obtain ⟨⟨hl, hv⟩, hM⟩:=hh.slot t _ hk
 rcases hv with ⟨h0, _, _⟩ | ⟨b, hv, hb, h4, hC⟩
 ·omega
 ·have h2:=hh.usePut (d:=q) (a':=a) (r':=zan b xs e) (C:=fp t) hk ⟨Keep.refl _ _, hh.sub, Heap.Le.refl _, fun _ _ _ => rfl⟩ rfl rfl (fun _ _ => rfl) ⟨hb, hC⟩ fun k hk => ⟨.inl hk, (hM k hk).1, (hM k hk).2.1⟩
  have h3:=h2.name t
  rw [hv] at h3
  exact h b hl a u ⟨H, _, h3⟩
def z5t (b:Nat) (ty:TypeId) (Φ:List Value → Heap → Prop) (hΦ:zg8 Φ):Res:=ExR (fun cs => zan b cs ty) Φ hΦ
def StP (Φ:List Value → Heap → Prop) (φ:Value → Heap → Prop) (off z:Nat):List Value → Heap → Prop:=fun cs' H => ∃ cs v, Φ cs H ∧ φ v H ∧ cs' = cs.take off ++ (zav v ++ cs.drop (off + z))
theorem StP.mono {Φ:List Value → Heap → Prop} {φ:Value → Heap → Prop} {off z:Nat} (h1:zg8 Φ) (h2:Kn.mono (.sat φ)):zg8 (StP Φ φ off z):=fun _ _ _ ⟨cs, v, a1, a2, a3⟩ hle => ⟨cs, v, h1 _ _ _ a1 hle, h2 _ _ _ a2 hle, a3⟩
theorem zc7 (L:Tabs P) {t e:TypeId} {x y:Operand} {s by_ m:Nat} {news:List Value} (hn:Nat.blt d n = true) (hg:gK ops κ ⟨some d, .call ⟨.builtin .append, #[x, y], #[t, t]⟩, ty, pos, aft, g⟩ = some true)
  (hx:evK κ x = some (.slice none 0 0)) (hy:Apd F B O κ y m news) (ht:L.sl t = some e) (he:elI P e = some (s, by_)) (hl:news.length = m * s) (h1:news.all zbs = true) (hb:m * by_ ≤ 140737488355328) (h63:m ≤ 9223372036854775807) :
  StepOK P F B n ops O κ ⟨some d, .call ⟨.builtin .append, #[x, y], #[t, t]⟩, ty, pos, aft, g⟩ d (.own (SlR e s m news)):=by
 rintro κ' a u hlk ⟨H, fp, hh⟩
 unfold After
 rw [if_pos (zag hh hlk hg)]
 have en:=hh.env hlk
 obtain ⟨i, z, hi, hz, hs1, hs2, hs3, hs4⟩:=zcf he
 have hxe:=en.is_ x _ (by simp [Op.operands, Call.operands]) hx
 obtain ⟨x', u', C', hr, hown', hgr, hC'⟩:=zk7 (C:=noL) (xs:=[]) (nn:=0) (x:=.slice none 0 0) u (aty:=ty) (Tabs.sl_spec ht) hi hz hs1 hs2 hs3 hs4 hh.sub ⟨by simp, .inl ⟨rfl, rfl, fun _ h => h⟩⟩ (fun k hk => hk.elim) (hy _ a u H fp (by simp [Op.operands, Call.operands]) en) hl (fun v hv => zdf (List.all_eq_true.1 h1 v hv)) (by omega) (by rw [Nat.zero_add]; exact hb)
 rw [Nat.zero_add, List.nil_append] at hown'
 have hrun:(execOp a.eval ⟨some d, .call ⟨.builtin .append, #[x, y], #[t, t]⟩, ty, pos, aft, g⟩).run P u = .ok (.value x') u':=by
  simp only [execOp, resolve, invoke, builtin, Sem.run_bind, Sem.run_pure, Result.andThen_ok, List.map_toArray, List.map_cons, List.map_nil, hxe, hr]
 rw [hrun]
 simp only [Upon]
 have h2:=hh.grow hgr
 refine ⟨H, _, h2.putR (C:=C') (by simp [Act.put]) rfl (fun t ht => zap ht) (by rw [zar (by rw [hh.size]; exact zk hn)]; exact hown') (fun k hk => ?_) fun t r' _ ht k hf hk => ?_⟩
 ·obtain ⟨h3, h4, h5⟩:=hC' k hk
  have h3':u.heap.size ≤ k:=h3.resolve_left fun h => h
  exact ⟨h4, h5, .inl (Nat.le_trans hh.keep.size h3'), fun y hy e => by have:=zai (hh.boxes y hy).1; omega⟩
 ·have h3':u.heap.size ≤ k:=(hC' k hk).1.resolve_left fun h => h
  have:=((hh.slot t _ ht).2 k hf).1
  omega
end
end Go.V
set_option maxRecDepth 20000
namespace Go.V
open Go.Proofs Go.RowKit
section
variable {α:Type} [Inhabited α] {enc:α → List Value} {k:Nat}
end
section
variable {P:Program} {F:Fr} {B:Heap} {O:Boxes} {n:Nat} {ops:Array Oper} {κ:Kap} {ty:TypeId} {pos:String} {aft:Array Edge} {g:Option (Nat × Bool)}
end
end Go.V
set_option maxRecDepth 20000
namespace Go.V
open Go.Proofs Go.RowKit
section
variable {α:Type} [DecidableEq α]
def dd:List α → List α
 | [] => []
 | [x] => [x]
 | x :: y :: l => if x = y then dd (y :: l) else x :: dd (y :: l)
variable {c:α → α → Int}
end
theorem zdg {α:Type} {l:List α} {i:Nat} {a:α} (h:l[i]? = some a):l[i]'(get_lt h) = a:=by
 have h1:=h
 rw [List.getElem?_eq_getElem (get_lt h)] at h1
 exact Option.some.inj h1
section
variable {α:Type} {c:α → α → Int}
def zgx (c:α → α → Int) (t:α) (l:List α):Nat:=(l.takeWhile fun x => decide (c x t < 0)).length
theorem zu2 (t:α):∀ (l:List α), zgx c t l ≤ l.length
 | [] => Nat.le_refl _
 | x :: l => by
  have:=zu2 t l
  unfold zgx at this ⊢
  rw [List.takeWhile_cons]
  split
  ·simp only [List.length_cons]; omega
  ·simp
theorem zu3 (h:Ord3 c) {t:α}:∀ {l:List α} {i:Nat}, Sst c l → (∀ (j:Nat) (x:α), j < i → l[j]? = some x → c x t < 0) → (∀ (j:Nat) (x:α), i ≤ j → l[j]? = some x → ¬ c x t < 0) → i ≤ l.length → zgx c t l = i
 | [], i, _, _, _, hi => by simp at hi; subst hi; rfl
 | x :: l, 0, _, _, h2, _ => by
  unfold zgx
  rw [List.takeWhile_cons, if_neg (by simpa using h2 0 x (Nat.le_refl _) rfl)]
  rfl
 | x :: l, i + 1, hs, h1, h2, hi => by
  have ih:=zu3 h (t:=t) (l:=l) (i:=i) (List.pairwise_cons.1 hs).2 (fun j y hj hy => h1 (j + 1) y (by omega) (by simpa using hy)) (fun j y hj hy => h2 (j + 1) y (by omega) (by simpa using hy)) (by simpa using hi)
  unfold zgx at ih ⊢
  rw [List.takeWhile_cons, if_pos (by simpa using h1 0 x (Nat.succ_pos _) rfl), List.length_cons, ih]
theorem zlo (h:Ord3 c) {l:List α} (hs:Sst c l) {i j:Nat} {x y t:α} (hi:l[i]? = some x) (hj:l[j]? = some y) (hij:j ≤ i) (hx:c x t < 0):c y t < 0:=by
 rcases Nat.lt_or_ge j i with hlt | hge
 ·have h1:=List.pairwise_iff_getElem.1 hs j i (get_lt hj) (get_lt hi) hlt
  rw [zdg hj, zdg hi] at h1
  exact h.tr h1 hx
 ·have:i = j:=by omega
  subst this
  rw [hi] at hj; cases hj; exact hx
theorem z4j (h:Ord3 c) {t:α} {l:List α} (hs:Sst c l) {i:Nat} (h1:∀ (j:Nat) (x:α), j < i → l[j]? = some x → c x t < 0) {x:α} (hx:l[i]? = some x) (h2:∀ (j:Nat) (y:α), i ≤ j → l[j]? = some y → ¬ c y t < 0):t ∈ l ↔ c x t = 0:=by
 constructor
 ·intro ht
  obtain ⟨j, hj⟩:=List.getElem?_of_mem ht
  rcases Nat.lt_trichotomy j i with hlt | he | hgt
  ·exact absurd (h1 j t hlt hj) (h.irr t)
  ·subst he; rw [hx] at hj; cases hj; exact h.refl t
  ·have h3:=List.pairwise_iff_getElem.1 hs i j (get_lt hx) (get_lt hj) hgt
   rw [zdg hj, zdg hx] at h3
   exact absurd h3 (h2 i x (Nat.le_refl _) hx)
 ·intro e
  have:=h.eq _ _ e
  subst this
  exact List.mem_of_getElem? hx
theorem zp6 (h:Ord3 c) {t:α} {l:List α} (h1:∀ (j:Nat) (x:α), j < l.length → l[j]? = some x → c x t < 0):t ∉ l:=fun ht => by
 obtain ⟨j, hj⟩:=List.getElem?_of_mem ht
 exact absurd (h1 j t (get_lt hj) hj) (h.irr t)
end
end Go.V
set_option maxRecDepth 20000
namespace Go.V.L10
open Go.Proofs Go.RowKit Go.V
def cP (a b:Int):Int:=if a < b then -1 else if b < a then 1 else 0
theorem zcg:Ord3 cP:=⟨fun a => by unfold cP; simp, fun a b h => by unfold cP at h; split at h <;> (try split at h) <;> omega, fun a b => by unfold cP; split <;> (try split) <;> (try split) <;> omega, fun a b d h1 h2 => by
 unfold cP at h1 h2 ⊢
 split at h1 <;> (try split at h1) <;> split at h2 <;> (try split at h2) <;> split <;> (try split) <;> omega⟩
theorem ztu {a b:Int}:cP a b < 0 ↔ a < b:=by unfold cP; split <;> (try split) <;> omega
def zam (L:List Int):List Int:=zgv cP [] L
theorem za0 {L:List Int} {z:Int}:z ∈ zam L ↔ z ∈ L:=by unfold zam; rw [zf8]; simp
theorem zba (L:List Int):Sst cP (zam L):=zf1 zcg Sst.nil
theorem zbj (L:List Int):(zam L).length ≤ L.length:=by have:=zin (c:=cP) L []; simpa [zam] using this
def zad (L:List Int):List (Int × Int):=(zam L).map fun r => (r, (L.count r:Int))
theorem zbo (L:List Int):(zad L).length = (zam L).length:=by unfold zad; simp
theorem zkh {L:List Int} {i:Nat} {r:Int} (h:(zam L)[i]? = some r):(zad L)[i]? = some (r, (L.count r:Int)):=by unfold zad; rw [List.getElem?_map, h]; rfl
section
variable {α:Type} {c:α → α → Int}
theorem zoz (h:Ord3 c) {t:α}:∀ {l:List α}, t ∉ l → zhv c t l = l.take (zgx c t l) ++ t :: l.drop (zgx c t l)
 | [], _ => rfl
 | y :: l, hn => by
  have hne:y ≠ t:=fun e => hn (e ▸ List.mem_cons_self ..)
  have ih:=zoz h (l:=l) (t:=t) fun hm => hn (List.mem_cons_of_mem _ hm)
  unfold zhv zgx
  rw [List.takeWhile_cons]
  by_cases hc:c y t < 0
  ·rw [if_neg (h.asym hc), if_pos (by simpa using hc), List.length_cons, List.take_succ_cons, List.drop_succ_cons, ih]
   rfl
  ·rw [if_pos (h.tri hc hne), if_neg (by simpa using hc)]
   rfl
theorem zmv (h:Ord3 c) {t:α}:∀ {l:List α}, Sst c l → t ∈ l → l[zgx c t l]? = some t
 | [], _, hm => (by cases hm)
 | y :: l, hs, hm => by
  unfold zgx
  rw [List.takeWhile_cons]
  have h1:=List.pairwise_cons.1 hs
  by_cases hc:c y t < 0
  ·rcases List.mem_cons.1 hm with e | hm
   ·subst e; exact absurd hc (h.irr _)
   ·rw [if_pos (by simpa using hc), List.length_cons, List.getElem?_cons_succ]
    exact zmv h h1.2 hm
  ·rw [if_neg (by simpa using hc)]
   rcases List.mem_cons.1 hm with e | hm
   ·subst e; rfl
   ·exact absurd (h1.1 t hm) hc
theorem zul (h:Ord3 c) {l:List α} (hs:Sst c l) {i j:Nat} {x:α} (hi:l[i]? = some x) (hj:l[j]? = some x):i = j:=by
 have key:∀ {i j:Nat}, i < j → l[i]? = some x → l[j]? = some x → False:=fun {i j} hlt hi hj => by
  have h1:=List.pairwise_iff_getElem.1 hs i j (get_lt hi) (get_lt hj) hlt
  rw [zdg hi, zdg hj] at h1
  exact h.irr _ h1
 rcases Nat.lt_trichotomy i j with hlt | he | hlt
 ·exact (key hlt hi hj).elim
 ·exact he
 ·exact (key hlt hj hi).elim
theorem map_erase {β:Type} (f:α → β) (l:List α) (i:Nat):(l.map f).eraseIdx i = (l.eraseIdx i).map f:=by
 rw [List.eraseIdx_eq_take_drop_succ, List.eraseIdx_eq_take_drop_succ, List.map_append, List.map_take, List.map_drop]
theorem zo6 (h:Ord3 c) [BEq α] [LawfulBEq α] {t:α} {l:List α} (hs:Sst c l) (hm:t ∈ l):l.erase t = l.eraseIdx (zgx c t l):=by
 induction l with
 | nil => cases hm
 | cons y l ih =>
  have h1:=List.pairwise_cons.1 hs
  unfold zgx
  rw [List.takeWhile_cons]
  by_cases hc:c y t < 0
  ·have hne:y ≠ t:=h.ne hc
   rcases List.mem_cons.1 hm with e | hm
   ·exact absurd e.symm hne
   ·rw [if_pos (by simpa using hc), List.erase_cons_tail (by simpa using hne), List.length_cons, List.eraseIdx_cons_succ, ih h1.2 hm]
    rfl
  ·rw [if_neg (by simpa using hc)]
   rcases List.mem_cons.1 hm with e | hm
   ·subst e; simp
   ·exact absurd (h1.1 t hm) hc
end
theorem zlf {L:List Int} {r:Int} (h:r ∈ L):zam (L ++ [r]) = zam L:=zex zcg (zba _) (zba _) fun z => by
 rw [za0, za0, List.mem_append, List.mem_singleton]
 exact ⟨fun h1 => h1.elim id fun e => e ▸ h, .inl⟩
theorem ztj {L:List Int} {r:Int} (h:r ∉ L):zam (L ++ [r]) = (zam L).take (zgx cP r (zam L)) ++ r :: (zam L).drop (zgx cP r (zam L)):=by
 have hn:r ∉ zam L:=fun hm => h (za0.1 hm)
 rw [← zoz zcg hn]
 exact zex zcg (zba _) (zfb zcg (zba _) hn) fun z => by
  rw [za0, zd7, za0, List.mem_append, List.mem_singleton, or_comm]
theorem zi3 {L:List Int} {r:Int} (h:1 < L.count r):zam (L.erase r) = zam L:=zex zcg (zba _) (zba _) fun z => by
 rw [za0, za0]
 by_cases e:z = r
 ·subst e
  have h1:0 < (L.erase z).count z:=by rw [List.count_erase_self]; omega
  have h2:0 < L.count z:=by omega
  exact ⟨fun _ => List.count_pos_iff.1 h2, fun _ => List.count_pos_iff.1 h1⟩
 ·exact List.mem_erase_of_ne e
theorem zku {L:List Int} {r:Int} (h:L.count r = 1):zam (L.erase r) = (zam L).eraseIdx (zgx cP r (zam L)):=by
 have hm:r ∈ L:=List.count_pos_iff.1 (by omega)
 rw [← zo6 zcg (zba L) (za0.2 hm)]
 refine zex zcg (zba _) ((zba L).sublist List.erase_sublist) fun z => ?_
 rw [za0, (Sst.nodup zcg (zba L)).mem_erase_iff, za0]
 by_cases e:z = r
 ·subst e
  have h1:(L.erase z).count z = 0:=by rw [List.count_erase_self]; omega
  exact ⟨fun hz => absurd (List.count_pos_iff.2 hz) (by omega), fun hz => absurd rfl hz.1⟩
 ·rw [List.mem_erase_of_ne e]
  exact ⟨fun hz => ⟨e, hz⟩, fun hz => hz.2⟩
theorem zkg {L:List Int} {r:Int} (h:r ∈ L):zad (L ++ [r]) = (zad L).set (zgx cP r (zam L)) (r, (L.count r:Int) + 1):=by
 have hp:=zmv zcg (zba L) (za0.2 h)
 apply List.ext_getElem?
 intro i
 unfold zad
 rw [zlf h, List.getElem?_set, List.getElem?_map, List.getElem?_map, List.length_map]
 by_cases e:zgx cP r (zam L) = i
 ·subst e
  rw [if_pos rfl, if_pos (get_lt hp), hp]
  simp [List.count_append]
 ·rw [if_neg e]
  cases hi:(zam L)[i]? with
  | none => rfl
  | some x =>
   have hxr:x ≠ r:=fun hx => e (by subst hx; exact zul zcg (zba L) hp hi)
   simp [List.count_append, List.count_cons, hxr.symm]
theorem zpz {L:List Int} {r:Int} (h:r ∉ L):zad (L ++ [r]) = (zad L).take (zgx cP r (zam L)) ++ (r, 1) :: (zad L).drop (zgx cP r (zam L)):=by
 have key:∀ l:List Int, (∀ x ∈ l, x ∈ L) → l.map (fun x => (x, ((L ++ [r]).count x:Int))) = l.map fun x => (x, (L.count x:Int)):=fun l hl => List.map_congr_left fun x hx => by
  have hxr:x ≠ r:=fun e => h (e ▸ hl x hx)
  simp [List.count_append, List.count_cons, hxr.symm]
 unfold zad
 rw [ztj h, List.map_append, List.map_cons, List.map_take, List.map_drop, ← List.map_take, ← List.map_drop, key _ fun x hx => za0.1 (List.mem_of_mem_take hx), key _ fun x hx => za0.1 (List.mem_of_mem_drop hx), List.map_take, List.map_drop]
 congr 2
 simp [List.count_append, List.count_eq_zero.2 h]
theorem zh7 {L:List Int} {r:Int} (h:1 < L.count r):zad (L.erase r) = (zad L).set (zgx cP r (zam L)) (r, (L.count r:Int) - 1):=by
 have hm:r ∈ L:=List.count_pos_iff.1 (by omega)
 have hp:=zmv zcg (zba L) (za0.2 hm)
 apply List.ext_getElem?
 intro i
 unfold zad
 rw [zi3 h, List.getElem?_set, List.getElem?_map, List.getElem?_map, List.length_map]
 by_cases e:zgx cP r (zam L) = i
 ·subst e
  rw [if_pos rfl, if_pos (get_lt hp), hp]
  simp [List.count_erase_self]
  omega
 ·rw [if_neg e]
  cases hi:(zam L)[i]? with
  | none => rfl
  | some x =>
   have hxr:x ≠ r:=fun hx => e (by subst hx; exact zul zcg (zba L) hp hi)
   simp [List.count_erase_of_ne hxr]
theorem zi0 {L:List Int} {r:Int} (h:L.count r = 1):zad (L.erase r) = (zad L).eraseIdx (zgx cP r (zam L)):=by
 unfold zad
 rw [zku h, map_erase]
 refine List.map_congr_left fun x hx => ?_
 have hxr:x ≠ r:=fun e => by
  subst e
  rw [← zo6 zcg (zba L) (za0.2 (List.count_pos_iff.1 (by omega)))] at hx
  exact ((Sst.nodup zcg (zba L)).mem_erase_iff.1 hx).1 rfl
 rw [List.count_erase_of_ne hxr]
def zfz (L:List Int) (r:Int):List Int × Nat:=if L.count r = 0 then ([], 8) else (L.erase r, 0)
def zdp (L revs:List Int) (keep:Nat):List Int:=(revs.take (revs.length - keep)).filter fun r => decide (L.count r = 0)
end Go.V.L10
set_option maxRecDepth 20000
namespace Go.V
open Go.Proofs Go.RowKit
attribute [local irreducible] V N X VO Par StepOK Has Ret RetL Src
def zhm (s:ByteArray) (c:UInt8):ByteArray × ByteArray × Bool :=
 (⟨(Lib.cut s.data.toList [c]).1.toArray⟩, ⟨(Lib.cut s.data.toList [c]).2.1.toArray⟩, (Lib.cut s.data.toList [c]).2.2)
def z0p (s:ByteArray) (c:UInt8):Bool:=decide (0 ≤ Lib.indexByte s.data.toList c)
def z3f (s:ByteArray) (c:UInt8):Nat:=Lib.countByte s.data.toList c
def zei (s:ByteArray):Option (ByteArray × ByteArray × ByteArray × Bool) :=
 if ((zhm s 58).2.2 && !z0p (zhm s 58).1 35 && !z0p (zhm s 58).2.1 58) = true ∧ z3f (zhm s 58).2.1 35 ≤ 1 then
  some ((zhm s 58).1, (zhm (zhm s 58).2.1 35).1, (zhm (zhm s 58).2.1 35).2.1, (zhm (zhm s 58).2.1 35).2.2)
 else none
end Go.V
set_option maxRecDepth 20000
namespace Go.V
open Go.Proofs Go.RowKit
attribute [local irreducible] V N X VO Par StepOK Has Ret RetL Src
abbrev zd3:ByteArray:=⟨#[]⟩
def poA (s:ByteArray):ByteArray × ByteArray × Int :=
 match zei s with
 | none => (zd3, zd3, 5)
 | some (a, b, _, d) => if d = true then (zd3, zd3, 5) else if zda [a, b] = 0 then (a, b, 0) else (zd3, zd3, zda [a, b])
def pgA (s:ByteArray):ByteArray × ByteArray × ByteArray × Int :=
 match zei s with
 | none => (zd3, zd3, zd3, 5)
 | some (a, b, c, d) => if d = false then (zd3, zd3, zd3, 5) else if zda [a, b, c] = 0 then (a, b, c, 0) else (zd3, zd3, zd3, zda [a, b, c])
def psA (s:ByteArray):ByteArray × ByteArray × ByteArray × Int :=
 match zei s with
 | none => (zd3, zd3, zd3, 5)
 | some (a, b, c, d) => if zda [a, b] = 0 then (if d = true then (if chk c = 0 then (a, b, c, 0) else (zd3, zd3, zd3, chk c)) else (a, b, c, 0)) else (zd3, zd3, zd3, zda [a, b])
end Go.V
set_option maxRecDepth 20000
namespace Go.V.L2
open Go.Proofs Go.RowKit Go.V
abbrev U:=zzz × zzz
def ucs (t:U):List Value:=[.string t.1.1.1, .string t.1.1.2, .string t.1.2, .string t.2.1.1, .string t.2.1.2, .string t.2.2]
theorem zmh (t:U):(ucs t).length = 6:=rfl
def zbh:U → U → Int:=zxj z5c z5c
theorem cmpT_ord:Ord3 zbh:=cmp3_ord.lex cmp3_ord
theorem z7q {t v:U}:(t.1.1.1 = v.1.1.1 ∧ t.1.1.2 = v.1.1.2 ∧ t.1.2 = v.1.2 ∧ t.2.1.1 = v.2.1.1 ∧ t.2.1.2 = v.2.1.2 ∧ t.2.2 = v.2.2) ↔ t = v :=
 ⟨fun ⟨a, b, c, d, e, f⟩ => Prod.ext (Prod.ext (Prod.ext a b) c) (Prod.ext (Prod.ext d e) f), fun e => by subst e; exact ⟨rfl, rfl, rfl, rfl, rfl, rfl⟩⟩
instance memU (t:U) (l:List U):Decidable (t ∈ l):=decidable_of_iff (l.any (fun x => decide (x = t)) = true) (by simp)
def tE (t:U):Int:=if zda [t.1.1.1, t.1.1.2, t.1.2] = 0 then zgu t.2.1.1 t.2.1.2 t.2.2 else zda [t.1.1.1, t.1.1.2, t.1.2]
def TZ (t:U):Prop:=(t.1.1.1.size ≤ 1099511627776 ∧ t.1.1.2.size ≤ 1099511627776 ∧ t.1.2.size ≤ 1099511627776) ∧ t.2.1.1.size ≤ 1099511627776 ∧ t.2.1.2.size ≤ 1099511627776 ∧ t.2.2.size ≤ 1099511627776
instance (t:U):Decidable (TZ t):=inferInstanceAs (Decidable (_ ∧ _))
theorem zml {α:Type} {c:α → α → Int} (h:Ord3 c):∀ {l:List α}, Sst c l ↔ ∀ (j:Nat) (a b:α), l[j]? = some a → l[j + 1]? = some b → c a b < 0
 | [] => ⟨fun _ j a b h1 _ => by simp at h1, fun _ => Sst.nil⟩
 | [x] => ⟨fun _ j a b _ h2 => by simp at h2, fun _ => List.pairwise_singleton ..⟩
 | x :: y :: l => by
  constructor
  ·intro hs j a b h1 h2
   have hp:=List.pairwise_cons.1 hs
   cases j with
   | zero => simp at h1 h2; subst h1 h2; exact hp.1 _ (List.mem_cons_self ..)
   | succ j => exact (zml h).1 hp.2 j a b (by simpa using h1) (by simpa using h2)
  ·intro hj
   have hl:Sst c (y :: l):=(zml h).2 fun j a b h1 h2 => hj (j + 1) a b (by simpa using h1) (by simpa using h2)
   have hxy:c x y < 0:=hj 0 x y rfl rfl
   refine List.pairwise_cons.2 ⟨fun z hz => ?_, hl⟩
   rcases List.mem_cons.1 hz with rfl | hz
   ·exact hxy
   ·exact h.tr hxy ((List.pairwise_cons.1 hl).1 z hz)
instance {α:Type} (c:α → α → Int) (l:List α):Decidable (Sst c l):=inferInstanceAs (Decidable (l.Pairwise _))
def isB (l:List U):Bool:=decide (Sst zbh l)
theorem z4u {l:List U} {j:Nat} {a b:U} (h1:l[j]? = some a) (h2:l[j + 1]? = some b) (h:¬ zbh a b < 0):isB l = false:=decide_eq_false fun hs => h ((zml cmpT_ord).1 hs j a b h1 h2)
theorem z2e {l:List U} (h:∀ j a b, l[j]? = some a → l[j + 1]? = some b → zbh a b < 0):isB l = true:=decide_eq_true ((zml cmpT_ord).2 h)
def ptA (s:ByteArray):U × Int :=
 if (zhm s 64).2.2 = true ∧ z0p (zhm s 64).2.1 64 = false then
  (if (pgA (zhm s 64).1).2.2.2 = 0 then
   (if (psA (zhm s 64).2.1).2.2.2 = 0 then
    (((((pgA (zhm s 64).1).1, (pgA (zhm s 64).1).2.1), (pgA (zhm s 64).1).2.2.1), (((psA (zhm s 64).2.1).1, (psA (zhm s 64).2.1).2.1), (psA (zhm s 64).2.1).2.2.1)), 0)
   else ((((⟨#[]⟩, ⟨#[]⟩), ⟨#[]⟩), ((⟨#[]⟩, ⟨#[]⟩), ⟨#[]⟩)), (psA (zhm s 64).2.1).2.2.2))
  else ((((⟨#[]⟩, ⟨#[]⟩), ⟨#[]⟩), ((⟨#[]⟩, ⟨#[]⟩), ⟨#[]⟩)), (pgA (zhm s 64).1).2.2.2))
 else ((((⟨#[]⟩, ⟨#[]⟩), ⟨#[]⟩), ((⟨#[]⟩, ⟨#[]⟩), ⟨#[]⟩)), 5)
end Go.V.L2
set_option maxRecDepth 20000
namespace Go.V.L2
open Go.Proofs Go.RowKit Go.V
theorem _root_.Go.V.Zfz {A B:Prop} (h:B) (t:Wr B → A:=by intro h; refine z8 (qv L _ rfl rfl rfl rfl rfl rfl rfl (by first | omega | decide) (by assumption)) rfl ?_;exact h.h):A:=t ⟨h⟩
theorem _root_.Go.V.Zah {A B:Prop} (h:B) (t:Wr B → A:=by intro h; refine z8 (zm rfl rfl rfl) rfl ?_;exact h.h):A:=t ⟨h⟩
theorem _root_.Go.V.Zf0 {A B:Prop} (h:B) (t:Wr B → A:=by intro h; refine z8 (yh L (vs:=[_, _, _, _, _, _]) rfl rfl rfl rfl rfl ⟨_, rfl⟩) rfl ?_;exact h.h):A:=t ⟨h⟩
theorem _root_.Go.V.Zex {A B:Prop} (h:B) (t:Wr B → A:=by intro h; refine z8 (yp rfl rfl rfl rfl (by assumption)) rfl ?_;exact h.h):A:=t ⟨h⟩
theorem _root_.Go.V.ZgG {A B:Prop} (h:B) (t:Wr B → A:=by intro h; refine z8 (zw L (vs:=[_, _, _]) (qo rfl) rfl rfl rfl rfl ⟨_, rfl⟩) rfl ?_;exact h.h):A:=t ⟨h⟩
theorem _root_.Go.V.ZeX {A B:Prop} (h:B) (t:Wr B → A:=by intro h; refine z8 (x5 rfl rfl rfl rfl (decide_eq_true (by omega))) rfl ?_;exact h.h):A:=t ⟨h⟩
theorem _root_.Go.V.Zf1 {A B:Prop} (h:B) (t:Wr B → A:=by intro h; refine z8 (x5 rfl rfl rfl rfl (decide_eq_false (by omega))) rfl ?_;exact h.h):A:=t ⟨h⟩
theorem _root_.Go.V.ZG {A B:Prop} (h:B) (t:Wr B → A:=by intro h; refine Zy ?_;refine Za ?_;exact h.h):A:=t ⟨h⟩
theorem _root_.Go.V.ZbG {A B:Prop} (h:B) (t:Wr B → A:=by intro h; refine ZT ?_;refine ZW ?_;exact h.h):A:=t ⟨h⟩
theorem _root_.Go.V.ZeG {A B:Prop} (h:B) (t:Wr B → A:=by intro h; refine Zah ?_;refine Zh ?_;exact h.h):A:=t ⟨h⟩
theorem _root_.Go.V.ZdX {A B:Prop} (h:B) (t:Wr B → A:=by intro h; refine Zq ?_;refine ZbG ?_;exact h.h):A:=t ⟨h⟩
theorem _root_.Go.V.Zf2 {A B:Prop} (h:B) (t:Wr B → A:=by intro h; refine ZeG ?_;refine Zfz ?_;exact h.h):A:=t ⟨h⟩
theorem _root_.Go.V.ZbU {A B:Prop} (h:B) (t:Wr B → A:=by intro h; refine Z4 ?_;refine Zcl ?_;exact h.h):A:=t ⟨h⟩
theorem _root_.Go.V.ZaU {A B:Prop} (h:B) (t:Wr B → A:=by intro h; refine ZdX ?_;refine Zbl ?_;exact h.h):A:=t ⟨h⟩
theorem _root_.Go.V.Zb1 {A B:Prop} (h:B) (t:Wr B → A:=by intro h; refine Zf2 ?_;refine Zf0 ?_;exact h.h):A:=t ⟨h⟩
theorem _root_.Go.V.Zas {A B:Prop} (h:B) (t:Wr B → A:=by intro h; refine ZK ?_;refine Zx ?_;exact h.h):A:=t ⟨h⟩
theorem _root_.Go.V.Zey {A B:Prop} (h:B) (t:Wr B → A:=by intro h; refine ZbU ?_;refine zh ?_;exact h.h):A:=t ⟨h⟩
theorem _root_.Go.V.ZaF {A B:Prop} (h:B) (t:Wr B → A:=by intro h; refine Ze ?_;refine ZG ?_;exact h.h):A:=t ⟨h⟩
theorem _root_.Go.V.ZcH {A B:Prop} (h:B) (t:Wr B → A:=by intro h; refine Zc ?_;refine ZG ?_;exact h.h):A:=t ⟨h⟩
theorem _root_.Go.V.ZbH {A B:Prop} (h:B) (t:Wr B → A:=by intro h; refine Zq ?_;refine Zey ?_;exact h.h):A:=t ⟨h⟩
theorem _root_.Go.V.Zco {A B:Prop} (h:B) (t:Wr B → A:=by intro h; refine ZcY ?_;refine ZfG ?_;exact h.h):A:=t ⟨h⟩
theorem _root_.Go.V.Zde {A B:Prop} (h:B) (t:Wr B → A:=by intro h; refine Za5 ?_;refine ZgG ?_;exact h.h):A:=t ⟨h⟩
abbrev uv (t:U):Value:=.agg #[.string t.1.1.1, .string t.1.1.2, .string t.1.2, .string t.2.1.1, .string t.2.1.2, .string t.2.2]
abbrev tyU:TypeId:=114
abbrev US (l:List U) (fu:Bool):Value → Heap → Prop:=SlV tyU 6 (l.flatMap ucs) l.length fu
theorem zfx {l:List U} {i:Nat} {t:U} (h:l[i]? = some t):((l.flatMap ucs).drop (i * 6)).take 6 = [.string t.1.1.1, .string t.1.1.2, .string t.1.2, .string t.2.1.1, .string t.2.1.2, .string t.2.2]:=zc8 zmh l i t h
attribute [local irreducible] V N X VO Par StepOK Has Ret RetL Src
theorem ze1 {t:U} (hz:TZ t) {w:World} {B:Heap} (hB:B.Le (hp w)):Ret Tryz.prog 91 [uv t] w B (fun v _ => v = .int .i64 (tE t)):=by
 obtain ⟨⟨z1, z2, z3⟩, z4, z5, z6⟩:=hz
 unfold tE
 refine yf Tryz.func91 rfl Tryz.ntmps91 (Nat.le_of_ble_eq_true rfl) hB ?_
 by_cases h:zda [t.1.1.1, t.1.1.2, t.1.2] = 0
 ·rw [if_pos h]
  refine ZbD ?_;refine Zco ?_;refine z7 (zp L rfl rfl (zk rfl) rfl rfl rfl (fun u H hH _ _ => zhi (by first | assumption | omega | decide) (by first | assumption | omega | decide) (by first | assumption | omega | decide) hH)) rfl ?_;refine ZaF ?_;refine Zas ?_;refine ZV ?_;refine Zco ?_;refine z7 (zp L rfl rfl (zk rfl) rfl rfl rfl (fun u H hH _ _ => zjv (by first | assumption | omega | decide) (by first | assumption | omega | decide) (by first | assumption | omega | decide) hH)) rfl ?_;refine Zb ?_
  refine ye L (rs:=[.tmp 2]) rfl (fun _ _ h => h) Since.refl fun u H hH hle => ?_
  rfl
 ·rw [if_neg h]
  refine ZbD ?_;refine Zco ?_;refine z7 (zp L rfl rfl (zk rfl) rfl rfl rfl (fun u H hH _ _ => zhi (by first | assumption | omega | decide) (by first | assumption | omega | decide) (by first | assumption | omega | decide) hH)) rfl ?_;refine ZaF ?_;refine ZP ?_;refine Z1 ?_;refine Zb ?_
  refine ye L (rs:=[.tmp 2]) rfl (fun _ _ h => h) Since.refl fun u H hH hle => ?_
  rfl
theorem zds {a b:U} {w:World} {B:Heap} (hB:B.Le (hp w)):Ret Tryz.prog 93 [uv a, uv b] w B (fun v _ => v = .int .i64 (zbh a b)):=by
 refine yf Tryz.func93 rfl Tryz.ntmps93 (Nat.le_of_ble_eq_true rfl) hB ?_
 refine Zaf ?_;refine ZcZ ?_;refine Zde ?_;refine Zde ?_;refine z8 (zp L rfl rfl (zk rfl) rfl rfl rfl (fun u H hH _ _ => zni hH)) rfl ?_;refine Zde ?_;refine Zde ?_;refine z8 (zp L rfl rfl (zk rfl) rfl rfl rfl (fun u H hH _ _ => cmpU_ret hH)) rfl ?_;refine Zfm ?_;refine z8 (zp L rfl rfl (zk rfl) rfl rfl rfl (fun u H hH _ _ v hv => zmy hH hv)) rfl ?_;refine Zw ?_
 refine ye L (rs:=[.tmp 4]) rfl (fun _ _ h => h) Since.refl fun u H hH hle => ?_
 rfl
theorem zjt {l:List U} {fu:Bool} (hl:l.length ≤ 1000000) {r:Bool} (hr:isB l = r) {v:Value} {w:World} {B:Heap} (hB:B.Le (hp w)) (hv:US l fu v B) :
  Ret Tryz.prog 159 [v] w B (fun v _ => v = .bool r):=by
 subst hr
 refine yf Tryz.func159 rfl Tryz.ntmps159 (Nat.le_of_ble_eq_true rfl) hB ?_
 refine zat 0 (US l fu) rfl SlV.mono hv ?_
 refine ZR ?_;refine ZbC ?_;refine ZE ?_
 refine zal (fun i:Nat => [(0, .sat (US l fu)), (3, .is (.int .i64 (i + 1:Nat)))])
  (fun i => ∀ j a b, j < i → l[j]? = some a → l[j + 1]? = some b → zbh a b < 0) (fun i => l.length - i) 0 (fun j a b h => by omega) ⟨rfl, rfl, trivial⟩ ?_
 rintro i hall
 by_cases hlt:i + 1 < l.length
 ·obtain ⟨a, ha⟩:=zae (show i < l.length by omega)
  obtain ⟨b, hb⟩:=zae hlt
  have hca:=zfx ha
  have hcb:=zfx hb
  have hsub:IntKind.i64.wrap (((i + 1:Nat):Int) - 1) = (i:Int):=zaa (by omega) (by omega) |>.trans (by omega)
  by_cases hc:zbh a b < 0
  ·refine ZcH ?_;refine ZaU ?_;refine Zck ?_;refine ZeG ?_;refine Zex ?_;refine Zfz ?_;refine Zf0 ?_;refine Zb1 ?_;refine z8 (zp L rfl rfl (zk rfl) rfl rfl rfl (fun u H hH _ _ => zds hH)) rfl ?_;refine Zf1 ?_;refine ZaI ?_;refine ZbF ?_;refine Z1 ?_;refine ZaE ?_
   exact yi (x:=i) (i + 1) (fun j a' b' hj h1 h2 => by
    by_cases hji:j = i
    ·subst hji; rw [ha] at h1; rw [hb] at h2; cases h1; cases h2; exact hc
    ·exact hall j a' b' (by omega) h1 h2) (by omega) ⟨rfl, rfl, trivial⟩
  ·rw [z4u ha hb hc]
   refine ZcH ?_;refine ZaU ?_;refine Zck ?_;refine ZeG ?_;refine Zex ?_;refine Zfz ?_;refine Zf0 ?_;refine Zb1 ?_;refine z8 (zp L rfl rfl (zk rfl) rfl rfl rfl (fun u H hH _ _ => zds hH)) rfl ?_;refine ZeX ?_;refine ZdW ?_;refine Zo ?_;refine Zb ?_
   refine ye L (rs:=[.tmp 2]) rfl (fun _ _ h => h) Since.refl fun u H hH hle => ?_
   rfl
 ·rw [z2e fun j a b h1 h2 => hall j a b (by
   have:j + 1 < l.length:=by
    rcases Nat.lt_or_ge (j + 1) l.length with h | h
    ·exact h
    ·rw [List.getElem?_eq_none h] at h2; cases h2
   omega) h1 h2]
  refine ZcH ?_;refine ZbH ?_;refine Zz ?_;refine Zb ?_
  refine ye L (rs:=[.tmp 2]) rfl (fun _ _ h => h) Since.refl fun u H hH hle => ?_
  rfl
end Go.V.L2
set_option maxRecDepth 20000
namespace Go.V
open Go.Proofs Go.RowKit
theorem _root_.Go.V.Zat {A B:Prop} (h:B) (t:Wr B → A:=by intro h; refine z7 (x5 rfl rfl rfl rfl (decide_eq_true (by omega))) rfl ?_;exact h.h):A:=t ⟨h⟩
theorem _root_.Go.V.ZA {A B:Prop} (h:B) (t:Wr B → A:=by intro h; refine z7 (x5 rfl rfl rfl rfl (decide_eq_false (by omega))) rfl ?_;exact h.h):A:=t ⟨h⟩
theorem _root_.Go.V.Zbp {A B:Prop} (h:B) (t:Wr B → A:=by intro h; refine z7 (zra rfl rfl rfl rfl (decide_eq_false (by omega))) rfl ?_;exact h.h):A:=t ⟨h⟩
theorem _root_.Go.V.Zb2 {A B:Prop} (h:B) (t:Wr B → A:=by intro h; refine z7 (zra rfl rfl rfl rfl (decide_eq_true (by omega))) rfl ?_;exact h.h):A:=t ⟨h⟩
theorem _root_.Go.V.ZbV {A B:Prop} (h:B) (t:Wr B → A:=by intro h; refine Zt ?_;refine Zd ?_;exact h.h):A:=t ⟨h⟩
theorem _root_.Go.V.Zez {A B:Prop} (h:B) (t:Wr B → A:=by intro h; refine Zc ?_;refine ZbV ?_;exact h.h):A:=t ⟨h⟩
theorem _root_.Go.V.Zbd {A B:Prop} (h:B) (t:Wr B → A:=by intro h; refine Zez ?_;refine ZL ?_;exact h.h):A:=t ⟨h⟩
theorem _root_.Go.V.Zb3 {A B:Prop} (h:B) (t:Wr B → A:=by intro h; refine Za ?_;refine Zc8 ?_;exact h.h):A:=t ⟨h⟩
theorem _root_.Go.V.ZbW {A B:Prop} (h:B) (t:Wr B → A:=by intro h; refine ZaD ?_;refine Za ?_;exact h.h):A:=t ⟨h⟩
theorem _root_.Go.V.Zcp {A B:Prop} (h:B) (t:Wr B → A:=by intro h; refine ZT ?_;refine Zd ?_;exact h.h):A:=t ⟨h⟩
theorem _root_.Go.V.Zcq {A B:Prop} (h:B) (t:Wr B → A:=by intro h; refine ZaT ?_;refine ZbR ?_;exact h.h):A:=t ⟨h⟩
theorem _root_.Go.V.ZdB {A B:Prop} (h:B) (t:Wr B → A:=by intro h; refine Zy ?_;refine ZE ?_;exact h.h):A:=t ⟨h⟩
theorem _root_.Go.V.ZdC {A B:Prop} (h:B) (t:Wr B → A:=by intro h; refine Zu ?_;refine ZaE ?_;exact h.h):A:=t ⟨h⟩
attribute [local irreducible] V N X VO Par StepOK Has Ret RetL Src
set_option maxHeartbeats 1000000 in
theorem ze4 {s:ByteArray} (hs:s.size ≤ 9223372036854775807) {w:World} {B:Heap} (hB:B.Le (hp w)) :
  Ret Tryz.prog 118 [.string s] w B (fun v _ => v = .int .i64 (chk s)):=by
 refine yf Tryz.func118 rfl Tryz.ntmps118 (Nat.le_of_ble_eq_true rfl) hB ?_
 by_cases h0:1 ≤ s.size ∧ s.size ≤ 16
 ·obtain ⟨h1, h2⟩:=h0
  refine ZbW ?_;refine ZL ?_;refine ZC ?_;refine Zd ?_;refine ZL ?_;refine Zb2 ?_;refine Zg ?_;refine Zj ?_;refine ZdB ?_
  refine zal (fun p:Nat × Bool => [(0, .is (.string s)), (3, .is (.bool p.2)), (4, .is (.int .i64 p.1))])
   (fun p => p.1 ≤ s.size ∧ (p.2 = true → (s.data.toList.take p.1).all okB = true) ∧ (p.2 = false → chk s = 6)) (fun p => s.size - p.1) (0, true) ⟨Nat.zero_le _, fun _ => by simp, fun h => by cases h⟩ ⟨rfl, rfl, rfl, trivial⟩ ?_
  rintro ⟨k, b⟩ ⟨hk, hall, hbad⟩
  dsimp only at hk hall hbad ⊢
  by_cases hlt:k < s.size
  ·cases b with
   | false =>
    refine Zbd ?_;refine Zcp ?_;refine Zg ?_;refine Zcl ?_;refine Zc ?_;refine ZD ?_;refine Zx ?_;refine Zd8 ?_
    refine ye L (rs:=[.tmp 2]) rfl (fun _ _ h => h) Since.refl fun u H hH hle => ?_
    exact congrArg _ (hbad rfl).symm
   | true =>
    obtain ⟨c, hc⟩:=getElem?_lt hlt
    have hu:=z3o c
    by_cases a1:97 ≤ (c.toNat:Int)
    ·by_cases a4:(c.toNat:Int) ≤ 122
     ·refine Zbd ?_;refine Zcp ?_;refine Zar ?_;refine ZbT ?_;refine Za8 ?_;refine ZbQ ?_;refine Zat ?_;refine Zbm ?_;refine Zb2 ?_;refine Zg ?_;refine ZcV ?_;refine Zc7 ?_;refine Zg ?_;refine Zcq ?_;refine ZdC ?_
      exact yi (x:=(k, true)) (k + 1, true) ⟨hlt, fun _ => zi7 hc (z4a (by omega) (by omega)) (hall rfl), fun h => (by cases h)⟩ (by dsimp only; omega) ⟨rfl, rfl, rfl, trivial⟩
     ·refine Zbd ?_;refine Zcp ?_;refine Zar ?_;refine ZbT ?_;refine Za8 ?_;refine ZbQ ?_;refine Zat ?_;refine Zbm ?_;refine Zbp ?_;refine Zg ?_;refine Zbm ?_;refine Zat ?_;refine Zbm ?_;refine Zbp ?_;refine Zg ?_;refine Zg ?_;refine Zcq ?_;refine ZdC ?_
      exact yi (x:=(k, true)) (k + 1, false) ⟨hlt, fun h => (by cases h), fun _ => zmb hc (z4b (by omega))⟩ (by dsimp only; omega) ⟨rfl, rfl, rfl, trivial⟩
    ·by_cases a2:48 ≤ (c.toNat:Int)
     ·by_cases a3:(c.toNat:Int) ≤ 57
      ·refine Zbd ?_;refine Zcp ?_;refine Zar ?_;refine ZbT ?_;refine Za8 ?_;refine ZbQ ?_;refine ZA ?_;refine Zc9 ?_;refine Zbm ?_;refine Zat ?_;refine Zbm ?_;refine Zb2 ?_;refine Zg ?_;refine Zg ?_;refine Zcq ?_;refine ZdC ?_
       exact yi (x:=(k, true)) (k + 1, true) ⟨hlt, fun _ => zi7 hc (z39 (by omega) (by omega)) (hall rfl), fun h => (by cases h)⟩ (by dsimp only; omega) ⟨rfl, rfl, rfl, trivial⟩
      ·refine Zbd ?_;refine Zcp ?_;refine Zar ?_;refine ZbT ?_;refine Za8 ?_;refine ZbQ ?_;refine ZA ?_;refine Zc9 ?_;refine Zbm ?_;refine Zat ?_;refine Zbm ?_;refine Zbp ?_;refine Zg ?_;refine Zg ?_;refine Zcq ?_;refine ZdC ?_
       exact yi (x:=(k, true)) (k + 1, false) ⟨hlt, fun h => (by cases h), fun _ => zmb hc (z4c (by omega) (by omega))⟩ (by dsimp only; omega) ⟨rfl, rfl, rfl, trivial⟩
     ·refine Zbd ?_;refine Zcp ?_;refine Zar ?_;refine ZbT ?_;refine Za8 ?_;refine ZbQ ?_;refine ZA ?_;refine Zc9 ?_;refine Zbm ?_;refine ZA ?_;refine Zc9 ?_;refine Zg ?_;refine Zcq ?_;refine ZdC ?_
      exact yi (x:=(k, true)) (k + 1, false) ⟨hlt, fun h => (by cases h), fun _ => zmb hc (z4d (by omega) (by omega))⟩ (by dsimp only; omega) ⟨rfl, rfl, rfl, trivial⟩
  ·cases b with
   | false =>
    refine Zbd ?_;refine Z4 ?_;refine Zb3 ?_;refine Zcl ?_;refine Zc ?_;refine ZD ?_;refine Zx ?_;refine Zd8 ?_
    refine ye L (rs:=[.tmp 2]) rfl (fun _ _ h => h) Since.refl fun u H hH hle => ?_
    exact congrArg _ (hbad rfl).symm
   | true =>
    refine Zbd ?_;refine Z4 ?_;refine Zb3 ?_;refine Zcl ?_;refine Zc ?_;refine ZD ?_;refine Z0 ?_;refine ZcU ?_
    refine ye L (rs:=[.tmp 2]) rfl (fun _ _ h => h) Since.refl fun u H hH hle => ?_
    exact congrArg _ (zw1 h1 h2 (zr8 (by omega) (hall rfl))).symm
 ·have hbad:=zqi h0
  by_cases h1:1 ≤ s.size
  ·have h2:16 < s.size:=by omega
   refine ZbW ?_;refine ZL ?_;refine ZC ?_;refine Zd ?_;refine ZL ?_;refine Zbp ?_;refine Zg ?_;refine Zj ?_;refine ZdB ?_
   refine zal (fun _:Unit => [(0, .is (.string s)), (3, .is (.bool false)), (4, .is (.int .i64 0))]) (fun _ => True) (fun _ => 0) () trivial ⟨rfl, rfl, rfl, trivial⟩ ?_
   rintro _ _
   refine Zbd ?_;refine Zcp ?_;refine Zg ?_;refine Zcl ?_;refine Zc ?_;refine ZD ?_;refine Zx ?_;refine Zd8 ?_
   refine ye L (rs:=[.tmp 2]) rfl (fun _ _ h => h) Since.refl fun u H hH hle => ?_
   exact congrArg _ hbad.symm
  ·refine ZbW ?_;refine ZL ?_;refine Z7 ?_;refine ZaS ?_;refine Zj ?_;refine ZdB ?_
   refine zal (fun _:Unit => [(0, .is (.string s)), (3, .is (.bool false)), (4, .is (.int .i64 0))]) (fun _ => True) (fun _ => 0) () trivial ⟨rfl, rfl, rfl, trivial⟩ ?_
   rintro _ _
   refine Zbd ?_;refine Z4 ?_;refine Zb3 ?_;refine Zcl ?_;refine Zc ?_;refine ZD ?_;refine Zx ?_;refine Zd8 ?_
   refine ye L (rs:=[.tmp 2]) rfl (fun _ _ h => h) Since.refl fun u H hH hle => ?_
   exact congrArg _ hbad.symm
theorem max2 (a b:ByteArray):(if chk b > chk a then chk b else chk a) = zda [a, b]:=by
 simp only [zda]
 rcases zb1 a with h | h <;> rcases zb1 b with h' | h' <;> simp [h, h']
theorem z6i (a b c:ByteArray):(if chk c > zda [a, b] then chk c else zda [a, b]) = zda [a, b, c]:=by
 simp only [zda]
 rcases zb1 a with h | h <;> rcases zb1 b with h' | h' <;> rcases zb1 c with h'' | h'' <;> simp [h, h', h'']
theorem zeh {a b:ByteArray} (ha:a.size ≤ 9223372036854775807) (hb:b.size ≤ 9223372036854775807) {w:World} {B:Heap} (hB:B.Le (hp w)) :
  Ret Tryz.prog 117 [.agg #[.string a, .string b]] w B (fun v _ => v = .int .i64 (zda [a, b])):=by
 refine yf Tryz.func117 rfl Tryz.ntmps117 (Nat.le_of_ble_eq_true rfl) hB ?_
 refine ZY ?_;refine ZcZ ?_;refine Zbo ?_;refine z8 (zp L rfl rfl (zk rfl) rfl rfl rfl (fun u H hH _ _ => ze4 (by first | omega | decide) hH)) rfl ?_;refine Zbo ?_;refine z8 (zp L rfl rfl (zk rfl) rfl rfl rfl (fun u H hH _ _ => ze4 (by first | omega | decide) hH)) rfl ?_;refine z8 (zfq rfl rfl rfl rfl rfl) rfl ?_;refine Zw ?_
 refine ye L (rs:=[.tmp 2]) rfl (fun _ _ h => h) Since.refl fun u H hH hle => ?_
 exact congrArg _ (max2 a b)
theorem zog {a b c:ByteArray} (ha:a.size ≤ 9223372036854775807) (hb:b.size ≤ 9223372036854775807) (hc:c.size ≤ 9223372036854775807) {w:World} {B:Heap} (hB:B.Le (hp w)) :
  Ret Tryz.prog 171 [.agg #[.string a, .string b, .string c]] w B (fun v _ => v = .int .i64 (zda [a, b, c])):=by
 refine yf Tryz.func171 rfl Tryz.ntmps171 (Nat.le_of_ble_eq_true rfl) hB ?_
 refine ZY ?_;refine ZcZ ?_;refine Za5 ?_;refine ZbS ?_;refine z8 (zp L rfl rfl (zk rfl) rfl rfl rfl (fun u H hH _ _ => zeh (by first | assumption | omega | decide) (by first | assumption | omega | decide) hH)) rfl ?_;refine Zbo ?_;refine z8 (zp L rfl rfl (zk rfl) rfl rfl rfl (fun u H hH _ _ => ze4 (by first | omega | decide) hH)) rfl ?_;refine z8 (zfq rfl rfl rfl rfl rfl) rfl ?_;refine Zw ?_
 refine ye L (rs:=[.tmp 2]) rfl (fun _ _ h => h) Since.refl fun u H hH hle => ?_
 exact congrArg _ (z6i a b c)
end Go.V
set_option maxRecDepth 20000
namespace Go.V
open Go.Proofs Go.RowKit
theorem _root_.Go.V.ZH {A B:Prop} (h:B) (t:Wr B → A:=by intro h; refine z7 (y9 rfl rfl rfl rfl (decide_eq_false (by omega))) rfl ?_;exact h.h):A:=t ⟨h⟩
theorem _root_.Go.V.Z3 {A B:Prop} (h:B) (t:Wr B → A:=by intro h; refine z7 (y9 rfl rfl rfl rfl (decide_eq_true (by omega))) rfl ?_;exact h.h):A:=t ⟨h⟩
theorem _root_.Go.V.Ze0 {A B:Prop} (h:B) (t:Wr B → A:=by intro h; refine qg (id:=3) [] mixed (by kernel_rfl) ?_;exact h.h):A:=t ⟨h⟩
theorem _root_.Go.V.Zax {A B:Prop} (h:B) (t:Wr B → A:=by intro h; refine ZH ?_;refine Zx ?_;exact h.h):A:=t ⟨h⟩
attribute [local irreducible] V N X VO Par StepOK Has Ret RetL Src
theorem zx0 {c:ByteArray} (h:c.size = 0):c = ⟨#[]⟩:=by
 obtain ⟨⟨l⟩⟩:=c
 have h':l.length = 0:=h
 rw [List.eq_nil_of_length_eq_zero h']
theorem zis {a b c:ByteArray} (ha:a.size ≤ 9223372036854775807) (hb:b.size ≤ 9223372036854775807) (hc:c.size ≤ 9223372036854775807) {w:World} {B:Heap} (hB:B.Le (hp w)) :
  Ret Tryz.prog 172 [.agg #[.string a, .string b, .string c]] w B (fun v _ => v = .int .i64 (zgu a b c)):=by
 refine yf Tryz.func172 rfl Tryz.ntmps172 (Nat.le_of_ble_eq_true rfl) hB ?_
 by_cases h:c.size = 0
 ·refine ZbD ?_;refine Zv ?_;refine ZL ?_;refine Z3 ?_;refine Zbw ?_;refine Zbc ?_;refine z7 (zp L rfl rfl (zk rfl) rfl rfl rfl (fun u H hH _ _ => zeh (by first | assumption | omega | decide) (by first | assumption | omega | decide) hH)) rfl ?_;refine Zb ?_
  refine ye L (rs:=[.tmp 2]) rfl (fun _ _ h => h) Since.refl fun u H hH hle => ?_
  exact congrArg (Value.int .i64) (show zda [a, b] = zgu a b c from (if_pos (zx0 h)).symm)
 ·refine ZbD ?_;refine Zv ?_;refine ZL ?_;refine Zax ?_;refine Ze0 ?_;refine Za5 ?_;refine ZbS ?_;refine z8 (zp L rfl rfl (zk rfl) rfl rfl rfl (fun u H hH _ _ => zeh (by first | assumption | omega | decide) (by first | assumption | omega | decide) hH)) rfl ?_;refine Zbo ?_;refine z8 (zp L rfl rfl (zk rfl) rfl rfl rfl (fun u H hH _ _ => ze4 (by first | omega | decide) hH)) rfl ?_;refine z8 (zfq rfl rfl rfl rfl rfl) rfl ?_;refine Zw ?_
  refine ye L (rs:=[.tmp 2]) rfl (fun _ _ h => h) Since.refl fun u H hH hle => ?_
  exact congrArg (Value.int .i64) ((z6i a b c).trans (show zda [a, b, c] = zgu a b c from (if_neg (fun e => h (by subst e; rfl))).symm))
end Go.V
set_option maxRecDepth 20000
namespace Go.V.L2
open Go.Proofs Go.RowKit Go.V
theorem _root_.Go.V.Zb4 {A B:Prop} (h:B) (t:Wr B → A:=by intro h; refine z8 (zw L (vs:=[_, _, _, _, _, _]) (qo rfl) rfl rfl rfl rfl ⟨_, rfl⟩) rfl ?_;exact h.h):A:=t ⟨h⟩
theorem _root_.Go.V.ZfI {A B:Prop} (h:B) (t:Wr B → A:=by intro h; refine z8 (zm2 rfl rfl rfl rfl z2n (by assumption) rfl) rfl ?_;exact h.h):A:=t ⟨h⟩
theorem _root_.Go.V.ZbX {A B:Prop} (h:B) (t:Wr B → A:=by intro h; refine Zc ?_;refine Zu ?_;exact h.h):A:=t ⟨h⟩
theorem _root_.Go.V.Zay {A B:Prop} (h:B) (t:Wr B → A:=by intro h; refine ZK ?_;refine Zr ?_;exact h.h):A:=t ⟨h⟩
theorem _root_.Go.V.ZeY {A B:Prop} (h:B) (t:Wr B → A:=by intro h; refine ZbX ?_;refine ZaU ?_;exact h.h):A:=t ⟨h⟩
theorem _root_.Go.V.ZcI {A B:Prop} (h:B) (t:Wr B → A:=by intro h; refine Z9 ?_;refine ZaE ?_;exact h.h):A:=t ⟨h⟩
theorem _root_.Go.V.Zdf {A B:Prop} (h:B) (t:Wr B → A:=by intro h; refine ZeY ?_;refine Zew ?_;exact h.h):A:=t ⟨h⟩
theorem _root_.Go.V.ZdY {A B:Prop} (h:B) (t:Wr B → A:=by intro h; refine ZeW ?_;refine Zq ?_;exact h.h):A:=t ⟨h⟩
theorem zjm:∀ (l:List ByteArray), zda l = 0 ∨ zda l = 6
 | [] => .inl rfl
 | s :: l => by
  simp only [zda]
  split
  ·exact zjm l
  ·rename_i h; exact .inr ((zb1 s).resolve_left h)
theorem zn2 (a b c:ByteArray):zgu a b c = 0 ∨ zgu a b c = 6:=by
 unfold zgu
 split <;> exact zjm _
theorem z0a (t:U):(if zgu t.2.1.1 t.2.1.2 t.2.2 > zda [t.1.1.1, t.1.1.2, t.1.2] then zgu t.2.1.1 t.2.1.2 t.2.2 else zda [t.1.1.1, t.1.1.2, t.1.2]) = tE t:=by
 unfold tE
 rcases zjm [t.1.1.1, t.1.1.2, t.1.2] with h | h <;> rcases zn2 t.2.1.1 t.2.1.2 t.2.2 with h' | h' <;> rw [h, h'] <;> decide
theorem eqU {t v:U} {r:Bool} (e:decide (t = v) = r):zgb [0, 0, 0, 0, 0, 0] [.string t.1.1.1, .string t.1.1.2, .string t.1.2, .string t.2.1.1, .string t.2.1.2, .string t.2.2] [.string v.1.1.1, .string v.1.1.2, .string v.1.2, .string v.2.1.1, .string v.2.1.2, .string v.2.2] = some r:=by
 subst e
 simp only [zgb, eqC]
 have h:=@z7q t v
 by_cases hh:t = v
 ·subst hh; simp
 ·rw [decide_eq_false hh]
  have h':=fun x => hh (h.1 x)
  by_cases a1:t.1.1.1 = v.1.1.1
  ·by_cases a2:t.1.1.2 = v.1.1.2
   ·by_cases a3:t.1.2 = v.1.2
    ·by_cases a4:t.2.1.1 = v.2.1.1
     ·by_cases a5:t.2.1.2 = v.2.1.2
      ·by_cases a6:t.2.2 = v.2.2
       ·exact absurd ⟨a1, a2, a3, a4, a5, a6⟩ h'
       ·simp [a6]
      ·simp [a5]
     ·simp [a4]
    ·simp [a3]
   ·simp [a2]
  ·simp [a1]
theorem eq3 {g h:zzz} {r:Bool} (e:decide (g = h) = r):zgb [0, 0, 0] [.string g.1.1, .string g.1.2, .string g.2] [.string h.1.1, .string h.1.2, .string h.2] = some r :=
 z6u (by rw [← e]; exact decide_eq_decide.2 ⟨fun ⟨a, b, c⟩ => Prod.ext (Prod.ext a b) c, fun e => by subst e; exact ⟨rfl, rfl, rfl⟩⟩)
theorem z49 {a b:U} (h:a.1 ≠ b.1):zbh a b = z5c a.1 b.1:=by
 unfold zbh zxj; rw [zu9, if_neg fun e => h (cmp3_ord.eq _ _ e)]
theorem z48 {a b:U} (h:a.1 = b.1):zbh a b = z5c a.2 b.2:=by
 unfold zbh zxj; rw [zu9, if_pos (by rw [h]; exact cmp3_ord.refl _)]
theorem zn1 {α:Type} {l:List α} {k:Nat} {g:α} (h:l[k]? = some g):l.take (k + 1) = l.take k ++ [g]:=by rw [List.take_add_one, h]; rfl
theorem zfr {α:Type} {l:List α} {k:Nat} {g:α} (h:l[k]? = some g):l.drop k = g :: l.drop (k + 1):=by
 obtain ⟨hl, he⟩:=List.getElem?_eq_some_iff.1 h
 rw [List.drop_eq_getElem_cons hl, he]
theorem ze9 {κ:Kap} {s:Nat} {r:List U} {t:U} (h:κ s = some (.own (SlR tyU 6 (r.length + 1) (r.flatMap ucs ++ [.string t.1.1.1, .string t.1.1.2, .string t.1.2, .string t.2.1.1, .string t.2.1.2, .string t.2.2])))):κ s = some (.own (SlR tyU 6 (r ++ [t]).length ((r ++ [t]).flatMap ucs))):=by
 rw [h, List.flatMap_append, List.length_append]; rfl
attribute [local irreducible] V N X VO Par StepOK Has Ret RetL Src
theorem zef {t:U} (hz:TZ t) {w:World} {B:Heap} (hB:B.Le (hp w)):Ret Tryz.prog 157 [uv t] w B (fun v _ => v = .int .i64 (tE t)):=by
 obtain ⟨⟨z1, z2, z3⟩, z4, z5, z6⟩:=hz
 have hm:=z0a t
 refine yf Tryz.func157 rfl Tryz.ntmps157 (Nat.le_of_ble_eq_true rfl) hB ?_
 refine ZY ?_;refine ZcZ ?_;refine Zde ?_;refine z8 (zp L rfl rfl (zk rfl) rfl rfl rfl (fun u H hH _ _ => zog (by first | assumption | omega | decide) (by first | assumption | omega | decide) (by first | assumption | omega | decide) hH)) rfl ?_;refine Zde ?_;refine z8 (zp L rfl rfl (zk rfl) rfl rfl rfl (fun u H hH _ _ => zis (by first | assumption | omega | decide) (by first | assumption | omega | decide) (by first | assumption | omega | decide) hH)) rfl ?_;refine z8 (zfq rfl rfl rfl rfl (by assumption)) rfl ?_;refine Zw ?_
 refine ye L (rs:=[.tmp 2]) rfl (fun _ _ h => h) Since.refl fun u H hH hle => ?_
 rfl
theorem zoe {a b:U} (ha:TZ a) (hb:TZ b) {w:World} {B:Heap} (hB:B.Le (hp w)):Ret Tryz.prog 144 [uv a, uv b] w B (fun v _ => v = .int .i64 (zbh a b)):=by
 obtain ⟨⟨z1, z2, z3⟩, z4, z5, z6⟩:=ha
 obtain ⟨⟨y1, y2, y3⟩, y4, y5, y6⟩:=hb
 refine yf Tryz.func144 rfl Tryz.ntmps144 (Nat.le_of_ble_eq_true rfl) hB ?_
 by_cases h:a.1 = b.1
 ·have hq:=eq3 (decide_eq_true h)
  rw [z48 h]
  refine Zdd ?_;refine Zco ?_;refine Zco ?_;refine z7 (zm2 rfl rfl rfl rfl z41 (by assumption) rfl) rfl ?_;refine Zx ?_;refine Zt ?_;refine Zco ?_;refine Zco ?_;refine z7 (zp L rfl rfl (zk rfl) rfl rfl rfl (fun u H hH _ _ => zux (by first | assumption | omega | decide) (by first | assumption | omega | decide) (by first | assumption | omega | decide) (by first | assumption | omega | decide) (by first | assumption | omega | decide) (by first | assumption | omega | decide) hH)) rfl ?_;refine Zb ?_
  refine ye L (rs:=[.tmp 4]) rfl (fun _ _ h => h) Since.refl fun u H hH hle => ?_
  rfl
 ·have hq:=eq3 (decide_eq_false h)
  rw [z49 h]
  refine Zdd ?_;refine Zco ?_;refine Zco ?_;refine z7 (zm2 rfl rfl rfl rfl z41 (by assumption) rfl) rfl ?_;refine Zbw ?_;refine Zco ?_;refine Zco ?_;refine z7 (zp L rfl rfl (zk rfl) rfl rfl rfl (fun u H hH _ _ => zuy (by first | assumption | omega | decide) (by first | assumption | omega | decide) (by first | assumption | omega | decide) (by first | assumption | omega | decide) (by first | assumption | omega | decide) (by first | assumption | omega | decide) hH)) rfl ?_;refine Zb ?_
  refine ye L (rs:=[.tmp 4]) rfl (fun _ _ h => h) Since.refl fun u H hH hle => ?_
  rfl
theorem zbr {l:List U} {t:U} {fu:Bool} (hl:l.length ≤ 1000000) {e:Int} (he:(if t ∈ l then 1 else 0:Int) = e) {v:Value} {w:World} {B:Heap} (hB:B.Le (hp w)) (hv:US l fu v B) :
  Ret Tryz.prog 63 [v, uv t] w B (fun v _ => v = .int .i64 e):=by
 subst he
 refine yf Tryz.func63 rfl Tryz.ntmps63 (Nat.le_of_ble_eq_true rfl) hB ?_
 refine zat 0 (US l fu) rfl SlV.mono hv ?_
 refine ZbD ?_;refine ZE ?_
 refine zal (fun i:Nat => [(0, .sat (US l fu)), (3, .sat (At [.string t.1.1.1, .string t.1.1.2, .string t.1.2, .string t.2.1.1, .string t.2.1.2, .string t.2.2] tyU 0)), (5, .is (.int .i64 i))])
  (fun i => i ≤ l.length ∧ (t ∈ l ↔ t ∈ l.drop i)) (fun i => l.length - i) 0 ⟨Nat.zero_le _, Iff.rfl⟩ ⟨rfl, rfl, rfl, trivial⟩ ?_
 rintro i ⟨hi, he⟩
 by_cases hlt:i < l.length
 ·obtain ⟨y, hy⟩:=zae hlt
  have hc:=zfx hy
  rw [zfr hy] at he
  by_cases hyt:y = t
  ·have hq:=eqU (decide_eq_true hyt)
   rw [if_pos (he.2 (by rw [hyt]; exact List.mem_cons_self ..))]
   refine ZcH ?_;refine ZaU ?_;refine Zck ?_;refine Zb1 ?_;refine Zb4 ?_;refine z8 (zp5 rfl rfl rfl rfl z2n (by assumption) rfl) rfl ?_;refine ZdW ?_;refine Zo ?_;refine Zb ?_
   refine ye L (rs:=[.tmp 4]) rfl (fun _ _ h => h) Since.refl fun u H hH hle => ?_
   rfl
  ·have hq:=eqU (decide_eq_false hyt)
   refine ZcH ?_;refine ZaU ?_;refine Zck ?_;refine Zb1 ?_;refine Zb4 ?_;refine z8 (zp5 rfl rfl rfl rfl z2n (by assumption) rfl) rfl ?_;refine ZaI ?_;refine ZbF ?_;refine Z1 ?_;refine ZaE ?_
   exact yi (x:=i) (i + 1) ⟨hlt, he.trans ⟨fun h => (List.mem_cons.1 h).resolve_left fun e => hyt e.symm, fun h => List.mem_cons_of_mem _ h⟩⟩ (by omega) ⟨rfl, rfl, rfl, trivial⟩
 ·obtain rfl:i = l.length:=by omega
  rw [List.drop_length] at he
  rw [if_neg fun h => by cases he.1 h]
  refine ZcH ?_;refine ZbH ?_;refine Zz ?_;refine Zb ?_
  refine ye L (rs:=[.tmp 4]) rfl (fun _ _ h => h) Since.refl fun u H hH hle => ?_
  rfl
theorem zh2 {a b:List U} {fa fb:Bool} (hla:a.length ≤ 1000000) (hlb:b.length ≤ 1000000) {e:Int} (he:(if a = b then 1 else 0:Int) = e) {va vb:Value} {w:World} {B:Heap} (hB:B.Le (hp w)) (ha:US a fa va B) (hb:US b fb vb B) :
  Ret Tryz.prog 16 [va, vb] w B (fun v _ => v = .int .i64 e):=by
 subst he
 refine yf Tryz.func16 rfl Tryz.ntmps16 (Nat.le_of_ble_eq_true rfl) hB ?_
 refine zat 0 (US a fa) rfl SlV.mono ha ?_
 refine zat 1 (US b fb) rfl SlV.mono hb ?_
 by_cases hlen:a.length = b.length
 ·refine ZdY ?_;refine Zay ?_;refine Zt ?_;refine ZE ?_
  refine zal (fun i:Nat => [(0, .sat (US a fa)), (1, .sat (US b fb)), (5, .is (.int .i64 i))])
   (fun i => i ≤ a.length ∧ a.take i = b.take i) (fun i => a.length - i) 0 ⟨Nat.zero_le _, rfl⟩ ⟨rfl, rfl, rfl, trivial⟩ ?_
  rintro i ⟨hi, he⟩
  by_cases hlt:i < a.length
  ·obtain ⟨x, hx⟩:=zae hlt
   obtain ⟨y, hy⟩:=zae (show i < b.length by omega)
   have hcx:=zfx hx
   have hcy:=zfx hy
   by_cases hxy:x = y
   ·have hq:=eqU (decide_eq_true hxy)
    refine Zdf ?_;refine Zb1 ?_;refine Zb1 ?_;refine ZfI ?_;refine ZaI ?_;refine ZbF ?_;refine ZcI ?_
    exact yi (x:=i) (i + 1) ⟨hlt, by rw [zn1 hx, zn1 hy, he, hxy]⟩ (by omega) ⟨rfl, rfl, rfl, trivial⟩
   ·have hq:=eqU (decide_eq_false hxy)
    have h1:a ≠ b:=fun e => by subst e; rw [hx] at hy; exact hxy (Option.some.inj hy)
    rw [if_neg h1]
    refine Zdf ?_;refine Zb1 ?_;refine Zb1 ?_;refine ZfI ?_;refine ZdW ?_;refine ZcU ?_
    refine ye L (rs:=[.tmp 4]) rfl (fun _ _ h => h) Since.refl fun u H hH hle => ?_
    rfl
  ·obtain rfl:i = a.length:=by omega
   have h1:a = b:=by rw [List.take_length, hlen, List.take_length] at he; exact he
   rw [if_pos h1]
   refine ZbX ?_;refine ZbH ?_;refine Zd8 ?_
   refine ye L (rs:=[.tmp 4]) rfl (fun _ _ h => h) Since.refl fun u H hH hle => ?_
   rfl
 ·have h1:a ≠ b:=fun e => hlen (by rw [e])
  rw [if_neg h1]
  refine ZdY ?_;refine ZP ?_;refine Zy ?_;refine Zb ?_
  refine ye L (rs:=[.tmp 4]) rfl (fun _ _ h => h) Since.refl fun u H hH hle => ?_
  rfl
end Go.V.L2
set_option maxRecDepth 20000
namespace Go.V
open Go.RowKit
def noB (s:ByteArray) (c:UInt8):Prop:=c ∉ s.data.toList
theorem zfl (r:List UInt8) (c:UInt8):∀ (l:List UInt8), c ∉ l → Lib.indexByte (l ++ c :: r) c = l.length
 | [], _ => by simp [Lib.indexByte]
 | b :: l, h => by
  have h1:¬ (b == c) = true:=fun e => h (by rw [beq_iff_eq] at e; rw [e]; exact List.mem_cons_self ..)
  have ih:=zfl r c l (fun e => h (List.mem_cons_of_mem _ e))
  rw [List.cons_append, Lib.indexByte, if_neg h1, ih, if_neg (by rw [beq_iff_eq]; omega)]
  simp
theorem zga (c:UInt8):∀ (l:List UInt8), c ∉ l → Lib.indexByte l c = -1
 | [], _ => rfl
 | b :: l, h => by
  have h1:¬ (b == c) = true:=fun e => h (by rw [beq_iff_eq] at e; rw [e]; exact List.mem_cons_self ..)
  rw [Lib.indexByte, if_neg h1, zga c l (fun e => h (List.mem_cons_of_mem _ e))]
  rfl
theorem z2o {l r:List UInt8} {c:UInt8} (h:c ∉ l):Lib.cut (l ++ c :: r) [c] = (l, r, true):=by
 unfold Lib.cut
 rw [Lib.index_one, zfl r c l h, if_pos (by omega)]
 simp
theorem z44 {l:List UInt8} {c:UInt8} (h:c ∉ l):Lib.cut l [c] = (l, [], false):=by
 unfold Lib.cut
 rw [Lib.index_one, zga c l h, if_neg (by omega)]
theorem zb2 (a b:ByteArray):(a ++ b).data.toList = a.data.toList ++ b.data.toList:=by
 rw [ByteArray.data_append, Array.toList_append]
theorem zge {a b:ByteArray} (h:a.data.toList = b.data.toList):a = b:=by
 obtain ⟨⟨x⟩⟩:=a; obtain ⟨⟨y⟩⟩:=b; simp at h; subst h; rfl
theorem zjj {a b:ByteArray} {c:UInt8} (h:noB a c):zhm (a ++ ⟨#[c]⟩ ++ b) c = (a, b, true):=by
 have e:(a ++ ⟨#[c]⟩ ++ b).data.toList = a.data.toList ++ c :: b.data.toList:=by rw [zb2, zb2]; simp
 unfold zhm
 rw [e, z2o h]
theorem zqh {a:ByteArray} {c:UInt8} (h:noB a c):zhm a c = (a, ⟨#[]⟩, false):=by
 unfold zhm
 rw [z44 h]
theorem zqc {a:ByteArray} {c:UInt8} (h:noB a c):z0p a c = false:=by
 unfold z0p
 rw [zga c _ h]; rfl
theorem z2p {a:ByteArray} {c:UInt8} (h:noB a c):z3f a c = 0:=by
 unfold z3f Lib.countByte
 exact List.count_eq_zero_of_not_mem h
theorem z5g {a b:ByteArray} (h:zda [a, b] = 0):chk a = 0 ∧ chk b = 0:=by
 simp only [zda] at h
 rcases zb1 a with h1 | h1 <;> rcases zb1 b with h2 | h2 <;> simp [h1, h2] at h ⊢
theorem zzr {a b c:ByteArray} (h:zda [a, b, c] = 0):chk a = 0 ∧ chk b = 0 ∧ chk c = 0:=by
 simp only [zda] at h
 rcases zb1 a with h1 | h1 <;> rcases zb1 b with h2 | h2 <;> rcases zb1 c with h3 | h3 <;> simp [h1, h2, h3] at h ⊢
theorem zsk {a b c:ByteArray} (h:zgu a b c = 0):chk a = 0 ∧ chk b = 0 ∧ (c = ⟨#[]⟩ ∨ chk c = 0):=by
 unfold zgu at h
 split at h
 ·rename_i hc; exact ⟨(z5g h).1, (z5g h).2, .inl hc⟩
 ·exact ⟨(zzr h).1, (zzr h).2.1, .inr (zzr h).2.2⟩
end Go.V
set_option maxRecDepth 20000
namespace Go.V
open Go.Proofs Go.RowKit
theorem _root_.Go.V.ZeZ {A B:Prop} (h:B) (t:Wr B → A:=by intro h; refine z7 (ql rfl rfl rfl rfl) rfl ?_;exact h.h):A:=t ⟨h⟩
theorem _root_.Go.V.Zau {A B:Prop} (h:B) (t:Wr B → A:=by intro h; refine z7 (yb L rfl rfl rfl rfl rfl rfl rfl rfl) rfl ?_;exact h.h):A:=t ⟨h⟩
theorem _root_.Go.V.ZaV {A B:Prop} (h:B) (t:Wr B → A:=by intro h; refine z7 (yg L rfl rfl rfl rfl) rfl ?_;exact h.h):A:=t ⟨h⟩
theorem _root_.Go.V.Zab {A B:Prop} (h:B) (t:Wr B → A:=by intro h; refine z8 (y7 rfl rfl rfl rfl (by assumption)) rfl ?_;exact h.h):A:=t ⟨h⟩
theorem _root_.Go.V.ZbI {A B:Prop} (h:B) (t:Wr B → A:=by intro h; refine z7 (yp rfl rfl rfl rfl (zaa (by omega) (by omega))) rfl ?_;exact h.h):A:=t ⟨h⟩
theorem _root_.Go.V.ZbY {A B:Prop} (h:B) (t:Wr B → A:=by intro h; refine qg (id:=8) [] mixed (by kernel_rfl) ?_;exact h.h):A:=t ⟨h⟩
theorem _root_.Go.V.Ze1 {A B:Prop} (h:B) (t:Wr B → A:=by intro h; refine z8 (yb L rfl rfl rfl rfl rfl rfl rfl rfl) rfl ?_;exact h.h):A:=t ⟨h⟩
theorem _root_.Go.V.Zfa {A B:Prop} (h:B) (t:Wr B → A:=by intro h; refine qg (id:=5) [] mixed (by kernel_rfl) ?_;exact h.h):A:=t ⟨h⟩
theorem _root_.Go.V.ZfJ {A B:Prop} (h:B) (t:Wr B → A:=by intro h; refine z8 (zw L (vs:=[_, _]) (yl rfl) rfl rfl rfl rfl ⟨_, rfl⟩) rfl ?_;exact h.h):A:=t ⟨h⟩
theorem _root_.Go.V.Zf3 {A B:Prop} (h:B) (t:Wr B → A:=by intro h; refine z7 (yx (cs:=[_, _]) rfl rfl z1s rfl rfl) rfl ?_;exact h.h):A:=t ⟨h⟩
theorem _root_.Go.V.Zfn {A B:Prop} (h:B) (t:Wr B → A:=by intro h; refine qg (id:=7) [] mixed (by kernel_rfl) ?_;exact h.h):A:=t ⟨h⟩
theorem _root_.Go.V.ZdD {A B:Prop} (h:B) (t:Wr B → A:=by intro h; refine ZeZ ?_;refine ZeZ ?_;exact h.h):A:=t ⟨h⟩
theorem _root_.Go.V.Zaz {A B:Prop} (h:B) (t:Wr B → A:=by intro h; refine Za ?_;refine ZdD ?_;exact h.h):A:=t ⟨h⟩
theorem _root_.Go.V.Zk {A B:Prop} (h:B) (t:Wr B → A:=by intro h; refine ZF ?_;refine Zb ?_;exact h.h):A:=t ⟨h⟩
theorem _root_.Go.V.Zav {A B:Prop} (h:B) (t:Wr B → A:=by intro h; refine ZF ?_;refine Ze ?_;exact h.h):A:=t ⟨h⟩
theorem _root_.Go.V.Z5 {A B:Prop} (h:B) (t:Wr B → A:=by intro h; refine Zp ?_;refine Za ?_;exact h.h):A:=t ⟨h⟩
theorem _root_.Go.V.ZaW {A B:Prop} (h:B) (t:Wr B → A:=by intro h; refine ZF ?_;refine Zj ?_;exact h.h):A:=t ⟨h⟩
theorem _root_.Go.V.Za6 {A B:Prop} (h:B) (t:Wr B → A:=by intro h; refine Zaz ?_;refine Zav ?_;exact h.h):A:=t ⟨h⟩
theorem _root_.Go.V.ZaJ {A B:Prop} (h:B) (t:Wr B → A:=by intro h; refine Zc ?_;refine Z1 ?_;exact h.h):A:=t ⟨h⟩
theorem _root_.Go.V.ZaK {A B:Prop} (h:B) (t:Wr B → A:=by intro h; refine Zat ?_;refine ZW ?_;exact h.h):A:=t ⟨h⟩
theorem _root_.Go.V.ZaL {A B:Prop} (h:B) (t:Wr B → A:=by intro h; refine ZaV ?_;refine ZF ?_;exact h.h):A:=t ⟨h⟩
theorem _root_.Go.V.ZaX {A B:Prop} (h:B) (t:Wr B → A:=by intro h; refine ZR ?_;refine ZF ?_;exact h.h):A:=t ⟨h⟩
theorem _root_.Go.V.ZaY {A B:Prop} (h:B) (t:Wr B → A:=by intro h; refine Zg ?_;refine Zx ?_;exact h.h):A:=t ⟨h⟩
theorem _root_.Go.V.ZbZ {A B:Prop} (h:B) (t:Wr B → A:=by intro h; refine Z3 ?_;refine Z0 ?_;exact h.h):A:=t ⟨h⟩
theorem _root_.Go.V.ZcJ {A B:Prop} (h:B) (t:Wr B → A:=by intro h; refine Zaz ?_;refine ZaW ?_;exact h.h):A:=t ⟨h⟩
theorem _root_.Go.V.ZcK {A B:Prop} (h:B) (t:Wr B → A:=by intro h; refine Z0 ?_;refine ZV ?_;exact h.h):A:=t ⟨h⟩
theorem _root_.Go.V.ZdE {A B:Prop} (h:B) (t:Wr B → A:=by intro h; refine Zgi ?_;refine Zg ?_;exact h.h):A:=t ⟨h⟩
theorem _root_.Go.V.ZdF {A B:Prop} (h:B) (t:Wr B → A:=by intro h; refine Zcl ?_;refine zh ?_;exact h.h):A:=t ⟨h⟩
def fi (c:UInt8):List UInt8 → Nat
 | [] => 0
 | x :: l => if x = c then 0 else fi c l + 1
theorem z4z {c:UInt8}:∀ {l:List UInt8}, c ∉ l → fi c l = l.length
 | [], _ => rfl
 | x :: l, h => by
  rw [fi, if_neg fun e => h (by rw [e]; exact List.mem_cons_self ..), z4z fun e => h (List.mem_cons_of_mem _ e), List.length_cons]
theorem zrv {c:UInt8} {q:List UInt8}:∀ {p:List UInt8}, c ∉ p → fi c (p ++ q) = p.length + fi c q
 | [], _ => by simp
 | x :: p, h => by
  rw [List.cons_append, fi, if_neg fun e => h (by rw [e]; exact List.mem_cons_self ..), zrv fun e => h (List.mem_cons_of_mem _ e), List.length_cons]; omega
theorem z40 {c:UInt8} {q:List UInt8}:∀ {p:List UInt8}, c ∈ p → fi c (p ++ q) < p.length
 | x :: p, h => by
  rw [List.cons_append, fi]
  split
  ·simp
  ·rename_i hx
   have:=z40 (q:=q) ((List.mem_cons.1 h).resolve_left fun e => hx e.symm)
   simp only [List.length_cons]; omega
theorem zjx (s:ByteArray) (c:UInt8):noB s c ∨ ∃ a b, s = a ++ ⟨#[c]⟩ ++ b ∧ noB a c:=by
 by_cases h:c ∈ s.data.toList
 ·obtain ⟨p, q, e, hp⟩:=List.eq_append_cons_of_mem h
  refine .inr ⟨⟨p.toArray⟩, ⟨q.toArray⟩, zge ?_, by unfold noB; simpa using hp⟩
  rw [zb2, zb2, e]
  simp
 ·exact .inl h
theorem zie (p q r:ByteArray) (i j:Nat) (hi:i = p.size) (hj:j = p.size + q.size):(p ++ q ++ r).extract i j = q:=by
 subst hi hj
 apply zge
 rw [ByteArray.data_extract, Array.toList_extract, List.extract, zb2, zb2]
 have h1:p.data.toList.length = p.size:=zby p
 have h2:q.data.toList.length = q.size:=zby q
 rw [List.append_assoc, ← h1, List.drop_left, List.take_left' (by omega)]
theorem zne {a:ByteArray} {c:UInt8} (h:¬ noB a c):z0p a c = true:=by
 rcases zjx a c with h1 | ⟨p, q, rfl, hp⟩
 ·exact absurd h1 h
 ·unfold z0p
  have e:(p ++ ⟨#[c]⟩ ++ q).data.toList = p.data.toList ++ c :: q.data.toList:=by rw [zb2, zb2]; simp
  rw [e, zfl _ _ _ hp]
  simp
def rp1 (s:ByteArray):ByteArray × ByteArray × ByteArray × Bool × Int :=
 match zei s with
 | none => (zd3, zd3, zd3, false, 5)
 | some (x, y, z, d) => (x, y, z, d, if d = true then zda [x, y, z] else zda [x, y])
theorem zjc (a b:ByteArray) (c:UInt8):(a ++ ⟨#[c]⟩ ++ b).data.toList = a.data.toList ++ c :: b.data.toList:=by rw [zb2, zb2]; simp
theorem zm3 (a b:ByteArray) (c:UInt8):(a ++ ⟨#[c]⟩ ++ b).size = a.size + 1 + b.size:=by rw [ByteArray.size_append, ByteArray.size_append]; rfl
theorem zo9 {s:ByteArray} {c:UInt8} (h:¬ noB s c):0 < s.data.toList.count c:=List.count_pos_iff.2 (Classical.not_not.1 h)
attribute [local irreducible] V N X VO Par StepOK Has Ret RetL Src
set_option maxHeartbeats 1000000 in
theorem zc0 {s:ByteArray} {c:UInt8} {a n:Nat} (ha:fi c s.data.toList = a) (hn:s.data.toList.count c = n) (hs:s.size ≤ 1000000) {w:World} {B:Heap} (hB:B.Le (hp w)) :
  Ret Tryz.prog 116 [.string s, .int .u8 c.toNat] w B (fun v _ => v = .tuple #[.int .i64 a, .int .i64 n]):=by
 subst ha hn
 have hlen:=zby s
 refine yf Tryz.func116 rfl Tryz.ntmps116 (Nat.le_of_ble_eq_true rfl) hB ?_
 refine ZaX ?_;refine ZS ?_;refine Za ?_;refine ZL ?_;refine ZaW ?_;refine ZG ?_;refine ZL ?_;refine ZbI ?_;refine ZE ?_
 refine zal (fun x:Nat × Nat × Nat × Int => [(0, .is (.string s)), (1, .is (.int .u8 c.toNat)), (6, .is (.int .i64 x.2.1)), (7, .is (.int .i64 x.2.2.1)), (8, .is (.int .i64 x.2.2.2))])
  (fun x => x.1 ≤ s.size ∧ x.2.1 = x.1 + fi c (s.data.toList.drop x.1) ∧ x.2.2.1 = (s.data.toList.drop x.1).count c ∧ x.2.2.2 = (x.1:Int) - 1 ∧ x.2.2.1 ≤ s.size - x.1) (fun x => x.1) (s.size, s.size, 0, (s.size:Int) - 1)
  ⟨Nat.le_refl _, by rw [List.drop_eq_nil_of_le (by omega)]; rfl, by rw [List.drop_eq_nil_of_le (by omega)]; rfl, rfl, Nat.zero_le _⟩ ⟨rfl, rfl, rfl, rfl, rfl, trivial⟩ ?_
 rintro ⟨i, a, n, z⟩ ⟨hi, ha, hn, hz, hb⟩
 dsimp only at hi ha hn hz hb ⊢
 cases i with
 | zero =>
  rw [List.drop_zero] at ha hn
  have hz0:z < 0:=by omega
  obtain rfl:a = fi c s.data.toList:=by omega
  subst hn
  refine ZaJ ?_;refine ZA ?_;refine ZdF ?_;refine Z8 ?_;refine Zd ?_;refine Zk ?_
  refine ye L (rs:=[.tmp 4, .tmp 5]) rfl (fun _ _ h => h) Since.refl fun u H hH hle => ?_
  rfl
 | succ k =>
  obtain rfl:z = (k:Int):=by omega
  obtain ⟨x, hc⟩:=getElem?_lt (show k < s.size by omega)
  have hd:s.data.toList[k]? = some x:=by
   have:s.data[k]? = some x:=hc
   simpa using this
  have hdr:s.data.toList.drop k = x :: s.data.toList.drop (k + 1):=by
   have h1:k < s.data.toList.length:=by omega
   rw [List.drop_eq_getElem_cons h1]
   rw [List.getElem?_eq_getElem h1] at hd
   rw [Option.some.inj hd]
  by_cases hx:x = c
  ·subst hx
   refine ZaJ ?_;refine ZaK ?_;refine Zbl ?_;refine Za8 ?_;refine ZbQ ?_;refine Za ?_;refine ZbZ ?_;refine ZD ?_;refine Zb ?_;refine Z5 ?_;refine ZaE ?_;refine ZbR ?_;refine Zu ?_;refine ZbI ?_;refine ZaT ?_
   exact yi (x:=(k + 1, a, n, (k:Int))) (k, k, n + 1, (k:Int) - 1) ⟨by dsimp only; omega, by dsimp only; rw [hdr, fi, if_pos rfl]; rfl, by dsimp only; rw [hdr, List.count_cons_self, hn], rfl, by dsimp only; omega⟩ (by dsimp only; omega) ⟨rfl, rfl, rfl, rfl, rfl, trivial⟩
  ·have hxc:(x.toNat:Int) ≠ (c.toNat:Int):=fun e => hx (UInt8.toNat_inj.1 (by omega))
   refine ZaJ ?_;refine ZaK ?_;refine Zbl ?_;refine Za8 ?_;refine ZbQ ?_;refine Za ?_;refine ZH ?_;refine Za4 ?_;refine Zu ?_;refine ZbI ?_;refine ZaT ?_
   exact yi (x:=(k + 1, a, n, (k:Int))) (k, a, n, (k:Int) - 1) ⟨by dsimp only; omega, by dsimp only; rw [hdr, fi, if_neg hx, ha]; omega, by dsimp only; rw [hdr, List.count_cons_of_ne hx, hn], rfl, by dsimp only; omega⟩ (by dsimp only; omega) ⟨rfl, rfl, rfl, rfl, rfl, trivial⟩
set_option maxHeartbeats 2000000 in
theorem zpx {s:ByteArray} {r:ByteArray × ByteArray × ByteArray × Bool × Int} (hr:rp1 s = r) (hs:s.size ≤ 1000000) {w:World} {B:Heap} (hB:B.Le (hp w)) :
  Ret Tryz.prog 76 [.string s] w B (fun v _ => v = .tuple #[.agg #[.string r.1, .string r.2.1], .string r.2.2.1, .bool r.2.2.2.1, .int .i64 r.2.2.2.2]):=by
 subst hr
 have bad:zei s = none → ∀ {m k m2 k2:Nat}, fi 58 s.data.toList = m → s.data.toList.count 58 = k → fi 35 s.data.toList = m2 → s.data.toList.count 35 = k2 → (k ≠ 1 ∨ 1 < k2 ∨ m2 < m) →
   Ret Tryz.prog 76 [.string s] w B (fun v _ => v = .tuple #[.agg #[.string (rp1 s).1, .string (rp1 s).2.1], .string (rp1 s).2.2.1, .bool (rp1 s).2.2.2.1, .int .i64 (rp1 s).2.2.2.2]):=by
  intro hp m k m2 k2 e1 e2 e3 e4 hor
  have hr1:rp1 s = (zd3, zd3, zd3, false, 5):=by unfold rp1; rw [hp]
  rw [hr1]
  refine yf Tryz.func76 rfl Tryz.ntmps76 (Nat.le_of_ble_eq_true rfl) hB ?_
  by_cases c1:k = 1
  ·by_cases c2:1 < k2
   ·refine ZR ?_;refine ZaL ?_;refine ZF ?_;refine ZS ?_;refine Za ?_;refine z7 (zp L rfl rfl (zk rfl) rfl rfl rfl (fun u H hH _ _ => zc0 (c:=58) e1 e2 hs hH)) rfl ?_;refine Za6 ?_;refine ZG ?_;refine z7 (zp L rfl rfl (zk rfl) rfl rfl rfl (fun u H hH _ _ => zc0 (c:=35) e3 e4 hs hH)) rfl ?_;refine ZcJ ?_;refine Z1 ?_;refine ZK ?_;refine Zd ?_;refine ZdR ?_;refine ZaS ?_;refine ZcK ?_;refine Zf3 ?_;refine Zau ?_;refine ZF ?_;refine Zk ?_
    refine ye L (rs:=[.cell 2 109, .tmp 3, .tmp 4, .tmp 5]) rfl (fun _ _ h => h) Since.refl fun u H hH hle => ?_
    exact ⟨_, yl rfl, rfl, rfl⟩
   ·have c3:m2 < m:=by omega
    refine ZR ?_;refine ZaL ?_;refine ZF ?_;refine ZS ?_;refine Za ?_;refine z7 (zp L rfl rfl (zk rfl) rfl rfl rfl (fun u H hH _ _ => zc0 (c:=58) e1 e2 hs hH)) rfl ?_;refine Za6 ?_;refine ZG ?_;refine z7 (zp L rfl rfl (zk rfl) rfl rfl rfl (fun u H hH _ _ => zc0 (c:=35) e3 e4 hs hH)) rfl ?_;refine ZcJ ?_;refine Z1 ?_;refine ZK ?_;refine Zd ?_;refine Zch ?_;refine Z2 ?_;refine ZT ?_;refine Zg ?_;refine ZcK ?_;refine Zf3 ?_;refine Zau ?_;refine ZF ?_;refine Zk ?_
    refine ye L (rs:=[.cell 2 109, .tmp 3, .tmp 4, .tmp 5]) rfl (fun _ _ h => h) Since.refl fun u H hH hle => ?_
    exact ⟨_, yl rfl, rfl, rfl⟩
  ·refine ZR ?_;refine ZaL ?_;refine ZF ?_;refine ZS ?_;refine Za ?_;refine z7 (zp L rfl rfl (zk rfl) rfl rfl rfl (fun u H hH _ _ => zc0 (c:=58) e1 e2 hs hH)) rfl ?_;refine Za6 ?_;refine ZG ?_;refine z7 (zp L rfl rfl (zk rfl) rfl rfl rfl (fun u H hH _ _ => zc0 (c:=35) e3 e4 hs hH)) rfl ?_;refine ZcJ ?_;refine Z1 ?_;refine ZcA ?_;refine ZdE ?_;refine ZaS ?_;refine ZcK ?_;refine Zf3 ?_;refine Zau ?_;refine ZF ?_;refine Zk ?_
   refine ye L (rs:=[.cell 2 109, .tmp 3, .tmp 4, .tmp 5]) rfl (fun _ _ h => h) Since.refl fun u H hH hle => ?_
   exact ⟨_, yl rfl, rfl, rfl⟩
 rcases zjx s 58 with h58 | ⟨a, b, rfl, ha⟩
 ·refine bad ?_ rfl rfl rfl rfl (.inl ?_)
  ·unfold zei; rw [zqh h58]; simp
  ·rw [List.count_eq_zero_of_not_mem h58]; decide
 ·have hcut:zhm (a ++ ⟨#[58]⟩ ++ b) 58 = (a, b, true):=zjj ha
  have hls:=zjc a b 58
  have hsz:=zm3 a b 58
  by_cases hb:noB b 58
  ·have hf1:fi 58 (a ++ ⟨#[58]⟩ ++ b).data.toList = a.size:=by rw [hls, zrv ha, zby]; simp [fi]
   have hc1:(a ++ ⟨#[58]⟩ ++ b).data.toList.count 58 = 1:=by rw [hls, List.count_append, List.count_cons_self, List.count_eq_zero_of_not_mem ha, List.count_eq_zero_of_not_mem hb]
   by_cases ha3:noB a 35
   ·have hf2:fi 35 (a ++ ⟨#[58]⟩ ++ b).data.toList = a.size + 1 + fi 35 b.data.toList:=by rw [hls, zrv ha3, zby, fi, if_neg (by decide)]; omega
    have hc2:(a ++ ⟨#[58]⟩ ++ b).data.toList.count 35 = b.data.toList.count 35:=by rw [hls, List.count_append, List.count_eq_zero_of_not_mem ha3, List.count_cons_of_ne (by decide)]; omega
    have hn1:=zqc ha3
    have hn2:=zqc hb
    have za:a.size ≤ 1099511627776:=by omega
    have zb:b.size ≤ 1099511627776:=by omega
    have hadd1:IntKind.i64.wrap ((a.size:Int) + 1) = ((a.size + 1:Nat):Int):=zaa (by omega) (by omega) |>.trans (by omega)
    have x1:(a ++ ⟨#[58]⟩ ++ b).extract 0 a.size = a:=by
     have:=zie ⟨#[]⟩ a (⟨#[58]⟩ ++ b) 0 a.size rfl (by show _ = 0 + _; omega)
     conv => rhs; rw [← this]
     congr 1; apply zge; simp [zb2]
    rcases zjx b 35 with hb3 | ⟨c, e, rfl, hc3⟩
    ·have hp:zei (a ++ ⟨#[58]⟩ ++ b) = some (a, b, zd3, false):=by
      unfold zei; rw [hcut]
      simp only [hn1, hn2, z2p hb3, zqh hb3]
      simp
     have hr1:rp1 (a ++ ⟨#[58]⟩ ++ b) = (a, b, zd3, false, zda [a, b]):=by unfold rp1; rw [hp]; rfl
     rw [hr1]
     have hf3:fi 35 (a ++ ⟨#[58]⟩ ++ b).data.toList = a.size + 1 + b.size:=by rw [hf2, z4z hb3, zby]
     have hc3:(a ++ ⟨#[58]⟩ ++ b).data.toList.count 35 = 0:=by rw [hc2, List.count_eq_zero_of_not_mem hb3]
     have x2:(a ++ ⟨#[58]⟩ ++ b).extract (a.size + 1) (a.size + 1 + b.size) = b:=by
      have:=zie (a ++ ⟨#[58]⟩) b ⟨#[]⟩ (a.size + 1) (a.size + 1 + b.size) (by rw [ByteArray.size_append]; rfl) (by rw [ByteArray.size_append]; rfl)
      conv => rhs; rw [← this]
      congr 1; apply zge; simp [zb2]
     generalize a ++ ⟨#[58]⟩ ++ b = s at *
     refine yf Tryz.func76 rfl Tryz.ntmps76 (Nat.le_of_ble_eq_true rfl) hB ?_
     refine ZR ?_;refine ZaL ?_;refine ZF ?_;refine ZS ?_;refine Za ?_;refine z7 (zp L rfl rfl (zk rfl) rfl rfl rfl (fun u H hH _ _ => zc0 (c:=58) hf1 hc1 hs hH)) rfl ?_;refine Za6 ?_;refine ZG ?_;refine z7 (zp L rfl rfl (zk rfl) rfl rfl rfl (fun u H hH _ _ => zc0 (c:=35) hf3 hc3 hs hH)) rfl ?_;refine ZcJ ?_;refine Z1 ?_;refine ZK ?_;refine Zd ?_;refine Zch ?_;refine Z2 ?_;refine Z4 ?_;refine ZaY ?_;refine Zfa ?_;refine Zi ?_;refine z8 (zbz L (kl:=.i64) (pl:=0) 0 a.size rfl rfl rfl rfl rfl ⟨rfl, rfl⟩ (by omega) (by omega) x1) rfl ?_;refine Zi ?_;refine Zab ?_;refine Zh ?_;refine z8 (zbz L (a.size + 1) (a.size + 1 + b.size) rfl rfl rfl rfl ⟨rfl, rfl⟩ ⟨rfl, rfl⟩ (by omega) (by omega) x2) rfl ?_;refine z8 (yx (cs:=[_, _]) rfl rfl z1s rfl rfl) rfl ?_;refine z8 (yg L rfl rfl rfl rfl) rfl ?_;refine Ze1 ?_;refine Zaj ?_;refine Zc ?_;refine ZD ?_;refine ZbZ ?_;refine Zfn ?_;refine ZfJ ?_;refine ZfJ ?_;refine z8 (zp L rfl rfl (zk rfl) rfl rfl rfl (fun u H hH _ _ => zeh (by first | assumption | omega | decide) (by first | assumption | omega | decide) hH)) rfl ?_;refine Ze1 ?_;refine Zbn ?_;refine Zbn ?_;refine Zw ?_
     refine ye L (rs:=[.cell 2 109, .tmp 3, .tmp 4, .tmp 5]) rfl (fun _ _ h => h) Since.refl fun u H hH hle => ?_
     exact ⟨_, yl rfl, rfl, rfl⟩
    ·have hls2:=zjc c e 35
     have hsz2:=zm3 c e 35
     by_cases he3:noB e 35
     ·have hcn:(c ++ ⟨#[35]⟩ ++ e).data.toList.count 35 = 1:=by rw [hls2, List.count_append, List.count_cons_self, List.count_eq_zero_of_not_mem hc3, List.count_eq_zero_of_not_mem he3]
      have hp:zei (a ++ ⟨#[58]⟩ ++ (c ++ ⟨#[35]⟩ ++ e)) = some (a, c, e, true):=by
       unfold zei; rw [hcut]
       have h4:z3f (c ++ ⟨#[35]⟩ ++ e) 35 = 1:=hcn
       simp only [hn1, hn2, h4, zjj hc3]
       simp
      have hr1:rp1 (a ++ ⟨#[58]⟩ ++ (c ++ ⟨#[35]⟩ ++ e)) = (a, c, e, true, zda [a, c, e]):=by unfold rp1; rw [hp]; rfl
      rw [hr1]
      have hf3:fi 35 (a ++ ⟨#[58]⟩ ++ (c ++ ⟨#[35]⟩ ++ e)).data.toList = a.size + 1 + c.size:=by rw [hf2, hls2, zrv hc3, zby]; simp [fi]
      have hc4:(a ++ ⟨#[58]⟩ ++ (c ++ ⟨#[35]⟩ ++ e)).data.toList.count 35 = 1:=by rw [hc2, hcn]
      have x2:(a ++ ⟨#[58]⟩ ++ (c ++ ⟨#[35]⟩ ++ e)).extract (a.size + 1) (a.size + 1 + c.size) = c:=by
       have:=zie (a ++ ⟨#[58]⟩) c (⟨#[35]⟩ ++ e) (a.size + 1) (a.size + 1 + c.size) (by rw [ByteArray.size_append]; rfl) (by rw [ByteArray.size_append]; rfl)
       conv => rhs; rw [← this]
       congr 1; apply zge; simp [zb2]
      have x3:(a ++ ⟨#[58]⟩ ++ (c ++ ⟨#[35]⟩ ++ e)).extract (a.size + 1 + c.size + 1) (a ++ ⟨#[58]⟩ ++ (c ++ ⟨#[35]⟩ ++ e)).size = e:=by
       have:=zie (a ++ ⟨#[58]⟩ ++ c ++ ⟨#[35]⟩) e ⟨#[]⟩ (a.size + 1 + c.size + 1) (a ++ ⟨#[58]⟩ ++ (c ++ ⟨#[35]⟩ ++ e)).size (by simp only [ByteArray.size_append]; rfl) (by simp only [ByteArray.size_append]; rw [show (⟨#[58]⟩:ByteArray).size = 1 from rfl, show (⟨#[35]⟩:ByteArray).size = 1 from rfl]; omega)
       conv => rhs; rw [← this]
       congr 1; apply zge; simp [zb2]
      have hsz3:(a ++ ⟨#[58]⟩ ++ (c ++ ⟨#[35]⟩ ++ e)).size = a.size + 1 + (c.size + 1 + e.size):=by rw [hsz, hsz2]
      have zc:c.size ≤ 1099511627776:=by omega
      have ze:e.size ≤ 1099511627776:=by omega
      have hadd2:IntKind.i64.wrap (((a.size + 1 + c.size:Nat):Int) + 1) = ((a.size + 1 + c.size + 1:Nat):Int):=zaa (by omega) (by omega) |>.trans (by omega)
      have hmx:=z6i a c e
      generalize a ++ ⟨#[58]⟩ ++ (c ++ ⟨#[35]⟩ ++ e) = s at *
      refine yf Tryz.func76 rfl Tryz.ntmps76 (Nat.le_of_ble_eq_true rfl) hB ?_
      refine ZR ?_;refine ZaL ?_;refine ZF ?_;refine ZS ?_;refine Za ?_;refine z7 (zp L rfl rfl (zk rfl) rfl rfl rfl (fun u H hH _ _ => zc0 (c:=58) hf1 hc1 hs hH)) rfl ?_;refine Za6 ?_;refine ZG ?_;refine z7 (zp L rfl rfl (zk rfl) rfl rfl rfl (fun u H hH _ _ => zc0 (c:=35) hf3 hc4 hs hH)) rfl ?_;refine ZcJ ?_;refine Z1 ?_;refine ZK ?_;refine Zd ?_;refine Zch ?_;refine Z2 ?_;refine Z4 ?_;refine ZaY ?_;refine Zfa ?_;refine Zi ?_;refine z8 (zbz L (kl:=.i64) (pl:=0) 0 a.size rfl rfl rfl rfl rfl ⟨rfl, rfl⟩ (by omega) (by omega) x1) rfl ?_;refine Zi ?_;refine Zab ?_;refine Zh ?_;refine z8 (zbz L (a.size + 1) (a.size + 1 + c.size) rfl rfl rfl rfl ⟨rfl, rfl⟩ ⟨rfl, rfl⟩ (by omega) (by omega) x2) rfl ?_;refine z8 (yx (cs:=[_, _]) rfl rfl z1s rfl rfl) rfl ?_;refine z8 (yg L rfl rfl rfl rfl) rfl ?_;refine Ze1 ?_;refine Zaj ?_;refine Zc ?_;refine ZD ?_;refine Zax ?_;refine ZbY ?_;refine ZfJ ?_;refine Zi ?_;refine Zab ?_;refine z8 (zbz L (kh:=.i64) (ph:=0) (a.size + 1 + c.size + 1) _ rfl rfl rfl rfl ⟨rfl, rfl⟩ rfl (by omega) (by omega) x3) rfl ?_;refine ZfJ ?_;refine z8 (zp L rfl rfl (zk rfl) rfl rfl rfl (fun u H hH _ _ => zeh (by first | assumption | omega | decide) (by first | assumption | omega | decide) hH)) rfl ?_;refine Zi ?_;refine Zab ?_;refine z8 (zbz L (kh:=.i64) (ph:=0) (a.size + 1 + c.size + 1) _ rfl rfl rfl rfl ⟨rfl, rfl⟩ rfl (by omega) (by omega) x3) rfl ?_;refine z8 (zp L rfl rfl (zk rfl) rfl rfl rfl (fun u H hH _ _ => ze4 (by first | omega | decide) hH)) rfl ?_;refine z8 (zfq rfl rfl rfl rfl (by assumption)) rfl ?_;refine Ze1 ?_;refine Zbn ?_;refine Zbn ?_;refine Zw ?_
      refine ye L (rs:=[.cell 2 109, .tmp 3, .tmp 4, .tmp 5]) rfl (fun _ _ h => h) Since.refl fun u H hH hle => ?_
      exact ⟨_, yl rfl, rfl, rfl⟩
     ·have hcn:1 < (c ++ ⟨#[35]⟩ ++ e).data.toList.count 35:=by have:=zo9 he3; rw [hls2, List.count_append, List.count_cons_self]; omega
      refine bad ?_ rfl rfl rfl rfl (.inr (.inl (by rw [hc2]; exact hcn)))
      unfold zei; rw [hcut]
      have h4:¬ z3f (c ++ ⟨#[35]⟩ ++ e) 35 ≤ 1:=by unfold z3f Lib.countByte; omega
      simp only [h4, and_false, if_false]
   ·refine bad ?_ rfl rfl rfl rfl (.inr (.inr ?_))
    ·unfold zei; rw [hcut]
     simp only [zne ha3]
     simp
    ·rw [hf1, hls, ← zby]
     exact z40 (Classical.not_not.1 ha3)
  ·refine bad ?_ rfl rfl rfl rfl (.inl ?_)
   ·unfold zei; rw [hcut]
    simp only [zne hb]
    simp
   ·have:=zo9 hb
    rw [hls, List.count_append, List.count_cons_self]; omega
theorem zb6 {s x y z:ByteArray} {d:Bool} {e:Int} (hr:rp1 s = (x, y, z, d, e)) (hs:s.size ≤ 1000000) {w:World} {B:Heap} (hB:B.Le (hp w)) :
  Ret Tryz.prog 76 [.string s] w B (fun v _ => v = .tuple #[.agg #[.string x, .string y], .string z, .bool d, .int .i64 e]):=zpx hr hs hB
end Go.V
set_option maxRecDepth 20000
namespace Go.V.L2
open Go.Proofs Go.RowKit Go.V
theorem _root_.Go.V.ZZ {A B:Prop} (h:B) (t:Wr B → A:=by intro h; refine z7 (y7 rfl rfl rfl rfl (by assumption)) rfl ?_;exact h.h):A:=t ⟨h⟩
theorem _root_.Go.V.Zs {A B:Prop} (h:B) (t:Wr B → A:=by intro h; refine z7 (z0k rfl rfl rfl rfl) rfl ?_;exact h.h):A:=t ⟨h⟩
theorem _root_.Go.V.ZeH {A B:Prop} (h:B) (t:Wr B → A:=by intro h; refine z7 (yx (cs:=[_, _, _, _, _, _]) rfl rfl z6b rfl rfl) rfl ?_;exact h.h):A:=t ⟨h⟩
theorem _root_.Go.V.Zaw {A B:Prop} (h:B) (t:Wr B → A:=by intro h; refine zf (id:=14) ?_;exact h.h):A:=t ⟨h⟩
theorem _root_.Go.V.Zcr {A B:Prop} (h:B) (t:Wr B → A:=by intro h; refine zf (id:=13) ?_;exact h.h):A:=t ⟨h⟩
theorem _root_.Go.V.Za9 {A B:Prop} (h:B) (t:Wr B → A:=by intro h; refine zf (id:=15) ?_;exact h.h):A:=t ⟨h⟩
theorem _root_.Go.V.ZdG {A B:Prop} (h:B) (t:Wr B → A:=by intro h; refine zf (id:=18) ?_;exact h.h):A:=t ⟨h⟩
theorem _root_.Go.V.Zap {A B:Prop} (h:B) (t:Wr B → A:=by intro h; refine zf (id:=16) ?_;exact h.h):A:=t ⟨h⟩
theorem _root_.Go.V.Zca {A B:Prop} (h:B) (t:Wr B → A:=by intro h; refine zf (id:=17) ?_;exact h.h):A:=t ⟨h⟩
theorem _root_.Go.V.Zfb {A B:Prop} (h:B) (t:Wr B → A:=by intro h; refine z7 (zw L (vs:=[_, _]) (yl rfl) rfl rfl rfl rfl ⟨_, rfl⟩) rfl ?_;exact h.h):A:=t ⟨h⟩
theorem _root_.Go.V.Zfc {A B:Prop} (h:B) (t:Wr B → A:=by intro h; refine z7 (y9 rfl rfl rfl rfl rfl) rfl ?_;exact h.h):A:=t ⟨h⟩
theorem _root_.Go.V.ZX {A B:Prop} (h:B) (t:Wr B → A:=by intro h; refine ZaV ?_;refine Zau ?_;exact h.h):A:=t ⟨h⟩
theorem _root_.Go.V.Za0 {A B:Prop} (h:B) (t:Wr B → A:=by intro h; refine Zau ?_;refine Zb ?_;exact h.h):A:=t ⟨h⟩
theorem _root_.Go.V.Zb5 {A B:Prop} (h:B) (t:Wr B → A:=by intro h; refine Zak ?_;refine Za ?_;exact h.h):A:=t ⟨h⟩
theorem _root_.Go.V.ZbJ {A B:Prop} (h:B) (t:Wr B → A:=by intro h; refine Zd ?_;refine ZZ ?_;exact h.h):A:=t ⟨h⟩
theorem _root_.Go.V.Zcs {A B:Prop} (h:B) (t:Wr B → A:=by intro h; refine Zcr ?_;refine Za ?_;exact h.h):A:=t ⟨h⟩
theorem _root_.Go.V.ZcL {A B:Prop} (h:B) (t:Wr B → A:=by intro h; refine ZR ?_;refine ZaV ?_;exact h.h):A:=t ⟨h⟩
theorem _root_.Go.V.ZdZ {A B:Prop} (h:B) (t:Wr B → A:=by intro h; refine Zag ?_;refine Zd ?_;exact h.h):A:=t ⟨h⟩
theorem _root_.Go.V.Zea {A B:Prop} (h:B) (t:Wr B → A:=by intro h; refine Zs ?_;refine Zg ?_;exact h.h):A:=t ⟨h⟩
theorem z1v (a:ByteArray):pgA a = if (rp1 a).2.2.2.1 = false then (zd3, zd3, zd3, 5) else if (rp1 a).2.2.2.2 = 0 then ((rp1 a).1, (rp1 a).2.1, (rp1 a).2.2.1, 0) else (zd3, zd3, zd3, (rp1 a).2.2.2.2):=by
 unfold pgA rp1
 rcases zei a with _ | ⟨x, y, z, d⟩
 ·rfl
 ·cases d
  ·rfl
  ·simp only [if_true]
theorem z3x (a:ByteArray):psA a = if (rp1 a).2.2.2.2 = 0 then ((rp1 a).1, (rp1 a).2.1, (rp1 a).2.2.1, 0) else (zd3, zd3, zd3, (rp1 a).2.2.2.2):=by
 unfold psA rp1
 rcases zei a with _ | ⟨x, y, z, d⟩
 ·rfl
 ·dsimp only
  cases d
  ·simp
  ·simp only [if_true, zda]
   rcases zb1 x with h1 | h1 <;> rcases zb1 y with h2 | h2 <;> rcases zb1 z with h3 | h3 <;> simp [h1, h2, h3]
theorem z61 {l a b:List UInt8} {c:UInt8} {k:Nat} (e:l = a ++ c :: b) (ha:c ∉ a) (hb:c ∉ b) (hk:l[k]? = some c):k = a.length:=by
 subst e
 rcases Nat.lt_trichotomy k a.length with h | h | h
 ·rw [List.getElem?_append_left h] at hk
  exact absurd (List.mem_of_getElem? hk) ha
 ·exact h
 ·rw [List.getElem?_append_right (by omega), show k - a.length = (k - a.length - 1) + 1 by omega, List.getElem?_cons_succ] at hk
  exact absurd (List.mem_of_getElem? hk) hb
attribute [local irreducible] V N X VO Par StepOK Has Ret RetL Src
set_option maxHeartbeats 4000000 in
theorem zka {s:ByteArray} {r:U × Int} (hr:ptA s = r) (hs:s.size ≤ 1000000) {w:World} {B:Heap} (hB:B.Le (hp w)) :
  Ret Tryz.prog 47 [.string s] w B (fun v _ => v = .tuple #[uv r.1, .int .i64 r.2]):=by
 subst hr
 have hlen:=zby s
 refine yf Tryz.func47 rfl Tryz.ntmps47 (Nat.le_of_ble_eq_true rfl) hB ?_
 refine ZcL ?_;refine ZS ?_;refine ZaW ?_;refine ZdB ?_
 refine zal (fun x:Nat × Nat × Nat => [(0, .is (.string s)), (2, .own (Cell [.string ⟨#[]⟩, .string ⟨#[]⟩, .string ⟨#[]⟩, .string ⟨#[]⟩, .string ⟨#[]⟩, .string ⟨#[]⟩] tyU)), (4, .is (.int .i64 x.2.1)), (5, .is (.int .i64 x.2.2)), (6, .is (.int .i64 x.1))])
  (fun x => x.1 ≤ s.size ∧ x.2.2 = (s.data.toList.take x.1).count 64 ∧ x.2.2 ≤ x.1 ∧ (x.2.2 = 1 → x.2.1 < s.size ∧ s.data.toList[x.2.1]? = some 64)) (fun x => s.size - x.1) (0, 0, 0)
  ⟨Nat.zero_le _, by simp, Nat.le_refl _, fun h => by cases h⟩ ⟨rfl, rfl, rfl, rfl, rfl, trivial⟩ ?_
 rintro ⟨i, k, n⟩ ⟨hi, hn, hni, hk⟩
 dsimp only at hi hn hni hk ⊢
 by_cases hlt:i < s.size
 ·obtain ⟨x, hc⟩:=getElem?_lt hlt
  have hd:s.data.toList[i]? = some x:=by
   have:s.data[i]? = some x:=hc
   simpa using this
  have htk:s.data.toList.take (i + 1) = s.data.toList.take i ++ [x]:=by rw [List.take_add_one, hd]; rfl
  by_cases hx:x = 64
  ·subst hx
   refine Zbd ?_;refine ZbG ?_;refine Zbl ?_;refine Za8 ?_;refine ZbQ ?_;refine Zfc ?_;refine Z0 ?_;refine ZD ?_;refine Zb ?_;refine Z5 ?_;refine ZaE ?_;refine ZbR ?_;refine ZdC ?_
   exact yi (x:=(i, k, n)) (i + 1, i, n + 1) ⟨hlt, by dsimp only; rw [htk, List.count_append, ← hn]; rfl, by dsimp only; omega, fun _ => ⟨hlt, hd⟩⟩ (by dsimp only; omega) ⟨rfl, rfl, rfl, rfl, rfl, trivial⟩
  ·have hxc:(x.toNat:Int) ≠ 64:=fun e => hx (UInt8.toNat_inj.1 (by show x.toNat = 64; omega))
   refine Zbd ?_;refine ZbG ?_;refine Zbl ?_;refine Za8 ?_;refine ZbQ ?_;refine ZH ?_;refine Za4 ?_;refine ZdC ?_
   exact yi (x:=(i, k, n)) (i + 1, k, n) ⟨hlt, by dsimp only; rw [htk, List.count_append, ← hn, List.count_cons_of_ne hx]; rfl, by dsimp only; omega, hk⟩ (by dsimp only; omega) ⟨rfl, rfl, rfl, rfl, rfl, trivial⟩
 ·obtain rfl:i = s.size:=by omega
  rw [List.take_of_length_le (by omega)] at hn
  by_cases h1:n = 1
  ·obtain ⟨hk1, hk2⟩:=hk h1
   rcases zjx s 64 with h64 | ⟨a, b, rfl, ha⟩
   ·rw [List.count_eq_zero_of_not_mem h64] at hn; omega
   ·have hls:=zjc a b 64
    have hsz:=zm3 a b 64
    have hb:noB b 64:=fun hm => by
     have:=List.count_pos_iff.2 hm
     rw [hls, List.count_append, List.count_cons_self] at hn
     omega
    obtain rfl:k = a.size:=(z61 hls ha hb hk2).trans (zby a)
    have hcut:zhm (a ++ ⟨#[64]⟩ ++ b) 64 = (a, b, true):=zjj ha
    have x1:(a ++ ⟨#[64]⟩ ++ b).extract 0 a.size = a:=by
     have:=zie ⟨#[]⟩ a (⟨#[64]⟩ ++ b) 0 a.size rfl (by show _ = 0 + _; omega)
     conv => rhs; rw [← this]
     congr 1; apply zge; simp [zb2]
    have x2:(a ++ ⟨#[64]⟩ ++ b).extract (a.size + 1) (a ++ ⟨#[64]⟩ ++ b).size = b:=by
     have:=zie (a ++ ⟨#[64]⟩) b ⟨#[]⟩ (a.size + 1) (a ++ ⟨#[64]⟩ ++ b).size (by rw [ByteArray.size_append]; rfl) (by rw [ByteArray.size_append])
     conv => rhs; rw [← this]
     congr 1; apply zge; simp [zb2]
    have za:a.size ≤ 1000000:=by omega
    have zb:b.size ≤ 1000000:=by omega
    have hadd:IntKind.i64.wrap ((a.size:Int) + 1) = ((a.size + 1:Nat):Int):=zaa (by omega) (by omega) |>.trans (by omega)
    have hpt:ptA (a ++ ⟨#[64]⟩ ++ b) = if (pgA a).2.2.2 = 0 then (if (psA b).2.2.2 = 0 then (((((pgA a).1, (pgA a).2.1), (pgA a).2.2.1), (((psA b).1, (psA b).2.1), (psA b).2.2.1)), 0) else ((((⟨#[]⟩, ⟨#[]⟩), ⟨#[]⟩), ((⟨#[]⟩, ⟨#[]⟩), ⟨#[]⟩)), (psA b).2.2.2)) else ((((⟨#[]⟩, ⟨#[]⟩), ⟨#[]⟩), ((⟨#[]⟩, ⟨#[]⟩), ⟨#[]⟩)), (pgA a).2.2.2):=by
     unfold ptA
     rw [hcut]
     dsimp only
     rw [if_pos ⟨rfl, zqc hb⟩]
    clear hk hk2 hn hcut
    generalize a ++ ⟨#[64]⟩ ++ b = s at *
    rcases hra:rp1 a with ⟨o1, o2, rel, has, e⟩
    rcases hrb:rp1 b with ⟨p1, p2, rel2, has2, e2⟩
    cases has
    ·have g1:pgA a = (zd3, zd3, zd3, 5):=by rw [z1v, hra]; rfl
     rw [hpt, g1, if_neg (by decide)]
     by_cases h5:e = 5
     ·skip
      refine Zbd ?_;refine ZbU ?_;refine ZcE ?_;refine Zas ?_;refine ZdZ ?_;refine z7 (zbz L (kl:=.i64) (pl:=0) 0 a.size rfl rfl rfl rfl rfl ⟨rfl, rfl⟩ (by omega) (by omega) x1) rfl ?_;refine z7 (zp L rfl rfl (zk rfl) rfl rfl rfl (fun u H hH _ _ => zb6 hra za hH)) rfl ?_;refine Zaz ?_;refine ZdD ?_;refine ZX ?_;refine ZF ?_;refine ZaW ?_;refine Zb5 ?_;refine ZK ?_;refine ZdE ?_;refine Zr ?_;refine Zcs ?_;refine ZP ?_;refine Zaw ?_;refine ZeH ?_;refine Za ?_;refine Za0 ?_
      refine ye L (rs:=[.cell 2 114, .tmp 3]) rfl (fun _ _ h => h) Since.refl fun u H hH hle => ?_
      refine ⟨_, yl rfl, rfl, ?_⟩
      rw [h5]; rfl
     ·refine Zbd ?_;refine ZbU ?_;refine ZcE ?_;refine Zas ?_;refine ZdZ ?_;refine z7 (zbz L (kl:=.i64) (pl:=0) 0 a.size rfl rfl rfl rfl rfl ⟨rfl, rfl⟩ (by omega) (by omega) x1) rfl ?_;refine z7 (zp L rfl rfl (zk rfl) rfl rfl rfl (fun u H hH _ _ => zb6 hra za hH)) rfl ?_;refine Zaz ?_;refine ZdD ?_;refine ZX ?_;refine ZF ?_;refine ZaW ?_;refine Zb5 ?_;refine ZcA ?_;refine Zd ?_;refine Zs ?_;refine Zar ?_;refine ZQ ?_;refine Zj ?_;refine Zcs ?_;refine ZP ?_;refine Zaw ?_;refine ZeH ?_;refine Za ?_;refine Za0 ?_
      refine ye L (rs:=[.cell 2 114, .tmp 3]) rfl (fun _ _ h => h) Since.refl fun u H hH hle => ?_
      exact ⟨_, yl rfl, rfl, rfl⟩
    ·by_cases h0:e = 0
     ·have g1:pgA a = (o1, o2, rel, 0):=by rw [z1v, hra]; dsimp only; rw [if_neg (by decide), if_pos h0]
      by_cases h02:e2 = 0
      ·have g2:psA b = (p1, p2, rel2, 0):=by rw [z3x, hrb]; dsimp only; rw [if_pos h02]
       rw [hpt, g1, g2, if_pos rfl, if_pos rfl]
       refine Zbd ?_;refine ZbU ?_;refine ZcE ?_;refine Zas ?_;refine ZdZ ?_;refine z7 (zbz L (kl:=.i64) (pl:=0) 0 a.size rfl rfl rfl rfl rfl ⟨rfl, rfl⟩ (by omega) (by omega) x1) rfl ?_;refine z7 (zp L rfl rfl (zk rfl) rfl rfl rfl (fun u H hH _ _ => zb6 hra za hH)) rfl ?_;refine Zaz ?_;refine ZdD ?_;refine ZX ?_;refine ZF ?_;refine ZaW ?_;refine Zb5 ?_;refine ZcA ?_;refine Zd ?_;refine Zea ?_;refine Zr ?_;refine Zcs ?_;refine Zas ?_;refine Za9 ?_;refine ZbJ ?_;refine z7 (zbz L (kh:=.i64) (ph:=0) (a.size + 1) _ rfl rfl rfl rfl ⟨rfl, rfl⟩ rfl (by omega) (by omega) x2) rfl ?_;refine z7 (zp L rfl rfl (zk rfl) rfl rfl rfl (fun u H hH _ _ => zb6 hrb zb hH)) rfl ?_;refine Zaz ?_;refine ZdD ?_;refine ZX ?_;refine ZF ?_;refine ZaW ?_;refine Zap ?_;refine Za ?_;refine Zas ?_;refine ZdG ?_;refine Zfb ?_;refine Za ?_;refine z7 (yx (cs:=[_, _, _]) rfl rfl z36 rfl rfl) rfl ?_;refine Zfb ?_;refine Za ?_;refine z7 (yx (cs:=[_, _, _]) rfl rfl z35 rfl rfl) rfl ?_;refine ZeH ?_;refine Za0 ?_
       refine ye L (rs:=[.cell 2 114, .tmp 3]) rfl (fun _ _ h => h) Since.refl fun u H hH hle => ?_
       exact ⟨_, yl rfl, rfl, rfl⟩
      ·have g2:psA b = (zd3, zd3, zd3, e2):=by rw [z3x, hrb]; dsimp only; rw [if_neg h02]
       rw [hpt, g1, g2, if_pos rfl, if_neg h02]
       refine Zbd ?_;refine ZbU ?_;refine ZcE ?_;refine Zas ?_;refine ZdZ ?_;refine z7 (zbz L (kl:=.i64) (pl:=0) 0 a.size rfl rfl rfl rfl rfl ⟨rfl, rfl⟩ (by omega) (by omega) x1) rfl ?_;refine z7 (zp L rfl rfl (zk rfl) rfl rfl rfl (fun u H hH _ _ => zb6 hra za hH)) rfl ?_;refine Zaz ?_;refine ZdD ?_;refine ZX ?_;refine ZF ?_;refine ZaW ?_;refine Zb5 ?_;refine ZcA ?_;refine Zd ?_;refine Zea ?_;refine Zr ?_;refine Zcs ?_;refine Zas ?_;refine Za9 ?_;refine ZbJ ?_;refine z7 (zbz L (kh:=.i64) (ph:=0) (a.size + 1) _ rfl rfl rfl rfl ⟨rfl, rfl⟩ rfl (by omega) (by omega) x2) rfl ?_;refine z7 (zp L rfl rfl (zk rfl) rfl rfl rfl (fun u H hH _ _ => zb6 hrb zb hH)) rfl ?_;refine Zaz ?_;refine ZdD ?_;refine ZX ?_;refine ZF ?_;refine ZaW ?_;refine Zap ?_;refine Za ?_;refine ZP ?_;refine Zca ?_;refine ZeH ?_;refine Za ?_;refine Za0 ?_
       refine ye L (rs:=[.cell 2 114, .tmp 3]) rfl (fun _ _ h => h) Since.refl fun u H hH hle => ?_
       exact ⟨_, yl rfl, rfl, rfl⟩
     ·have g1:pgA a = (zd3, zd3, zd3, e):=by rw [z1v, hra]; dsimp only; rw [if_neg (by decide), if_neg h0]
      rw [hpt, g1, if_neg h0]
      by_cases h5:e = 5
      ·refine Zbd ?_;refine ZbU ?_;refine ZcE ?_;refine Zas ?_;refine ZdZ ?_;refine z7 (zbz L (kl:=.i64) (pl:=0) 0 a.size rfl rfl rfl rfl rfl ⟨rfl, rfl⟩ (by omega) (by omega) x1) rfl ?_;refine z7 (zp L rfl rfl (zk rfl) rfl rfl rfl (fun u H hH _ _ => zb6 hra za hH)) rfl ?_;refine Zaz ?_;refine ZdD ?_;refine ZX ?_;refine ZF ?_;refine ZaW ?_;refine Zb5 ?_;refine ZK ?_;refine ZdE ?_;refine Zr ?_;refine Zcs ?_;refine ZP ?_;refine Zaw ?_;refine ZeH ?_;refine Za ?_;refine Za0 ?_
       refine ye L (rs:=[.cell 2 114, .tmp 3]) rfl (fun _ _ h => h) Since.refl fun u H hH hle => ?_
       exact ⟨_, yl rfl, rfl, rfl⟩
      ·refine Zbd ?_;refine ZbU ?_;refine ZcE ?_;refine Zas ?_;refine ZdZ ?_;refine z7 (zbz L (kl:=.i64) (pl:=0) 0 a.size rfl rfl rfl rfl rfl ⟨rfl, rfl⟩ (by omega) (by omega) x1) rfl ?_;refine z7 (zp L rfl rfl (zk rfl) rfl rfl rfl (fun u H hH _ _ => zb6 hra za hH)) rfl ?_;refine Zaz ?_;refine ZdD ?_;refine ZX ?_;refine ZF ?_;refine ZaW ?_;refine Zb5 ?_;refine ZcA ?_;refine Zd ?_;refine Zea ?_;refine Zr ?_;refine Zcs ?_;refine ZP ?_;refine Zaw ?_;refine ZeH ?_;refine Za ?_;refine Za0 ?_
       refine ye L (rs:=[.cell 2 114, .tmp 3]) rfl (fun _ _ h => h) Since.refl fun u H hH hle => ?_
       exact ⟨_, yl rfl, rfl, rfl⟩
  ·have hpt:ptA s = ((((⟨#[]⟩, ⟨#[]⟩), ⟨#[]⟩), ((⟨#[]⟩, ⟨#[]⟩), ⟨#[]⟩)), 5):=by
    unfold ptA
    rw [if_neg]
    rintro ⟨hc1, hc2⟩
    rcases zjx s 64 with h64 | ⟨a, b, rfl, ha⟩
    ·rw [zqh h64] at hc1; cases hc1
    ·rw [zjj ha] at hc2
     by_cases hb:noB b 64
     ·apply h1
      rw [hn, zjc, List.count_append, List.count_cons_self, List.count_eq_zero_of_not_mem ha, List.count_eq_zero_of_not_mem hb]
     ·rw [show z0p b 64 = true from zne hb] at hc2
      cases hc2
   rw [hpt]
   refine Zbd ?_;refine ZbU ?_;refine ZcE ?_;refine ZP ?_;refine ZM ?_;refine ZeH ?_;refine Za0 ?_
   refine ye L (rs:=[.cell 2 114, .tmp 3]) rfl (fun _ _ h => h) Since.refl fun u H hH hle => ?_
   exact ⟨_, yl rfl, rfl, rfl⟩
end Go.V.L2
set_option maxRecDepth 20000
namespace Go.V.L2
open Go.Proofs Go.RowKit Go.V
end Go.V.L2
set_option maxRecDepth 20000
namespace Go.V.L3
open Go.Proofs Go.RowKit Go.V Go.V.L2
abbrev FT:=zzz × zzz × Bool
abbrev n3:zzz:=((⟨#[]⟩, ⟨#[]⟩), ⟨#[]⟩)
end Go.V.L3
set_option maxRecDepth 20000
namespace Go.V.L3
open Go.Proofs Go.RowKit Go.V Go.V.L2
end Go.V.L3
set_option maxRecDepth 20000
namespace Go.V.L2
open Go.Proofs Go.RowKit Go.V
theorem _root_.Go.V.ZaM {A B:Prop} (h:B) (t:Wr B → A:=by intro h; refine z8 (zn rfl (zk rfl) rfl) rfl ?_;exact h.h):A:=t ⟨h⟩
theorem _root_.Go.V.Za1 {A B:Prop} (h:B) (t:Wr B → A:=by intro h; refine z8 (qd rfl rfl rfl rfl) rfl ?_;exact h.h):A:=t ⟨h⟩
theorem _root_.Go.V.ZdH {A B:Prop} (h:B) (t:Wr B → A:=by intro h; refine z7 (yh L (vs:=[_, _, _, _, _, _]) rfl rfl rfl rfl rfl ⟨_, rfl⟩) rfl ?_;exact h.h):A:=t ⟨h⟩
theorem _root_.Go.V.Zb6 {A B:Prop} (h:B) (t:Wr B → A:=by intro h; refine z7 (yd rfl rfl rfl) rfl ?_;exact h.h):A:=t ⟨h⟩
theorem _root_.Go.V.ZI {A B:Prop} (h:B) (t:Wr B → A:=by intro h; refine z8 (z0k rfl rfl rfl rfl) rfl ?_;exact h.h):A:=t ⟨h⟩
theorem _root_.Go.V.ZgH {A B:Prop} (h:B) (t:Wr B → A:=by intro h; refine qp (zb9 L rfl rfl rfl (zhq rfl) rfl zqe rfl rfl (by omega) (by omega)) ?_;exact h.h):A:=t ⟨h⟩
theorem _root_.Go.V.Zdg {A B:Prop} (h:B) (t:Wr B → A:=by intro h; refine ZaM ?_;refine ZaM ?_;exact h.h):A:=t ⟨h⟩
theorem _root_.Go.V.Zb7 {A B:Prop} (h:B) (t:Wr B → A:=by intro h; refine Za ?_;refine Zao ?_;exact h.h):A:=t ⟨h⟩
theorem _root_.Go.V.Zfd {A B:Prop} (h:B) (t:Wr B → A:=by intro h; refine Za1 ?_;refine Zaj ?_;exact h.h):A:=t ⟨h⟩
theorem _root_.Go.V.Zf4 {A B:Prop} (h:B) (t:Wr B → A:=by intro h; refine Zdg ?_;refine Zdg ?_;exact h.h):A:=t ⟨h⟩
theorem _root_.Go.V.Zbe {A B:Prop} (h:B) (t:Wr B → A:=by intro h; refine Zf ?_;refine Zb7 ?_;exact h.h):A:=t ⟨h⟩
theorem _root_.Go.V.Zct {A B:Prop} (h:B) (t:Wr B → A:=by intro h; refine Zfd ?_;refine ZbP ?_;exact h.h):A:=t ⟨h⟩
theorem _root_.Go.V.Zfo {A B:Prop} (h:B) (t:Wr B → A:=by intro h; refine Zh ?_;refine Zf4 ?_;exact h.h):A:=t ⟨h⟩
theorem _root_.Go.V.Zaq {A B:Prop} (h:B) (t:Wr B → A:=by intro h; refine zi ?_;refine ZbR ?_;exact h.h):A:=t ⟨h⟩
theorem _root_.Go.V.Ze2 {A B:Prop} (h:B) (t:Wr B → A:=by intro h; refine Zfo ?_;refine Zf4 ?_;exact h.h):A:=t ⟨h⟩
theorem _root_.Go.V.ZaN {A B:Prop} (h:B) (t:Wr B → A:=by intro h; refine Za ?_;refine Zq ?_;exact h.h):A:=t ⟨h⟩
theorem _root_.Go.V.ZaZ {A B:Prop} (h:B) (t:Wr B → A:=by intro h; refine Zb6 ?_;refine Z6 ?_;exact h.h):A:=t ⟨h⟩
theorem _root_.Go.V.Zbf {A B:Prop} (h:B) (t:Wr B → A:=by intro h; refine Z3 ?_;refine ZW ?_;exact h.h):A:=t ⟨h⟩
theorem _root_.Go.V.Zcb {A B:Prop} (h:B) (t:Wr B → A:=by intro h; refine Ze2 ?_;refine Zdg ?_;exact h.h):A:=t ⟨h⟩
theorem _root_.Go.V.Zcu {A B:Prop} (h:B) (t:Wr B → A:=by intro h; refine ZM ?_;refine Za ?_;exact h.h):A:=t ⟨h⟩
theorem _root_.Go.V.Zcv {A B:Prop} (h:B) (t:Wr B → A:=by intro h; refine Zaa ?_;refine ZgH ?_;exact h.h):A:=t ⟨h⟩
theorem _root_.Go.V.ZdI {A B:Prop} (h:B) (t:Wr B → A:=by intro h; refine Zbe ?_;refine ZdH ?_;exact h.h):A:=t ⟨h⟩
theorem _root_.Go.V.Zeb {A B:Prop} (h:B) (t:Wr B → A:=by intro h; refine Za9 ?_;refine Za ?_;exact h.h):A:=t ⟨h⟩
theorem _root_.Go.V.Zec {A B:Prop} (h:B) (t:Wr B → A:=by intro h; refine Zca ?_;refine Zf ?_;exact h.h):A:=t ⟨h⟩
def zj0 (l:List U):List U:=zgv zbh [] l
def zez (x y:List U) (a c b:Bool) (t:U):Bool:=(decide (t ∈ x) && !decide (t ∈ y) && a) || (decide (t ∈ x) && decide (t ∈ y) && c) || (!decide (t ∈ x) && decide (t ∈ y) && b)
def zj1 (x y:List U) (a c b:Bool):List U:=zj0 ((x ++ y).filter (zez x y a c b))
theorem zt7 {κ:Kap} {s:Nat} {r:List U} {t y:U} (h:κ s = some (.own (SlR tyU 6 (r.length + 1 + 1) ((r.flatMap ucs ++ ucs t) ++ ucs y)))):κ s = some (.own (SlR tyU 6 (r ++ [t] ++ [y]).length ((r ++ [t] ++ [y]).flatMap ucs))):=by
 rw [h, List.flatMap_append, List.flatMap_append, List.length_append, List.length_append]; simp
theorem zsm (c:U → U → Int) (o:List U) (t:U) (r:List U):zgv c o (t :: r) = zgv c (if t ∈ o then o else zhv c t o) r:=by
 simp only [zgv]
 congr 1
 by_cases h:t ∈ o
 ·rw [if_pos h, if_pos h]
 ·rw [if_neg h, if_neg h]
attribute [local irreducible] V N X VO Par StepOK Has Ret RetL Src
set_option maxHeartbeats 4000000 in
theorem zkb {l:List U} {fu:Bool} (hl:l.length ≤ 1000000) (hz:∀ t ∈ l, TZ t) {v:Value} {w:World} {B:Heap} (hB:B.Le (hp w)) (hv:US l fu v B) :
  Ret Tryz.prog 95 [v] w B (US (zj0 l) false):=by
 refine yf Tryz.func95 rfl Tryz.ntmps95 (Nat.le_of_ble_eq_true rfl) hB ?_
 refine zat 0 (US l fu) rfl SlV.mono hv ?_
 refine ZaD ?_;refine Zj ?_
 refine zat 3 (US [] false) rfl SlV.mono SlV.nil ?_
 refine ZdB ?_
 refine zal (fun s:Nat × List U => [(0, .sat (US l fu)), (3, .sat (US s.2 false)), (4, .is (.int .i64 s.1))])
  (fun s => s.1 ≤ l.length ∧ s.2.length ≤ s.1 ∧ (∀ t ∈ s.2, TZ t) ∧ zj0 l = zgv zbh s.2 (l.drop s.1)) (fun s => l.length - s.1) (0, []) ⟨Nat.zero_le _, Nat.le_refl _, fun t h => (by cases h), rfl⟩ ⟨rfl, rfl, rfl, trivial⟩ ?_
 rintro ⟨i, o⟩ ⟨hi, ho, hoz, he⟩
 dsimp only at hi ho hoz he ⊢
 by_cases hlt:i < l.length
 ·obtain ⟨t, ht⟩:=zae hlt
  have hct:=zfx ht
  have zt:=hz t (List.mem_of_getElem? ht)
  have hol:o.length ≤ 1000000:=by omega
  rw [zfr ht, zsm] at he
  by_cases hin:t ∈ o
  ·rw [if_pos hin] at he
   have h1:(if t ∈ o then 1 else 0:Int) = 1:=if_pos hin
   refine ZaJ ?_;refine ZdX ?_;refine Zcn ?_;refine Zo ?_;refine Zf ?_;refine ZdI ?_;refine z7 (zp L rfl rfl (zk rfl) rfl rfl rfl (fun u H hH _ _ v1 h2 => zbr hol h1 hH h2)) rfl ?_;refine Zbf ?_;refine ZeD ?_;refine yt ?_;refine zj ?_;refine ZdC ?_
   exact yi (x:=(i, o)) (i + 1, o) ⟨hlt, by dsimp only; omega, hoz, he⟩ (by dsimp only; omega) ⟨rfl, rfl, rfl, trivial⟩
  ·rw [if_neg hin] at he
   have h1:(if t ∈ o then 1 else 0:Int) = 0:=if_neg hin
   refine ZaJ ?_;refine ZdX ?_;refine Zcn ?_;refine Zo ?_;refine Zf ?_;refine ZdI ?_;refine z7 (zp L rfl rfl (zk rfl) rfl rfl rfl (fun u H hH _ _ v1 h2 => zbr hol h1 hH h2)) rfl ?_;refine Zax ?_;refine Zz ?_;refine Ze ?_
   refine zd4 5 tyU 6 rfl ?_
   refine Zp ?_;refine Zj ?_;refine Z8 ?_;refine ZE ?_
   refine zal (fun s:Nat × List U × Bool => [(0, .sat (US l fu)), (3, .sat (US o false)), (4, .is (.int .i64 i)), (5, .own (SlR tyU 6 s.2.1.length (s.2.1.flatMap ucs))), (6, .is (.bool s.2.2)), (7, .is (.int .i64 s.1))])
    (fun s => s.1 ≤ o.length ∧ s.2.1.length ≤ s.1 + (if s.2.2 = true then 1 else 0) ∧ zhv zbh t o = s.2.1 ++ (if s.2.2 = true then o.drop s.1 else zhv zbh t (o.drop s.1))) (fun s => o.length - s.1) (0, [], false) ⟨Nat.zero_le _, Nat.zero_le _, rfl⟩ ⟨rfl, rfl, rfl, rfl, rfl, rfl, trivial⟩ ?_
   rintro ⟨k, nx, put⟩ ⟨hk, hnx, hins⟩
   dsimp only at hk hnx hins ⊢
   by_cases hko:k < o.length
   ·obtain ⟨y, hy⟩:=zae hko
    have hcy:=zfx hy
    have zy:=hoz y (List.mem_of_getElem? hy)
    rw [zfr hy] at hins
    cases put
    ·rw [if_neg (by decide)] at hnx
     rw [if_neg (by decide), zhv] at hins
     by_cases hc:zbh t y < 0
     ·rw [if_pos hc] at hins
      refine Zc ?_;refine Zcu ?_;refine ZdX ?_;refine Zcn ?_;refine qg (id:=11) [] mixed (by kernel_rfl) ?_;refine Zh ?_;refine ZI ?_;refine Zh ?_;refine Zb1 ?_;refine Zb1 ?_;refine z8 (zp L rfl rfl (zk rfl) rfl rfl rfl (fun u H hH _ _ => zoe zt zy hH)) rfl ?_;refine ZbE ?_;refine Zfd ?_;refine ZdA ?_;refine ZQ ?_;refine qp (yq (.inl rfl) rfl rfl rfl rfl) ?_;refine ZdI ?_;refine Zcv ?_;refine qp (yq (.inr rfl) rfl rfl rfl rfl) ?_;refine Z6 ?_;refine Zcr ?_;refine Zb ?_;refine Zaw ?_;refine qp (yq (.inl rfl) rfl rfl rfl rfl) ?_;refine ZdI ?_;refine Zcv ?_;refine qp (yq (.inr rfl) rfl rfl rfl rfl) ?_;refine Zaq ?_;refine ZcF ?_;refine ZaE ?_
      exact yi (x:=(k, nx, false)) (k + 1, nx ++ [t] ++ [y], true) ⟨hko, by dsimp only; rw [if_pos rfl]; simp only [List.length_append, List.length_cons, List.length_nil]; omega, by dsimp only; rw [hins, if_pos rfl]; simp⟩ (by dsimp only; omega) ⟨rfl, rfl, rfl, zt7 rfl, rfl, rfl, trivial⟩
     ·rw [if_neg hc] at hins
      refine Zc ?_;refine Zcu ?_;refine ZdX ?_;refine Zcn ?_;refine qg (id:=11) [] mixed (by kernel_rfl) ?_;refine Zh ?_;refine ZI ?_;refine Zh ?_;refine Zb1 ?_;refine Zb1 ?_;refine z8 (zp L rfl rfl (zk rfl) rfl rfl rfl (fun u H hH _ _ => zoe zt zy hH)) rfl ?_;refine Zda ?_;refine Zct ?_;refine ZaB ?_;refine Zaw ?_;refine qp (yq (.inl rfl) rfl rfl rfl rfl) ?_;refine ZdI ?_;refine Zcv ?_;refine qp (yq (.inr rfl) rfl rfl rfl rfl) ?_;refine Zaq ?_;refine ZcF ?_;refine ZaE ?_
      exact yi (x:=(k, nx, false)) (k + 1, nx ++ [y], false) ⟨hko, by dsimp only; rw [if_neg (by decide), List.length_append, List.length_singleton]; omega, by dsimp only; rw [hins, if_neg (by decide)]; simp⟩ (by dsimp only; omega) ⟨rfl, rfl, rfl, ze9 rfl, rfl, rfl, trivial⟩
    ·rw [if_pos rfl] at hnx hins
     refine Zc ?_;refine Zcu ?_;refine ZdX ?_;refine Zcn ?_;refine qg (id:=11) [] mixed (by kernel_rfl) ?_;refine Zh ?_;refine ZI ?_;refine Zcb ?_;refine Zct ?_;refine ZaB ?_;refine Zaw ?_;refine qp (yq (.inl rfl) rfl rfl rfl rfl) ?_;refine ZdI ?_;refine Zcv ?_;refine qp (yq (.inr rfl) rfl rfl rfl rfl) ?_;refine Zaq ?_;refine ZcF ?_;refine ZaE ?_
     exact yi (x:=(k, nx, true)) (k + 1, nx ++ [y], true) ⟨hko, by dsimp only; rw [if_pos rfl, List.length_append, List.length_singleton]; omega, by dsimp only; rw [hins, if_pos rfl]; simp⟩ (by dsimp only; omega) ⟨rfl, rfl, rfl, ze9 rfl, rfl, rfl, trivial⟩
   ·obtain rfl:k = o.length:=by omega
    rw [List.drop_length] at hins
    have hil:=zcp (c:=zbh) t o
    have hiz:∀ x ∈ zhv zbh t o, TZ x:=fun x hx => by
     rcases zd7.1 hx with rfl | hx
     ·exact zt
     ·exact hoz x hx
    cases put
    ·rw [if_neg (by decide)] at hnx
     rw [if_neg (by decide), zhv] at hins
     refine Zc ?_;refine ZM ?_;refine ZaN ?_;refine ZbU ?_;refine Zc ?_;refine Zeb ?_;refine Zs ?_;refine ZW ?_;refine Zap ?_;refine qp (yq (.inl rfl) rfl rfl rfl rfl) ?_;refine ZdI ?_;refine Zcv ?_;refine qp (yq (.inr rfl) rfl rfl rfl rfl) ?_;refine Z6 ?_
     refine zci 5 (ze9 rfl) ?_
     rw [← hins]
     refine Zec ?_;refine Zb6 ?_;refine Zaq ?_;refine ZdC ?_
     exact yi (x:=(i, o)) (i + 1, zhv zbh t o) ⟨hlt, by dsimp only; omega, hiz, he⟩ (by dsimp only; omega) ⟨rfl, rfl, rfl, trivial⟩
    ·rw [if_pos rfl] at hnx
     rw [if_pos rfl, List.append_nil] at hins
     refine Zc ?_;refine ZM ?_;refine ZaN ?_;refine ZbU ?_;refine Zc ?_;refine Zeb ?_;refine Zs ?_;refine Zeu ?_
     refine zci 5 rfl ?_
     rw [← hins]
     refine Zec ?_;refine Zb6 ?_;refine Zaq ?_;refine ZdC ?_
     exact yi (x:=(i, o)) (i + 1, zhv zbh t o) ⟨hlt, by dsimp only; omega, hiz, he⟩ (by dsimp only; omega) ⟨rfl, rfl, rfl, trivial⟩
 ·obtain rfl:i = l.length:=by omega
  rw [List.drop_length, zgv] at he
  rw [he]
  refine ZaJ ?_;refine ZbH ?_;refine ZdG ?_;refine Zf ?_;refine ZaZ ?_
  refine ye L (rs:=[.tmp 2]) rfl (fun _ _ h => h) Since.refl fun u H hH hle => ?_
  exact fun v hv => hv
end Go.V.L2
set_option maxRecDepth 20000
namespace Go.V
inductive Tr (K V:Type) where
 | nil
 | node (k:K) (v:V) (l r:Tr K V)
namespace Tr
variable {K V:Type}
def size:Tr K V → Nat
 | nil => 0
 | node _ _ l r => size l + 1 + size r
def deep:Tr K V → Nat
 | nil => 0
 | node _ _ l r => 1 + max (deep l) (deep r)
theorem deep_le:∀ t:Tr K V, deep t ≤ size t
 | nil => Nat.le_refl _
 | node _ _ l r => by have:=deep_le l; have:=deep_le r; simp only [deep, size]; omega
def bal (k:K) (v:V) (l r:Tr K V):Tr K V :=
 if deep l > deep r + 1 then
  match l with
  | nil => nil
  | node lk lv ll lr =>
   if deep ll ≥ deep lr then node lk lv ll (node k v lr r)
   else match lr with
    | nil => nil
    | node mk mv ml mr => node mk mv (node lk lv ll ml) (node k v mr r)
 else if deep r > deep l + 1 then
  match r with
  | nil => nil
  | node rk rv rl rr =>
   if deep rr ≥ deep rl then node rk rv (node k v l rl) rr
   else match rl with
    | nil => nil
    | node mk mv ml mr => node mk mv (node k v l ml) (node rk rv mr rr)
 else node k v l r
def put (c:K → K → Int) (k:K) (v:V):Tr K V → Tr K V
 | nil => node k v nil nil
 | node nk nv l r => if c k nk < 0 then bal nk nv (put c k v l) r else if c k nk > 0 then bal nk nv l (put c k v r) else node nk v l r
def first:K → V → Tr K V → Tr K V → (K × V) × Tr K V
 | k, v, nil, r => ((k, v), r)
 | k, v, node lk lv ll lr, r => ((first lk lv ll lr).1, bal k v (first lk lv ll lr).2 r)
def drop (c:K → K → Int) (k:K):Tr K V → Tr K V × Bool
 | nil => (nil, false)
 | node nk nv l r => if c k nk < 0 then (bal nk nv (drop c k l).1 r, (drop c k l).2) else if c k nk > 0 then (bal nk nv l (drop c k r).1, (drop c k r).2)
  else match r with
   | nil => (l, true)
   | node rk rv rl rr => (bal (first rk rv rl rr).1.1 (first rk rv rl rr).1.2 l (first rk rv rl rr).2, true)
def get (c:K → K → Int) (k:K):Tr K V → Option V
 | nil => none
 | node nk nv l r => if c k nk = 0 then some nv else if c k nk < 0 then get c k l else get c k r
def list:Tr K V → List (K × V)
 | nil => []
 | node k v l r => list l ++ (k, v) :: list r
def prs:Tr K V → Int → Int → Int → List (K × V)
 | nil, _, _, _ => []
 | node k v l r, a, f, t => if a + (size (node k v l r):Int) ≤ f ∨ a ≥ t then [] else
   prs l a f t ++ ((if a + (size l:Int) ≥ f ∧ a + (size l:Int) < t then [(k, v)] else []) ++ prs r (a + size l + 1) f t)
theorem get_eq {c:K → K → Int} {k nk:K} {nv:V} {l r:Tr K V} (h:c k nk = 0):get c k (node nk nv l r) = some nv:=if_pos h
theorem get_lt {c:K → K → Int} {k nk:K} {nv:V} {l r:Tr K V} (h:c k nk < 0):get c k (node nk nv l r) = get c k l:=(if_neg (by omega)).trans (if_pos h)
theorem get_gt {c:K → K → Int} {k nk:K} {nv:V} {l r:Tr K V} (h0:¬ c k nk = 0) (h:¬ c k nk < 0):get c k (node nk nv l r) = get c k r:=(if_neg h0).trans (if_neg h)
theorem size_list:∀ t:Tr K V, (list t).length = size t
 | nil => rfl
 | node _ _ l r => by simp only [list, List.length_append, List.length_cons, size_list l, size_list r, size]; omega
theorem size_node (k:K) (v:V) (l r:Tr K V):size (node k v l r) = size l + 1 + size r:=rfl
theorem deep_node (k:K) (v:V) (l r:Tr K V):deep (node k v l r) = 1 + max (deep l) (deep r):=rfl
theorem zd9 (k:K) (v:V) (l r:Tr K V):list (bal k v l r) = list l ++ (k, v) :: list r:=by
 unfold bal
 split
 ·rename_i h
  cases l with
  | nil => simp [deep] at h
  | node lk lv ll lr =>
   dsimp only
   split
   ·simp [list]
   ·rename_i h2
    cases lr with
    | nil => simp [deep] at h2
    | node mk mv ml mr => simp [list]
 ·split
  ·rename_i h
   cases r with
   | nil => simp [deep] at h
   | node rk rv rl rr =>
    dsimp only
    split
    ·simp [list]
    ·rename_i h2
     cases rl with
     | nil => simp [deep] at h2
     | node mk mv ml mr => simp [list]
  ·simp [list]
theorem zha (k:K) (v:V) (l r:Tr K V):size (bal k v l r) = size l + 1 + size r:=by
 rw [← size_list, zd9, List.length_append, List.length_cons, size_list, size_list]; omega
theorem zic:∀ (k:K) (v:V) (l r:Tr K V), (first k v l r).1 :: list (first k v l r).2 = list l ++ (k, v) :: list r
 | k, v, nil, r => rfl
 | k, v, node lk lv ll lr, r => by
  simp only [first, zd9, list]
  rw [← List.cons_append, zic lk lv ll lr]
theorem size_first (k:K) (v:V) (l r:Tr K V):size (first k v l r).2 = size l + size r:=by
 have:=congrArg List.length (zic k v l r)
 simp only [List.length_cons, List.length_append, size_list] at this
 omega
theorem size_put (c:K → K → Int) (k:K) (v:V):∀ t:Tr K V, size (put c k v t) ≤ size t + 1
 | nil => by simp [put, size]
 | node nk nv l r => by
  have:=size_put c k v l
  have:=size_put c k v r
  simp only [put]
  split
  ·rw [zha, size_node]; omega
  ·split
   ·rw [zha, size_node]; omega
   ·rw [size_node, size_node]; omega
theorem size_drop (c:K → K → Int) (k:K):∀ t:Tr K V, size (drop c k t).1 ≤ size t
 | nil => Nat.le_refl _
 | node nk nv l r => by
  have:=size_drop c k l
  have:=size_drop c k r
  simp only [drop]
  split
  ·rw [zha, size_node]; omega
  ·split
   ·rw [zha, size_node]; omega
   ·cases r with
    | nil => simp only [size]; omega
    | node rk rv rl rr => rw [zha, size_first, size_node, size_node]; omega
theorem prs_length_le:∀ (t:Tr K V) (a f e:Int), (prs t a f e).length ≤ size t
 | nil, _, _, _ => Nat.le_refl _
 | node k v l r, a, f, e => by
  have:=prs_length_le l a f e
  have:=prs_length_le r (a + size l + 1) f e
  simp only [prs]
  split
  ·exact Nat.zero_le _
  ·simp only [List.length_append, size_node]
   split
   ·simp only [List.length_cons, List.length_nil]; omega
   ·simp only [List.length_nil]; omega
def TreeAt (nl:K → V → Value → Value → Int → Int → List Value) (ty:TypeId):Tr K V → Value → Heap → Prop
 | nil, v, _ => v = .pointer none
 | node k x l r, v, H => ∃ b lv rv, v = .pointer (some ⟨b, 0, none⟩) ∧ H b = some (.cells (nl k x lv rv (size (node k x l r)) (deep (node k x l r))).toArray ty) ∧ TreeAt nl ty l lv H ∧ TreeAt nl ty r rv H
theorem TreeAt.mono {nl:K → V → Value → Value → Int → Int → List Value} {ty:TypeId}:∀ {t:Tr K V}, Kn.mono (.sat (TreeAt nl ty t))
 | nil, _, _, _, h, _ => h
 | node k x l r, _, _, _, ⟨b, lv, rv, h1, h2, h3, h4⟩, hle => ⟨b, lv, rv, h1, hle _ _ h2, TreeAt.mono _ _ _ h3 hle, TreeAt.mono _ _ _ h4 hle⟩
theorem TreeAt.le {nl:K → V → Value → Value → Int → Int → List Value} {ty:TypeId} {t:Tr K V} {v:Value} {H H':Heap} (h:TreeAt nl ty t v H) (hle:H.Le H'):TreeAt nl ty t v H':=TreeAt.mono _ _ _ h hle
end Tr
end Go.V
set_option maxRecDepth 20000
namespace Go.V
structure z04 {K:Type} (c:K → K → Int):Prop where
 anti:∀ a b, c a b < 0 ↔ 0 < c b a
 trans:∀ {a b d}, c a b < 0 → c b d < 0 → c a d < 0
 eql:∀ {a b} (d), c a b = 0 → (c a d < 0 ↔ c b d < 0)
namespace z04
variable {K:Type} {c:K → K → Int}
theorem refl (h:z04 c) (a:K):c a a = 0:=by
 have:=h.anti a a
 omega
theorem symm (h:z04 c) {a b:K} (e:c a b = 0):c b a = 0:=by
 have:=h.anti a b
 have:=h.anti b a
 omega
end z04
namespace Tr
variable {K V:Type} (c:K → K → Int)
def Srt (l:List (K × V)):Prop:=l.Pairwise fun x y => c x.1 y.1 < 0
def putS (k:K) (v:V):List (K × V) → List (K × V)
 | [] => [(k, v)]
 | y :: l => if c k y.1 < 0 then (k, v) :: y :: l else if c k y.1 > 0 then y :: putS k v l else (y.1, v) :: l
def dropS (k:K):List (K × V) → List (K × V)
 | [] => []
 | y :: l => if c k y.1 < 0 then y :: l else if c k y.1 > 0 then y :: dropS k l else l
def getS (k:K):List (K × V) → Option V
 | [] => none
 | y :: l => if c k y.1 = 0 then some y.2 else getS k l
def cutI (f e:Int):List (K × V) → Int → List (K × V)
 | [], _ => []
 | y :: l, i => if f ≤ i ∧ i < e then y :: cutI f e l (i + 1) else cutI f e l (i + 1)
variable {c} (h:z04 c)
include h
theorem zkf {k:K} {v:V}:∀ {l1 l2:List (K × V)} {y:K × V}, (∀ x ∈ l1, c x.1 y.1 < 0) →
  putS c k v (l1 ++ y :: l2) = if c k y.1 < 0 then putS c k v l1 ++ y :: l2 else if c k y.1 > 0 then l1 ++ y :: putS c k v l2 else l1 ++ (y.1, v) :: l2
 | [], l2, y, _ => by simp only [List.nil_append, putS]; split <;> simp
 | x :: l1, l2, y, hl => by
  have ih:=zkf (k:=k) (v:=v) (l1:=l1) (l2:=l2) (y:=y) fun z hz => hl z (List.mem_cons_of_mem _ hz)
  have hx:=hl x (List.mem_cons_self ..)
  simp only [List.cons_append, putS]
  by_cases h1:c k x.1 < 0
  ·have:c k y.1 < 0:=h.trans h1 hx
   rw [if_pos h1, if_pos this, if_pos h1]; rfl
  ·rw [if_neg h1]
   by_cases h2:c k x.1 > 0
   ·rw [if_pos h2, ih, if_neg h1, if_pos h2]
    split
    ·rfl
    ·split <;> rfl
   ·have h0:c k x.1 = 0:=by omega
    have:c k y.1 < 0:=(h.eql _ h0).2 hx
    rw [if_neg h2, if_pos this, if_neg h1, if_neg h2]; rfl
theorem ziw {k:K}:∀ {l1 l2:List (K × V)} {y:K × V}, (∀ x ∈ l1, c x.1 y.1 < 0) →
  dropS c k (l1 ++ y :: l2) = if c k y.1 < 0 then dropS c k l1 ++ y :: l2 else if c k y.1 > 0 then l1 ++ y :: dropS c k l2 else l1 ++ l2
 | [], l2, y, _ => by simp only [List.nil_append, dropS]
 | x :: l1, l2, y, hl => by
  have ih:=ziw (k:=k) (l1:=l1) (l2:=l2) (y:=y) fun z hz => hl z (List.mem_cons_of_mem _ hz)
  have hx:=hl x (List.mem_cons_self ..)
  simp only [List.cons_append, dropS]
  by_cases h1:c k x.1 < 0
  ·have:c k y.1 < 0:=h.trans h1 hx
   rw [if_pos h1, if_pos this, if_pos h1]; rfl
  ·rw [if_neg h1]
   by_cases h2:c k x.1 > 0
   ·rw [if_pos h2, ih, if_neg h1, if_pos h2]
    split
    ·rfl
    ·split <;> rfl
   ·have h0:c k x.1 = 0:=by omega
    have:c k y.1 < 0:=(h.eql _ h0).2 hx
    rw [if_neg h2, if_pos this, if_neg h1, if_neg h2]
omit h in
theorem zjw {l1 l2:List (K × V)} {y:K × V} (hs:Srt c (l1 ++ y :: l2)):Srt c l1 ∧ Srt c l2 ∧ (∀ x ∈ l1, c x.1 y.1 < 0) ∧ (∀ x ∈ l2, c y.1 x.1 < 0):=by
 have h1:=List.pairwise_append.1 hs
 have h2:=List.pairwise_cons.1 h1.2.1
 exact ⟨h1.1, h2.2, fun x hx => h1.2.2 x hx y (List.mem_cons_self ..), h2.1⟩
theorem list_put (k:K) (v:V):∀ {t:Tr K V}, Srt c (list t) → list (put c k v t) = putS c k v (list t)
 | nil, _ => rfl
 | node nk nv l r, hs => by
  obtain ⟨hl, hr, hx, _⟩:=zjw (y:=(nk, nv)) hs
  simp only [list, put]
  rw [zkf h hx]
  split
  ·rw [zd9, list_put k v hl]
  ·split
   ·rw [zd9, list_put k v hr]
   ·rfl
theorem list_drop (k:K):∀ {t:Tr K V}, Srt c (list t) → list (if (drop c k t).2 = true then (drop c k t).1 else t) = dropS c k (list t) ∧ ((drop c k t).2 = false → (drop c k t).1 = t ∨ list (drop c k t).1 = list t) ∧ ((drop c k t).2 = true → list (drop c k t).1 = dropS c k (list t)) ∧ ((drop c k t).2 = false → dropS c k (list t) = list t)
 | nil, _ => ⟨rfl, fun _ => .inl rfl, fun h => (by cases h), fun _ => rfl⟩
 | node nk nv l r, hs => by
  obtain ⟨hl, hr, hx, _⟩:=zjw (y:=(nk, nv)) hs
  have il:=list_drop k hl
  have ir:=list_drop k hr
  have key:((drop c k (node nk nv l r)).2 = true → list (drop c k (node nk nv l r)).1 = dropS c k (list (node nk nv l r))) ∧ ((drop c k (node nk nv l r)).2 = false → dropS c k (list (node nk nv l r)) = list (node nk nv l r) ∧ list (drop c k (node nk nv l r)).1 = list (node nk nv l r)):=by
   simp only [list, drop]
   rw [ziw h hx]
   split
   ·refine ⟨fun ht => ?_, fun hf => ?_⟩
    ·dsimp only at ht ⊢; rw [zd9, il.2.2.1 ht]
    ·dsimp only at hf ⊢
     have e:=il.2.2.2 hf
     refine ⟨by rw [e], ?_⟩
     rw [zd9]
     rcases il.2.1 hf with e1 | e1 <;> rw [e1]
   ·split
    ·refine ⟨fun ht => ?_, fun hf => ?_⟩
     ·dsimp only at ht ⊢; rw [zd9, ir.2.2.1 ht]
     ·dsimp only at hf ⊢
      have e:=ir.2.2.2 hf
      refine ⟨by rw [e], ?_⟩
      rw [zd9]
      rcases ir.2.1 hf with e1 | e1 <;> rw [e1]
    ·cases r with
     | nil => exact ⟨fun _ => by simp [list], fun hf => by cases hf⟩
     | node rk rv rl rr =>
      refine ⟨fun _ => ?_, fun hf => by cases hf⟩
      dsimp only
      rw [zd9]
      have:=zic rk rv rl rr
      rw [show ((first rk rv rl rr).1.1, (first rk rv rl rr).1.2) = (first rk rv rl rr).1 from rfl, this]
      rfl
  refine ⟨?_, fun hf => .inr (key.2 hf).2, key.1, fun hf => (key.2 hf).1⟩
  split
  ·rename_i ht; exact key.1 ht
  ·rename_i ht
   have hf:(drop c k (node nk nv l r)).2 = false:=by simpa using ht
   exact (key.2 hf).1.symm
theorem zkx {k:K}:∀ {l1 l2:List (K × V)} {y:K × V}, (∀ x ∈ l1, c x.1 y.1 < 0) → (∀ x ∈ l2, c y.1 x.1 < 0) →
  getS c k (l1 ++ y :: l2) = if c k y.1 = 0 then some y.2 else if c k y.1 < 0 then getS c k l1 else getS c k l2
 | [], l2, y, _, h2 => by
  simp only [List.nil_append, getS]
  split
  ·rfl
  ·split
   ·rename_i h1
    have:∀ (l:List (K × V)), (∀ x ∈ l, c y.1 x.1 < 0) → getS c k l = none:=by
     intro l
     induction l with
     | nil => intro _; rfl
     | cons z l ih =>
      intro hz
      have:=h.trans h1 (hz z (List.mem_cons_self ..))
      simp only [getS]
      rw [if_neg (by omega)]
      exact ih fun x hx => hz x (List.mem_cons_of_mem _ hx)
    exact this l2 h2
   ·rfl
 | x :: l1, l2, y, hl, h2 => by
  have ih:=zkx (k:=k) (l1:=l1) (l2:=l2) (y:=y) (fun z hz => hl z (List.mem_cons_of_mem _ hz)) h2
  have hx:=hl x (List.mem_cons_self ..)
  simp only [List.cons_append, getS]
  by_cases h0:c k x.1 = 0
  ·have:c k y.1 < 0:=(h.eql _ h0).2 hx
   rw [if_pos h0, if_neg (by omega), if_pos this, if_pos h0]
  ·rw [if_neg h0, ih, if_neg h0]
theorem get_list (k:K):∀ {t:Tr K V}, Srt c (list t) → get c k t = getS c k (list t)
 | nil, _ => rfl
 | node nk nv l r, hs => by
  obtain ⟨hl, hr, hx, hy⟩:=zjw (y:=(nk, nv)) hs
  simp only [list, get]
  rw [zkx h hx hy, get_list k hl, get_list k hr]
omit h
theorem zk2 (f e:Int):∀ (l1 l2:List (K × V)) (i:Int), cutI f e (l1 ++ l2) i = cutI f e l1 i ++ cutI f e l2 (i + l1.length)
 | [], l2, i => by simp [cutI]
 | y :: l1, l2, i => by
  simp only [List.cons_append, cutI, zk2 f e l1 l2 (i + 1), List.length_cons]
  rw [show i + 1 + (l1.length:Int) = i + ((l1.length + 1:Nat):Int) by omega]
  split <;> rfl
theorem zr1 (f e:Int):∀ (l:List (K × V)) (i:Int), i + l.length ≤ f ∨ i ≥ e → cutI f e l i = []
 | [], _, _ => rfl
 | y :: l, i, h => by
  simp only [List.length_cons] at h
  simp only [cutI]
  rw [if_neg (by omega), zr1 f e l (i + 1) (by omega)]
theorem prs_list:∀ (t:Tr K V) (a f e:Int), prs t a f e = cutI f e (list t) a
 | nil, _, _, _ => rfl
 | node nk nv l r, a, f, e => by
  simp only [prs]
  split
  ·rename_i h1
   rw [zr1]
   rw [size_list]; exact h1
  ·simp only [list]
   rw [zk2, prs_list l, prs_list r, size_list]
   simp only [cutI]
   split
   ·rename_i h2
    rfl
   ·rename_i h2
    rfl
end Tr
end Go.V
set_option maxRecDepth 20000
namespace Go.V.L6
open Go.Proofs Go.RowKit Go.V Go.V.L2 Go.V.L3
theorem zu7 {α:Type} {c:α → α → Int} (h:Ord3 c):z04 c:=by
 refine ⟨fun a b => ?_, fun {a b d} h1 h2 => ?_, fun {a b} d e => ?_⟩
 ·have:=h.anti a b; omega
 ·exact h.tr h1 h2
 ·rw [h.eq _ _ e]
def zpl (a b:U):Int:=zbh (a.2, a.1) (b.2, b.1)
theorem zhn:Ord3 zpl where
 refl a:=cmpT_ord.refl _
 eq a b h:=by
  have:=cmpT_ord.eq _ _ h
  exact Prod.ext (congrArg Prod.snd this) (congrArg Prod.fst this)
 anti a b:=cmpT_ord.anti _ _
 trans a b d:=cmpT_ord.trans _ _ _
set_option linter.unusedSectionVars false
section keys
variable {α:Type} [DecidableEq α] {c:α → α → Int}
abbrev kS (L:List (α × Unit)):List α:=L.map (·.1)
theorem z4s {L:List (α × Unit)}:Tr.Srt c L ↔ Sst c (kS L):=by unfold Tr.Srt Sst kS; rw [List.pairwise_map]
theorem z2d (h:Ord3 c) {k:α}:∀ {L:List (α × Unit)}, k ∉ kS L → kS (Tr.putS c k () L) = zhv c k (kS L)
 | [], _ => rfl
 | y :: L, hk => by
  simp only [kS, List.map_cons, List.mem_cons, not_or] at hk
  simp only [Tr.putS]
  by_cases h1:c k y.1 < 0
  ·rw [if_pos h1]
   simp [kS, zhv, h1]
  ·have h2:=h.tri h1 hk.1
   have h3:=h.anti k y.1
   rw [if_neg h1, if_pos (by omega)]
   have ih:=z2d h (L:=L) hk.2
   simp only [kS, List.map_cons, zhv] at ih ⊢
   rw [if_neg h1, ih]
theorem zwh (h:Ord3 c) {k:α}:∀ {L:List (α × Unit)}, Sst c (kS L) → kS (Tr.dropS c k L) = (kS L).filter fun z => decide (z ≠ k)
 | [], _ => rfl
 | y :: L, hs => by
  simp only [kS, List.map_cons] at hs
  obtain ⟨hy, hs'⟩:=List.pairwise_cons.1 hs
  simp only [Tr.dropS]
  have all:∀ {d:α}, (c k d < 0 ∨ k = d) → (∀ z ∈ kS L, c d z < 0) → (kS L).filter (fun z => decide (z ≠ k)) = kS L:=fun {d} hd hz => List.filter_eq_self.2 fun z hm => by
   have h4:=hz z hm
   simp only [decide_eq_true_eq]
   intro e
   subst e
   rcases hd with hd | hd
   ·exact h.asym hd h4
   ·subst hd; exact h.irr _ h4
  by_cases h1:c k y.1 < 0
  ·rw [if_pos h1]
   simp only [kS, List.map_cons, List.filter_cons]
   rw [if_pos (by simpa using (h.ne h1).symm)]
   have:=all (.inl h1) hy
   unfold kS at this
   rw [this]
  ·rw [if_neg h1]
   by_cases h2:c k y.1 > 0
   ·rw [if_pos h2]
    have ih:=zwh h (k:=k) (L:=L) hs'
    simp only [kS, List.map_cons, List.filter_cons] at ih ⊢
    have hne:y.1 ≠ k:=fun e => by rw [e, h.refl] at h2; omega
    rw [if_pos (by simpa using hne), ih]
   ·rw [if_neg h2]
    have e:=h.eq _ _ (show c k y.1 = 0 by omega)
    simp only [kS, List.map_cons, List.filter_cons]
    rw [if_neg (by simpa using e.symm)]
    have:=all (.inr e) hy
    unfold kS at this
    rw [this]
theorem z4t (h:Ord3 c) {k:α}:∀ {L:List (α × Unit)}, (k ∈ kS L → Tr.getS c k L = some ()) ∧ (k ∉ kS L → Tr.getS c k L = none)
 | [] => ⟨fun h => (by cases h), fun _ => rfl⟩
 | y :: L => by
  have ih:=z4t h (k:=k) (L:=L)
  simp only [Tr.getS, kS, List.map_cons, List.mem_cons]
  by_cases e:k = y.1
  ·subst e; rw [if_pos (h.refl _)]; exact ⟨fun _ => rfl, fun hn => absurd (.inl rfl) hn⟩
  ·have:¬ c k y.1 = 0:=fun h0 => e (h.eq _ _ h0)
   rw [if_neg this]
   exact ⟨fun hm => ih.1 (hm.resolve_left e), fun hn => ih.2 fun hm => hn (.inr hm)⟩
theorem zm6:∀ {l:List α} {x:α}, l.Nodup → x ∈ l → (l.filter fun z => decide (z ≠ x)).length + 1 = l.length
 | [], _, _, h => by cases h
 | y :: l, x, hn, h => by
  obtain ⟨h1, h2⟩:=List.nodup_cons.1 hn
  rw [List.filter_cons]
  by_cases e:y = x
  ·subst e
   rw [if_neg (by simp)]
   have:(l.filter fun z => decide (z ≠ y)) = l:=List.filter_eq_self.2 fun z hz => by
    simp only [decide_eq_true_eq]
    exact fun e => h1 (e ▸ hz)
   rw [this, List.length_cons]
  ·rw [if_pos (by simpa using e), List.length_cons, List.length_cons, zm6 h2 (by
    rcases List.mem_cons.1 h with h | h
    ·exact absurd h.symm e
    ·exact h)]
theorem zto {l:List α} {x:α} (h:x ∉ l):(l.filter fun z => decide (z ≠ x)) = l:=List.filter_eq_self.2 fun z hz => by
 simp only [decide_eq_true_eq]
 exact fun e => h (e ▸ hz)
theorem zr2 {V:Type} (f e:Nat):∀ (l:List (α × V)) (i:Nat), Tr.cutI (f:Int) (e:Int) l (i:Int) = (l.take (e - i)).drop (f - i)
 | [], i => by simp [Tr.cutI]
 | y :: l, i => by
  have ih:=zr2 f e l (i + 1)
  simp only [Tr.cutI]
  rw [show ((i:Int) + 1) = ((i + 1:Nat):Int) by omega, ih]
  by_cases h:f ≤ i ∧ i < e
  ·rw [if_pos (by omega), show e - i = (e - (i + 1)) + 1 by omega, show f - i = 0 by omega, show f - (i + 1) = 0 by omega]
   rfl
  ·rw [if_neg (by omega)]
   by_cases h2:i < e
   ·rw [show e - i = (e - (i + 1)) + 1 by omega, show f - i = (f - (i + 1)) + 1 by omega]
    rfl
   ·rw [show e - i = 0 by omega, show e - (i + 1) = 0 by omega]
    simp
end keys
structure TS (l:List U) (t u:Tr U Unit):Prop where
 kt:kS t.list = l
 st:Sst zbh l
 su:Sst zpl (kS u.list)
 mu:∀ z, z ∈ kS u.list ↔ z ∈ l
 zu:u.size = l.length
theorem zk3:z04 zbh:=zu7 cmpT_ord
theorem zpa:z04 zpl:=zu7 zhn
theorem z3p:TS [] .nil .nil:=⟨rfl, Sst.nil, Sst.nil, fun _ => Iff.rfl, rfl⟩
section ts
variable {l:List U} {t u:Tr U Unit}
theorem TS.size (h:TS l t u):t.size = l.length:=by rw [← Tr.size_list, ← h.kt]; simp
theorem TS.srt (h:TS l t u):Tr.Srt zbh t.list:=z4s.2 (h.kt ▸ h.st)
theorem TS.srtu (h:TS l t u):Tr.Srt zpl u.list:=z4s.2 h.su
theorem TS.put (h:TS l t u) {x:U} (hx:x ∉ l):TS (zhv zbh x l) (Tr.put zbh x () t) (Tr.put zpl x () u):=by
 have hxt:x ∉ kS t.list:=by rw [h.kt]; exact hx
 have hxu:x ∉ kS u.list:=fun hm => hx ((h.mu x).1 hm)
 have e1:kS (Tr.put zbh x () t).list = zhv zbh x l:=by
  rw [Tr.list_put zk3 x () h.srt, z2d cmpT_ord hxt, h.kt]
 have e2:kS (Tr.put zpl x () u).list = zhv zpl x (kS u.list):=by
  rw [Tr.list_put zpa x () h.srtu, z2d zhn hxu]
 refine ⟨e1, zfb cmpT_ord h.st hx, ?_, fun z => ?_, ?_⟩
 ·rw [e2]; exact zfb zhn h.su hxu
 ·rw [e2, zd7, zd7, h.mu]
 ·have:=congrArg List.length e2
  simp only [kS, List.length_map, zcp, Tr.size_list] at this
  rw [this, zcp, h.zu]
theorem TS.drop (h:TS l t u) {x:U} (hx:x ∈ l):TS (l.filter fun z => decide (z ≠ x)) (if (Tr.drop zbh x t).2 = true then (Tr.drop zbh x t).1 else t) (if (Tr.drop zpl x u).2 = true then (Tr.drop zpl x u).1 else u):=by
 have e1:kS (if (Tr.drop zbh x t).2 = true then (Tr.drop zbh x t).1 else t).list = l.filter fun z => decide (z ≠ x):=by
  rw [(Tr.list_drop zk3 x h.srt).1, zwh cmpT_ord (by rw [h.kt]; exact h.st), h.kt]
 have e2:kS (if (Tr.drop zpl x u).2 = true then (Tr.drop zpl x u).1 else u).list = (kS u.list).filter fun z => decide (z ≠ x):=by
  rw [(Tr.list_drop zpa x h.srtu).1, zwh zhn h.su]
 refine ⟨e1, h.st.sublist List.filter_sublist, ?_, fun z => ?_, ?_⟩
 ·rw [e2]; exact h.su.sublist List.filter_sublist
 ·rw [e2, List.mem_filter, List.mem_filter, h.mu]
 ·have h1:=congrArg List.length e2
  have h2:=zm6 (h.su.nodup zhn) ((h.mu x).2 hx)
  have h3:=zm6 (h.st.nodup cmpT_ord) hx
  have h4:=h.zu
  simp only [kS, List.length_map, Tr.size_list] at h1 h2
  omega
theorem TS.get (h:TS l t u) (x:U):Tr.get zbh x t = if x ∈ l then some () else none:=by
 have hk:=z4t cmpT_ord (k:=x) (L:=t.list)
 rw [h.kt] at hk
 rw [Tr.get_list zk3 x h.srt]
 by_cases hx:x ∈ l
 ·rw [if_pos hx]; exact hk.1 hx
 ·rw [if_neg hx]; exact hk.2 hx
end ts
def zcz (l:List U) (x:U) (d:Bool):List U × Int :=
 if tE x = 0 then (if d = true then (l.filter fun z => decide (z ≠ x), 0) else if x ∈ l then (l, 0) else if l.length ≥ 4096 then ([], 3) else (zhv zbh x l, 0)) else ([], tE x)
theorem znu {l:List U} (hs:Sst zbh l) (x:U) (d:Bool):Sst zbh (zcz l x d).1:=by
 unfold zcz
 split
 ·split
  ·exact hs.sublist List.filter_sublist
  ·split
   ·exact hs
   ·split
    ·exact Sst.nil
    ·rename_i h _; exact zfb cmpT_ord hs h
 ·exact Sst.nil
theorem znv {l:List U} (hl:l.length ≤ 4096) (x:U) (d:Bool):(zcz l x d).1.length ≤ 4096:=by
 unfold zcz
 split
 ·split
  ·exact Nat.le_trans (List.length_filter_le _ _) hl
  ·split
   ·exact hl
   ·split
    ·exact Nat.zero_le _
    ·rw [zcp]; omega
 ·exact Nat.zero_le _
end Go.V.L6
set_option maxRecDepth 20000
namespace Go.V.L8
open Go.Proofs Go.RowKit Go.V Go.V.L2 Go.V.L3 Go.V.L6
abbrev CH:=U × Bool
def cE (n:Nat) (l:List CH):Int:=if n < l.length then 3 else if (l.any fun c => !decide (tE c.1 = 0)) = true then 6 else 0
def zfm (s:List U) (m:CH):Bool:=decide (m.1 ∈ s) != m.2
def zc1 (s:List U):List CH → Nat → Nat × Int
 | [], i => (i, 0)
 | m :: r, i => if zfm s m = true then zc1 s r (i + 1) else (i, 13)
def ze8 (s:List U) (l:List CH):Nat × Int:=if cE 32 l = 0 then zc1 s l 0 else (0, cE 32 l)
theorem zgn (s:List U):∀ (l:List CH) (i:Nat), zc1 s l i = ((zc1 s l 0).1 + i, (zc1 s l 0).2)
 | [], i => by simp [zc1]
 | m :: r, i => by
  by_cases h:zfm s m = true
  ·have e1:zc1 s (m :: r) i = zc1 s r (i + 1):=by rw [zc1, if_pos h]
   have e2:zc1 s (m :: r) 0 = zc1 s r (0 + 1):=by rw [zc1, if_pos h]
   rw [e1, e2, zgn s r (i + 1), zgn s r (0 + 1)]
   exact Prod.ext (by show (zc1 s r 0).1 + (i + 1) = (zc1 s r 0).1 + (0 + 1) + i; omega) rfl
  ·rw [zc1, zc1, if_neg h, if_neg h]; simp
theorem ztm {s:List U} {l:List CH} {i:Nat} {m:CH} (h:∀ (j:Nat) x, j < i → l[j]? = some x → zfm s x = true) (hm:l[i]? = some m) (hh:zfm s m = false):zc1 s l 0 = (i, 13):=by
 induction l generalizing i with
 | nil => simp at hm
 | cons y r ih =>
  cases i with
  | zero =>
   simp at hm; subst hm
   unfold zc1
   rw [if_neg (by rw [hh]; decide)]
  | succ i =>
   have hy:=h 0 y (Nat.succ_pos _) rfl
   unfold zc1
   rw [if_pos hy, zgn, ih (i:=i) (fun j x hj hx => h (j + 1) x (by omega) hx) (by simpa using hm)]
theorem ztn {s:List U} {l:List CH} (h:∀ x ∈ l, zfm s x = true):zc1 s l 0 = (l.length, 0):=by
 induction l with
 | nil => rfl
 | cons y r ih =>
  unfold zc1
  rw [if_pos (h y (by simp)), zgn, ih (fun x hx => h x (by simp [hx]))]
  rfl
def zft:List U → List CH → List CH → List U × List CH × Int
 | s, made, [] => (s, made, 0)
 | s, made, c :: r => if (zcz s c.1 c.2).2 = 0 then zft (zcz s c.1 c.2).1 (if decide (c.1 ∈ s) = c.2 then made ++ [c] else made) r else ([], [], (zcz s c.1 c.2).2)
def zeo (s:List U) (l cs:List CH):List U × List CH × Int :=
 if cE 32 l = 0 then (if cE 32 cs = 0 then (if (ze8 s l).2 = 0 then zft s [] cs else ([], [], (ze8 s l).2)) else ([], [], cE 32 cs)) else ([], [], cE 32 l)
theorem zsf {l:List U} (x:U) (d:Bool) (h0:(zcz l x d).2 = 0):((zcz l x d).1 = l) ↔ ¬ decide (x ∈ l) = d:=by
 unfold zcz at h0 ⊢
 by_cases ht:tE x = 0
 ·rw [if_pos ht] at h0 ⊢
  cases d with
  | true =>
   rw [if_pos rfl]
   dsimp only
   rw [List.filter_eq_self]
   simp only [decide_eq_true_eq]
   exact ⟨fun h hx => h x hx rfl, fun h z hz e => h (e ▸ hz)⟩
  | false =>
   rw [if_neg (by decide)] at h0 ⊢
   by_cases hx:x ∈ l
   ·rw [if_pos hx, decide_eq_true hx]; simp
   ·rw [if_neg hx] at h0 ⊢
    rw [decide_eq_false hx]
    by_cases hl:l.length ≥ 4096
    ·rw [if_pos hl] at h0; exact absurd h0 (by decide)
    ·rw [if_neg hl]
     have:=zcp (c:=zbh) x l
     constructor
     ·intro h
      dsimp only at h
      rw [h] at this
      omega
     ·intro h; exact absurd rfl h
 ·rw [if_neg ht] at h0; exact absurd h0 ht
end Go.V.L8
set_option maxRecDepth 20000
namespace Go.V
open Go.RowKit
section
variable {P:Program} {F:Fr} {B:Heap} {O:Boxes} {n:Nat} {ops:Array Oper} {κ:Kap} {d:Nat} {ty:TypeId} {pos:String} {aft:Array Edge} {g:Option (Nat × Bool)}
theorem zkw {u:World} {H:Heap} {b:Nat} {L:Nat → Prop} {o:Obj} (hs:H.Le (hp u)) (hL:L b) (hH:H b = none):Grow L u H (u.putObj b o) H :=
 ⟨⟨rfl, rfl, rfl, Nat.le_of_eq World.putObj_size.symm, fun k _ hk => World.putObj_heap_other (fun e => hk (e ▸ hL)), Nat.le_refl _⟩, fun k x hx => by
  have:k ≠ b:=fun e => by subst e; rw [hH] at hx; cases hx
  show (u.putObj b o).heap[k]? = some x
  rw [World.putObj_heap_other this]; exact hs k x hx, Heap.Le.refl _, fun _ _ _ => rfl⟩
end
section
variable {P:Program} {b:Frame} {a:Act} {k:List Item} {cs:List Frame} {w:World}
end
section
variable {P:Program} {F:Fr} {B:Heap} {O:Boxes} {n:Nat} {κ:Kap} {Q:Exit → Act → World → Prop}
end
end Go.V
