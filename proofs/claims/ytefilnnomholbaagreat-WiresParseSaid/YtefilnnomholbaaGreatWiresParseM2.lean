/- Texts on the way to WiresParse, part 2: one behind another. -/
import Derived.Test.YtefilnnomholbaaGreatWiresParseM1
import Derived.Test.YtefilnnomholbaaGreatProg
import Derived.Shelf.Strings.Builder1
import Derived.Shelf.Small.Bits
import Derived.Shelf.Small.Strs
import Derived.Shelf.Small.Wraps
import Derived.Shelf.Utf8.RuneCount
import Derived.Shelf.Strconv.Itoa0
import Derived.Shelf.Strings.Search1
import Derived.Shelf.Strings.Search2
import Derived.Shelf.Strings.Search3
import Derived.Shelf.Strings.Cut
import Derived.Shelf.Strings.Count
import Derived.Shelf.LaysM
import Derived.Shelf.Strings.Shaped
import Derived.Shelf.Strings.Prefix
import Derived.Shelf.Strings.Split
import Derived.Shelf.Strings.RuneCount
import Derived.Lib.IndexMore
import Derived.Lib.IndexLaws
import Derived.Lib.IndexBytes
import Derived.Shelf.SlSortCmp.NoneTotal
set_option linter.unusedVariables false
set_option linter.unusedSimpArgs false
set_option maxRecDepth 20000
namespace Go.V
open Go.RowKit
variable {P:Program} {F:Fr} {B:Heap} {n:Nat} {O:Boxes} {κ:Kap} {Q R:Exit → Act → World → Prop}
def z23 (P:Program) (F:Fr) (_:Heap) (_:Nat) (R:Exit → Act → World → Prop) (y:Code) (Q:Exit → Act → World → Prop):Prop :=
 (∀ a u, R .normal a u → y.wpIn (FW F.r) 0 P Q a u) ∧ ∀ e a u, e ≠ .normal → R e a u → Q e a u
theorem zdl {T:Type} (Fk:T → List (Nat × Kn)) (I:T → Prop) (Ob:T → Boxes) {y:Code} (hy:∀ t, I t → V P F B n (Ob t) (ofL (Fk t)) y Q) :
  z23 P F B n (Exit.then (fun a u => ∃ t, I t ∧ Has F B (Ob t) n (ofL (Fk t)) a u) Q) y Q :=
 ⟨fun a u ⟨t, hI, hh⟩ => hy t hI a u hh, fun e a u he h => by cases e <;> first | exact absurd rfl he | exact h⟩
theorem zbe {T:Type} {B0:Heap} {Fk:T → List (Nat × Kn)} {I:T → Prop} {Ob:T → Boxes} (t:T) (hs:Since F B0 B) (hI:I t) (hO:O = Ob t) (hl:LiveOK (Fk t) κ) :
  N F B n O κ (Exit.then (fun a u => ∃ t, I t ∧ Has F B0 (Ob t) n (ofL (Fk t)) a u) Q):=fun _ _ hh => ⟨t, hI, hO ▸ (hh.live hl).since hs⟩
section
variable {ops:Array Oper} {ty:TypeId} {pos:String} {aft:Array Edge} {g:Option (Nat × Bool)}
theorem zjy (L:Tabs P) {t t':TypeId} {s q:Nat} {ag:Bool} {z:Nat} {cs:List Value} {φ:Value → Heap → Prop} {X:Type} (f:X → List Value) (ψ:X → Heap → Prop) (hψ:zhe ψ)
  (hφ:∀ v H, φ v H → ∃ x, ψ x H ∧ za8 v = f x) (hf:∀ x, (f x).length = z ∧ (f x).all zdh = true)
  (hg:gK ops κ ⟨none, .store t (.tmp s) (.tmp q), ty, pos, aft, g⟩ = some true) (hk:κ s = some (.own (zed cs t'))) (hx:κ q = some (.sat φ))
  (hl:L.ld t = some (ag, z)) (hcs:cs.length = z) :
  StepOK P F B n ops O κ ⟨none, .store t (.tmp s) (.tmp q), ty, pos, aft, g⟩ s (.own (ExR (fun x => zed (f x) t') ψ hψ)):=by
 rintro κ' a u hlk ⟨H, fp, hh⟩
 unfold After
 rw [if_pos (zai hh hlk hg)]
 have e:=hh.env hlk
 obtain ⟨x, hx1, hx2⟩:=hφ _ _ (e.sat_ q _ (by simp [Op.operands]) hx)
 have hks:κ' s = some (.own (zed cs t')):=(hlk s (zdn (by simp [Op.operands]))).trans hk
 obtain ⟨⟨b, hes, hb, hC⟩, hM⟩:=hh.slot s _ hks
 have hrun:(execOp a.eval ⟨none, .store t (.tmp s) (.tmp q), ty, pos, aft, g⟩).run P u = .ok .skip (u.setRow b (f x).toArray):=by
  simp only [execOp, hes, Instr.storeAt, Instr.sureAddr, Sem.run_bind, Sem.run_pure, Result.andThen_ok]
  have:=zcs (P:=P) (off:=0) (v:=a.eval (.tmp q)) (Tabs.ld_spec hl) hb (by rw [hx2]; exact (hf x).1) (by omega) (by rw [hx2]; exact (hf x).2)
  rw [this, hx2, List.drop_of_length_le (by omega)]
  simp
 rw [hrun]
 simp only [Upon, Act.put]
 have hset:=setRow_heap u b cs.toArray (f x).toArray t' (0, 0) hb
 have hbm:=hM b ((hC b).2 rfl)
 have:=hh.usePut (d:=s) (a':=a) (r':=ExR (fun x => zed (f x) t') ψ hψ) (C:=fun k => k = b) hks (zcz hh.sub hb ((hC b).2 rfl) hbm.2.1 _) rfl rfl (fun _ _ => rfl) ⟨x, hx1, b, hes, hset, fun _ => Iff.rfl⟩ (fun k hk => by
  subst hk; exact ⟨.inl ((hC k).2 rfl), by rw [setRow_size]; exact hbm.1, hbm.2.1⟩)
 rw [zbw] at this
 exact ⟨H, _, this⟩
end
end Go.V
set_option maxRecDepth 20000
namespace Go.V
open Go.RowKit
def okB (c:UInt8):Bool:=(97 ≤ c && c ≤ 122) || (48 ≤ c && c ≤ 57)
def chk (s:ByteArray):Int:=if 1 ≤ s.size ∧ s.size ≤ 16 ∧ s.data.toList.all okB = true then 0 else 6
theorem zbq (s:ByteArray):chk s = 0 ∨ chk s = 6:=by unfold chk; split <;> simp
theorem zp4 {s:ByteArray} (h:¬ (1 ≤ s.size ∧ s.size ≤ 16)):chk s = 6:=by
 unfold chk; rw [if_neg]; intro h'; exact h ⟨h'.1, h'.2.1⟩
theorem zvw {s:ByteArray} (h1:1 ≤ s.size) (h2:s.size ≤ 16) (h:s.data.toList.all okB = true):chk s = 0:=by
 unfold chk; rw [if_pos ⟨h1, h2, h⟩]
theorem zlq {s:ByteArray} {k:Nat} {c:UInt8} (hc:s[k]? = some c) (h:okB c = false):chk s = 6:=by
 unfold chk; rw [if_neg]
 rintro ⟨_, _, hall⟩
 have hm:c ∈ s.data.toList:=by
  have:s.data[k]? = some c:=hc
  exact Array.mem_toList_iff.2 (Array.mem_of_getElem? this)
 rw [List.all_eq_true] at hall
 rw [hall c hm] at h; cases h
theorem getElem?_lt {s:ByteArray} {k:Nat} (h:k < s.size):∃ c, s[k]? = some c:=⟨s[k], by rw [getElem?_pos]⟩
theorem zin {s:ByteArray} {k:Nat} {c:UInt8} (hc:s[k]? = some c) (h:okB c = true) (ha:(s.data.toList.take k).all okB = true):(s.data.toList.take (k + 1)).all okB = true:=by
 have hd:s.data.toList[k]? = some c:=by
  have:s.data[k]? = some c:=hc
  simpa using this
 rw [List.take_add_one, hd]
 simp [List.all_append, ha, h]
theorem zau (s:ByteArray):s.data.toList.length = s.size:=by rw [Array.length_toList]; rfl
theorem zrk {s:ByteArray} {k:Nat} (h:s.size ≤ k) (ha:(s.data.toList.take k).all okB = true):s.data.toList.all okB = true:=by
 rwa [List.take_of_length_le (by rw [zau]; exact h)] at ha
theorem zwh (c:UInt8):(c.toNat:Int) < 256:=by have:=c.toNat_lt; omega
theorem z14 {c:UInt8} (h1:(c.toNat:Int) < 97) (h2:(c.toNat:Int) < 48):okB c = false:=by
 simp [okB, UInt8.le_iff_toNat_le]; omega
theorem z13 {c:UInt8} (h1:(c.toNat:Int) < 97) (h2:57 < (c.toNat:Int)):okB c = false:=by
 simp [okB, UInt8.le_iff_toNat_le]; omega
theorem z11 {c:UInt8} (h1:122 < (c.toNat:Int)):okB c = false:=by
 simp [okB, UInt8.le_iff_toNat_le]; omega
theorem z10 {c:UInt8} (h1:¬ (c.toNat:Int) < 97) (h2:¬ 122 < (c.toNat:Int)):okB c = true:=by
 simp [okB, UInt8.le_iff_toNat_le]; omega
theorem z1z {c:UInt8} (h1:¬ (c.toNat:Int) < 48) (h2:¬ 57 < (c.toNat:Int)):okB c = true:=by
 simp [okB, UInt8.le_iff_toNat_le]; omega
theorem zyp {vs:List Value} {j:Nat} {v:Value} (h:vs[j]? = some v):(vs.drop (j * 1)).take 1 = [v]:=by
 obtain ⟨hl, he⟩:=List.getElem?_eq_some_iff.1 h
 rw [Nat.mul_one, List.drop_eq_getElem_cons hl, he]
 rfl
theorem z1h {l:List ByteArray} {j:Nat} {s:ByteArray} (h:l[j]? = some s):((l.map Value.string).drop (j * 1)).take 1 = [.string s]:=zyp (by simp [h])
end Go.V
namespace Go.V
open Go.Proofs
set_option maxRecDepth 100000
theorem mixed:Tryz.prog.follows .mixedOrders = true:=by kernel_rfl
def ldL:List (Nat × (Bool × Nat)):=[(1, (false, 1)), (2, (false, 1)), (3, (false, 1)), (4, (false, 1)), (5, (false, 1)), (6, (false, 1)), (7, (true, 4)), (8, (true, 4)), (9, (false, 1)), (10, (false, 1)), 
  (11, (false, 1)), (12, (false, 1)), (13, (true, 2)), (14, (true, 2)), (15, (false, 1)), (16, (false, 1)), (17, (false, 1)), (18, (true, 1)), (19, (true, 1)), (20, (false, 1)), 
  (21, (false, 1)), (22, (false, 1)), (23, (true, 1)), (24, (true, 1)), (25, (false, 1)), (26, (true, 1)), (27, (true, 1)), (28, (true, 2)), (29, (true, 2)), (30, (true, 3)), 
  (31, (true, 3)), (32, (true, 3)), (33, (true, 6)), (34, (true, 6)), (35, (false, 1)), (36, (false, 1)), (37, (false, 1)), (38, (false, 1)), (39, (false, 1)), (40, (false, 1)), 
  (41, (true, 7)), (42, (true, 7)), (43, (false, 1)), (45, (false, 1)), (46, (false, 1)), (48, (false, 1)), (49, (false, 1)), (51, (false, 1)), (53, (false, 1)), (54, (false, 1)), 
  (55, (false, 1)), (56, (false, 1)), (58, (false, 1)), (59, (false, 1)), (60, (false, 1)), (61, (false, 1)), (62, (false, 1)), (63, (false, 1)), (64, (true, 2)), (65, (true, 5)), 
  (66, (true, 5)), (67, (false, 1)), (68, (false, 1)), (69, (false, 1)), (70, (false, 1)), (71, (false, 1)), (73, (false, 1)), (74, (false, 1)), (76, (false, 1)), (78, (false, 1)), 
  (79, (false, 1)), (80, (false, 1)), (81, (true, 2)), (82, (true, 2)), (83, (false, 1)), (84, (false, 1)), (85, (false, 1)), (86, (true, 2)), (87, (true, 2)), (88, (true, 2)), 
  (89, (true, 2)), (90, (true, 4)), (91, (true, 4)), (93, (false, 1)), (94, (false, 1)), (96, (false, 1)), (97, (false, 1)), (98, (false, 1)), (99, (false, 1)), (101, (false, 1)), 
  (102, (false, 1)), (104, (false, 1)), (105, (false, 1)), (107, (false, 1)), (108, (false, 1)), (109, (false, 1)), (110, (false, 1)), (111, (true, 2)), (112, (true, 2)), 
  (113, (false, 1)), (114, (false, 1)), (115, (false, 1)), (116, (false, 1)), (117, (false, 1)), (118, (true, 1)), (119, (true, 1)), (120, (false, 1)), (121, (false, 1)), 
  (122, (false, 1)), (123, (false, 1)), (124, (true, 2)), (125, (true, 2)), (126, (true, 3)), (127, (true, 3)), (128, (false, 1)), (129, (false, 1)), (131, (false, 1)), 
  (132, (false, 1)), (133, (false, 1)), (134, (false, 1)), (135, (true, 3)), (136, (false, 1)), (137, (false, 1)), (138, (false, 1)), (139, (false, 1)), (140, (false, 1)), 
  (141, (false, 1)), (142, (false, 1)), (143, (false, 1)), (144, (false, 1)), (145, (false, 1)), (146, (false, 1)), (148, (false, 1)), (149, (false, 1)), (150, (false, 1)), 
  (152, (false, 1)), (153, (false, 1)), (154, (false, 1)), (155, (false, 1)), (156, (true, 2)), (157, (true, 2)), (158, (false, 1)), (159, (false, 1)), (160, (false, 1)), 
  (161, (false, 1)), (163, (false, 1)), (164, (false, 1)), (165, (true, 4)), (166, (true, 4)), (168, (false, 1)), (169, (false, 1)), (170, (true, 3)), (171, (true, 3)), 
  (172, (false, 1)), (174, (false, 1)), (176, (false, 1)), (177, (false, 1)), (178, (true, 1)), (179, (true, 1)), (180, (false, 1)), (181, (false, 1)), (182, (false, 1)), 
  (183, (false, 1)), (184, (false, 1)), (185, (false, 1)), (186, (false, 1)), (188, (false, 1)), (189, (false, 1)), (190, (false, 1)), (191, (false, 1)), (192, (false, 1)), 
  (193, (false, 1)), (194, (false, 1)), (195, (true, 0)), (197, (false, 1)), (198, (false, 1)), (200, (false, 1)), (201, (false, 1)), (202, (false, 1)), (203, (false, 1)), 
  (204, (true, 4)), (205, (true, 4)), (207, (false, 1)), (208, (false, 1)), (209, (false, 1)), (210, (false, 1)), (211, (false, 1)), (212, (false, 1)), (213, (false, 1)), 
  (214, (false, 1)), (215, (false, 1)), (216, (true, 1)), (217, (true, 1)), (218, (true, 5)), (219, (true, 5)), (220, (true, 2)), (221, (true, 2)), (222, (false, 1)), 
  (223, (false, 1)), (225, (false, 1)), (226, (false, 1)), (227, (true, 2)), (228, (true, 2)), (229, (false, 1)), (230, (false, 1)), (232, (false, 1)), (233, (false, 1)), 
  (234, (false, 1)), (235, (false, 1)), (236, (false, 1)), (237, (false, 1)), (238, (false, 1)), (239, (false, 1)), (240, (false, 1)), (242, (false, 1)), (244, (false, 1)), 
  (245, (false, 1)), (247, (false, 1)), (249, (false, 1)), (251, (true, 2)), (252, (true, 2)), (254, (false, 1)), (255, (true, 4)), (256, (true, 4)), (257, (false, 1)), 
  (258, (false, 1)), (259, (false, 1)), (261, (false, 1)), (262, (false, 1)), (263, (true, 2)), (264, (true, 2)), (265, (false, 1)), (266, (false, 1)), (267, (false, 1)), 
  (269, (false, 1)), (270, (false, 1)), (271, (false, 1)), (272, (false, 1)), (273, (false, 1)), (274, (false, 1)), (276, (false, 1)), (277, (false, 1)), (278, (false, 1)), 
  (279, (false, 1)), (280, (false, 1)), (281, (false, 1)), (282, (false, 1)), (283, (false, 1)), (284, (false, 1)), (285, (false, 1)), (286, (false, 1)), (287, (false, 1)), 
  (288, (false, 1)), (289, (false, 1)), (290, (false, 1)), (291, (false, 1)), (292, (true, 6)), (293, (true, 6)), (294, (false, 1)), (295, (false, 1)), (296, (false, 1)), 
  (298, (false, 1)), (299, (false, 1)), (300, (false, 1)), (301, (false, 1)), (302, (false, 1)), (303, (false, 1)), (304, (false, 1)), (305, (false, 1)), (307, (false, 1)), 
  (309, (false, 1)), (311, (false, 1)), (313, (false, 1)), (314, (false, 1)), (315, (false, 1)), (316, (false, 1)), (317, (false, 1)), (318, (false, 1)), (319, (false, 1)), 
  (320, (false, 1)), (321, (false, 1)), (322, (false, 1)), (323, (false, 1)), (325, (false, 1)), (326, (false, 1)), (327, (false, 1)), (328, (false, 1)), (329, (false, 1)), 
  (330, (false, 1)), (331, (false, 1)), (332, (false, 1)), (333, (false, 1)), (334, (false, 1)), (335, (false, 1)), (336, (false, 1)), (338, (false, 1)), (339, (false, 1)), 
  (340, (false, 1)), (341, (false, 1)), (342, (false, 1)), (343, (false, 1)), (344, (false, 1)), (345, (false, 1)), (346, (false, 1)), (347, (false, 1)), (348, (false, 1)), 
  (349, (false, 1)), (350, (false, 1)), (351, (true, 10)), (352, (true, 10)), (353, (false, 1)), (354, (false, 1)), (355, (false, 1)), (356, (false, 1)), (357, (false, 1)), 
  (359, (false, 1)), (360, (false, 1)), (361, (true, 7)), (362, (true, 7)), (364, (false, 1)), (365, (false, 1)), (367, (false, 1)), (368, (false, 1)), (369, (false, 1)), 
  (370, (false, 1)), (371, (false, 1)), (372, (false, 1)), (373, (false, 1)), (374, (false, 1)), (375, (false, 1)), (376, (false, 1)), (377, (false, 1)), (378, (false, 1)), 
  (379, (false, 1)), (381, (false, 1)), (382, (false, 1)), (383, (false, 1)), (384, (false, 1)), (385, (false, 1)), (386, (false, 1)), (387, (false, 1)), (388, (false, 1)), 
  (389, (false, 1)), (390, (false, 1)), (391, (false, 1)), (392, (false, 1)), (393, (false, 1)), (395, (false, 1)), (396, (false, 1)), (397, (false, 1)), (398, (false, 1)), 
  (399, (false, 1)), (400, (false, 1)), (401, (false, 1)), (402, (false, 1)), (403, (false, 1)), (404, (false, 1)), (405, (false, 1)), (406, (false, 1)), (407, (false, 1)), 
  (408, (false, 1)), (409, (false, 1)), (411, (false, 1)), (412, (false, 1)), (413, (false, 1)), (414, (true, 4)), (415, (true, 4)), (416, (true, 0)), (417, (true, 0)), 
  (418, (true, 0)), (419, (false, 1)), (420, (false, 1)), (421, (false, 1)), (422, (false, 1)), (423, (false, 1)), (424, (true, 11)), (425, (true, 11))]
def slL:List (Nat × Nat):=[(22, 64), (25, 135), (35, 9), (37, 34), (39, 42), (61, 66), (62, 5), (74, 171), (108, 63), (109, 91), (110, 264), (117, 219), (123, 221), (133, 3), (223, 362), (290, 293)]
def stL:List (Nat × Unit):=[(9, ()), (10, ()), (11, ())]
def foL:List ((Nat × Nat) × Nat):=[((7, 0), 0), ((7, 1), 1), ((7, 2), 2), ((7, 3), 3), ((8, 0), 0), ((8, 1), 1), ((8, 2), 2), ((8, 3), 3), ((13, 0), 0), ((13, 1), 1), ((14, 0), 0), ((14, 1), 1), ((18, 0), 0), 
  ((19, 0), 0), ((23, 0), 0), ((24, 0), 0), ((26, 0), 0), ((27, 0), 0), ((28, 0), 0), ((28, 1), 1), ((29, 0), 0), ((29, 1), 1), ((30, 0), 0), ((30, 1), 2), ((31, 0), 0), ((31, 1), 2), 
  ((32, 0), 0), ((32, 1), 2), ((33, 0), 0), ((33, 1), 3), ((34, 0), 0), ((34, 1), 3), ((41, 0), 0), ((41, 1), 6), ((42, 0), 0), ((42, 1), 6), ((65, 0), 0), ((65, 1), 1), ((65, 2), 2), 
  ((65, 3), 4), ((66, 0), 0), ((66, 1), 1), ((66, 2), 2), ((66, 3), 4), ((81, 0), 0), ((81, 1), 1), ((82, 0), 0), ((82, 1), 1), ((86, 0), 0), ((86, 1), 1), ((87, 0), 0), ((87, 1), 1), 
  ((88, 0), 0), ((89, 0), 0), ((90, 0), 0), ((90, 1), 2), ((91, 0), 0), ((91, 1), 2), ((111, 0), 0), ((111, 1), 1), ((112, 0), 0), ((112, 1), 1), ((118, 0), 0), ((119, 0), 0), 
  ((124, 0), 0), ((124, 1), 1), ((125, 0), 0), ((125, 1), 1), ((126, 0), 0), ((126, 1), 1), ((127, 0), 0), ((127, 1), 1), ((156, 0), 0), ((156, 1), 1), ((157, 0), 0), ((157, 1), 1), 
  ((165, 0), 0), ((165, 1), 1), ((165, 2), 2), ((165, 3), 3), ((166, 0), 0), ((166, 1), 1), ((166, 2), 2), ((166, 3), 3), ((170, 0), 0), ((170, 1), 1), ((170, 2), 2), ((171, 0), 0), 
  ((171, 1), 1), ((171, 2), 2), ((178, 0), 0), ((179, 0), 0), ((204, 0), 0), ((204, 1), 1), ((204, 2), 2), ((205, 0), 0), ((205, 1), 1), ((205, 2), 2), ((216, 0), 0), ((217, 0), 0), 
  ((218, 0), 0), ((218, 1), 1), ((218, 2), 2), ((218, 3), 3), ((218, 4), 4), ((219, 0), 0), ((219, 1), 1), ((219, 2), 2), ((219, 3), 3), ((219, 4), 4), ((220, 0), 0), ((220, 1), 1), 
  ((221, 0), 0), ((221, 1), 1), ((227, 0), 0), ((227, 1), 1), ((228, 0), 0), ((228, 1), 1), ((251, 0), 0), ((251, 1), 1), ((252, 0), 0), ((252, 1), 1), ((255, 0), 0), ((255, 1), 1), 
  ((255, 2), 2), ((255, 3), 3), ((256, 0), 0), ((256, 1), 1), ((256, 2), 2), ((256, 3), 3), ((263, 0), 0), ((263, 1), 1), ((264, 0), 0), ((264, 1), 1), ((292, 0), 0), ((293, 0), 0), 
  ((351, 0), 0), ((351, 1), 6), ((351, 2), 7), ((351, 3), 8), ((351, 4), 9), ((352, 0), 0), ((352, 1), 6), ((352, 2), 7), ((352, 3), 8), ((352, 4), 9), ((361, 0), 0), ((361, 1), 6), 
  ((362, 0), 0), ((362, 1), 6), ((414, 0), 0), ((414, 1), 1), ((414, 2), 2), ((414, 3), 3), ((415, 0), 0), ((415, 1), 1), ((415, 2), 2), ((415, 3), 3), ((424, 0), 0), ((424, 1), 1), 
  ((424, 2), 2), ((424, 3), 3), ((424, 4), 4), ((424, 5), 5), ((424, 6), 6), ((424, 7), 7), ((424, 8), 8), ((424, 9), 9), ((424, 10), 10), ((425, 0), 0), ((425, 1), 1), ((425, 2), 2), 
  ((425, 3), 3), ((425, 4), 4), ((425, 5), 5), ((425, 6), 6), ((425, 7), 7), ((425, 8), 8), ((425, 9), 9), ((425, 10), 10)]
def zrL:List (Nat × Value):=[(1, .nilFunc), (2, .int .i64 0), (3, .int .i64 0), (4, .bool false), (5, .int .u8 0), (6, .int .u8 0), (7, .agg #[.int .i64 0, .int .i64 0, .bool false, .int .u8 0]), 
  (8, .agg #[.int .i64 0, .int .i64 0, .bool false, .int .u8 0]), (9, .string ⟨#[]⟩), (10, .string ⟨#[]⟩), (11, .string ⟨#[]⟩), (12, .int .u64 0), 
  (13, .agg #[.string ⟨#[]⟩, .int .u64 0]), (14, .agg #[.string ⟨#[]⟩, .int .u64 0]), (15, .pointer none), (16, .pointer none), (17, .pointer none), (18, .agg #[.pointer none]), 
  (19, .agg #[.pointer none]), (20, .nilIface), (21, .int .i32 0), (22, .slice none 0 0), (23, .agg #[.slice none 0 0]), (24, .agg #[.slice none 0 0]), (25, .slice none 0 0), 
  (26, .agg #[.slice none 0 0]), (27, .agg #[.slice none 0 0]), (28, .agg #[.string ⟨#[]⟩, .string ⟨#[]⟩]), (29, .agg #[.string ⟨#[]⟩, .string ⟨#[]⟩]), 
  (30, .agg #[.string ⟨#[]⟩, .string ⟨#[]⟩, .string ⟨#[]⟩]), (31, .agg #[.string ⟨#[]⟩, .string ⟨#[]⟩, .string ⟨#[]⟩]), (32, .agg #[.string ⟨#[]⟩, .string ⟨#[]⟩, .string ⟨#[]⟩]), 
  (33, .agg #[.string ⟨#[]⟩, .string ⟨#[]⟩, .string ⟨#[]⟩, .string ⟨#[]⟩, .string ⟨#[]⟩, .string ⟨#[]⟩]), 
  (34, .agg #[.string ⟨#[]⟩, .string ⟨#[]⟩, .string ⟨#[]⟩, .string ⟨#[]⟩, .string ⟨#[]⟩, .string ⟨#[]⟩]), (35, .slice none 0 0), (36, .nilFunc), (37, .slice none 0 0), (38, .nilFunc), 
  (39, .slice none 0 0), (40, .nilFunc), (41, .agg #[.string ⟨#[]⟩, .string ⟨#[]⟩, .string ⟨#[]⟩, .string ⟨#[]⟩, .string ⟨#[]⟩, .string ⟨#[]⟩, .bool false]), 
  (42, .agg #[.string ⟨#[]⟩, .string ⟨#[]⟩, .string ⟨#[]⟩, .string ⟨#[]⟩, .string ⟨#[]⟩, .string ⟨#[]⟩, .bool false]), (43, .int .i64 0), (45, .nilFunc), (46, .nilFunc), 
  (48, .nilFunc), (49, .nilFunc), (51, .nilFunc), (53, .nilFunc), (54, .nilFunc), (55, .nilFunc), (56, .nilFunc), (58, .nilFunc), (59, .nilFunc), (60, .nilFunc), 
  (61, .slice none 0 0), (62, .slice none 0 0), (63, .int .u64 0), (64, .agg #[.int .u8 0, .int .u8 0]), 
  (65, .agg #[.int .u8 0, .int .u64 0, .int .u8 0, .int .u8 0, .slice none 0 0]), (66, .agg #[.int .u8 0, .int .u64 0, .int .u8 0, .int .u8 0, .slice none 0 0]), (67, .nilFunc), 
  (68, .nilFunc), (69, .nilFunc), (70, .nilFunc), (71, .pointer none), (73, .nilFunc), (74, .slice none 0 0), (76, .nilFunc), (78, .nilFunc), (79, .nilFunc), (80, .nilFunc), 
  (81, .agg #[.slice none 0 0, .slice none 0 0]), (82, .agg #[.slice none 0 0, .slice none 0 0]), (83, .int .u16 0), (84, .nilFunc), (85, .pointer none), 
  (86, .agg #[.nilFunc, .pointer none]), (87, .agg #[.nilFunc, .pointer none]), (88, .agg #[.nilFunc, .pointer none]), (89, .agg #[.nilFunc, .pointer none]), 
  (90, .agg #[.nilFunc, .pointer none, .nilFunc, .pointer none]), (91, .agg #[.nilFunc, .pointer none, .nilFunc, .pointer none]), (93, .nilFunc), (94, .nilFunc), (96, .nilFunc), 
  (97, .nilFunc), (98, .nilFunc), (99, .nilFunc), (101, .nilFunc), (102, .nilFunc), (104, .nilFunc), (105, .nilFunc), (107, .nilFunc), (108, .slice none 0 0), (109, .slice none 0 0), 
  (110, .slice none 0 0), (111, .agg #[.slice none 0 0, .int .i64 0]), (112, .agg #[.slice none 0 0, .int .i64 0]), (113, .nilFunc), (114, .nilFunc), (115, .nilFunc), (116, .nilFunc), 
  (117, .slice none 0 0), (118, .agg #[.slice none 0 0]), (119, .agg #[.slice none 0 0]), (120, .pointer none), (121, .nilFunc), (122, .nilFunc), (123, .slice none 0 0), 
  (124, .agg #[.slice none 0 0, .slice none 0 0]), (125, .agg #[.slice none 0 0, .slice none 0 0]), (126, .agg #[.pointer none, .slice none 0 0, .slice none 0 0]), 
  (127, .agg #[.pointer none, .slice none 0 0, .slice none 0 0]), (128, .nilFunc), (129, .nilFunc), (131, .nilFunc), (132, .nilFunc), (133, .slice none 0 0), (134, .nilFunc), 
  (135, .agg #[.int .u8 0, .int .u8 0, .int .u8 0]), (136, .nilFunc), (137, .nilFunc), (138, .nilFunc), (139, .nilFunc), (140, .nilFunc), (141, .nilFunc), (142, .nilFunc), 
  (143, .nilFunc), (144, .nilFunc), (145, .nilFunc), (146, .nilFunc), (148, .nilFunc), (149, .nilFunc), (150, .nilFunc), (152, .nilFunc), (153, .pointer none), (154, .pointer none), 
  (155, .nilFunc), (156, .agg #[.pointer none, .int .i64 0]), (157, .agg #[.pointer none, .int .i64 0]), (158, .nilFunc), (159, .nilFunc), (160, .nilFunc), (161, .nilFunc), 
  (163, .nilFunc), (164, .nilFunc), (165, .agg #[.slice none 0 0, .int .i64 0, .int .i64 0, .int .i64 0]), (166, .agg #[.slice none 0 0, .int .i64 0, .int .i64 0, .int .i64 0]), 
  (168, .nilFunc), (169, .nilFunc), (170, .agg #[.int .u64 0, .int .i64 0, .slice none 0 0]), (171, .agg #[.int .u64 0, .int .i64 0, .slice none 0 0]), (172, .nilFunc), 
  (174, .nilFunc), (176, .nilFunc), (177, .nilFunc), (178, .agg #[.slice none 0 0]), (179, .agg #[.slice none 0 0]), (180, .nilFunc), (181, .nilFunc), (182, .nilFunc), 
  (183, .nilFunc), (184, .nilFunc), (185, .nilFunc), (186, .nilFunc), (188, .nilFunc), (189, .nilFunc), (190, .nilFunc), (191, .nilFunc), (192, .nilFunc), (193, .nilFunc), 
  (194, .nilFunc), (195, .agg #[]), (197, .nilFunc), (198, .nilFunc), (200, .nilFunc), (201, .nilFunc), (202, .nilFunc), (203, .map none), 
  (204, .agg #[.int .u64 0, .map none, .slice none 0 0, .int .i64 0]), (205, .agg #[.int .u64 0, .map none, .slice none 0 0, .int .i64 0]), (207, .nilFunc), (208, .nilFunc), 
  (209, .nilFunc), (210, .nilFunc), (211, .nilFunc), (212, .nilFunc), (213, .nilFunc), (214, .nilFunc), (215, .nilFunc), (216, .agg #[.slice none 0 0]), 
  (217, .agg #[.slice none 0 0]), (218, .agg #[.int .u8 0, .slice none 0 0, .slice none 0 0, .int .u8 0, .int .i64 0]), 
  (219, .agg #[.int .u8 0, .slice none 0 0, .slice none 0 0, .int .u8 0, .int .i64 0]), (220, .agg #[.bool false, .slice none 0 0]), (221, .agg #[.bool false, .slice none 0 0]), 
  (222, .nilFunc), (223, .slice none 0 0), (225, .nilFunc), (226, .pointer none), (227, .agg #[.pointer none, .slice none 0 0]), (228, .agg #[.pointer none, .slice none 0 0]), 
  (229, .nilIface), (230, .nilIface), (232, .nilFunc), (233, .nilFunc), (234, .nilFunc), (235, .nilFunc), (236, .nilFunc), (237, .nilFunc), (238, .nilFunc), (239, .nilFunc), 
  (240, .nilFunc), (242, .nilFunc), (244, .nilFunc), (245, .nilFunc), (247, .nilFunc), (249, .nilFunc), (251, .agg #[.int .i64 0, .int .i64 0]), 
  (252, .agg #[.int .i64 0, .int .i64 0]), (254, .nilFunc), (255, .agg #[.slice none 0 0, .int .i64 0, .int .i64 0, .int .i64 0]), 
  (256, .agg #[.slice none 0 0, .int .i64 0, .int .i64 0, .int .i64 0]), (257, .nilFunc), (258, .nilFunc), (259, .nilFunc), (261, .nilFunc), (262, .nilFunc), 
  (263, .agg #[.int .u64 0, .int .i64 0]), (264, .agg #[.int .u64 0, .int .i64 0]), (265, .nilFunc), (266, .nilFunc), (267, .nilFunc), (269, .nilFunc), (270, .nilFunc), 
  (271, .nilFunc), (272, .nilFunc), (273, .pointer none), (274, .int .u64 0), (276, .nilFunc), (277, .nilFunc), (278, .nilFunc), (279, .nilFunc), (280, .nilFunc), (281, .nilFunc), 
  (282, .nilFunc), (283, .nilFunc), (284, .nilFunc), (285, .nilFunc), (286, .nilFunc), (287, .nilFunc), (288, .nilFunc), (289, .nilFunc), (290, .slice none 0 0), (291, .nilFunc), 
  (292, .agg #[.string ⟨#[]⟩, .string ⟨#[]⟩, .string ⟨#[]⟩, .string ⟨#[]⟩, .string ⟨#[]⟩, .string ⟨#[]⟩]), 
  (293, .agg #[.string ⟨#[]⟩, .string ⟨#[]⟩, .string ⟨#[]⟩, .string ⟨#[]⟩, .string ⟨#[]⟩, .string ⟨#[]⟩]), (294, .nilFunc), (295, .nilFunc), (296, .nilFunc), (298, .nilFunc), 
  (299, .nilFunc), (300, .nilFunc), (301, .nilFunc), (302, .nilFunc), (303, .nilFunc), (304, .nilFunc), (305, .nilFunc), (307, .nilFunc), (309, .nilFunc), (311, .nilFunc), 
  (313, .nilFunc), (314, .nilFunc), (315, .nilFunc), (316, .nilFunc), (317, .nilFunc), (318, .pointer none), (319, .nilFunc), (320, .nilFunc), (321, .nilFunc), (322, .nilFunc), 
  (323, .nilFunc), (325, .nilFunc), (326, .nilFunc), (327, .nilFunc), (328, .nilFunc), (329, .nilFunc), (330, .nilFunc), (331, .nilFunc), (332, .nilFunc), (333, .nilFunc), 
  (334, .nilFunc), (335, .nilFunc), (336, .nilFunc), (338, .nilFunc), (339, .nilFunc), (340, .nilFunc), (341, .nilFunc), (342, .nilFunc), (343, .nilFunc), (344, .nilFunc), 
  (345, .nilFunc), (346, .nilFunc), (347, .nilFunc), (348, .nilFunc), (349, .nilFunc), (350, .nilFunc), 
  (351, .agg #[.string ⟨#[]⟩, .string ⟨#[]⟩, .string ⟨#[]⟩, .string ⟨#[]⟩, .string ⟨#[]⟩, .string ⟨#[]⟩, .pointer none, .pointer none, .int .i64 0, .int .i64 0]), 
  (352, .agg #[.string ⟨#[]⟩, .string ⟨#[]⟩, .string ⟨#[]⟩, .string ⟨#[]⟩, .string ⟨#[]⟩, .string ⟨#[]⟩, .pointer none, .pointer none, .int .i64 0, .int .i64 0]), (353, .nilFunc), 
  (354, .nilFunc), (355, .nilFunc), (356, .nilFunc), (357, .nilFunc), (359, .nilFunc), (360, .nilFunc), 
  (361, .agg #[.string ⟨#[]⟩, .string ⟨#[]⟩, .string ⟨#[]⟩, .string ⟨#[]⟩, .string ⟨#[]⟩, .string ⟨#[]⟩, .bool false]), 
  (362, .agg #[.string ⟨#[]⟩, .string ⟨#[]⟩, .string ⟨#[]⟩, .string ⟨#[]⟩, .string ⟨#[]⟩, .string ⟨#[]⟩, .bool false]), (364, .nilFunc), (365, .nilFunc), (367, .nilFunc), 
  (368, .nilFunc), (369, .nilFunc), (370, .nilFunc), (371, .nilFunc), (372, .nilFunc), (374, .nilFunc), (375, .nilFunc), (376, .nilFunc), (377, .nilFunc), (378, .nilFunc), 
  (379, .int .i64 0), (381, .nilFunc), (382, .nilFunc), (383, .nilFunc), (384, .nilFunc), (385, .nilFunc), (386, .nilFunc), (387, .int .u32 0), (388, .nilFunc), (389, .nilFunc), 
  (390, .nilFunc), (391, .nilFunc), (392, .nilFunc), (393, .nilFunc), (395, .nilFunc), (396, .nilFunc), (397, .nilFunc), (398, .nilFunc), (399, .nilFunc), (400, .nilFunc), 
  (401, .nilFunc), (402, .int .u64 0), (403, .nilFunc), (404, .nilFunc), (405, .pointer none), (406, .nilFunc), (407, .nilFunc), (408, .nilFunc), (409, .nilFunc), (411, .nilFunc), 
  (412, .pointer none), (413, .nilFunc), (414, .agg #[.pointer none, .pointer none, .pointer none, .string ⟨#[]⟩]), 
  (415, .agg #[.pointer none, .pointer none, .pointer none, .string ⟨#[]⟩]), (416, .agg #[]), (417, .agg #[]), (418, .agg #[]), (419, .int .u8 0), (420, .int .u8 0), (421, .nilFunc), 
  (422, .int .i32 0), (423, .int .i32 0), 
  (424, .agg #[.int .u64 0, .int .u64 0, .int .u32 0, .int .u8 0, .int .u8 0, .int .u8 0, .int .u8 0, .nilFunc, .pointer none, .int .i32 0, .int .i32 0]), 
  (425, .agg #[.int .u64 0, .int .u64 0, .int .u32 0, .int .u8 0, .int .u8 0, .int .u8 0, .int .u8 0, .nilFunc, .pointer none, .int .i32 0, .int .i32 0])]
def fnL:List (Nat × Unit):=[(3, ()), (4, ()), (5, ()), (6, ()), (7, ()), (8, ()), (9, ()), (10, ()), (11, ()), (12, ()), (13, ()), (14, ()), (15, ()), (16, ()), (17, ()), (18, ()), (19, ()), (20, ()), 
  (21, ()), (22, ()), (23, ()), (24, ()), (25, ()), (26, ()), (27, ()), (28, ()), (29, ()), (30, ()), (31, ()), (32, ()), (33, ()), (34, ()), (35, ()), (36, ()), (37, ()), (38, ()), 
  (39, ()), (40, ()), (41, ()), (42, ()), (43, ()), (44, ()), (45, ()), (46, ()), (47, ()), (48, ()), (49, ()), (50, ()), (51, ()), (52, ()), (53, ()), (54, ()), (55, ()), (56, ()), 
  (57, ()), (58, ()), (59, ()), (60, ()), (61, ()), (62, ()), (63, ()), (64, ()), (65, ()), (66, ()), (67, ()), (68, ()), (69, ()), (70, ()), (71, ()), (72, ()), (73, ()), (74, ()), 
  (75, ()), (76, ()), (77, ()), (78, ()), (79, ()), (80, ()), (81, ()), (82, ()), (83, ()), (84, ()), (85, ()), (86, ()), (87, ()), (88, ()), (89, ()), (90, ()), (91, ()), (92, ()), 
  (93, ()), (94, ()), (95, ()), (96, ()), (97, ()), (98, ()), (99, ()), (100, ()), (101, ()), (102, ()), (103, ()), (104, ()), (105, ()), (106, ()), (107, ()), (108, ()), (109, ()), 
  (110, ()), (111, ()), (112, ()), (113, ()), (114, ()), (115, ()), (116, ()), (117, ()), (118, ()), (119, ()), (120, ()), (121, ()), (122, ()), (123, ()), (124, ()), (125, ()), 
  (126, ()), (127, ()), (128, ()), (129, ()), (130, ()), (131, ()), (132, ()), (133, ()), (134, ()), (135, ()), (136, ()), (137, ()), (138, ()), (139, ()), (140, ()), (141, ()), 
  (142, ()), (143, ()), (144, ()), (145, ()), (146, ()), (147, ()), (148, ()), (149, ()), (150, ()), (151, ()), (152, ()), (153, ()), (154, ()), (155, ()), (156, ()), (157, ()), 
  (158, ()), (159, ()), (160, ()), (161, ()), (162, ()), (163, ()), (164, ()), (165, ()), (166, ()), (167, ()), (168, ()), (169, ()), (170, ()), (171, ()), (172, ()), (173, ()), 
  (174, ()), (175, ()), (176, ()), (177, ()), (178, ()), (179, ()), (180, ()), (181, ()), (182, ()), (183, ()), (184, ()), (185, ()), (186, ()), (187, ()), (188, ()), (189, ()), 
  (190, ()), (191, ()), (192, ()), (193, ()), (194, ()), (195, ()), (196, ()), (197, ()), (198, ()), (199, ()), (202, ()), (203, ()), (204, ()), (205, ()), (206, ()), (207, ()), 
  (208, ()), (209, ()), (210, ()), (211, ()), (212, ()), (213, ()), (215, ()), (216, ()), (217, ()), (218, ()), (219, ()), (220, ()), (221, ()), (222, ()), (223, ()), (224, ()), 
  (225, ()), (226, ()), (227, ()), (228, ()), (229, ()), (230, ()), (231, ()), (232, ()), (233, ()), (234, ()), (235, ()), (236, ()), (237, ()), (238, ()), (239, ()), (240, ()), 
  (241, ()), (242, ()), (243, ()), (244, ()), (245, ()), (246, ()), (247, ()), (248, ()), (249, ()), (250, ()), (251, ()), (252, ()), (253, ()), (254, ()), (256, ()), (257, ()), 
  (258, ()), (261, ()), (262, ()), (263, ()), (264, ()), (265, ()), (266, ()), (267, ()), (268, ()), (269, ()), (270, ()), (271, ()), (272, ()), (273, ()), (274, ()), (275, ()), 
  (276, ()), (277, ()), (278, ()), (279, ()), (280, ()), (281, ()), (282, ()), (283, ()), (284, ()), (285, ()), (287, ()), (288, ()), (289, ()), (290, ()), (291, ()), (292, ()), 
  (293, ()), (294, ()), (295, ()), (296, ()), (297, ()), (302, ()), (304, ()), (305, ()), (306, ()), (307, ()), (308, ()), (309, ()), (310, ()), (311, ()), (313, ()), (314, ()), 
  (317, ()), (318, ()), (319, ())]
theorem z2f:ldL.all (fun p => ldI Tryz.prog p.1 == some p.2) = true:=by kernel_rfl
theorem z1l:slL.all (fun p => slI Tryz.prog p.1 == some p.2) = true:=by kernel_rfl
theorem z1j:stL.all (fun p => stI Tryz.prog p.1 == some p.2) = true:=by kernel_rfl
theorem z2k:foL.all (fun p => foI Tryz.prog p.1 == some p.2) = true:=by kernel_rfl
theorem z1b:zrL.map (fun p => zrI Tryz.prog p.1) = zrL.map (fun p => some p.2):=by kernel_rfl
theorem z2l : fnL.all (fun p => match Tryz.prog.funcs[p.1]? with | some fn => fn.body.isSome && fn.name != "runtime.NumGoroutine" | none => false) = true := by kernel_rfl
def L:Tabs Tryz.prog:=⟨ldL, slL, stL, foL, zrL, fnL, z2f, z1l, z1j, z2k, z1b, z2l⟩
theorem el5:elI Tryz.prog 5 = some (1, 1):=by kernel_rfl
theorem z3t:elI Tryz.prog 34 = some (6, 96):=by kernel_rfl
theorem z2o:elI Tryz.prog 42 = some (7, 104):=by kernel_rfl
theorem z3s:elI Tryz.prog 63 = some (1, 8):=by kernel_rfl
theorem z43:elI Tryz.prog 91 = some (4, 32):=by kernel_rfl
theorem z2p:elI Tryz.prog 293 = some (6, 104):=by kernel_rfl
theorem z3k:PL Tryz.prog 29 [(0, 1), (1, 1)] [.string ⟨#[]⟩, .string ⟨#[]⟩]:=⟨by kernel_rfl, .agg #[.string ⟨#[]⟩, .string ⟨#[]⟩], by kernel_rfl, rfl⟩
theorem z4w:PL Tryz.prog 31 [(0, 2), (2, 1)] [.string ⟨#[]⟩, .string ⟨#[]⟩, .string ⟨#[]⟩]:=⟨by kernel_rfl, .agg #[.string ⟨#[]⟩, .string ⟨#[]⟩, .string ⟨#[]⟩], by kernel_rfl, rfl⟩
theorem z4v:PL Tryz.prog 32 [(0, 2), (2, 1)] [.string ⟨#[]⟩, .string ⟨#[]⟩, .string ⟨#[]⟩]:=⟨by kernel_rfl, .agg #[.string ⟨#[]⟩, .string ⟨#[]⟩, .string ⟨#[]⟩], by kernel_rfl, rfl⟩
theorem z4u:PL Tryz.prog 34 [(0, 3), (3, 3)] [.string ⟨#[]⟩, .string ⟨#[]⟩, .string ⟨#[]⟩, .string ⟨#[]⟩, .string ⟨#[]⟩, .string ⟨#[]⟩]:=⟨by kernel_rfl, .agg #[.string ⟨#[]⟩, .string ⟨#[]⟩, .string ⟨#[]⟩, .string ⟨#[]⟩, .string ⟨#[]⟩, .string ⟨#[]⟩], by kernel_rfl, rfl⟩
theorem z3i:PL Tryz.prog 42 [(0, 6), (6, 1)] [.string ⟨#[]⟩, .string ⟨#[]⟩, .string ⟨#[]⟩, .string ⟨#[]⟩, .string ⟨#[]⟩, .string ⟨#[]⟩, .bool false]:=⟨by kernel_rfl, .agg #[.string ⟨#[]⟩, .string ⟨#[]⟩, .string ⟨#[]⟩, .string ⟨#[]⟩, .string ⟨#[]⟩, .string ⟨#[]⟩, .bool false], by kernel_rfl, rfl⟩
theorem z4t:PL Tryz.prog 87 [(0, 1), (1, 1)] [.nilFunc, .pointer none]:=⟨by kernel_rfl, .agg #[.nilFunc, .pointer none], by kernel_rfl, rfl⟩
theorem z4s:PL Tryz.prog 89 [(0, 2)] [.nilFunc, .pointer none]:=⟨by kernel_rfl, .agg #[.nilFunc, .pointer none], by kernel_rfl, rfl⟩
theorem z3h:PL Tryz.prog 91 [(0, 2), (2, 2)] [.nilFunc, .pointer none, .nilFunc, .pointer none]:=⟨by kernel_rfl, .agg #[.nilFunc, .pointer none, .nilFunc, .pointer none], by kernel_rfl, rfl⟩
theorem z3o:PL Tryz.prog 157 [(0, 1), (1, 1)] [.pointer none, .int .i64 0]:=⟨by kernel_rfl, .agg #[.pointer none, .int .i64 0], by kernel_rfl, rfl⟩
theorem z1s:PL Tryz.prog 195 [] []:=⟨by kernel_rfl, .agg #[], by kernel_rfl, rfl⟩
theorem z3n:PL Tryz.prog 205 [(0, 1), (1, 1), (2, 2)] [.int .u64 0, .map none, .slice none 0 0, .int .i64 0]:=⟨by kernel_rfl, .agg #[.int .u64 0, .map none, .slice none 0 0, .int .i64 0], by kernel_rfl, rfl⟩
theorem z3m:PL Tryz.prog 252 [(0, 1), (1, 1)] [.int .i64 0, .int .i64 0]:=⟨by kernel_rfl, .agg #[.int .i64 0, .int .i64 0], by kernel_rfl, rfl⟩
theorem z3l:PL Tryz.prog 256 [(0, 1), (1, 1), (2, 1), (3, 1)] [.slice none 0 0, .int .i64 0, .int .i64 0, .int .i64 0]:=⟨by kernel_rfl, .agg #[.slice none 0 0, .int .i64 0, .int .i64 0, .int .i64 0], by kernel_rfl, rfl⟩
theorem z1r:PL Tryz.prog 293 [(0, 6), (6, 0)] [.string ⟨#[]⟩, .string ⟨#[]⟩, .string ⟨#[]⟩, .string ⟨#[]⟩, .string ⟨#[]⟩, .string ⟨#[]⟩]:=⟨by kernel_rfl, .agg #[.string ⟨#[]⟩, .string ⟨#[]⟩, .string ⟨#[]⟩, .string ⟨#[]⟩, .string ⟨#[]⟩, .string ⟨#[]⟩], by kernel_rfl, rfl⟩
theorem z3j:PL Tryz.prog 352 [(0, 6), (6, 1), (7, 1), (8, 1), (9, 1)] [.string ⟨#[]⟩, .string ⟨#[]⟩, .string ⟨#[]⟩, .string ⟨#[]⟩, .string ⟨#[]⟩, .string ⟨#[]⟩, .pointer none, .pointer none, .int .i64 0, .int .i64 0]:=⟨by kernel_rfl, .agg #[.string ⟨#[]⟩, .string ⟨#[]⟩, .string ⟨#[]⟩, .string ⟨#[]⟩, .string ⟨#[]⟩, .string ⟨#[]⟩, .pointer none, .pointer none, .int .i64 0, .int .i64 0], by kernel_rfl, rfl⟩
theorem bt4:Tryz.prog.underlying 4 = some .bool:=by kernel_rfl
theorem z4f:EqT Tryz.prog 34 [0, 0, 0, 0, 0, 0]:=⟨by kernel_rfl, by kernel_rfl, by kernel_rfl⟩
theorem z4b:nkI Tryz.prog 39 = some 1:=by kernel_rfl
theorem z4e:EqT Tryz.prog 42 [0, 0, 0, 0, 0, 0, 2]:=⟨by kernel_rfl, by kernel_rfl, by kernel_rfl⟩
theorem z4a:nkI Tryz.prog 62 = some 1:=by kernel_rfl
theorem z39:nkI Tryz.prog 71 = some 0:=by kernel_rfl
theorem z4x:nkI Tryz.prog 84 = some 3:=by kernel_rfl
theorem z3q:nkI Tryz.prog 85 = some 0:=by kernel_rfl
theorem zxe:nkI Tryz.prog 154 = some 0:=by kernel_rfl
theorem z18:nkI Tryz.prog 226 = some 0:=by kernel_rfl
theorem z17:nkI Tryz.prog 273 = some 0:=by kernel_rfl
theorem zgc:(Tryz.prog.underlying 3).isSome = true ∧ ikI Tryz.prog 63 = some .u64:=⟨by kernel_rfl, by kernel_rfl⟩
theorem zbm:(Tryz.prog.underlying 3).isSome = true ∧ ikI Tryz.prog 274 = some .u64:=⟨by kernel_rfl, by kernel_rfl⟩
theorem zvr:(Tryz.prog.underlying 3).isSome = true ∧ ikI Tryz.prog 402 = some .u64:=⟨by kernel_rfl, by kernel_rfl⟩
theorem ze9:(Tryz.prog.underlying 5).isSome = true ∧ ikI Tryz.prog 63 = some .u64:=⟨by kernel_rfl, by kernel_rfl⟩
theorem zrb:(Tryz.prog.underlying 63).isSome = true ∧ ikI Tryz.prog 5 = some .u8:=⟨by kernel_rfl, by kernel_rfl⟩
theorem zbn:(Tryz.prog.underlying 274).isSome = true ∧ ikI Tryz.prog 3 = some .i64:=⟨by kernel_rfl, by kernel_rfl⟩
end Go.V
set_option maxRecDepth 20000
namespace Go.V
open Go.Proofs Go.RowKit
structure _root_.Go.V.Wr (B:Prop):Prop where
 h:B
theorem _root_.Go.V.Za {A B:Prop} (h:B) (t:Wr B → A:=by intro h; refine z7 (z8 rfl rfl rfl) rfl ?_;exact h.h):A:=t ⟨h⟩
theorem _root_.Go.V.ZaQ {A B:Prop} (h:B) (t:Wr B → A:=by intro h; refine z7 (zg rfl rfl rfl) rfl ?_;exact h.h):A:=t ⟨h⟩
theorem _root_.Go.V.ZfI {A B:Prop} (h:B) (t:Wr B → A:=by intro h; refine z7 (zm rfl (zk rfl) rfl) rfl ?_;exact h.h):A:=t ⟨h⟩
theorem _root_.Go.V.Zg {A B:Prop} (h:B) (t:Wr B → A:=by intro h; refine z7 (zz rfl rfl rfl rfl) rfl ?_;exact h.h):A:=t ⟨h⟩
theorem _root_.Go.V.Zfg {A B:Prop} (h:B) (t:Wr B → A:=by intro h; refine zo rfl ?_;exact h.h):A:=t ⟨h⟩
theorem _root_.Go.V.Zac {A B:Prop} (h:B) (t:Wr B → A:=by intro h; refine z7 (qf rfl rfl rfl rfl (decide_eq_true (by omega))) rfl ?_;exact h.h):A:=t ⟨h⟩
theorem _root_.Go.V.ZfJ {A B:Prop} (h:B) (t:Wr B → A:=by intro h; refine zf (id:=0) ?_;exact h.h):A:=t ⟨h⟩
theorem _root_.Go.V.ZeI {A B:Prop} (h:B) (t:Wr B → A:=by intro h; refine q3 rfl ?_;exact h.h):A:=t ⟨h⟩
theorem _root_.Go.V.Z7 {A B:Prop} (h:B) (t:Wr B → A:=by intro h; refine z7 (qf rfl rfl rfl rfl (decide_eq_false (by omega))) rfl ?_;exact h.h):A:=t ⟨h⟩
theorem _root_.Go.V.Zn {A B:Prop} (h:B) (t:Wr B → A:=by intro h; refine zf (id:=1) ?_;exact h.h):A:=t ⟨h⟩
theorem _root_.Go.V.Z3 {A B:Prop} (h:B) (t:Wr B → A:=by intro h; refine z7 (qz rfl rfl rfl rfl (decide_eq_false (by omega))) rfl ?_;exact h.h):A:=t ⟨h⟩
theorem _root_.Go.V.Z5 {A B:Prop} (h:B) (t:Wr B → A:=by intro h; refine zf (id:=2) ?_;exact h.h):A:=t ⟨h⟩
theorem _root_.Go.V.Zo {A B:Prop} (h:B) (t:Wr B → A:=by intro h; refine zf (id:=3) ?_;exact h.h):A:=t ⟨h⟩
theorem _root_.Go.V.Zdj {A B:Prop} (h:B) (t:Wr B → A:=by intro h; refine z7 (qg rfl rfl rfl rfl (zaa (by omega) (by omega))) rfl ?_;exact h.h):A:=t ⟨h⟩
theorem _root_.Go.V.ZeJ {A B:Prop} (h:B) (t:Wr B → A:=by intro h; refine z7 (ya L rfl rfl rfl rfl rfl (by assumption)) rfl ?_;exact h.h):A:=t ⟨h⟩
theorem _root_.Go.V.ZW {A B:Prop} (h:B) (t:Wr B → A:=by intro h; refine z7 (qz rfl rfl rfl rfl (decide_eq_true (by omega))) rfl ?_;exact h.h):A:=t ⟨h⟩
theorem _root_.Go.V.Zp {A B:Prop} (h:B) (t:Wr B → A:=by intro h; refine zf (id:=4) ?_;exact h.h):A:=t ⟨h⟩
theorem _root_.Go.V.ZaB {A B:Prop} (h:B) (t:Wr B → A:=by intro h; refine z7 (zzx L rfl rfl rfl rfl) rfl ?_;exact h.h):A:=t ⟨h⟩
theorem _root_.Go.V.Zw {A B:Prop} (h:B) (t:Wr B → A:=by intro h; refine zf (id:=5) ?_;exact h.h):A:=t ⟨h⟩
theorem _root_.Go.V.Zak {A B:Prop} (h:B) (t:Wr B → A:=by intro h; refine zf (id:=6) ?_;exact h.h):A:=t ⟨h⟩
theorem _root_.Go.V.ZH {A B:Prop} (h:B) (t:Wr B → A:=by intro h; refine zf (id:=7) ?_;exact h.h):A:=t ⟨h⟩
theorem _root_.Go.V.Zah {A B:Prop} (h:B) (t:Wr B → A:=by intro h; refine zf (id:=9) ?_;exact h.h):A:=t ⟨h⟩
theorem _root_.Go.V.ZA {A B:Prop} (h:B) (t:Wr B → A:=by intro h; refine zf (id:=8) ?_;exact h.h):A:=t ⟨h⟩
theorem _root_.Go.V.Z1 {A B:Prop} (h:B) (t:Wr B → A:=by intro h; refine zi ?_;refine zj ?_;exact h.h):A:=t ⟨h⟩
theorem _root_.Go.V.Zc {A B:Prop} (h:B) (t:Wr B → A:=by intro h; refine ZaQ ?_;refine Z1 ?_;exact h.h):A:=t ⟨h⟩
theorem _root_.Go.V.Zb {A B:Prop} (h:B) (t:Wr B → A:=by intro h; refine Za ?_;refine Za ?_;exact h.h):A:=t ⟨h⟩
theorem _root_.Go.V.Zd {A B:Prop} (h:B) (t:Wr B → A:=by intro h; refine Zc ?_;refine zh ?_;exact h.h):A:=t ⟨h⟩
theorem _root_.Go.V.ZbH {A B:Prop} (h:B) (t:Wr B → A:=by intro h; refine zj ?_;refine zh ?_;exact h.h):A:=t ⟨h⟩
theorem _root_.Go.V.Zdk {A B:Prop} (h:B) (t:Wr B → A:=by intro h; refine Z1 ?_;refine Zfg ?_;exact h.h):A:=t ⟨h⟩
theorem _root_.Go.V.ZeK {A B:Prop} (h:B) (t:Wr B → A:=by intro h; refine zq ?_;refine ZbH ?_;exact h.h):A:=t ⟨h⟩
theorem _root_.Go.V.Zz {A B:Prop} (h:B) (t:Wr B → A:=by intro h; refine Z1 ?_;refine ZeI ?_;exact h.h):A:=t ⟨h⟩
theorem _root_.Go.V.ZO {A B:Prop} (h:B) (t:Wr B → A:=by intro h; refine zh ?_;refine ZfJ ?_;exact h.h):A:=t ⟨h⟩
theorem _root_.Go.V.Zf {A B:Prop} (h:B) (t:Wr B → A:=by intro h; refine Zd ?_;refine zh ?_;exact h.h):A:=t ⟨h⟩
theorem _root_.Go.V.Zt {A B:Prop} (h:B) (t:Wr B → A:=by intro h; refine Zdk ?_;refine ZeK ?_;exact h.h):A:=t ⟨h⟩
theorem _root_.Go.V.Zj {A B:Prop} (h:B) (t:Wr B → A:=by intro h; refine Z1 ?_;refine zh ?_;exact h.h):A:=t ⟨h⟩
theorem _root_.Go.V.Zv {A B:Prop} (h:B) (t:Wr B → A:=by intro h; refine Zz ?_;refine zh ?_;exact h.h):A:=t ⟨h⟩
theorem _root_.Go.V.ZI {A B:Prop} (h:B) (t:Wr B → A:=by intro h; refine q6 ?_;refine zh ?_;exact h.h):A:=t ⟨h⟩
theorem _root_.Go.V.Z4 {A B:Prop} (h:B) (t:Wr B → A:=by intro h; refine Zn ?_;refine Za ?_;exact h.h):A:=t ⟨h⟩
theorem _root_.Go.V.Zcd {A B:Prop} (h:B) (t:Wr B → A:=by intro h; refine ZfI ?_;refine ZfI ?_;exact h.h):A:=t ⟨h⟩
theorem _root_.Go.V.Zfh {A B:Prop} (h:B) (t:Wr B → A:=by intro h; refine ql ?_;refine yc ?_;exact h.h):A:=t ⟨h⟩
theorem _root_.Go.V.ZeL {A B:Prop} (h:B) (t:Wr B → A:=by intro h; refine ql ?_;refine Zfh ?_;exact h.h):A:=t ⟨h⟩
theorem _root_.Go.V.Zr {A B:Prop} (h:B) (t:Wr B → A:=by intro h; refine Zb ?_;refine Za ?_;exact h.h):A:=t ⟨h⟩
theorem _root_.Go.V.Zfx {A B:Prop} (h:B) (t:Wr B → A:=by intro h; refine yd ?_;refine ZeL ?_;exact h.h):A:=t ⟨h⟩
theorem _root_.Go.V.Zk {A B:Prop} (h:B) (t:Wr B → A:=by intro h; refine Zo ?_;refine Za ?_;exact h.h):A:=t ⟨h⟩
theorem _root_.Go.V.ZfK {A B:Prop} (h:B) (t:Wr B → A:=by intro h; refine Zfx ?_;refine ZbH ?_;exact h.h):A:=t ⟨h⟩
theorem _root_.Go.V.Zbs {A B:Prop} (h:B) (t:Wr B → A:=by intro h; refine Za ?_;refine Zcd ?_;exact h.h):A:=t ⟨h⟩
theorem _root_.Go.V.Ze3 {A B:Prop} (h:B) (t:Wr B → A:=by intro h; refine ZeK ?_;refine ZI ?_;exact h.h):A:=t ⟨h⟩
theorem _root_.Go.V.ZB {A B:Prop} (h:B) (t:Wr B → A:=by intro h; refine Zt ?_;refine zh ?_;exact h.h):A:=t ⟨h⟩
theorem _root_.Go.V.Zat {A B:Prop} (h:B) (t:Wr B → A:=by intro h; refine qp ?_;refine zj ?_;exact h.h):A:=t ⟨h⟩
theorem _root_.Go.V.ZX {A B:Prop} (h:B) (t:Wr B → A:=by intro h; refine Zdk ?_;refine zq ?_;exact h.h):A:=t ⟨h⟩
theorem _root_.Go.V.ZaR {A B:Prop} (h:B) (t:Wr B → A:=by intro h; refine Zb ?_;refine ZaB ?_;exact h.h):A:=t ⟨h⟩
theorem _root_.Go.V.Zcz {A B:Prop} (h:B) (t:Wr B → A:=by intro h; refine Zf ?_;refine Z4 ?_;exact h.h):A:=t ⟨h⟩
theorem _root_.Go.V.ZfW {A B:Prop} (h:B) (t:Wr B → A:=by intro h; refine Zj ?_;refine ZeI ?_;exact h.h):A:=t ⟨h⟩
theorem _root_.Go.V.ZY {A B:Prop} (h:B) (t:Wr B → A:=by intro h; refine Zw ?_;refine Za ?_;exact h.h):A:=t ⟨h⟩
theorem _root_.Go.V.Zgd {A B:Prop} (h:B) (t:Wr B → A:=by intro h; refine Zac ?_;refine ZfW ?_;exact h.h):A:=t ⟨h⟩
theorem _root_.Go.V.ZT {A B:Prop} (h:B) (t:Wr B → A:=by intro h; refine Zgd ?_;refine Ze3 ?_;exact h.h):A:=t ⟨h⟩
theorem _root_.Go.V.Zdl {A B:Prop} (h:B) (t:Wr B → A:=by intro h; refine ZfI ?_;refine Zg ?_;exact h.h):A:=t ⟨h⟩
theorem _root_.Go.V.ZaC {A B:Prop} (h:B) (t:Wr B → A:=by intro h; refine Zb ?_;refine ZeJ ?_;exact h.h):A:=t ⟨h⟩
theorem _root_.Go.V.ZbI {A B:Prop} (h:B) (t:Wr B → A:=by intro h; refine Z1 ?_;refine q6 ?_;exact h.h):A:=t ⟨h⟩
theorem _root_.Go.V.ZaS {A B:Prop} (h:B) (t:Wr B → A:=by intro h; refine Zr ?_;refine ZeJ ?_;exact h.h):A:=t ⟨h⟩
theorem _root_.Go.V.Zad {A B:Prop} (h:B) (t:Wr B → A:=by intro h; refine Zbs ?_;refine Zdl ?_;exact h.h):A:=t ⟨h⟩
theorem _root_.Go.V.ZfX {A B:Prop} (h:B) (t:Wr B → A:=by intro h; refine Zj ?_;refine Zfg ?_;exact h.h):A:=t ⟨h⟩
theorem _root_.Go.V.ZaA {A B:Prop} (h:B) (t:Wr B → A:=by intro h; refine Zg ?_;refine Zv ?_;exact h.h):A:=t ⟨h⟩
theorem _root_.Go.V.ZfY {A B:Prop} (h:B) (t:Wr B → A:=by intro h; refine Z7 ?_;refine ZfX ?_;exact h.h):A:=t ⟨h⟩
theorem _root_.Go.V.Zdm {A B:Prop} (h:B) (t:Wr B → A:=by intro h; refine Za ?_;refine zi ?_;exact h.h):A:=t ⟨h⟩
theorem _root_.Go.V.ZaD {A B:Prop} (h:B) (t:Wr B → A:=by intro h; refine ZfY ?_;refine ZfK ?_;exact h.h):A:=t ⟨h⟩
theorem _root_.Go.V.ZfZ {A B:Prop} (h:B) (t:Wr B → A:=by intro h; refine Zbs ?_;refine Zcd ?_;exact h.h):A:=t ⟨h⟩
theorem _root_.Go.V.ZaT {A B:Prop} (h:B) (t:Wr B → A:=by intro h; refine ZO ?_;refine Zcz ?_;exact h.h):A:=t ⟨h⟩
theorem _root_.Go.V.Zfi {A B:Prop} (h:B) (t:Wr B → A:=by intro h; refine Za ?_;refine ZbI ?_;exact h.h):A:=t ⟨h⟩
theorem _root_.Go.V.ZdS {A B:Prop} (h:B) (t:Wr B → A:=by intro h; refine Zv ?_;refine Z5 ?_;exact h.h):A:=t ⟨h⟩
theorem _root_.Go.V.Zbj {A B:Prop} (h:B) (t:Wr B → A:=by intro h; refine ZX ?_;refine Zat ?_;exact h.h):A:=t ⟨h⟩
theorem _root_.Go.V.ZbJ {A B:Prop} (h:B) (t:Wr B → A:=by intro h; refine Zdj ?_;refine Zdm ?_;exact h.h):A:=t ⟨h⟩
theorem _root_.Go.V.Zce {A B:Prop} (h:B) (t:Wr B → A:=by intro h; refine zh ?_;refine Zp ?_;exact h.h):A:=t ⟨h⟩
theorem _root_.Go.V.Zc0 {A B:Prop} (h:B) (t:Wr B → A:=by intro h; refine Zg ?_;refine ZB ?_;exact h.h):A:=t ⟨h⟩
theorem _root_.Go.V.Zdn {A B:Prop} (h:B) (t:Wr B → A:=by intro h; refine Zd ?_;refine Zak ?_;exact h.h):A:=t ⟨h⟩
theorem _root_.Go.V.Zdo {A B:Prop} (h:B) (t:Wr B → A:=by intro h; refine ZfZ ?_;refine Zg ?_;exact h.h):A:=t ⟨h⟩
theorem _root_.Go.V.Zdp {A B:Prop} (h:B) (t:Wr B → A:=by intro h; refine ZfZ ?_;refine Zcd ?_;exact h.h):A:=t ⟨h⟩
theorem _root_.Go.V.Zdq {A B:Prop} (h:B) (t:Wr B → A:=by intro h; refine ZdS ?_;refine Zc ?_;exact h.h):A:=t ⟨h⟩
attribute [local irreducible] V N X VO Par StepOK Has Ret RetL Src
set_option maxHeartbeats 400000 in
theorem check_ret (s:ByteArray) (hs:s.size ≤ 9223372036854775807) {w:World} {B:Heap} (hB:B.Le (hp w)) :
  Ret Tryz.prog 205 [.string s] w B (fun v _ => v = .int .i64 (chk s)):=by
 refine qt Tryz.func205 rfl Tryz.ntmps205 (Nat.le_of_ble_eq_true rfl) hB ?_
 by_cases h1:1 ≤ s.size
 ·by_cases h2:s.size ≤ 16
  ·refine ZaT ?_;refine ZaB ?_;refine Z7 ?_;refine ZaR ?_;refine Z3 ?_;refine Zc0 ?_;refine Zk ?_;refine ZaB ?_;refine Zfi ?_
   refine zan (fun k:Nat => [(0, .is (.string s)), (13, .is (.int .i64 s.size)), (14, .is (.int .i64 k))])
    (fun k => k ≤ s.size ∧ (s.data.toList.take k).all okB = true) (fun k => s.size - k) 0 ⟨Nat.zero_le _, by simp⟩ ⟨rfl, rfl, rfl, trivial⟩ ?_
   rintro k ⟨hk, hall⟩
   by_cases hlt:k < s.size
   ·obtain ⟨c, hc⟩:=getElem?_lt hlt
    have hu:=zwh c
    by_cases a1:(c.toNat:Int) < 97
    ·by_cases a2:(c.toNat:Int) < 48
     ·refine Zce ?_;refine ZT ?_;refine ZY ?_;refine Zdn ?_;refine ZaC ?_;refine Zac ?_;refine Zdo ?_;refine ZaS ?_;refine Zac ?_;refine Zdo ?_;refine ZaA ?_;refine ZH ?_;refine Zc ?_
      refine qq L (rs:=[.tmp 2]) rfl (fun _ _ h => h) Since.refl fun u H hH hle => ?_
      exact congrArg _ (zlq hc (z14 a1 a2)).symm
     ·by_cases a3:57 < (c.toNat:Int)
      ·refine Zce ?_;refine ZT ?_;refine ZY ?_;refine Zdn ?_;refine ZaC ?_;refine Zac ?_;refine Zdo ?_;refine ZaS ?_;refine Z7 ?_;refine ZaS ?_;refine ZW ?_;refine Zg ?_;refine ZaA ?_;refine ZH ?_;refine Zc ?_
       refine qq L (rs:=[.tmp 2]) rfl (fun _ _ h => h) Since.refl fun u H hH hle => ?_
       exact congrArg _ (zlq hc (z13 a1 a3)).symm
      ·refine Zce ?_;refine ZT ?_;refine ZY ?_;refine Zdn ?_;refine ZaC ?_;refine Zac ?_;refine Zdo ?_;refine ZaS ?_;refine Z7 ?_;refine ZaS ?_;refine Z3 ?_;refine Zg ?_;refine Zg ?_;refine Zbj ?_;refine ZA ?_;refine ZbJ ?_
       refine qy (k + 1) ⟨hlt, zin hc (z1z a2 a3) hall⟩ (by omega) ⟨rfl, rfl, rfl, trivial⟩
    ·by_cases a4:122 < (c.toNat:Int)
     ·have a5:57 < (c.toNat:Int):=by omega
      refine Zce ?_;refine ZT ?_;refine ZY ?_;refine Zdn ?_;refine ZaC ?_;refine Z7 ?_;refine ZaS ?_;refine ZW ?_;refine Zg ?_;refine ZaS ?_;refine Z7 ?_;refine ZaS ?_;refine ZW ?_;refine Zg ?_;refine ZaA ?_;refine ZH ?_;refine Zc ?_
      refine qq L (rs:=[.tmp 2]) rfl (fun _ _ h => h) Since.refl fun u H hH hle => ?_
      exact congrArg _ (zlq hc (z11 a4)).symm
     ·refine Zce ?_;refine ZT ?_;refine ZY ?_;refine Zdn ?_;refine ZaC ?_;refine Z7 ?_;refine ZaS ?_;refine Z3 ?_;refine Zg ?_;refine Zdp ?_;refine Zcd ?_;refine Zcd ?_;refine Zg ?_;refine Zbj ?_;refine ZA ?_;refine ZbJ ?_
      refine qy (k + 1) ⟨hlt, zin hc (z10 a1 a4) hall⟩ (by omega) ⟨rfl, rfl, rfl, trivial⟩
   ·refine Zce ?_;refine ZaD ?_;refine Zah ?_;refine Zc ?_
    refine qq L (rs:=[.tmp 2]) rfl (fun _ _ h => h) Since.refl fun u H hH hle => ?_
    exact congrArg _ (zvw h1 h2 (zrk (by omega) hall)).symm
  ·refine ZaT ?_;refine ZaB ?_;refine Z7 ?_;refine ZaR ?_;refine ZW ?_;refine ZaA ?_;refine Z5 ?_;refine Zc ?_
   refine qq L (rs:=[.tmp 2]) rfl (fun _ _ h => h) Since.refl fun u H hH hle => ?_
   exact congrArg _ (zp4 (by omega)).symm
 ·refine ZaT ?_;refine ZaB ?_;refine Zac ?_;refine Zad ?_;refine Zdq ?_
  refine qq L (rs:=[.tmp 2]) rfl (fun _ _ h => h) Since.refl fun u H hH hle => ?_
  exact congrArg _ (zp4 (by omega)).symm
end Go.V
set_option maxRecDepth 20000
namespace Go.V
open Go.Proofs Go.RowKit
theorem _root_.Go.V.Zl {A B:Prop} (h:B) (t:Wr B → A:=by intro h; refine z7 (zt rfl rfl rfl) rfl ?_;exact h.h):A:=t ⟨h⟩
theorem _root_.Go.V.Zal {A B:Prop} (h:B) (t:Wr B → A:=by intro h; refine z7 (qu rfl rfl rfl rfl (decide_eq_false (by omega))) rfl ?_;exact h.h):A:=t ⟨h⟩
theorem _root_.Go.V.Zfy {A B:Prop} (h:B) (t:Wr B → A:=by intro h; refine z7 (y4 L rfl rfl rfl rfl) rfl ?_;exact h.h):A:=t ⟨h⟩
theorem _root_.Go.V.Zam {A B:Prop} (h:B) (t:Wr B → A:=by intro h; refine z7 (qu rfl rfl rfl rfl (decide_eq_true (by omega))) rfl ?_;exact h.h):A:=t ⟨h⟩
theorem _root_.Go.V.ZaU {A B:Prop} (h:B) (t:Wr B → A:=by intro h; refine z7 (y5 L _ rfl rfl rfl rfl rfl rfl rfl (by first | omega | decide) (by assumption)) rfl ?_;exact h.h):A:=t ⟨h⟩
theorem _root_.Go.V.ZeM {A B:Prop} (h:B) (t:Wr B → A:=by intro h; refine z7 (zn4 L rfl rfl rfl rfl rfl) rfl ?_;exact h.h):A:=t ⟨h⟩
theorem _root_.Go.V.Zx {A B:Prop} (h:B) (t:Wr B → A:=by intro h; refine Zl ?_;refine Zfy ?_;exact h.h):A:=t ⟨h⟩
theorem _root_.Go.V.Zi {A B:Prop} (h:B) (t:Wr B → A:=by intro h; refine Zp ?_;refine Za ?_;exact h.h):A:=t ⟨h⟩
theorem _root_.Go.V.ZJ {A B:Prop} (h:B) (t:Wr B → A:=by intro h; refine Zak ?_;refine Za ?_;exact h.h):A:=t ⟨h⟩
theorem _root_.Go.V.ZF {A B:Prop} (h:B) (t:Wr B → A:=by intro h; refine Zam ?_;refine Zv ?_;exact h.h):A:=t ⟨h⟩
theorem _root_.Go.V.Zb3 {A B:Prop} (h:B) (t:Wr B → A:=by intro h; refine Zn ?_;refine Zx ?_;exact h.h):A:=t ⟨h⟩
theorem _root_.Go.V.Zcf {A B:Prop} (h:B) (t:Wr B → A:=by intro h; refine Zd ?_;refine ZY ?_;exact h.h):A:=t ⟨h⟩
attribute [local irreducible] V N X VO Par StepOK Has Ret RetL Src
def zcw:List ByteArray → Int
 | [] => 0
 | s :: l => if chk s = 0 then zcw l else chk s
theorem zou:∀ (l:List ByteArray) (s:ByteArray), zcw l = 0 → zcw (l ++ [s]) = chk s
 | [], s, _ => by simp only [List.nil_append, zcw]; split <;> simp_all
 | x :: l, s, h => by
  simp only [List.cons_append, zcw] at h ⊢
  by_cases hx:chk x = 0
  ·rw [if_pos hx] at h ⊢; exact zou l s h
  ·rw [if_neg hx] at h; exact absurd h hx
theorem zrl:∀ (l:List ByteArray) (k:Nat) (s:ByteArray), zcw (l.take k) = 0 → l[k]? = some s → chk s ≠ 0 → zcw l = chk s
 | [], k, s, _, h, _ => by simp at h
 | x :: l, 0, s, _, h, hc => by simp at h; subst h; simp [zcw, hc]
 | x :: l, k + 1, s, ha, h, hc => by
  simp only [List.take_succ_cons, zcw] at ha
  simp only [List.getElem?_cons_succ] at h
  by_cases hx:chk x = 0
  ·rw [if_pos hx] at ha
   simp only [zcw, if_pos hx]
   exact zrl l k s ha h hc
  ·rw [if_neg hx] at ha; exact absurd ha hx
set_option maxHeartbeats 400000 in
theorem zv3 (l:List ByteArray) (hl:∀ s ∈ l, s.size ≤ 9223372036854775807) (hlen:l.length ≤ 1000) {e:TypeId} {fu:Bool} {v:Value} {w:World} {B:Heap} (hB:B.Le (hp w)) (hv:SlV e 1 (l.map Value.string) l.length fu v B) :
  Ret Tryz.prog 236 [v] w B (fun v _ => v = .int .i64 (zcw l)):=by
 refine qt Tryz.func236 rfl Tryz.ntmps236 (Nat.le_of_ble_eq_true rfl) hB ?_
 refine zbl 0 (SlV e 1 (l.map Value.string) l.length fu) rfl SlV.mono hv ?_
 refine ZO ?_;refine Zf ?_;refine Zb3 ?_;refine Zfi ?_
 refine zan (fun k:Nat => [(6, .sat (SlV e 1 (l.map Value.string) l.length fu)), (7, .is (.int .i64 l.length)), (8, .is (.int .i64 k))])
  (fun k => k ≤ l.length ∧ zcw (l.take k) = 0) (fun k => l.length - k) 0 ⟨Nat.zero_le _, by simp [zcw]⟩ ⟨rfl, rfl, rfl, trivial⟩ ?_
 rintro k ⟨hk, hall⟩
 by_cases hlt:k < l.length
 ·have hs:l[k]? = some l[k]:=List.getElem?_eq_getElem hlt
  generalize l[k] = s at hs
  have hsz:s.size ≤ 9223372036854775807:=hl s (List.mem_of_getElem? hs)
  have hc:=z1h hs
  by_cases h0:chk s = 0
  ·refine zh ?_;refine Z5 ?_;refine ZT ?_;refine Zo ?_;refine ZaU ?_;refine ZeM ?_;refine Zd ?_;refine Zi ?_;refine z7 (zp L rfl rfl (zk rfl) rfl rfl rfl (fun u H hH _ _ => check_ret _ (by first | omega | decide) hH)) rfl ?_;refine Zcf ?_;refine Zal ?_;refine Zbj ?_;refine ZH ?_;refine ZbJ ?_
   refine qy (k + 1) ⟨hlt, ?_⟩ (by omega) ⟨rfl, rfl, rfl, trivial⟩
   rw [List.take_add_one, hs]
   show zcw (l.take k ++ [s]) = 0
   rw [zou _ _ hall, h0]
  ·refine zh ?_;refine Z5 ?_;refine ZT ?_;refine Zo ?_;refine ZaU ?_;refine ZeM ?_;refine Zd ?_;refine Zi ?_;refine z7 (zp L rfl rfl (zk rfl) rfl rfl rfl (fun u H hH _ _ => check_ret _ (by first | omega | decide) hH)) rfl ?_;refine Zcf ?_;refine ZF ?_;refine ZJ ?_;refine Zc ?_
   refine qq L (rs:=[.tmp 2]) rfl (fun _ _ h => h) Since.refl fun u H hH hle => ?_
   exact congrArg _ (zrl l k s hall hs h0).symm
 ·refine zh ?_;refine Z5 ?_;refine ZaD ?_;refine ZA ?_;refine Zc ?_
  refine qq L (rs:=[.tmp 2]) rfl (fun _ _ h => h) Since.refl fun u H hH hle => ?_
  have:l.take k = l:=List.take_of_length_le (by omega)
  exact congrArg _ (this ▸ hall).symm
end Go.V
namespace Go.Proofs
open Go.Shelf
def Tryz.lays169_ren:Go.Shelf.Ren:=⟨fun | 169 => 124 | n => n, fun | 70 => 226 | 9 => 9 | 0 => 0 | 72 => 228 | 37 => 62 | 127 => 318 | 3 => 3 | 5 => 5 | n => n, fun | n => n⟩
theorem Tryz.lays169:Go.Proofs.Lays.n169 Tryz.prog Tryz.lays169_ren:={
 mixed:=by kernel_rfl
 f169:=Tryz.func124.trans (congrArg some (by kernel_rfl))
 t0:=Tryz.underlying0
 a0:=Tryz.isAgg0
 z0:=Tryz.sizeOf0
 v0:=Tryz.zeroValue0
 t3:=Tryz.underlying3
 a3:=Tryz.isAgg3
 z3:=Tryz.sizeOf3
 v3:=Tryz.zeroValue3
 t9:=Tryz.underlying9
 a9:=Tryz.isAgg9
 z9:=Tryz.sizeOf9
 v9:=Tryz.zeroValue9
 t37:=Tryz.underlying62
 a37:=Tryz.isAgg62
 z37:=Tryz.sizeOf62
 v37:=Tryz.zeroValue62
 t70:=Tryz.underlying226
 a70:=Tryz.isAgg226
 z70:=Tryz.sizeOf226
 v70:=Tryz.zeroValue226
 t72:=Tryz.underlying228
 a72:=Tryz.isAgg228
 z72:=Tryz.sizeOf228
 v72:=Tryz.zeroValue228
 t127:=Tryz.underlying318
 a127:=Tryz.isAgg318
 z127:=Tryz.sizeOf318
 v127:=Tryz.zeroValue318 }
theorem Tryz.Builder_Extra_169:Builder.Extra Tryz.prog Tryz.lays169_ren:={
 sizeBuilder:=by kernel_rfl
 liesBuilder:=by kernel_rfl
 t5:=Tryz.underlying5
 a5:=Tryz.isAgg5
 z5:=Tryz.sizeOf5
 v5:=Tryz.zeroValue5
 infoByte:=by kernel_rfl
 cellsByte:=by kernel_rfl
 sizeByte:=by kernel_rfl
 neB5:=by decide }
open Go.RowKit in
theorem Tryz.Builder_String (B b:Nat) (l:List UInt8) (w:World) (h:Lib.IsBuilder 228 5 B b (Lib.byteCells l) w) (h0:l ≠ []) :
  Calls Tryz.prog 124 #[.pointer (some ⟨b, 0, none⟩)] w fun e w' => e = .returned (.string ⟨l.toArray⟩) ∧ Below B w w':=Any.Builder_String Tryz.lays169 Tryz.Builder_Extra_169 B b l w h h0
open Go.RowKit in
theorem Tryz.Builder_String_empty (B b:Nat) (w:World) (h:Lib.IsBuilder 228 5 B b [] w) (hBw:B ≤ w.heap.size) :
  Calls Tryz.prog 124 #[.pointer (some ⟨b, 0, none⟩)] w fun e w' => e = .returned (.string ⟨#[]⟩) ∧ Below B w w':=Any.Builder_String_empty Tryz.lays169 Tryz.Builder_Extra_169 B b w h hBw
open Go.RowKit in
theorem Tryz.Builder_String_any (B b:Nat) (l:List UInt8) (w:World) (h:Lib.IsBuilder 228 5 B b (Lib.byteCells l) w) (hBw:B ≤ w.heap.size) :
  Calls Tryz.prog 124 #[.pointer (some ⟨b, 0, none⟩)] w fun e w' => e = .returned (.string ⟨l.toArray⟩) ∧ Below B w w':=Any.Builder_String_any Tryz.lays169 Tryz.Builder_Extra_169 B b l w h hBw
def Tryz.lays213_ren:Go.Shelf.Ren:=⟨fun | 213 => 286 | 265 => 312 | n => n, fun | 9 => 9 | 3 => 3 | n => n, fun | n => n⟩
theorem Tryz.lays213:Go.Proofs.Lays.n213 Tryz.prog Tryz.lays213_ren:={
 mixed:=by kernel_rfl
 f213:=Tryz.func286.trans (congrArg some (by kernel_rfl))
 f265:=Tryz.func312.trans (congrArg some (by kernel_rfl))
 t3:=Tryz.underlying3
 a3:=Tryz.isAgg3
 z3:=Tryz.sizeOf3
 v3:=Tryz.zeroValue3
 t9:=Tryz.underlying9
 a9:=Tryz.isAgg9
 z9:=Tryz.sizeOf9
 v9:=Tryz.zeroValue9 }
open Go.RowKit in
theorem Tryz.bytealg_CompareString (a b:ByteArray) (w:World) :
  Calls Tryz.prog 286 #[.string a, .string b] w fun e w' => e = .returned (.int .i64 (Lib.compareBytes a.data.toList b.data.toList)) ∧ w' = w:=Any.bytealg_CompareString Tryz.lays213 a b w
def Tryz.lays106_ren:Go.Shelf.Ren:=⟨fun | 106 => 238 | 213 => 286 | 265 => 312 | n => n, fun | 9 => 9 | 3 => 3 | n => n, fun | n => n⟩
theorem Tryz.lays106:Go.Proofs.Lays.n106 Tryz.prog Tryz.lays106_ren:={
 mixed:=by kernel_rfl
 f106:=Tryz.func238.trans (congrArg some (by kernel_rfl))
 f213:=Tryz.func286.trans (congrArg some (by kernel_rfl))
 f265:=Tryz.func312.trans (congrArg some (by kernel_rfl))
 t3:=Tryz.underlying3
 a3:=Tryz.isAgg3
 z3:=Tryz.sizeOf3
 v3:=Tryz.zeroValue3
 t9:=Tryz.underlying9
 a9:=Tryz.isAgg9
 z9:=Tryz.sizeOf9
 v9:=Tryz.zeroValue9 }
open Go.RowKit in
theorem Tryz.strings_Compare (a b:ByteArray) (w:World) :
  Calls Tryz.prog 238 #[.string a, .string b] w fun e w' => e = .returned (.int .i64 (Lib.compareBytes a.data.toList b.data.toList)) ∧ w' = w:=Any.strings_Compare Tryz.lays106 a b w
def Tryz.lays137_ren:Go.Shelf.Ren:=⟨fun | 137 => 258 | 217 => 298 | 266 => 315 | n => n, fun | 9 => 9 | 5 => 5 | 3 => 3 | n => n, fun | n => n⟩
theorem Tryz.lays137:Go.Proofs.Lays.n137 Tryz.prog Tryz.lays137_ren:={
 mixed:=by kernel_rfl
 f137:=Tryz.func258.trans (congrArg some (by kernel_rfl))
 f217:=Tryz.func298.trans (congrArg some (by kernel_rfl))
 f266:=Tryz.func315.trans (congrArg some (by kernel_rfl))
 t3:=Tryz.underlying3
 a3:=Tryz.isAgg3
 z3:=Tryz.sizeOf3
 v3:=Tryz.zeroValue3
 t5:=Tryz.underlying5
 a5:=Tryz.isAgg5
 z5:=Tryz.sizeOf5
 v5:=Tryz.zeroValue5
 t9:=Tryz.underlying9
 a9:=Tryz.isAgg9
 z9:=Tryz.sizeOf9
 v9:=Tryz.zeroValue9 }
open Go.RowKit in
theorem Tryz.strings_IndexByte (s:ByteArray) (c:Int) (w:World) :
  Calls Tryz.prog 258 #[.string s, .int .u8 c] w fun e w' => e = .returned (.int .i64 (Lib.indexByte s.data.toList c.toNat.toUInt8)) ∧ w' = w:=Any.strings_IndexByte Tryz.lays137 s c w
def Tryz.lays211_ren:Go.Shelf.Ren:=⟨fun | 211 => 200 | 207 => 259 | n => n, fun | 9 => 9 | 4 => 4 | 3 => 3 | n => n, fun | n => n⟩
theorem Tryz.lays211:Go.Proofs.Lays.n211 Tryz.prog Tryz.lays211_ren:={
 mixed:=by kernel_rfl
 f207:=Tryz.func259.trans (congrArg some (by kernel_rfl))
 f211:=Tryz.func200.trans (congrArg some (by kernel_rfl))
 t3:=Tryz.underlying3
 a3:=Tryz.isAgg3
 z3:=Tryz.sizeOf3
 v3:=Tryz.zeroValue3
 t4:=Tryz.underlying4
 a4:=Tryz.isAgg4
 z4:=Tryz.sizeOf4
 v4:=Tryz.zeroValue4
 t9:=Tryz.underlying9
 a9:=Tryz.isAgg9
 z9:=Tryz.sizeOf9
 v9:=Tryz.zeroValue9 }
open Go.RowKit in
theorem Tryz.stringslite_CutSuffix (s p:ByteArray) (w:World) (hs:s.size ≤ 9223372036854775807) :
  Calls Tryz.prog 200 #[.string s, .string p] w fun e w' => e = .returned (.tuple #[.string ⟨(Lib.trimSuffix s.data.toList p.data.toList).toArray⟩, .bool (Lib.hasSuffix s.data.toList p.data.toList)]) ∧ w' = w:=Any.stringslite_CutSuffix Tryz.lays211 s p w hs
def Tryz.lays104_ren:Go.Shelf.Ren:=⟨fun | 104 => 130 | 211 => 200 | 207 => 259 | n => n, fun | 9 => 9 | 4 => 4 | 24 => 241 | 3 => 3 | n => n, fun | n => n⟩
theorem Tryz.lays104:Go.Proofs.Lays.n104 Tryz.prog Tryz.lays104_ren:={
 mixed:=by kernel_rfl
 f104:=Tryz.func130.trans (congrArg some (by kernel_rfl))
 f207:=Tryz.func259.trans (congrArg some (by kernel_rfl))
 f211:=Tryz.func200.trans (congrArg some (by kernel_rfl))
 t3:=Tryz.underlying3
 a3:=Tryz.isAgg3
 z3:=Tryz.sizeOf3
 v3:=Tryz.zeroValue3
 t4:=Tryz.underlying4
 a4:=Tryz.isAgg4
 z4:=Tryz.sizeOf4
 v4:=Tryz.zeroValue4
 t9:=Tryz.underlying9
 a9:=Tryz.isAgg9
 z9:=Tryz.sizeOf9
 v9:=Tryz.zeroValue9
 t24:=Tryz.underlying241
 a24:=Tryz.isAgg241
 z24:=Tryz.sizeOf241
 v24:=Tryz.zeroValue241 }
open Go.RowKit in
theorem Tryz.strings_CutSuffix (s p:ByteArray) (w:World) (hs:s.size ≤ 9223372036854775807) :
  Calls Tryz.prog 130 #[.string s, .string p] w fun e w' => e = .returned (.tuple #[.string ⟨(Lib.trimSuffix s.data.toList p.data.toList).toArray⟩, .bool (Lib.hasSuffix s.data.toList p.data.toList)]) ∧ w' = w:=Any.strings_CutSuffix Tryz.lays104 s p w hs
def Tryz.lays195_ren:Go.Shelf.Ren:=⟨fun | 195 => 302 | n => n, fun | 9 => 9 | 3 => 3 | 0 => 0 | 4 => 4 | n => n, fun | n => n⟩
theorem Tryz.lays195:Go.Proofs.Lays.n195 Tryz.prog Tryz.lays195_ren:={
 mixed:=by kernel_rfl
 f195:=Tryz.func302.trans (congrArg some (by kernel_rfl))
 t0:=Tryz.underlying0
 a0:=Tryz.isAgg0
 z0:=Tryz.sizeOf0
 v0:=Tryz.zeroValue0
 t3:=Tryz.underlying3
 a3:=Tryz.isAgg3
 z3:=Tryz.sizeOf3
 v3:=Tryz.zeroValue3
 t4:=Tryz.underlying4
 a4:=Tryz.isAgg4
 z4:=Tryz.sizeOf4
 v4:=Tryz.zeroValue4
 t9:=Tryz.underlying9
 a9:=Tryz.isAgg9
 z9:=Tryz.sizeOf9
 v9:=Tryz.zeroValue9 }
open Go.RowKit in
theorem Tryz.utf8_RuneCountInString (s:ByteArray) (w:World) (hs:s.size < 9223372036854775807) :
  Calls Tryz.prog 302 #[.string s] w fun e w' => e = .returned (.int .i64 (Lib.runeCount s)) ∧ ∃ pos, w' = w.iter s pos:=Any.utf8_RuneCountInString Tryz.lays195 s w hs
def Tryz.lays129_ren:Go.Shelf.Ren:=⟨fun | 129 => 279 | n => n, fun | 53 => 63 | 3 => 3 | 4 => 4 | 46 => 274 | 5 => 5 | 9 => 9 | n => n, fun | n => n⟩
theorem Tryz.lays129:Go.Proofs.Lays.n129 Tryz.prog Tryz.lays129_ren:={
 mixed:=by kernel_rfl
 f129:=Tryz.func279.trans (congrArg some (by kernel_rfl))
 t3:=Tryz.underlying3
 a3:=Tryz.isAgg3
 z3:=Tryz.sizeOf3
 v3:=Tryz.zeroValue3
 t4:=Tryz.underlying4
 a4:=Tryz.isAgg4
 z4:=Tryz.sizeOf4
 v4:=Tryz.zeroValue4
 t5:=Tryz.underlying5
 a5:=Tryz.isAgg5
 z5:=Tryz.sizeOf5
 v5:=Tryz.zeroValue5
 t9:=Tryz.underlying9
 a9:=Tryz.isAgg9
 z9:=Tryz.sizeOf9
 v9:=Tryz.zeroValue9
 t46:=Tryz.underlying274
 a46:=Tryz.isAgg274
 z46:=Tryz.sizeOf274
 v46:=Tryz.zeroValue274
 t53:=Tryz.underlying63
 a53:=Tryz.isAgg63
 z53:=Tryz.sizeOf63
 v53:=Tryz.zeroValue63 }
theorem Tryz.bits_Len64 (x:Int) (w:World) (h0:0 ≤ x) (h1:x ≤ 18446744073709551615) :
  Calls Tryz.prog 279 #[.int .u64 x] w fun e w' => e = .returned (.int .i64 (Lib.bitLen x.toNat)) ∧ w' = w:=Any.bits_Len64 Tryz.lays129 x w h0 h1
def Tryz.lays217_ren:Go.Shelf.Ren:=⟨fun | 217 => 298 | 266 => 315 | n => n, fun | 9 => 9 | 5 => 5 | 3 => 3 | n => n, fun | n => n⟩
theorem Tryz.lays217:Go.Proofs.Lays.n217 Tryz.prog Tryz.lays217_ren:={
 mixed:=by kernel_rfl
 f217:=Tryz.func298.trans (congrArg some (by kernel_rfl))
 f266:=Tryz.func315.trans (congrArg some (by kernel_rfl))
 t3:=Tryz.underlying3
 a3:=Tryz.isAgg3
 z3:=Tryz.sizeOf3
 v3:=Tryz.zeroValue3
 t5:=Tryz.underlying5
 a5:=Tryz.isAgg5
 z5:=Tryz.sizeOf5
 v5:=Tryz.zeroValue5
 t9:=Tryz.underlying9
 a9:=Tryz.isAgg9
 z9:=Tryz.sizeOf9
 v9:=Tryz.zeroValue9 }
open Go.RowKit Go.Lib in
theorem Tryz.stringslite_IndexByte (s:ByteArray) (c:Int) (w:World) :
  Calls Tryz.prog 298 #[.string s, .int .u8 c] w fun e w' => e = .returned (.int .i64 (Lib.indexByte s.data.toList c.toNat.toUInt8)) ∧ w' = w:=Any.stringslite_IndexByte Tryz.lays217 s c w
def Tryz.lays224_ren:Go.Shelf.Ren:=⟨fun | 224 => 300 | n => n, fun | 3 => 3 | n => n, fun | n => n⟩
theorem Tryz.lays224:Go.Proofs.Lays.n224 Tryz.prog Tryz.lays224_ren:={
 mixed:=by kernel_rfl
 f224:=Tryz.func300.trans (congrArg some (by kernel_rfl))
 t3:=Tryz.underlying3
 a3:=Tryz.isAgg3
 z3:=Tryz.sizeOf3
 v3:=Tryz.zeroValue3 }
open Go.RowKit Go.Lib in
theorem Tryz.bytealg_Cutover (n:Int) (h0:0 ≤ n) (h1:n < 4611686018427387904) (w:World) :
  Calls Tryz.prog 300 #[.int .i64 n] w fun e w' => e = .returned (.int .i64 ((n + 16) / 8)) ∧ w' = w:=Any.bytealg_Cutover Tryz.lays224 n h0 h1 w
def Tryz.lays314_ren:Go.Shelf.Ren:=⟨fun | 314 => 316 | n => n, fun | 9 => 9 | 51 => 387 | 3 => 3 | 4 => 4 | 5 => 5 | 46 => 274 | n => n, fun | n => n⟩
theorem Tryz.lays314:Go.Proofs.Lays.n314 Tryz.prog Tryz.lays314_ren:={
 mixed:=by kernel_rfl
 f314:=Tryz.func316.trans (congrArg some (by kernel_rfl))
 t3:=Tryz.underlying3
 a3:=Tryz.isAgg3
 z3:=Tryz.sizeOf3
 v3:=Tryz.zeroValue3
 t4:=Tryz.underlying4
 a4:=Tryz.isAgg4
 z4:=Tryz.sizeOf4
 v4:=Tryz.zeroValue4
 t5:=Tryz.underlying5
 a5:=Tryz.isAgg5
 z5:=Tryz.sizeOf5
 v5:=Tryz.zeroValue5
 t9:=Tryz.underlying9
 a9:=Tryz.isAgg9
 z9:=Tryz.sizeOf9
 v9:=Tryz.zeroValue9
 t46:=Tryz.underlying274
 a46:=Tryz.isAgg274
 z46:=Tryz.sizeOf274
 v46:=Tryz.zeroValue274
 t51:=Tryz.underlying387
 a51:=Tryz.isAgg387
 z51:=Tryz.sizeOf387
 v51:=Tryz.zeroValue387 }
open Go.RowKit Go.Lib in
theorem Tryz.bytealg_hashStr (sep:ByteArray) (hs:sep.size < 4294967281) (w:World) :
  Calls Tryz.prog 316 #[.string sep] w fun e w' => e = .returned (.tuple #[.int .u32 (RK.H sep.data.toList % 4294967296), .int .u32 (16777619 ^ sep.size % 4294967296)]) ∧ w' = w:=Any.bytealg_hashStr Tryz.lays314 sep hs w
def Tryz.lays267_ren:Go.Shelf.Ren:=⟨fun | 267 => 301 | 314 => 316 | n => n, fun | 9 => 9 | 3 => 3 | 146 => 410 | 51 => 387 | 4 => 4 | 5 => 5 | 46 => 274 | n => n, fun | n => n⟩
theorem Tryz.lays267:Go.Proofs.Lays.n267 Tryz.prog Tryz.lays267_ren:={
 mixed:=by kernel_rfl
 f267:=Tryz.func301.trans (congrArg some (by kernel_rfl))
 f314:=Tryz.func316.trans (congrArg some (by kernel_rfl))
 t3:=Tryz.underlying3
 a3:=Tryz.isAgg3
 z3:=Tryz.sizeOf3
 v3:=Tryz.zeroValue3
 t4:=Tryz.underlying4
 a4:=Tryz.isAgg4
 z4:=Tryz.sizeOf4
 v4:=Tryz.zeroValue4
 t5:=Tryz.underlying5
 a5:=Tryz.isAgg5
 z5:=Tryz.sizeOf5
 v5:=Tryz.zeroValue5
 t9:=Tryz.underlying9
 a9:=Tryz.isAgg9
 z9:=Tryz.sizeOf9
 v9:=Tryz.zeroValue9
 t46:=Tryz.underlying274
 a46:=Tryz.isAgg274
 z46:=Tryz.sizeOf274
 v46:=Tryz.zeroValue274
 t51:=Tryz.underlying387
 a51:=Tryz.isAgg387
 z51:=Tryz.sizeOf387
 v51:=Tryz.zeroValue387
 t146:=Tryz.underlying410
 a146:=Tryz.isAgg410
 z146:=Tryz.sizeOf410
 v146:=Tryz.zeroValue410 }
open Go.RowKit Go.Lib in
theorem Tryz.bytealg_IndexRabinKarp (s sep:ByteArray) (h1:1 ≤ sep.size) (h2:sep.size ≤ s.size) (hs:s.size < 4294967281) (w:World) :
  Calls Tryz.prog 301 #[.string s, .string sep] w fun e w' => e = .returned (.int .i64 (Lib.index s.data.toList sep.data.toList)) ∧ w' = w:=Any.bytealg_IndexRabinKarp Tryz.lays267 s sep h1 h2 hs w
def Tryz.lays219_ren:Go.Shelf.Ren:=⟨fun | 219 => 260 | 217 => 298 | 225 => 299 | 224 => 300 | 267 => 301 | 266 => 315 | 314 => 316 | n => n, fun | 9 => 9 | 3 => 3 | 4 => 4 | 5 => 5 | 46 => 274 | 146 => 410 | 51 => 387 | n => n, fun | 1 => 0 | n => n⟩
theorem Tryz.lays219:Go.Proofs.Lays.n219 Tryz.prog Tryz.lays219_ren:={
 mixed:=by kernel_rfl
 f217:=Tryz.func298.trans (congrArg some (by kernel_rfl))
 f219:=Tryz.func260.trans (congrArg some (by kernel_rfl))
 f224:=Tryz.func300.trans (congrArg some (by kernel_rfl))
 f225:=Tryz.func299.trans (congrArg some (by kernel_rfl))
 f266:=Tryz.func315.trans (congrArg some (by kernel_rfl))
 f267:=Tryz.func301.trans (congrArg some (by kernel_rfl))
 f314:=Tryz.func316.trans (congrArg some (by kernel_rfl))
 t3:=Tryz.underlying3
 a3:=Tryz.isAgg3
 z3:=Tryz.sizeOf3
 v3:=Tryz.zeroValue3
 t4:=Tryz.underlying4
 a4:=Tryz.isAgg4
 z4:=Tryz.sizeOf4
 v4:=Tryz.zeroValue4
 t5:=Tryz.underlying5
 a5:=Tryz.isAgg5
 z5:=Tryz.sizeOf5
 v5:=Tryz.zeroValue5
 t9:=Tryz.underlying9
 a9:=Tryz.isAgg9
 z9:=Tryz.sizeOf9
 v9:=Tryz.zeroValue9
 t46:=Tryz.underlying274
 a46:=Tryz.isAgg274
 z46:=Tryz.sizeOf274
 v46:=Tryz.zeroValue274
 t51:=Tryz.underlying387
 a51:=Tryz.isAgg387
 z51:=Tryz.sizeOf387
 v51:=Tryz.zeroValue387
 t146:=Tryz.underlying410
 a146:=Tryz.isAgg410
 z146:=Tryz.sizeOf410
 v146:=Tryz.zeroValue410
 g1:=by kernel_rfl }
open Go.RowKit Go.Lib in
theorem Tryz.stringslite_Index_one (s:ByteArray) (c:UInt8) (w:World) :
  Calls Tryz.prog 260 #[.string s, .string ⟨#[c]⟩] w fun e w' => e = .returned (.int .i64 (Lib.indexByte s.data.toList c)) ∧ w' = w:=Any.stringslite_Index_one Tryz.lays219 s c w
open Go.RowKit Go.Lib in
theorem Tryz.stringslite_Index (s sub:ByteArray) (m:Int) (w:World) (hs:s.size < 4294967281) (hm:w.cell? ⟨0, 0, none⟩ = some (.int .i64 m)) :
  Calls Tryz.prog 260 #[.string s, .string sub] w fun e w' => e = .returned (.int .i64 (Lib.index s.data.toList sub.data.toList)) ∧ w' = w:=Any.stringslite_Index Tryz.lays219 s sub m w hs hm
def Tryz.lays143_ren:Go.Shelf.Ren:=⟨fun | 143 => 202 | 219 => 260 | 217 => 298 | 225 => 299 | 224 => 300 | 267 => 301 | 266 => 315 | 314 => 316 | n => n, fun | 9 => 9 | 3 => 3 | 4 => 4 | 5 => 5 | 46 => 274 | 146 => 410 | 51 => 387 | n => n, fun | 1 => 0 | n => n⟩
theorem Tryz.lays143:Go.Proofs.Lays.n143 Tryz.prog Tryz.lays143_ren:={
 mixed:=by kernel_rfl
 f143:=Tryz.func202.trans (congrArg some (by kernel_rfl))
 f217:=Tryz.func298.trans (congrArg some (by kernel_rfl))
 f219:=Tryz.func260.trans (congrArg some (by kernel_rfl))
 f224:=Tryz.func300.trans (congrArg some (by kernel_rfl))
 f225:=Tryz.func299.trans (congrArg some (by kernel_rfl))
 f266:=Tryz.func315.trans (congrArg some (by kernel_rfl))
 f267:=Tryz.func301.trans (congrArg some (by kernel_rfl))
 f314:=Tryz.func316.trans (congrArg some (by kernel_rfl))
 t3:=Tryz.underlying3
 a3:=Tryz.isAgg3
 z3:=Tryz.sizeOf3
 v3:=Tryz.zeroValue3
 t4:=Tryz.underlying4
 a4:=Tryz.isAgg4
 z4:=Tryz.sizeOf4
 v4:=Tryz.zeroValue4
 t5:=Tryz.underlying5
 a5:=Tryz.isAgg5
 z5:=Tryz.sizeOf5
 v5:=Tryz.zeroValue5
 t9:=Tryz.underlying9
 a9:=Tryz.isAgg9
 z9:=Tryz.sizeOf9
 v9:=Tryz.zeroValue9
 t46:=Tryz.underlying274
 a46:=Tryz.isAgg274
 z46:=Tryz.sizeOf274
 v46:=Tryz.zeroValue274
 t51:=Tryz.underlying387
 a51:=Tryz.isAgg387
 z51:=Tryz.sizeOf387
 v51:=Tryz.zeroValue387
 t146:=Tryz.underlying410
 a146:=Tryz.isAgg410
 z146:=Tryz.sizeOf410
 v146:=Tryz.zeroValue410
 g1:=by kernel_rfl }
open Go.RowKit Go.Lib in
theorem Tryz.strings_Index_one (s:ByteArray) (c:UInt8) (w:World) :
  Calls Tryz.prog 202 #[.string s, .string ⟨#[c]⟩] w fun e w' => e = .returned (.int .i64 (Lib.indexByte s.data.toList c)) ∧ w' = w:=Any.strings_Index_one Tryz.lays143 s c w
open Go.RowKit Go.Lib in
theorem Tryz.strings_Index (s sub:ByteArray) (m:Int) (w:World) (hs:s.size < 4294967281) (hm:w.cell? ⟨0, 0, none⟩ = some (.int .i64 m)) :
  Calls Tryz.prog 202 #[.string s, .string sub] w fun e w' => e = .returned (.int .i64 (Lib.index s.data.toList sub.data.toList)) ∧ w' = w:=Any.strings_Index Tryz.lays143 s sub m w hs hm
def Tryz.lays144_ren:Go.Shelf.Ren:=⟨fun | 144 => 132 | 143 => 202 | 219 => 260 | 217 => 298 | 225 => 299 | 224 => 300 | 267 => 301 | 266 => 315 | 314 => 316 | n => n, fun | 9 => 9 | 4 => 4 | 3 => 3 | 5 => 5 | 46 => 274 | 146 => 410 | 51 => 387 | n => n, fun | 1 => 0 | n => n⟩
theorem Tryz.lays144:Go.Proofs.Lays.n144 Tryz.prog Tryz.lays144_ren:={
 mixed:=by kernel_rfl
 f143:=Tryz.func202.trans (congrArg some (by kernel_rfl))
 f144:=Tryz.func132.trans (congrArg some (by kernel_rfl))
 f217:=Tryz.func298.trans (congrArg some (by kernel_rfl))
 f219:=Tryz.func260.trans (congrArg some (by kernel_rfl))
 f224:=Tryz.func300.trans (congrArg some (by kernel_rfl))
 f225:=Tryz.func299.trans (congrArg some (by kernel_rfl))
 f266:=Tryz.func315.trans (congrArg some (by kernel_rfl))
 f267:=Tryz.func301.trans (congrArg some (by kernel_rfl))
 f314:=Tryz.func316.trans (congrArg some (by kernel_rfl))
 t3:=Tryz.underlying3
 a3:=Tryz.isAgg3
 z3:=Tryz.sizeOf3
 v3:=Tryz.zeroValue3
 t4:=Tryz.underlying4
 a4:=Tryz.isAgg4
 z4:=Tryz.sizeOf4
 v4:=Tryz.zeroValue4
 t5:=Tryz.underlying5
 a5:=Tryz.isAgg5
 z5:=Tryz.sizeOf5
 v5:=Tryz.zeroValue5
 t9:=Tryz.underlying9
 a9:=Tryz.isAgg9
 z9:=Tryz.sizeOf9
 v9:=Tryz.zeroValue9
 t46:=Tryz.underlying274
 a46:=Tryz.isAgg274
 z46:=Tryz.sizeOf274
 v46:=Tryz.zeroValue274
 t51:=Tryz.underlying387
 a51:=Tryz.isAgg387
 z51:=Tryz.sizeOf387
 v51:=Tryz.zeroValue387
 t146:=Tryz.underlying410
 a146:=Tryz.isAgg410
 z146:=Tryz.sizeOf410
 v146:=Tryz.zeroValue410
 g1:=by kernel_rfl }
open Go.RowKit Go.Lib in
theorem Tryz.strings_Contains_one (s:ByteArray) (c:UInt8) (w:World) :
  Calls Tryz.prog 132 #[.string s, .string ⟨#[c]⟩] w fun e w' => e = .returned (.bool (decide (0 ≤ Lib.indexByte s.data.toList c))) ∧ w' = w:=Any.strings_Contains_one Tryz.lays144 s c w
open Go.RowKit Go.Lib in
theorem Tryz.strings_Contains (s sub:ByteArray) (m:Int) (w:World) (hs:s.size < 4294967281) (hm:w.cell? ⟨0, 0, none⟩ = some (.int .i64 m)) :
  Calls Tryz.prog 132 #[.string s, .string sub] w fun e w' => e = .returned (.bool (Lib.contains s.data.toList sub.data.toList)) ∧ w' = w:=Any.strings_Contains Tryz.lays144 s sub m w hs hm
def Tryz.lays220_ren:Go.Shelf.Ren:=⟨fun | 220 => 201 | 219 => 260 | 217 => 298 | 225 => 299 | 224 => 300 | 267 => 301 | 266 => 315 | 314 => 316 | n => n, fun | 9 => 9 | 4 => 4 | 3 => 3 | 5 => 5 | 46 => 274 | 146 => 410 | 51 => 387 | n => n, fun | 1 => 0 | n => n⟩
theorem Tryz.lays220:Go.Proofs.Lays.n220 Tryz.prog Tryz.lays220_ren:={
 mixed:=by kernel_rfl
 f217:=Tryz.func298.trans (congrArg some (by kernel_rfl))
 f219:=Tryz.func260.trans (congrArg some (by kernel_rfl))
 f220:=Tryz.func201.trans (congrArg some (by kernel_rfl))
 f224:=Tryz.func300.trans (congrArg some (by kernel_rfl))
 f225:=Tryz.func299.trans (congrArg some (by kernel_rfl))
 f266:=Tryz.func315.trans (congrArg some (by kernel_rfl))
 f267:=Tryz.func301.trans (congrArg some (by kernel_rfl))
 f314:=Tryz.func316.trans (congrArg some (by kernel_rfl))
 t3:=Tryz.underlying3
 a3:=Tryz.isAgg3
 z3:=Tryz.sizeOf3
 v3:=Tryz.zeroValue3
 t4:=Tryz.underlying4
 a4:=Tryz.isAgg4
 z4:=Tryz.sizeOf4
 v4:=Tryz.zeroValue4
 t5:=Tryz.underlying5
 a5:=Tryz.isAgg5
 z5:=Tryz.sizeOf5
 v5:=Tryz.zeroValue5
 t9:=Tryz.underlying9
 a9:=Tryz.isAgg9
 z9:=Tryz.sizeOf9
 v9:=Tryz.zeroValue9
 t46:=Tryz.underlying274
 a46:=Tryz.isAgg274
 z46:=Tryz.sizeOf274
 v46:=Tryz.zeroValue274
 t51:=Tryz.underlying387
 a51:=Tryz.isAgg387
 z51:=Tryz.sizeOf387
 v51:=Tryz.zeroValue387
 t146:=Tryz.underlying410
 a146:=Tryz.isAgg410
 z146:=Tryz.sizeOf410
 v146:=Tryz.zeroValue410
 g1:=by kernel_rfl }
open Go.RowKit Go.Lib in
theorem Tryz.stringslite_Cut (s sep:ByteArray) (m:Int) (w:World) (hs:s.size < 4294967281) (hm:w.cell? ⟨0, 0, none⟩ = some (.int .i64 m)) :
  Calls Tryz.prog 201 #[.string s, .string sep] w fun e w' => e = .returned (.tuple #[.string ⟨(Lib.cut s.data.toList sep.data.toList).1.toArray⟩, .string ⟨(Lib.cut s.data.toList sep.data.toList).2.1.toArray⟩, .bool (Lib.cut s.data.toList sep.data.toList).2.2]) ∧ ∃ n, w' = w.drewN n:=Any.stringslite_Cut Tryz.lays220 s sep m w hs hm
def Tryz.lays145_ren:Go.Shelf.Ren:=⟨fun | 145 => 131 | 220 => 201 | 219 => 260 | 217 => 298 | 225 => 299 | 224 => 300 | 267 => 301 | 266 => 315 | 314 => 316 | n => n, fun | 9 => 9 | 4 => 4 | 59 => 243 | 3 => 3 | 5 => 5 | 46 => 274 | 146 => 410 | 51 => 387 | n => n, fun | 1 => 0 | n => n⟩
theorem Tryz.lays145:Go.Proofs.Lays.n145 Tryz.prog Tryz.lays145_ren:={
 mixed:=by kernel_rfl
 f145:=Tryz.func131.trans (congrArg some (by kernel_rfl))
 f217:=Tryz.func298.trans (congrArg some (by kernel_rfl))
 f219:=Tryz.func260.trans (congrArg some (by kernel_rfl))
 f220:=Tryz.func201.trans (congrArg some (by kernel_rfl))
 f224:=Tryz.func300.trans (congrArg some (by kernel_rfl))
 f225:=Tryz.func299.trans (congrArg some (by kernel_rfl))
 f266:=Tryz.func315.trans (congrArg some (by kernel_rfl))
 f267:=Tryz.func301.trans (congrArg some (by kernel_rfl))
 f314:=Tryz.func316.trans (congrArg some (by kernel_rfl))
 t3:=Tryz.underlying3
 a3:=Tryz.isAgg3
 z3:=Tryz.sizeOf3
 v3:=Tryz.zeroValue3
 t4:=Tryz.underlying4
 a4:=Tryz.isAgg4
 z4:=Tryz.sizeOf4
 v4:=Tryz.zeroValue4
 t5:=Tryz.underlying5
 a5:=Tryz.isAgg5
 z5:=Tryz.sizeOf5
 v5:=Tryz.zeroValue5
 t9:=Tryz.underlying9
 a9:=Tryz.isAgg9
 z9:=Tryz.sizeOf9
 v9:=Tryz.zeroValue9
 t46:=Tryz.underlying274
 a46:=Tryz.isAgg274
 z46:=Tryz.sizeOf274
 v46:=Tryz.zeroValue274
 t51:=Tryz.underlying387
 a51:=Tryz.isAgg387
 z51:=Tryz.sizeOf387
 v51:=Tryz.zeroValue387
 t59:=Tryz.underlying243
 a59:=Tryz.isAgg243
 z59:=Tryz.sizeOf243
 v59:=Tryz.zeroValue243
 t146:=Tryz.underlying410
 a146:=Tryz.isAgg410
 z146:=Tryz.sizeOf410
 v146:=Tryz.zeroValue410
 g1:=by kernel_rfl }
open Go.RowKit Go.Lib in
theorem Tryz.strings_Cut (s sep:ByteArray) (m:Int) (w:World) (hs:s.size < 4294967281) (hm:w.cell? ⟨0, 0, none⟩ = some (.int .i64 m)) :
  Calls Tryz.prog 131 #[.string s, .string sep] w fun e w' => e = .returned (.tuple #[.string ⟨(Lib.cut s.data.toList sep.data.toList).1.toArray⟩, .string ⟨(Lib.cut s.data.toList sep.data.toList).2.1.toArray⟩, .bool (Lib.cut s.data.toList sep.data.toList).2.2]) ∧ ∃ n, w' = w.drewN n:=Any.strings_Cut Tryz.lays145 s sep m w hs hm
def Tryz.lays138_ren:Go.Shelf.Ren:=⟨fun | 138 => 262 | 195 => 302 | 218 => 303 | 143 => 202 | 219 => 260 | 217 => 298 | 225 => 299 | 224 => 300 | 267 => 301 | 266 => 315 | 314 => 316 | n => n, fun | 9 => 9 | 3 => 3 | 4 => 4 | 5 => 5 | 0 => 0 | 46 => 274 | 146 => 410 | 51 => 387 | n => n, fun | 1 => 0 | n => n⟩
theorem Tryz.lays138:Go.Proofs.Lays.n138 Tryz.prog Tryz.lays138_ren:={
 mixed:=by kernel_rfl
 f138:=Tryz.func262.trans (congrArg some (by kernel_rfl))
 f143:=Tryz.func202.trans (congrArg some (by kernel_rfl))
 f195:=Tryz.func302.trans (congrArg some (by kernel_rfl))
 f217:=Tryz.func298.trans (congrArg some (by kernel_rfl))
 f218:=Tryz.func303.trans (congrArg some (by kernel_rfl))
 f219:=Tryz.func260.trans (congrArg some (by kernel_rfl))
 f224:=Tryz.func300.trans (congrArg some (by kernel_rfl))
 f225:=Tryz.func299.trans (congrArg some (by kernel_rfl))
 f266:=Tryz.func315.trans (congrArg some (by kernel_rfl))
 f267:=Tryz.func301.trans (congrArg some (by kernel_rfl))
 f314:=Tryz.func316.trans (congrArg some (by kernel_rfl))
 t0:=Tryz.underlying0
 a0:=Tryz.isAgg0
 z0:=Tryz.sizeOf0
 v0:=Tryz.zeroValue0
 t3:=Tryz.underlying3
 a3:=Tryz.isAgg3
 z3:=Tryz.sizeOf3
 v3:=Tryz.zeroValue3
 t4:=Tryz.underlying4
 a4:=Tryz.isAgg4
 z4:=Tryz.sizeOf4
 v4:=Tryz.zeroValue4
 t5:=Tryz.underlying5
 a5:=Tryz.isAgg5
 z5:=Tryz.sizeOf5
 v5:=Tryz.zeroValue5
 t9:=Tryz.underlying9
 a9:=Tryz.isAgg9
 z9:=Tryz.sizeOf9
 v9:=Tryz.zeroValue9
 t46:=Tryz.underlying274
 a46:=Tryz.isAgg274
 z46:=Tryz.sizeOf274
 v46:=Tryz.zeroValue274
 t51:=Tryz.underlying387
 a51:=Tryz.isAgg387
 z51:=Tryz.sizeOf387
 v51:=Tryz.zeroValue387
 t146:=Tryz.underlying410
 a146:=Tryz.isAgg410
 z146:=Tryz.sizeOf410
 v146:=Tryz.zeroValue410
 g1:=by kernel_rfl }
open Go.RowKit Go.Lib in
theorem Tryz.strings_Count_one (s:ByteArray) (c:UInt8) (w:World) :
  Calls Tryz.prog 262 #[.string s, .string ⟨#[c]⟩] w fun e w' => e = .returned (.int .i64 (Lib.countByte s.data.toList c)) ∧ w' = w:=Any.strings_Count_one Tryz.lays138 s c w
open Go.RowKit Go.Lib in
theorem Tryz.strings_Count (s sub:ByteArray) (m:Int) (w:World) (hs:s.size < 4294967281) (hm:w.cell? ⟨0, 0, none⟩ = some (.int .i64 m)) (h2:2 ≤ sub.size) :
  Calls Tryz.prog 262 #[.string s, .string sub] w fun e w' => e = .returned (.int .i64 (Lib.countB s sub)) ∧ w' = w:=Any.strings_Count Tryz.lays138 s sub m w hs hm h2
def Tryz.laysM219_ren:Go.Shelf.Ren:=⟨fun | 219 => 260 | 217 => 298 | 225 => 299 | 224 => 300 | 267 => 301 | 266 => 315 | 314 => 316 | n => n, fun | 9 => 9 | 3 => 3 | 4 => 4 | 5 => 5 | 46 => 274 | 146 => 410 | 51 => 387 | n => n, fun | 1 => 0 | n => n⟩
theorem Tryz.laysM219:Go.Proofs.LaysM.n219 Tryz.prog Tryz.laysM219_ren:={
 mixed:=by kernel_rfl
 f217:=Tryz.func298.trans (congrArg some (by kernel_rfl))
 f219:=Tryz.func260.trans (congrArg some (by kernel_rfl))
 f224:=Tryz.func300.trans (congrArg some (by kernel_rfl))
 f225:=Tryz.func299.trans (congrArg some (by kernel_rfl))
 f266:=Tryz.func315.trans (congrArg some (by kernel_rfl))
 f267:=Tryz.func301.trans (congrArg some (by kernel_rfl))
 f314:=Tryz.func316.trans (congrArg some (by kernel_rfl))
 t3:=Tryz.underlying3
 a3:=Tryz.isAgg3
 z3:=Tryz.sizeOf3
 v3:=Tryz.zeroValue3
 t4:=Tryz.underlying4
 a4:=Tryz.isAgg4
 z4:=Tryz.sizeOf4
 v4:=Tryz.zeroValue4
 t5:=Tryz.underlying5
 a5:=Tryz.isAgg5
 z5:=Tryz.sizeOf5
 v5:=Tryz.zeroValue5
 t9:=Tryz.underlying9
 a9:=Tryz.isAgg9
 z9:=Tryz.sizeOf9
 v9:=Tryz.zeroValue9
 t46:=Tryz.underlying274
 a46:=Tryz.isAgg274
 z46:=Tryz.sizeOf274
 v46:=Tryz.zeroValue274
 t51:=Tryz.underlying387
 a51:=Tryz.isAgg387
 z51:=Tryz.sizeOf387
 v51:=Tryz.zeroValue387
 t146:=Tryz.underlying410
 a146:=Tryz.isAgg410
 z146:=Tryz.sizeOf410
 v146:=Tryz.zeroValue410
 g1:=by kernel_rfl
 i3:=by kernel_rfl
 i4:=by kernel_rfl
 i5:=by kernel_rfl
 i9:=by kernel_rfl
 i46:=by kernel_rfl
 i51:=by kernel_rfl
 i146:=by kernel_rfl
 m1:=by kernel_rfl
 s1_3:=fun w h => Go.Proofs.cell_of_shapedOpen_int (zero:=#[.int .i64 0]) (t:=3) h (of_decide_eq_true (by kernel_rfl)) (by kernel_rfl) rfl (by kernel_rfl) (by kernel_rfl) Tryz.underlying3 }
open Go.RowKit Go.Lib in
theorem Tryz.stringslite_Index_shaped (s sub:ByteArray) (w:World) (h:w.ShapedOpen Tryz.prog) (hs:s.size < 4294967281) :
  Calls Tryz.prog 260 #[.string s, .string sub] w fun e w' => e = .returned (.int .i64 (Lib.index s.data.toList sub.data.toList)) ∧ w' = w:=Any.stringslite_Index_shaped Tryz.laysM219 s sub w h hs
def Tryz.laysM143_ren:Go.Shelf.Ren:=⟨fun | 143 => 202 | 219 => 260 | 217 => 298 | 225 => 299 | 224 => 300 | 267 => 301 | 266 => 315 | 314 => 316 | n => n, fun | 9 => 9 | 3 => 3 | 4 => 4 | 5 => 5 | 46 => 274 | 146 => 410 | 51 => 387 | n => n, fun | 1 => 0 | n => n⟩
theorem Tryz.laysM143:Go.Proofs.LaysM.n143 Tryz.prog Tryz.laysM143_ren:={
 mixed:=by kernel_rfl
 f143:=Tryz.func202.trans (congrArg some (by kernel_rfl))
 f217:=Tryz.func298.trans (congrArg some (by kernel_rfl))
 f219:=Tryz.func260.trans (congrArg some (by kernel_rfl))
 f224:=Tryz.func300.trans (congrArg some (by kernel_rfl))
 f225:=Tryz.func299.trans (congrArg some (by kernel_rfl))
 f266:=Tryz.func315.trans (congrArg some (by kernel_rfl))
 f267:=Tryz.func301.trans (congrArg some (by kernel_rfl))
 f314:=Tryz.func316.trans (congrArg some (by kernel_rfl))
 t3:=Tryz.underlying3
 a3:=Tryz.isAgg3
 z3:=Tryz.sizeOf3
 v3:=Tryz.zeroValue3
 t4:=Tryz.underlying4
 a4:=Tryz.isAgg4
 z4:=Tryz.sizeOf4
 v4:=Tryz.zeroValue4
 t5:=Tryz.underlying5
 a5:=Tryz.isAgg5
 z5:=Tryz.sizeOf5
 v5:=Tryz.zeroValue5
 t9:=Tryz.underlying9
 a9:=Tryz.isAgg9
 z9:=Tryz.sizeOf9
 v9:=Tryz.zeroValue9
 t46:=Tryz.underlying274
 a46:=Tryz.isAgg274
 z46:=Tryz.sizeOf274
 v46:=Tryz.zeroValue274
 t51:=Tryz.underlying387
 a51:=Tryz.isAgg387
 z51:=Tryz.sizeOf387
 v51:=Tryz.zeroValue387
 t146:=Tryz.underlying410
 a146:=Tryz.isAgg410
 z146:=Tryz.sizeOf410
 v146:=Tryz.zeroValue410
 g1:=by kernel_rfl
 i3:=by kernel_rfl
 i4:=by kernel_rfl
 i5:=by kernel_rfl
 i9:=by kernel_rfl
 i46:=by kernel_rfl
 i51:=by kernel_rfl
 i146:=by kernel_rfl
 m1:=by kernel_rfl
 s1_3:=fun w h => Go.Proofs.cell_of_shapedOpen_int (zero:=#[.int .i64 0]) (t:=3) h (of_decide_eq_true (by kernel_rfl)) (by kernel_rfl) rfl (by kernel_rfl) (by kernel_rfl) Tryz.underlying3 }
open Go.RowKit Go.Lib in
theorem Tryz.strings_Index_shaped (s sub:ByteArray) (w:World) (h:w.ShapedOpen Tryz.prog) (hs:s.size < 4294967281) :
  Calls Tryz.prog 202 #[.string s, .string sub] w fun e w' => e = .returned (.int .i64 (Lib.index s.data.toList sub.data.toList)) ∧ w' = w:=Any.strings_Index_shaped Tryz.laysM143 s sub w h hs
def Tryz.laysM144_ren:Go.Shelf.Ren:=⟨fun | 144 => 132 | 143 => 202 | 219 => 260 | 217 => 298 | 225 => 299 | 224 => 300 | 267 => 301 | 266 => 315 | 314 => 316 | n => n, fun | 9 => 9 | 4 => 4 | 3 => 3 | 5 => 5 | 46 => 274 | 146 => 410 | 51 => 387 | n => n, fun | 1 => 0 | n => n⟩
theorem Tryz.laysM144:Go.Proofs.LaysM.n144 Tryz.prog Tryz.laysM144_ren:={
 mixed:=by kernel_rfl
 f143:=Tryz.func202.trans (congrArg some (by kernel_rfl))
 f144:=Tryz.func132.trans (congrArg some (by kernel_rfl))
 f217:=Tryz.func298.trans (congrArg some (by kernel_rfl))
 f219:=Tryz.func260.trans (congrArg some (by kernel_rfl))
 f224:=Tryz.func300.trans (congrArg some (by kernel_rfl))
 f225:=Tryz.func299.trans (congrArg some (by kernel_rfl))
 f266:=Tryz.func315.trans (congrArg some (by kernel_rfl))
 f267:=Tryz.func301.trans (congrArg some (by kernel_rfl))
 f314:=Tryz.func316.trans (congrArg some (by kernel_rfl))
 t3:=Tryz.underlying3
 a3:=Tryz.isAgg3
 z3:=Tryz.sizeOf3
 v3:=Tryz.zeroValue3
 t4:=Tryz.underlying4
 a4:=Tryz.isAgg4
 z4:=Tryz.sizeOf4
 v4:=Tryz.zeroValue4
 t5:=Tryz.underlying5
 a5:=Tryz.isAgg5
 z5:=Tryz.sizeOf5
 v5:=Tryz.zeroValue5
 t9:=Tryz.underlying9
 a9:=Tryz.isAgg9
 z9:=Tryz.sizeOf9
 v9:=Tryz.zeroValue9
 t46:=Tryz.underlying274
 a46:=Tryz.isAgg274
 z46:=Tryz.sizeOf274
 v46:=Tryz.zeroValue274
 t51:=Tryz.underlying387
 a51:=Tryz.isAgg387
 z51:=Tryz.sizeOf387
 v51:=Tryz.zeroValue387
 t146:=Tryz.underlying410
 a146:=Tryz.isAgg410
 z146:=Tryz.sizeOf410
 v146:=Tryz.zeroValue410
 g1:=by kernel_rfl
 i3:=by kernel_rfl
 i4:=by kernel_rfl
 i5:=by kernel_rfl
 i9:=by kernel_rfl
 i46:=by kernel_rfl
 i51:=by kernel_rfl
 i146:=by kernel_rfl
 m1:=by kernel_rfl
 s1_3:=fun w h => Go.Proofs.cell_of_shapedOpen_int (zero:=#[.int .i64 0]) (t:=3) h (of_decide_eq_true (by kernel_rfl)) (by kernel_rfl) rfl (by kernel_rfl) (by kernel_rfl) Tryz.underlying3 }
open Go.RowKit Go.Lib in
theorem Tryz.strings_Contains_shaped (s sub:ByteArray) (w:World) (h:w.ShapedOpen Tryz.prog) (hs:s.size < 4294967281) :
  Calls Tryz.prog 132 #[.string s, .string sub] w fun e w' => e = .returned (.bool (Lib.contains s.data.toList sub.data.toList)) ∧ w' = w:=Any.strings_Contains_shaped Tryz.laysM144 s sub w h hs
def Tryz.laysM220_ren:Go.Shelf.Ren:=⟨fun | 220 => 201 | 219 => 260 | 217 => 298 | 225 => 299 | 224 => 300 | 267 => 301 | 266 => 315 | 314 => 316 | n => n, fun | 9 => 9 | 4 => 4 | 3 => 3 | 5 => 5 | 46 => 274 | 146 => 410 | 51 => 387 | n => n, fun | 1 => 0 | n => n⟩
theorem Tryz.laysM220:Go.Proofs.LaysM.n220 Tryz.prog Tryz.laysM220_ren:={
 mixed:=by kernel_rfl
 f217:=Tryz.func298.trans (congrArg some (by kernel_rfl))
 f219:=Tryz.func260.trans (congrArg some (by kernel_rfl))
 f220:=Tryz.func201.trans (congrArg some (by kernel_rfl))
 f224:=Tryz.func300.trans (congrArg some (by kernel_rfl))
 f225:=Tryz.func299.trans (congrArg some (by kernel_rfl))
 f266:=Tryz.func315.trans (congrArg some (by kernel_rfl))
 f267:=Tryz.func301.trans (congrArg some (by kernel_rfl))
 f314:=Tryz.func316.trans (congrArg some (by kernel_rfl))
 t3:=Tryz.underlying3
 a3:=Tryz.isAgg3
 z3:=Tryz.sizeOf3
 v3:=Tryz.zeroValue3
 t4:=Tryz.underlying4
 a4:=Tryz.isAgg4
 z4:=Tryz.sizeOf4
 v4:=Tryz.zeroValue4
 t5:=Tryz.underlying5
 a5:=Tryz.isAgg5
 z5:=Tryz.sizeOf5
 v5:=Tryz.zeroValue5
 t9:=Tryz.underlying9
 a9:=Tryz.isAgg9
 z9:=Tryz.sizeOf9
 v9:=Tryz.zeroValue9
 t46:=Tryz.underlying274
 a46:=Tryz.isAgg274
 z46:=Tryz.sizeOf274
 v46:=Tryz.zeroValue274
 t51:=Tryz.underlying387
 a51:=Tryz.isAgg387
 z51:=Tryz.sizeOf387
 v51:=Tryz.zeroValue387
 t146:=Tryz.underlying410
 a146:=Tryz.isAgg410
 z146:=Tryz.sizeOf410
 v146:=Tryz.zeroValue410
 g1:=by kernel_rfl
 i3:=by kernel_rfl
 i4:=by kernel_rfl
 i5:=by kernel_rfl
 i9:=by kernel_rfl
 i46:=by kernel_rfl
 i51:=by kernel_rfl
 i146:=by kernel_rfl
 m1:=by kernel_rfl
 s1_3:=fun w h => Go.Proofs.cell_of_shapedOpen_int (zero:=#[.int .i64 0]) (t:=3) h (of_decide_eq_true (by kernel_rfl)) (by kernel_rfl) rfl (by kernel_rfl) (by kernel_rfl) Tryz.underlying3 }
open Go.RowKit Go.Lib in
theorem Tryz.stringslite_Cut_shaped (s sep:ByteArray) (w:World) (h:w.ShapedOpen Tryz.prog) (hs:s.size < 4294967281) :
  Calls Tryz.prog 201 #[.string s, .string sep] w fun e w' => e = .returned (.tuple #[.string ⟨(Lib.cut s.data.toList sep.data.toList).1.toArray⟩, .string ⟨(Lib.cut s.data.toList sep.data.toList).2.1.toArray⟩, .bool (Lib.cut s.data.toList sep.data.toList).2.2]) ∧ ∃ n, w' = w.drewN n:=Any.stringslite_Cut_shaped Tryz.laysM220 s sep w h hs
def Tryz.laysM145_ren:Go.Shelf.Ren:=⟨fun | 145 => 131 | 220 => 201 | 219 => 260 | 217 => 298 | 225 => 299 | 224 => 300 | 267 => 301 | 266 => 315 | 314 => 316 | n => n, fun | 9 => 9 | 4 => 4 | 59 => 243 | 3 => 3 | 5 => 5 | 46 => 274 | 146 => 410 | 51 => 387 | n => n, fun | 1 => 0 | n => n⟩
theorem Tryz.laysM145:Go.Proofs.LaysM.n145 Tryz.prog Tryz.laysM145_ren:={
 mixed:=by kernel_rfl
 f145:=Tryz.func131.trans (congrArg some (by kernel_rfl))
 f217:=Tryz.func298.trans (congrArg some (by kernel_rfl))
 f219:=Tryz.func260.trans (congrArg some (by kernel_rfl))
 f220:=Tryz.func201.trans (congrArg some (by kernel_rfl))
 f224:=Tryz.func300.trans (congrArg some (by kernel_rfl))
 f225:=Tryz.func299.trans (congrArg some (by kernel_rfl))
 f266:=Tryz.func315.trans (congrArg some (by kernel_rfl))
 f267:=Tryz.func301.trans (congrArg some (by kernel_rfl))
 f314:=Tryz.func316.trans (congrArg some (by kernel_rfl))
 t3:=Tryz.underlying3
 a3:=Tryz.isAgg3
 z3:=Tryz.sizeOf3
 v3:=Tryz.zeroValue3
 t4:=Tryz.underlying4
 a4:=Tryz.isAgg4
 z4:=Tryz.sizeOf4
 v4:=Tryz.zeroValue4
 t5:=Tryz.underlying5
 a5:=Tryz.isAgg5
 z5:=Tryz.sizeOf5
 v5:=Tryz.zeroValue5
 t9:=Tryz.underlying9
 a9:=Tryz.isAgg9
 z9:=Tryz.sizeOf9
 v9:=Tryz.zeroValue9
 t46:=Tryz.underlying274
 a46:=Tryz.isAgg274
 z46:=Tryz.sizeOf274
 v46:=Tryz.zeroValue274
 t51:=Tryz.underlying387
 a51:=Tryz.isAgg387
 z51:=Tryz.sizeOf387
 v51:=Tryz.zeroValue387
 t59:=Tryz.underlying243
 a59:=Tryz.isAgg243
 z59:=Tryz.sizeOf243
 v59:=Tryz.zeroValue243
 t146:=Tryz.underlying410
 a146:=Tryz.isAgg410
 z146:=Tryz.sizeOf410
 v146:=Tryz.zeroValue410
 g1:=by kernel_rfl
 i3:=by kernel_rfl
 i4:=by kernel_rfl
 i5:=by kernel_rfl
 i9:=by kernel_rfl
 i46:=by kernel_rfl
 i51:=by kernel_rfl
 i59:=by kernel_rfl
 i146:=by kernel_rfl
 m1:=by kernel_rfl
 s1_3:=fun w h => Go.Proofs.cell_of_shapedOpen_int (zero:=#[.int .i64 0]) (t:=3) h (of_decide_eq_true (by kernel_rfl)) (by kernel_rfl) rfl (by kernel_rfl) (by kernel_rfl) Tryz.underlying3 }
open Go.RowKit Go.Lib in
theorem Tryz.strings_Cut_shaped (s sep:ByteArray) (w:World) (h:w.ShapedOpen Tryz.prog) (hs:s.size < 4294967281) :
  Calls Tryz.prog 131 #[.string s, .string sep] w fun e w' => e = .returned (.tuple #[.string ⟨(Lib.cut s.data.toList sep.data.toList).1.toArray⟩, .string ⟨(Lib.cut s.data.toList sep.data.toList).2.1.toArray⟩, .bool (Lib.cut s.data.toList sep.data.toList).2.2]) ∧ ∃ n, w' = w.drewN n:=Any.strings_Cut_shaped Tryz.laysM145 s sep w h hs
def Tryz.laysM138_ren:Go.Shelf.Ren:=⟨fun | 138 => 262 | 195 => 302 | 218 => 303 | 143 => 202 | 219 => 260 | 217 => 298 | 225 => 299 | 224 => 300 | 267 => 301 | 266 => 315 | 314 => 316 | n => n, fun | 9 => 9 | 3 => 3 | 4 => 4 | 5 => 5 | 0 => 0 | 46 => 274 | 146 => 410 | 51 => 387 | n => n, fun | 1 => 0 | n => n⟩
theorem Tryz.laysM138:Go.Proofs.LaysM.n138 Tryz.prog Tryz.laysM138_ren:={
 mixed:=by kernel_rfl
 f138:=Tryz.func262.trans (congrArg some (by kernel_rfl))
 f143:=Tryz.func202.trans (congrArg some (by kernel_rfl))
 f195:=Tryz.func302.trans (congrArg some (by kernel_rfl))
 f217:=Tryz.func298.trans (congrArg some (by kernel_rfl))
 f218:=Tryz.func303.trans (congrArg some (by kernel_rfl))
 f219:=Tryz.func260.trans (congrArg some (by kernel_rfl))
 f224:=Tryz.func300.trans (congrArg some (by kernel_rfl))
 f225:=Tryz.func299.trans (congrArg some (by kernel_rfl))
 f266:=Tryz.func315.trans (congrArg some (by kernel_rfl))
 f267:=Tryz.func301.trans (congrArg some (by kernel_rfl))
 f314:=Tryz.func316.trans (congrArg some (by kernel_rfl))
 t0:=Tryz.underlying0
 a0:=Tryz.isAgg0
 z0:=Tryz.sizeOf0
 v0:=Tryz.zeroValue0
 t3:=Tryz.underlying3
 a3:=Tryz.isAgg3
 z3:=Tryz.sizeOf3
 v3:=Tryz.zeroValue3
 t4:=Tryz.underlying4
 a4:=Tryz.isAgg4
 z4:=Tryz.sizeOf4
 v4:=Tryz.zeroValue4
 t5:=Tryz.underlying5
 a5:=Tryz.isAgg5
 z5:=Tryz.sizeOf5
 v5:=Tryz.zeroValue5
 t9:=Tryz.underlying9
 a9:=Tryz.isAgg9
 z9:=Tryz.sizeOf9
 v9:=Tryz.zeroValue9
 t46:=Tryz.underlying274
 a46:=Tryz.isAgg274
 z46:=Tryz.sizeOf274
 v46:=Tryz.zeroValue274
 t51:=Tryz.underlying387
 a51:=Tryz.isAgg387
 z51:=Tryz.sizeOf387
 v51:=Tryz.zeroValue387
 t146:=Tryz.underlying410
 a146:=Tryz.isAgg410
 z146:=Tryz.sizeOf410
 v146:=Tryz.zeroValue410
 g1:=by kernel_rfl
 i0:=by kernel_rfl
 i3:=by kernel_rfl
 i4:=by kernel_rfl
 i5:=by kernel_rfl
 i9:=by kernel_rfl
 i46:=by kernel_rfl
 i51:=by kernel_rfl
 i146:=by kernel_rfl
 m1:=by kernel_rfl
 s1_3:=fun w h => Go.Proofs.cell_of_shapedOpen_int (zero:=#[.int .i64 0]) (t:=3) h (of_decide_eq_true (by kernel_rfl)) (by kernel_rfl) rfl (by kernel_rfl) (by kernel_rfl) Tryz.underlying3 }
open Go.RowKit Go.Lib in
theorem Tryz.strings_Count_shaped (s sub:ByteArray) (w:World) (h:w.ShapedOpen Tryz.prog) (hs:s.size < 4294967281) (h2:2 ≤ sub.size) :
  Calls Tryz.prog 262 #[.string s, .string sub] w fun e w' => e = .returned (.int .i64 (Lib.countB s sub)) ∧ w' = w:=Any.strings_Count_shaped Tryz.laysM138 s sub w h hs h2
def Tryz.lays207_ren:Go.Shelf.Ren:=⟨fun | 207 => 259 | n => n, fun | 9 => 9 | 4 => 4 | 3 => 3 | n => n, fun | n => n⟩
theorem Tryz.lays207:Go.Proofs.Lays.n207 Tryz.prog Tryz.lays207_ren:={
 mixed:=by kernel_rfl
 f207:=Tryz.func259.trans (congrArg some (by kernel_rfl))
 t3:=Tryz.underlying3
 a3:=Tryz.isAgg3
 z3:=Tryz.sizeOf3
 v3:=Tryz.zeroValue3
 t4:=Tryz.underlying4
 a4:=Tryz.isAgg4
 z4:=Tryz.sizeOf4
 v4:=Tryz.zeroValue4
 t9:=Tryz.underlying9
 a9:=Tryz.isAgg9
 z9:=Tryz.sizeOf9
 v9:=Tryz.zeroValue9 }
open Go.RowKit Go.Lib in
theorem Tryz.stringslite_HasSuffix (s p:ByteArray) (w:World) (hs:s.size ≤ 9223372036854775807) :
  Calls Tryz.prog 259 #[.string s, .string p] w fun e w' => e = .returned (.bool (Lib.hasSuffix s.data.toList p.data.toList)) ∧ w' = w:=Any.stringslite_HasSuffix Tryz.lays207 s p w hs
open Go.RowKit Go.Lib in
theorem Tryz.strings_Count_any (s sep:ByteArray) (m:Int) (w:World) (hs:s.size < 4294967281) (hm:w.cell? ⟨0, 0, none⟩ = some (.int .i64 m)) (h1:1 ≤ sep.size) :
  Calls Tryz.prog 262 #[.string s, .string sep] w fun e w' => e = .returned (.int .i64 (Lib.countB s sep)) ∧ w' = w:=Any.strings_Count_any Tryz.lays138 s sep m w hs hm h1
open Go.RowKit Go.Lib in
theorem Tryz.utf8_RuneCountInString_ascii (s:ByteArray) (w:World) (hs:s.size < 4294967281) (hascii:∀ (j:Nat) b, s.data.toList[j]? = some b → b.toNat < 128) :
  Calls Tryz.prog 302 #[.string s] w fun e w' => e = .returned (.int .i64 s.size) ∧ w' = w.iter s s.size:=Any.utf8_RuneCountInString_ascii Tryz.lays195 s w hs hascii
end Go.Proofs
set_option maxRecDepth 20000
namespace Go.V
open Go.Proofs Go.RowKit
theorem _root_.Go.V.Zc1 {A B:Prop} (h:B) (t:Wr B → A:=by intro h; refine z7 (y9 rfl rfl rfl rfl) rfl ?_;exact h.h):A:=t ⟨h⟩
theorem _root_.Go.V.Za2 {A B:Prop} (h:B) (t:Wr B → A:=by intro h; refine zd (zg rfl rfl rfl) rfl ?_;exact h.h):A:=t ⟨h⟩
theorem _root_.Go.V.ZaV {A B:Prop} (h:B) (t:Wr B → A:=by intro h; refine z7 (qh L rfl rfl rfl rfl) rfl ?_;exact h.h):A:=t ⟨h⟩
theorem _root_.Go.V.Zbc {A B:Prop} (h:B) (t:Wr B → A:=by intro h; refine zd (qh L rfl rfl rfl rfl) rfl ?_;exact h.h):A:=t ⟨h⟩
theorem _root_.Go.V.Zaq {A B:Prop} (h:B) (t:Wr B → A:=by intro h; refine z7 (q9 L (qo rfl) rfl rfl rfl rfl) rfl ?_;exact h.h):A:=t ⟨h⟩
theorem _root_.Go.V.ZR {A B:Prop} (h:B) (t:Wr B → A:=by intro h; refine z7 (ye L rfl rfl rfl rfl rfl rfl rfl rfl rfl) rfl ?_;exact h.h):A:=t ⟨h⟩
theorem _root_.Go.V.Zge {A B:Prop} (h:B) (t:Wr B → A:=by intro h; refine zd (q9 L (qo rfl) rfl rfl rfl rfl) rfl ?_;exact h.h):A:=t ⟨h⟩
theorem _root_.Go.V.Zc2 {A B:Prop} (h:B) (t:Wr B → A:=by intro h; refine z7 (zy L (vs:=[_, _]) (qo rfl) rfl rfl rfl rfl ⟨_, rfl⟩) rfl ?_;exact h.h):A:=t ⟨h⟩
theorem _root_.Go.V.ZfL {A B:Prop} (h:B) (t:Wr B → A:=by intro h; refine z7 (zjz rfl rfl rfl rfl (decide_eq_false (by assumption))) rfl ?_;exact h.h):A:=t ⟨h⟩
theorem _root_.Go.V.Zc3 {A B:Prop} (h:B) (t:Wr B → A:=by intro h; refine zd (zy L (vs:=[_, _]) (qo rfl) rfl rfl rfl rfl ⟨_, rfl⟩) rfl ?_;exact h.h):A:=t ⟨h⟩
theorem _root_.Go.V.Zdr {A B:Prop} (h:B) (t:Wr B → A:=by intro h; refine z7 (zy L (vs:=[_, _, _]) (qo rfl) rfl rfl rfl rfl ⟨_, rfl⟩) rfl ?_;exact h.h):A:=t ⟨h⟩
theorem _root_.Go.V.Zbt {A B:Prop} (h:B) (t:Wr B → A:=by intro h; refine q4 (id:=1) [] mixed (by kernel_rfl) ?_;exact h.h):A:=t ⟨h⟩
theorem _root_.Go.V.Zel {A B:Prop} (h:B) (t:Wr B → A:=by intro h; refine zd (zpp rfl rfl rfl rfl (by assumption) rfl) rfl ?_;exact h.h):A:=t ⟨h⟩
theorem _root_.Go.V.ZeN {A B:Prop} (h:B) (t:Wr B → A:=by intro h; refine zd (ye L rfl rfl rfl rfl rfl rfl rfl rfl rfl) rfl ?_;exact h.h):A:=t ⟨h⟩
theorem _root_.Go.V.ZcR {A B:Prop} (h:B) (t:Wr B → A:=by intro h; refine qe ?_;refine zj ?_;exact h.h):A:=t ⟨h⟩
theorem _root_.Go.V.Za3 {A B:Prop} (h:B) (t:Wr B → A:=by intro h; refine ZO ?_;refine Zc1 ?_;exact h.h):A:=t ⟨h⟩
theorem _root_.Go.V.ZdT {A B:Prop} (h:B) (t:Wr B → A:=by intro h; refine ZO ?_;refine Zd ?_;exact h.h):A:=t ⟨h⟩
theorem _root_.Go.V.ZK {A B:Prop} (h:B) (t:Wr B → A:=by intro h; refine Za2 ?_;refine ZcR ?_;exact h.h):A:=t ⟨h⟩
theorem _root_.Go.V.ZS {A B:Prop} (h:B) (t:Wr B → A:=by intro h; refine ZA ?_;refine Za ?_;exact h.h):A:=t ⟨h⟩
theorem _root_.Go.V.Zb4 {A B:Prop} (h:B) (t:Wr B → A:=by intro h; refine Zn ?_;refine ZaV ?_;exact h.h):A:=t ⟨h⟩
theorem _root_.Go.V.ZZ {A B:Prop} (h:B) (t:Wr B → A:=by intro h; refine ZdT ?_;refine Zn ?_;exact h.h):A:=t ⟨h⟩
theorem _root_.Go.V.Zae {A B:Prop} (h:B) (t:Wr B → A:=by intro h; refine Za3 ?_;refine Zc1 ?_;exact h.h):A:=t ⟨h⟩
theorem _root_.Go.V.Zcg {A B:Prop} (h:B) (t:Wr B → A:=by intro h; refine Zbc ?_;refine Zge ?_;exact h.h):A:=t ⟨h⟩
theorem _root_.Go.V.Zbk {A B:Prop} (h:B) (t:Wr B → A:=by intro h; refine Za3 ?_;refine Zd ?_;exact h.h):A:=t ⟨h⟩
theorem _root_.Go.V.ZeO {A B:Prop} (h:B) (t:Wr B → A:=by intro h; refine Zf ?_;refine Zb4 ?_;exact h.h):A:=t ⟨h⟩
theorem _root_.Go.V.ZbK {A B:Prop} (h:B) (t:Wr B → A:=by intro h; refine Zx ?_;refine Zfi ?_;exact h.h):A:=t ⟨h⟩
theorem _root_.Go.V.Zch {A B:Prop} (h:B) (t:Wr B → A:=by intro h; refine ZaV ?_;refine Zaq ?_;exact h.h):A:=t ⟨h⟩
theorem _root_.Go.V.ZfM {A B:Prop} (h:B) (t:Wr B → A:=by intro h; refine zh ?_;refine Zo ?_;exact h.h):A:=t ⟨h⟩
theorem _root_.Go.V.Zds {A B:Prop} (h:B) (t:Wr B → A:=by intro h; refine Za3 ?_;refine ZeO ?_;exact h.h):A:=t ⟨h⟩
theorem _root_.Go.V.Zdt {A B:Prop} (h:B) (t:Wr B → A:=by intro h; refine ZfM ?_;refine ZT ?_;exact h.h):A:=t ⟨h⟩
attribute [local irreducible] V N X VO Par StepOK Has Ret RetL Src
theorem zx5 {a b:ByteArray} (ha:a.size ≤ 9223372036854775807) (hb:b.size ≤ 9223372036854775807) {w:World} {B:Heap} (hB:B.Le (hp w)) {t:Nat} {v:Value} (hv:SlB [.string a, .string b] t 2 v B) :
  Ret Tryz.prog 236 [v] w B (fun v _ => v = .int .i64 (zcw [a, b])):=by
 exact zv3 [a, b] (by intro s hs; simp at hs; rcases hs with rfl | rfl <;> assumption) (by simp) hB (hv.toV rfl)
theorem zx4 {a b c:ByteArray} (ha:a.size ≤ 9223372036854775807) (hb:b.size ≤ 9223372036854775807) (hc:c.size ≤ 9223372036854775807) {w:World} {B:Heap} (hB:B.Le (hp w)) {t:Nat} {v:Value} (hv:SlB [.string a, .string b, .string c] t 3 v B) :
  Ret Tryz.prog 236 [v] w B (fun v _ => v = .int .i64 (zcw [a, b, c])):=by
 exact zv3 [a, b, c] (by intro s hs; simp at hs; rcases hs with rfl | rfl | rfl <;> assumption) (by simp) hB (hv.toV rfl)
theorem zdq {a b:ByteArray} (ha:a.size ≤ 9223372036854775807) (hb:b.size ≤ 9223372036854775807) {w:World} {B:Heap} (hB:B.Le (hp w)) :
  Ret Tryz.prog 204 [.agg #[.string a, .string b]] w B (fun v _ => v = .int .i64 (zcw [a, b])):=by
 refine qt Tryz.func204 rfl Tryz.ntmps204 (Nat.le_of_ble_eq_true rfl) hB ?_
 refine Zbk ?_;refine Zb4 ?_;refine Zaq ?_;refine Zch ?_;refine ZR ?_;refine z7 (zp L rfl rfl (zk rfl) rfl rfl rfl (fun u H hH _ _ v hv => zx5 (by first | assumption | omega | decide) (by first | assumption | omega | decide) hH hv)) rfl ?_;refine Zc ?_
 refine qq L (rs:=[.tmp 2]) rfl (fun _ _ h => h) Since.refl fun u H hH hle => ?_
 rfl
theorem ze4 {a b c:ByteArray} (ha:a.size ≤ 9223372036854775807) (hb:b.size ≤ 9223372036854775807) (hc:c.size ≤ 9223372036854775807) {w:World} {B:Heap} (hB:B.Le (hp w)) :
  Ret Tryz.prog 166 [.agg #[.string a, .string b, .string c]] w B (fun v _ => v = .int .i64 (zcw [a, b, c])):=by
 refine qt Tryz.func166 rfl Tryz.ntmps166 (Nat.le_of_ble_eq_true rfl) hB ?_
 refine Zbk ?_;refine Zb4 ?_;refine Zch ?_;refine ZaV ?_;refine Zch ?_;refine Zch ?_;refine ZR ?_;refine z7 (zp L rfl rfl (zk rfl) rfl rfl rfl (fun u H hH _ _ v hv => zx4 (by first | assumption | omega | decide) (by first | assumption | omega | decide) (by first | assumption | omega | decide) hH hv)) rfl ?_;refine Zc ?_
 refine qq L (rs:=[.tmp 2]) rfl (fun _ _ h => h) Since.refl fun u H hH hle => ?_
 rfl
def zif (a b c:ByteArray):Int:=if c = ⟨#[]⟩ then zcw [a, b] else zcw [a, b, c]
theorem zjd {a b c:ByteArray} (ha:a.size ≤ 9223372036854775807) (hb:b.size ≤ 9223372036854775807) (hc:c.size ≤ 9223372036854775807) {w:World} {B:Heap} (hB:B.Le (hp w)) :
  Ret Tryz.prog 167 [.agg #[.string a, .string b, .string c]] w B (fun v _ => v = .int .i64 (zif a b c)):=by
 refine qt Tryz.func167 rfl Tryz.ntmps167 (Nat.le_of_ble_eq_true rfl) hB ?_
 by_cases h:c = ⟨#[]⟩
 ·refine Zds ?_;refine Zaq ?_;refine z7 (zjz rfl rfl rfl rfl (decide_eq_true (by assumption))) rfl ?_;refine ZdS ?_;refine ZaV ?_;refine Zc2 ?_;refine z7 (zp L rfl rfl (zk rfl) rfl rfl rfl (fun u H hH _ _ => zdq (by first | assumption | omega | decide) (by first | assumption | omega | decide) hH)) rfl ?_;refine Zc ?_
  refine qq L (rs:=[.tmp 2]) rfl (fun _ _ h => h) Since.refl fun u H hH hle => ?_
  exact congrArg (Value.int .i64) (show zcw [a, b] = zif a b c from (if_pos h).symm)
 ·refine Zds ?_;refine Zaq ?_;refine ZfL ?_;refine Zt ?_;refine Zo ?_;refine Zdr ?_;refine z7 (zp L rfl rfl (zk rfl) rfl rfl rfl (fun u H hH _ _ => ze4 (by first | assumption | omega | decide) (by first | assumption | omega | decide) (by first | assumption | omega | decide) hH)) rfl ?_;refine Zc ?_
  refine qq L (rs:=[.tmp 2]) rfl (fun _ _ h => h) Since.refl fun u H hH hle => ?_
  exact congrArg (Value.int .i64) (show zcw [a, b, c] = zif a b c from (if_neg h).symm)
abbrev sCol:ByteArray:=⟨#[58]⟩
abbrev sHash:ByteArray:=⟨#[35]⟩
def zs5 (a b:ByteArray):ByteArray:=a ++ sCol ++ b
def zhw (a b c:ByteArray):ByteArray:=zs5 a b ++ sHash ++ c
def zhl (a b c:ByteArray):ByteArray:=if c = ⟨#[]⟩ then zs5 a b else zhw a b c
theorem zjl:sCol.size = 1:=rfl
theorem zhn:sHash.size = 1:=rfl
theorem objT_size (a b:ByteArray):(zs5 a b).size = a.size + b.size + 1:=by
 unfold zs5; rw [ByteArray.size_append, ByteArray.size_append, zjl]; omega
theorem goalT_size (a b c:ByteArray):(zhw a b c).size = a.size + b.size + c.size + 2:=by
 unfold zhw; rw [ByteArray.size_append, ByteArray.size_append, objT_size, zhn]; omega
theorem text_ret {a b:ByteArray} (ha:a.size ≤ 1099511627776) (hb:b.size ≤ 1099511627776) {w:World} {B:Heap} (hB:B.Le (hp w)) :
  Ret Tryz.prog 256 [.agg #[.string a, .string b]] w B (fun v _ => v = .string (zs5 a b)):=by
 have hz:a.size + sCol.size ≤ 9223372036854775807:=by rw [zjl]; omega
 have hz2:(a ++ sCol).size + b.size ≤ 9223372036854775807:=by rw [ByteArray.size_append, zjl]; omega
 refine qt Tryz.func256 rfl Tryz.ntmps256 (Nat.le_of_ble_eq_true rfl) hB ?_
 refine Zbk ?_;refine Zb4 ?_;refine Zaq ?_;refine z7 (zpp rfl rfl rfl rfl (by assumption) rfl) rfl ?_;refine Zch ?_;refine z7 (zpp rfl rfl rfl rfl (by assumption) rfl) rfl ?_;refine Zc ?_
 refine qq L (rs:=[.tmp 2]) rfl (fun _ _ h => h) Since.refl fun u H hH hle => ?_
 rfl
theorem zh8 {a b c:ByteArray} (ha:a.size ≤ 1099511627776) (hb:b.size ≤ 1099511627776) (hc:c.size ≤ 1099511627776) {w:World} {B:Heap} (hB:B.Le (hp w)) :
  Ret Tryz.prog 196 [.agg #[.string a, .string b, .string c]] w B (fun v _ => v = .string (zhw a b c)):=by
 have hz:(zs5 a b).size + sHash.size ≤ 9223372036854775807:=by rw [zhn, objT_size]; omega
 have hz2:(zs5 a b ++ sHash).size + c.size ≤ 9223372036854775807:=by rw [ByteArray.size_append, zhn, objT_size]; omega
 refine qt Tryz.func196 rfl Tryz.ntmps196 (Nat.le_of_ble_eq_true rfl) hB ?_
 refine Zbk ?_;refine Zbt ?_;refine Zbc ?_;refine Zc3 ?_;refine zd (zp L rfl rfl (zk rfl) rfl rfl rfl (fun u H hH _ _ => text_ret (by first | assumption | omega | decide) (by first | assumption | omega | decide) hH)) rfl ?_;refine Zel ?_;refine Zcg ?_;refine Zel ?_;refine ZK ?_
 refine qq L (rs:=[.tmp 2]) rfl (fun _ _ h => h) Since.refl fun u H hH hle => ?_
 rfl
theorem znm {a b c:ByteArray} (ha:a.size ≤ 1099511627776) (hb:b.size ≤ 1099511627776) (hc:c.size ≤ 1099511627776) {w:World} {B:Heap} (hB:B.Le (hp w)) :
  Ret Tryz.prog 197 [.agg #[.string a, .string b, .string c]] w B (fun v _ => v = .string (zhl a b c)):=by
 refine qt Tryz.func197 rfl Tryz.ntmps197 (Nat.le_of_ble_eq_true rfl) hB ?_
 by_cases h:c = ⟨#[]⟩
 ·refine Zds ?_;refine Zaq ?_;refine z7 (zjz rfl rfl rfl rfl (decide_eq_true (by assumption))) rfl ?_;refine ZdS ?_;refine ZaV ?_;refine Zc2 ?_;refine z7 (zp L rfl rfl (zk rfl) rfl rfl rfl (fun u H hH _ _ => text_ret (by first | assumption | omega | decide) (by first | assumption | omega | decide) hH)) rfl ?_;refine Zc ?_
  refine qq L (rs:=[.tmp 2]) rfl (fun _ _ h => h) Since.refl fun u H hH hle => ?_
  exact congrArg Value.string (show zs5 a b = zhl a b c from (if_pos h).symm)
 ·refine Zds ?_;refine Zaq ?_;refine ZfL ?_;refine Zt ?_;refine Zo ?_;refine Zdr ?_;refine z7 (zp L rfl rfl (zk rfl) rfl rfl rfl (fun u H hH _ _ => zh8 (by first | assumption | omega | decide) (by first | assumption | omega | decide) (by first | assumption | omega | decide) hH)) rfl ?_;refine Zc ?_
  refine qq L (rs:=[.tmp 2]) rfl (fun _ _ h => h) Since.refl fun u H hH hle => ?_
  exact congrArg Value.string (show zhw a b c = zhl a b c from (if_neg h).symm)

def zy2 (a b:ByteArray):Int:=Lib.compareBytes a.data.toList b.data.toList
theorem zma {a b:ByteArray} {w:World} {B:Heap} (hB:B.Le (hp w)):Ret Tryz.prog 238 [.string a, .string b] w B (fun v _ => v = .int .i64 (zy2 a b)):=Ret.of_same hB (Tryz.strings_Compare a b w)
def orL:List Int → Int
 | [] => 0
 | x :: l => if x = 0 then orL l else x
theorem zt9:∀ (l:List Int) (k:Nat) (s:Int), (∀ x ∈ l.take k, x = 0) → l[k]? = some s → s ≠ 0 → orL l = s
 | [], k, s, _, h, _ => by simp at h
 | x :: l, 0, s, _, h, hc => by simp at h; subst h; simp [orL, hc]
 | x :: l, k + 1, s, ha, h, hc => by
  simp only [List.take_succ_cons] at ha
  simp only [List.getElem?_cons_succ] at h
  have hx:=ha x (List.mem_cons_self ..)
  simp only [orL, if_pos hx]
  exact zt9 l k s (fun y hy => ha y (List.mem_cons_of_mem _ hy)) h hc
theorem zqp:∀ (l:List Int), (∀ x ∈ l, x = 0) → orL l = 0
 | [], _ => rfl
 | x :: l, h => by simp only [orL, if_pos (h x (List.mem_cons_self ..))]; exact zqp l fun y hy => h y (List.mem_cons_of_mem _ hy)
set_option maxHeartbeats 400000 in
theorem z1v (l:List Int) (hlen:l.length ≤ 1000) {e:TypeId} {fu:Bool} {v:Value} {w:World} {B:Heap} (hB:B.Le (hp w)) (hv:SlV e 1 (l.map (Value.int .i64)) l.length fu v B) :
  Ret Tryz.prog 168 [v] w B (fun v _ => v = .int .i64 (orL l)):=by
 refine qt Tryz.func168 rfl Tryz.ntmps168 (Nat.le_of_ble_eq_true rfl) hB ?_
 refine zbl 0 (SlV e 1 (l.map (Value.int .i64)) l.length fu) rfl SlV.mono hv ?_
 refine ZZ ?_;refine Zf ?_;refine Z5 ?_;refine ZbK ?_
 refine zan (fun k:Nat => [(3, .is (.int .i64 0)), (6, .sat (SlV e 1 (l.map (Value.int .i64)) l.length fu)), (7, .is (.int .i64 l.length)), (8, .is (.int .i64 k))])
  (fun k => k ≤ l.length ∧ ∀ x ∈ l.take k, x = 0) (fun k => l.length - k) 0 ⟨Nat.zero_le _, by simp⟩ ⟨rfl, rfl, rfl, rfl, trivial⟩ ?_
 rintro k ⟨hk, hall⟩
 by_cases hlt:k < l.length
 ·have hs:l[k]? = some l[k]:=List.getElem?_eq_getElem hlt
  generalize l[k] = s at hs
  have hc:((l.map (Value.int .i64)).drop (k * 1)).take 1 = [.int .i64 s]:=zyp (by simp [hs])
  by_cases h0:s = 0
  ·refine Zdt ?_;refine Zp ?_;refine ZaU ?_;refine ZeM ?_;refine Zd ?_;refine Zw ?_;refine Zb ?_;refine Zal ?_;refine Zbj ?_;refine ZH ?_;refine ZbJ ?_
   refine qy (k + 1) ⟨hlt, ?_⟩ (by omega) ⟨rfl, rfl, rfl, rfl, trivial⟩
   rw [List.take_add_one, hs]
   intro x hx
   rcases List.mem_append.1 hx with hx | hx
   ·exact hall x hx
   ·simp at hx; rw [hx, h0]
  ·refine Zdt ?_;refine Zp ?_;refine ZaU ?_;refine ZeM ?_;refine Zd ?_;refine Zw ?_;refine Zb ?_;refine ZF ?_;refine ZJ ?_;refine Zc ?_
   refine qq L (rs:=[.tmp 2]) rfl (fun _ _ h => h) Since.refl fun u H hH hle => ?_
   exact congrArg _ (zt9 l k s hall hs h0).symm
 ·refine ZfM ?_;refine ZaD ?_;refine ZS ?_;refine Zc ?_
  refine qq L (rs:=[.tmp 2]) rfl (fun _ _ h => h) Since.refl fun u H hH hle => ?_
  have:l.take k = l:=List.take_of_length_le (by omega)
  exact congrArg _ (zqp l (this ▸ hall)).symm
theorem zmg {x y:Int} {w:World} {B:Heap} (hB:B.Le (hp w)) {t:Nat} {v:Value} (hv:SlB [.int .i64 x, .int .i64 y] t 2 v B) :
  Ret Tryz.prog 168 [v] w B (fun v _ => v = .int .i64 (orL [x, y])):=by
 exact z1v [x, y] (by simp) hB (hv.toV rfl)
def z4g (a b c d:ByteArray):Int:=orL [zy2 a c, zy2 b d]
def z4h (a b r c d s:ByteArray):Int:=orL [z4g a b c d, zy2 r s]
theorem zxw {a b c d:ByteArray} {w:World} {B:Heap} (hB:B.Le (hp w)) :
  Ret Tryz.prog 237 [.agg #[.string a, .string b], .agg #[.string c, .string d]] w B (fun v _ => v = .int .i64 (z4g a b c d)):=by
 refine qt Tryz.func237 rfl Tryz.ntmps237 (Nat.le_of_ble_eq_true rfl) hB ?_
 refine Zae ?_;refine Zd ?_;refine Zbt ?_;refine Zcg ?_;refine Zcg ?_;refine zd (zp L rfl rfl (zk rfl) rfl rfl rfl (fun u H hH _ _ => zma hH)) rfl ?_;refine Zcg ?_;refine Zcg ?_;refine zd (zp L rfl rfl (zk rfl) rfl rfl rfl (fun u H hH _ _ => zma hH)) rfl ?_;refine ZeN ?_;refine zd (zp L rfl rfl (zk rfl) rfl rfl rfl (fun u H hH _ _ v hv => zmg hH hv)) rfl ?_;refine ZK ?_
 refine qq L (rs:=[.tmp 4]) rfl (fun _ _ h => h) Since.refl fun u H hH hle => ?_
 rfl
theorem zm0 {a b r c d s:ByteArray} {w:World} {B:Heap} (hB:B.Le (hp w)) :
  Ret Tryz.prog 169 [.agg #[.string a, .string b, .string r], .agg #[.string c, .string d, .string s]] w B (fun v _ => v = .int .i64 (z4h a b r c d s)):=by
 refine qt Tryz.func169 rfl Tryz.ntmps169 (Nat.le_of_ble_eq_true rfl) hB ?_
 refine Zae ?_;refine Zd ?_;refine Zbt ?_;refine Zbc ?_;refine Zc3 ?_;refine Zbc ?_;refine Zc3 ?_;refine zd (zp L rfl rfl (zk rfl) rfl rfl rfl (fun u H hH _ _ => zxw hH)) rfl ?_;refine Zcg ?_;refine Zcg ?_;refine zd (zp L rfl rfl (zk rfl) rfl rfl rfl (fun u H hH _ _ => zma hH)) rfl ?_;refine ZeN ?_;refine zd (zp L rfl rfl (zk rfl) rfl rfl rfl (fun u H hH _ _ v hv => zmg hH hv)) rfl ?_;refine ZK ?_
 refine qq L (rs:=[.tmp 4]) rfl (fun _ _ h => h) Since.refl fun u H hH hle => ?_
 rfl
theorem cmpU_ret {a b r c d s:ByteArray} {w:World} {B:Heap} (hB:B.Le (hp w)) :
  Ret Tryz.prog 170 [.agg #[.string a, .string b, .string r], .agg #[.string c, .string d, .string s]] w B (fun v _ => v = .int .i64 (z4h a b r c d s)):=by
 refine qt Tryz.func170 rfl Tryz.ntmps170 (Nat.le_of_ble_eq_true rfl) hB ?_
 refine Zae ?_;refine Zd ?_;refine Zn ?_;refine Zdr ?_;refine Zdr ?_;refine z7 (zp L rfl rfl (zk rfl) rfl rfl rfl (fun u H hH _ _ => zm0 hH)) rfl ?_;refine Zc ?_
 refine qq L (rs:=[.tmp 4]) rfl (fun _ _ h => h) Since.refl fun u H hH hle => ?_
 rfl
end Go.V
set_option maxRecDepth 20000
namespace Go.V
open Go.Proofs Go.RowKit
theorem _root_.Go.V.ZeP {A B:Prop} (h:B) (t:Wr B → A:=by intro h; refine z7 (zn rfl rfl rfl rfl) rfl ?_;exact h.h):A:=t ⟨h⟩
theorem _root_.Go.V.Zan {A B:Prop} (h:B) (t:Wr B → A:=by intro h; refine z7 (qd L rfl rfl rfl rfl rfl rfl rfl rfl) rfl ?_;exact h.h):A:=t ⟨h⟩
theorem _root_.Go.V.Z6 {A B:Prop} (h:B) (t:Wr B → A:=by intro h; refine z7 (qb L rfl rfl rfl rfl) rfl ?_;exact h.h):A:=t ⟨h⟩
theorem _root_.Go.V.Zu {A B:Prop} (h:B) (t:Wr B → A:=by intro h; refine z7 (yg rfl rfl rfl rfl) rfl ?_;exact h.h):A:=t ⟨h⟩
theorem _root_.Go.V.ZeQ {A B:Prop} (h:B) (t:Wr B → A:=by intro h; refine z7 (y6 (cs:=[_, _]) rfl rfl z3k rfl rfl) rfl ?_;exact h.h):A:=t ⟨h⟩
theorem _root_.Go.V.ZdU {A B:Prop} (h:B) (t:Wr B → A:=by intro h; refine ZeP ?_;refine ZeP ?_;exact h.h):A:=t ⟨h⟩
theorem _root_.Go.V.Zci {A B:Prop} (h:B) (t:Wr B → A:=by intro h; refine Za ?_;refine ZdU ?_;exact h.h):A:=t ⟨h⟩
theorem _root_.Go.V.Zau {A B:Prop} (h:B) (t:Wr B → A:=by intro h; refine ZaQ ?_;refine Zd ?_;exact h.h):A:=t ⟨h⟩
theorem _root_.Go.V.ZaJ {A B:Prop} (h:B) (t:Wr B → A:=by intro h; refine ZaQ ?_;refine Zf ?_;exact h.h):A:=t ⟨h⟩
theorem _root_.Go.V.Zy {A B:Prop} (h:B) (t:Wr B → A:=by intro h; refine ZaQ ?_;refine Zc ?_;exact h.h):A:=t ⟨h⟩
theorem _root_.Go.V.ZaK {A B:Prop} (h:B) (t:Wr B → A:=by intro h; refine ZO ?_;refine Z6 ?_;exact h.h):A:=t ⟨h⟩
theorem _root_.Go.V.ZU {A B:Prop} (h:B) (t:Wr B → A:=by intro h; refine Zb ?_;refine Zb ?_;exact h.h):A:=t ⟨h⟩
theorem _root_.Go.V.Zdu {A B:Prop} (h:B) (t:Wr B → A:=by intro h; refine ZaQ ?_;refine ZaJ ?_;exact h.h):A:=t ⟨h⟩
theorem _root_.Go.V.Zai {A B:Prop} (h:B) (t:Wr B → A:=by intro h; refine Zg ?_;refine Zt ?_;exact h.h):A:=t ⟨h⟩
theorem _root_.Go.V.Zav {A B:Prop} (h:B) (t:Wr B → A:=by intro h; refine Z5 ?_;refine Zb ?_;exact h.h):A:=t ⟨h⟩
theorem _root_.Go.V.Za4 {A B:Prop} (h:B) (t:Wr B → A:=by intro h; refine ZaQ ?_;refine Zau ?_;exact h.h):A:=t ⟨h⟩
theorem _root_.Go.V.Zbl {A B:Prop} (h:B) (t:Wr B → A:=by intro h; refine Zci ?_;refine ZeP ?_;exact h.h):A:=t ⟨h⟩
theorem _root_.Go.V.Zbm {A B:Prop} (h:B) (t:Wr B → A:=by intro h; refine ZaQ ?_;refine Zy ?_;exact h.h):A:=t ⟨h⟩
theorem _root_.Go.V.ZcS {A B:Prop} (h:B) (t:Wr B → A:=by intro h; refine Zg ?_;refine Zb ?_;exact h.h):A:=t ⟨h⟩
attribute [local irreducible] V N X VO Par StepOK Has Ret RetL Src
def GlobM (B:Heap):Prop:=∃ m cs t fr, B 0 = some (.cells cs t fr) ∧ cs[0]? = some (.int .i64 m)
theorem GlobM.of_cell {w:World} {m:Int} (h:w.cell? ⟨0, 0, none⟩ = some (.int .i64 m)):GlobM (hp w):=by
 unfold World.cell? at h
 split at h
 ·rename_i cs t fr hb
  exact ⟨m, cs, t, fr, hb, by simpa using h⟩
 ·cases h
theorem GlobM.mono {B H:Heap} (h:GlobM B) (hl:B.Le H):GlobM H:=let ⟨m, cs, t, fr, hb, hc⟩:=h; ⟨m, cs, t, fr, hl _ _ hb, hc⟩
def zc0 (s:ByteArray) (c:UInt8):ByteArray × ByteArray × Bool :=
 (⟨(Lib.cut s.data.toList [c]).1.toArray⟩, ⟨(Lib.cut s.data.toList [c]).2.1.toArray⟩, (Lib.cut s.data.toList [c]).2.2)
def zoz (s:ByteArray) (c:UInt8):Bool:=decide (0 ≤ Lib.indexByte s.data.toList c)
def zy1 (s:ByteArray) (c:UInt8):Nat:=Lib.countByte s.data.toList c
theorem zeh {s:ByteArray} {c:UInt8} {f:Bool} (hs:s.size ≤ 1000000) {w:World} {B:Heap} (hB:B.Le (hp w)) (hM:GlobM B) (hf:(zc0 s c).2.2 = f) :
  Ret Tryz.prog 131 [.string s, .string ⟨#[c]⟩] w B (fun v _ => v = .tuple #[.string (zc0 s c).1, .string (zc0 s c).2.1, .bool f]):=by
 obtain ⟨m, cs, t, fr, hb, hc⟩:=hM
 subst hf
 refine Ret.of_drawn hB (Tryz.strings_Cut s ⟨#[c]⟩ m w (by omega) ?_)
 rw [za1 (hB _ _ hb)]; exact hc
theorem zbp {s:ByteArray} {c:UInt8} {f:Bool} {w:World} {B:Heap} (hB:B.Le (hp w)) (hf:zoz s c = f) :
  Ret Tryz.prog 132 [.string s, .string ⟨#[c]⟩] w B (fun v _ => v = .bool f):=by
 subst hf
 exact Ret.of_same hB (Tryz.strings_Contains_one s c w)
theorem count_ret {s:ByteArray} {c:UInt8} {w:World} {B:Heap} (hB:B.Le (hp w)) :
  Ret Tryz.prog 262 [.string s, .string ⟨#[c]⟩] w B (fun v _ => v = .int .i64 (zy1 s c)):=Ret.of_same hB (Tryz.strings_Count_one s c w)
theorem zg6 (s:ByteArray) (c:UInt8):(zc0 s c).1.size ≤ s.size ∧ (zc0 s c).2.1.size ≤ s.size:=by
 unfold zc0 Lib.cut
 have hl:=zau s
 have e:∀ l:List UInt8, (ByteArray.mk l.toArray).size = l.length:=fun l => by show l.toArray.size = _; simp
 generalize s.data.toList = l at hl ⊢
 rw [← hl]
 split
 ·simp only [e, List.length_take, List.length_drop]; omega
 ·simp only [e, List.length_nil]; omega
def zbs (s:ByteArray):Option (ByteArray × ByteArray × ByteArray × Bool) :=
 if ((zc0 s 58).2.2 && !zoz (zc0 s 58).1 35 && !zoz (zc0 s 58).2.1 58) = true ∧ zy1 (zc0 s 58).2.1 35 ≤ 1 then
  some ((zc0 s 58).1, (zc0 (zc0 s 58).2.1 35).1, (zc0 (zc0 s 58).2.1 35).2.1, (zc0 (zc0 s 58).2.1 35).2.2)
 else none
theorem zju {s a b c:ByteArray} {d:Bool} (h:zbs s = some (a, b, c, d)):a.size ≤ s.size ∧ b.size ≤ s.size ∧ c.size ≤ s.size:=by
 unfold zbs at h
 split at h
 ·cases h
  have h1:=zg6 s 58
  have h2:=zg6 (zc0 s 58).2.1 35
  omega
 ·cases h
set_option maxHeartbeats 400000 in
theorem zmz {s:ByteArray} {f:Bool} (hs:s.size ≤ 1000000) {w:World} {B:Heap} (hB:B.Le (hp w)) (hM:GlobM B) (hf:((zc0 s 58).2.2 && !zoz (zc0 s 58).1 35 && !zoz (zc0 s 58).2.1 58) = f) :
  Ret Tryz.prog 261 [.string s, .string ⟨#[58]⟩] w B (fun v _ => v = .tuple #[.string (zc0 s 58).1, .string (zc0 s 58).2.1, .bool f]):=by
 subst hf
 refine qt Tryz.func261 rfl Tryz.ntmps261 (Nat.le_of_ble_eq_true rfl) hB ?_
 cases h1:(zc0 s 58).2.2
 ·refine ZO ?_;refine Za4 ?_;refine Zn ?_;refine Zb ?_;refine z7 (zp L rfl rfl (zk rfl) rfl rfl rfl (fun u H hH hle _ => zeh (by assumption) hH (GlobM.mono (by assumption) hle) (by assumption))) rfl ?_;refine Zbl ?_;refine Za4 ?_;refine Z5 ?_;refine ZU ?_;refine Zcd ?_;refine Zdl ?_;refine Zad ?_;refine Zbm ?_
  refine qq L (rs:=[.tmp 4, .tmp 5, .tmp 6]) rfl (fun _ _ h => h) Since.refl fun u H hH hle => ?_
  rfl
 ·cases h2:zoz (zc0 s 58).1 35
  ·cases h3:zoz (zc0 s 58).2.1 58
   ·refine ZO ?_;refine Za4 ?_;refine Zn ?_;refine Zb ?_;refine z7 (zp L rfl rfl (zk rfl) rfl rfl rfl (fun u H hH hle _ => zeh (by assumption) hH (GlobM.mono (by assumption) hle) (by assumption))) rfl ?_;refine Zbl ?_;refine Za4 ?_;refine Zav ?_;refine Zr ?_;refine z7 (zp L rfl rfl (zk rfl) rfl rfl rfl (fun u H hH _ _ => zbp hH (by assumption))) rfl ?_;refine Zu ?_;refine ZcS ?_;refine z7 (zp L rfl rfl (zk rfl) rfl rfl rfl (fun u H hH _ _ => zbp hH (by assumption))) rfl ?_;refine Zu ?_;refine Zg ?_;refine Zbm ?_
    refine qq L (rs:=[.tmp 4, .tmp 5, .tmp 6]) rfl (fun _ _ h => h) Since.refl fun u H hH hle => ?_
    rfl
   ·refine ZO ?_;refine Za4 ?_;refine Zn ?_;refine Zb ?_;refine z7 (zp L rfl rfl (zk rfl) rfl rfl rfl (fun u H hH hle _ => zeh (by assumption) hH (GlobM.mono (by assumption) hle) (by assumption))) rfl ?_;refine Zbl ?_;refine Za4 ?_;refine Zav ?_;refine Zr ?_;refine z7 (zp L rfl rfl (zk rfl) rfl rfl rfl (fun u H hH _ _ => zbp hH (by assumption))) rfl ?_;refine Zu ?_;refine ZcS ?_;refine z7 (zp L rfl rfl (zk rfl) rfl rfl rfl (fun u H hH _ _ => zbp hH (by assumption))) rfl ?_;refine Zu ?_;refine Zg ?_;refine Zbm ?_
    refine qq L (rs:=[.tmp 4, .tmp 5, .tmp 6]) rfl (fun _ _ h => h) Since.refl fun u H hH hle => ?_
    rfl
  ·refine ZO ?_;refine Za4 ?_;refine Zn ?_;refine Zb ?_;refine z7 (zp L rfl rfl (zk rfl) rfl rfl rfl (fun u H hH hle _ => zeh (by assumption) hH (GlobM.mono (by assumption) hle) (by assumption))) rfl ?_;refine Zbl ?_;refine Za4 ?_;refine Zav ?_;refine Zr ?_;refine z7 (zp L rfl rfl (zk rfl) rfl rfl rfl (fun u H hH _ _ => zbp hH (by assumption))) rfl ?_;refine Zu ?_;refine Zg ?_;refine Zad ?_;refine Zbm ?_
   refine qq L (rs:=[.tmp 4, .tmp 5, .tmp 6]) rfl (fun _ _ h => h) Since.refl fun u H hH hle => ?_
   rfl
set_option maxHeartbeats 400000 in
theorem zla {s:ByteArray} (hs:s.size ≤ 1000000) {w:World} {B:Heap} (hB:B.Le (hp w)) (hM:GlobM B) (h:zbs s = none) :
  Ret Tryz.prog 203 [.string s] w B (fun v _ => v = .tuple #[.agg #[.string ⟨#[]⟩, .string ⟨#[]⟩], .string ⟨#[]⟩, .bool false, .bool false]):=by
 refine qt Tryz.func203 rfl Tryz.ntmps203 (Nat.le_of_ble_eq_true rfl) hB ?_
 unfold zbs at h
 cases h1:((zc0 s 58).2.2 && !zoz (zc0 s 58).1 35 && !zoz (zc0 s 58).2.1 58)
 ·refine ZaK ?_;refine Za4 ?_;refine Zn ?_;refine Zd ?_;refine Zav ?_;refine z7 (zp L rfl rfl (zk rfl) rfl rfl rfl (fun u H hH hle _ => zmz (by assumption) hH (GlobM.mono (by assumption) hle) (by assumption))) rfl ?_;refine Zbl ?_;refine Zdu ?_;refine Zk ?_;refine Zu ?_;refine Zad ?_;refine Zv ?_;refine Zp ?_;refine ZeQ ?_;refine Zan ?_;refine Zbm ?_
  refine qq L (rs:=[.cell 2 29, .tmp 3, .tmp 4, .tmp 5]) rfl (fun _ _ h => h) Since.refl fun u H hH hle => ?_
  exact ⟨_, qk rfl, rfl, rfl⟩
 ·have h2:¬ zy1 (zc0 s 58).2.1 35 ≤ 1:=fun h2 => by rw [if_pos ⟨h1, h2⟩] at h; cases h
  clear h
  refine ZaK ?_;refine Za4 ?_;refine Zn ?_;refine Zd ?_;refine Zav ?_;refine z7 (zp L rfl rfl (zk rfl) rfl rfl rfl (fun u H hH hle _ => zmz (by assumption) hH (GlobM.mono (by assumption) hle) (by assumption))) rfl ?_;refine Zbl ?_;refine Zdu ?_;refine Zk ?_;refine Zu ?_;refine Zb ?_;refine z7 (zp L rfl rfl (zk rfl) rfl rfl rfl (fun u H hH _ _ => count_ret hH)) rfl ?_;refine ZW ?_;refine ZaA ?_;refine Zp ?_;refine ZeQ ?_;refine Zan ?_;refine Zbm ?_
  refine qq L (rs:=[.cell 2 29, .tmp 3, .tmp 4, .tmp 5]) rfl (fun _ _ h => h) Since.refl fun u H hH hle => ?_
  exact ⟨_, qk rfl, rfl, rfl⟩
set_option maxHeartbeats 400000 in
theorem zcm {s a b c:ByteArray} {d:Bool} (hs:s.size ≤ 1000000) {w:World} {B:Heap} (hB:B.Le (hp w)) (hM:GlobM B) (h:zbs s = some (a, b, c, d)) :
  Ret Tryz.prog 203 [.string s] w B (fun v _ => v = .tuple #[.agg #[.string a, .string b], .string c, .bool d, .bool true]):=by
 refine qt Tryz.func203 rfl Tryz.ntmps203 (Nat.le_of_ble_eq_true rfl) hB ?_
 unfold zbs at h
 split at h
 ·rename_i hc
  obtain ⟨h1, h2⟩:=hc
  cases h
  have hz:=zg6 s 58
  have hz2:(zc0 s 58).2.1.size ≤ 1000000:=by omega
  refine ZaK ?_;refine Za4 ?_;refine Zn ?_;refine Zd ?_;refine Zav ?_;refine z7 (zp L rfl rfl (zk rfl) rfl rfl rfl (fun u H hH hle _ => zmz (by assumption) hH (GlobM.mono (by assumption) hle) (by assumption))) rfl ?_;refine Zbl ?_;refine Zdu ?_;refine Zk ?_;refine Zu ?_;refine Zb ?_;refine z7 (zp L rfl rfl (zk rfl) rfl rfl rfl (fun u H hH _ _ => count_ret hH)) rfl ?_;refine Z3 ?_;refine Zai ?_;refine ZY ?_;refine z7 (zp L rfl rfl (zk rfl) rfl rfl rfl (fun u H hH hle _ => zeh (by assumption) hH (GlobM.mono (by assumption) hle) rfl)) rfl ?_;refine Zbl ?_;refine Za4 ?_;refine Zak ?_;refine Zb ?_;refine ZeQ ?_;refine Zb ?_;refine Zan ?_;refine Zbm ?_
  refine qq L (rs:=[.cell 2 29, .tmp 3, .tmp 4, .tmp 5]) rfl (fun _ _ h => h) Since.refl fun u H hH hle => ?_
  exact ⟨_, qk rfl, rfl, rfl⟩
 ·cases h
end Go.V
set_option maxRecDepth 20000
namespace Go.V
open Go.Proofs Go.RowKit
theorem _root_.Go.V.ZL {A B:Prop} (h:B) (t:Wr B → A:=by intro h; refine z7 (y7 rfl rfl rfl rfl (decide_eq_false (by omega))) rfl ?_;exact h.h):A:=t ⟨h⟩
theorem _root_.Go.V.Z9 {A B:Prop} (h:B) (t:Wr B → A:=by intro h; refine z7 (y7 rfl rfl rfl rfl (decide_eq_true (by omega))) rfl ?_;exact h.h):A:=t ⟨h⟩
theorem _root_.Go.V.ZcT {A B:Prop} (h:B) (t:Wr B → A:=by intro h; refine z7 (zy L (vs:=[_, _]) (qk rfl) rfl rfl rfl rfl ⟨_, rfl⟩) rfl ?_;exact h.h):A:=t ⟨h⟩
theorem _root_.Go.V.Ze4 {A B:Prop} (h:B) (t:Wr B → A:=by intro h; refine z7 (y6 (cs:=[_, _, _]) rfl rfl z4v rfl rfl) rfl ?_;exact h.h):A:=t ⟨h⟩
theorem _root_.Go.V.Zfj {A B:Prop} (h:B) (t:Wr B → A:=by intro h; refine z7 (zy L (vs:=[_, _, _]) (qk rfl) rfl rfl rfl rfl ⟨_, rfl⟩) rfl ?_;exact h.h):A:=t ⟨h⟩
theorem _root_.Go.V.ZeR {A B:Prop} (h:B) (t:Wr B → A:=by intro h; refine z7 (y6 (cs:=[_, _, _]) rfl rfl z4w rfl rfl) rfl ?_;exact h.h):A:=t ⟨h⟩
theorem _root_.Go.V.Ze {A B:Prop} (h:B) (t:Wr B → A:=by intro h; refine zh ?_;refine zh ?_;exact h.h):A:=t ⟨h⟩
theorem _root_.Go.V.Z2 {A B:Prop} (h:B) (t:Wr B → A:=by intro h; refine Z5 ?_;refine Za ?_;exact h.h):A:=t ⟨h⟩
theorem _root_.Go.V.Zbn {A B:Prop} (h:B) (t:Wr B → A:=by intro h; refine Z6 ?_;refine Zan ?_;exact h.h):A:=t ⟨h⟩
theorem _root_.Go.V.Zaw {A B:Prop} (h:B) (t:Wr B → A:=by intro h; refine Z1 ?_;refine Ze ?_;exact h.h):A:=t ⟨h⟩
theorem _root_.Go.V.ZC {A B:Prop} (h:B) (t:Wr B → A:=by intro h; refine ZH ?_;refine Za ?_;exact h.h):A:=t ⟨h⟩
theorem _root_.Go.V.ZaL {A B:Prop} (h:B) (t:Wr B → A:=by intro h; refine Zan ?_;refine Zc ?_;exact h.h):A:=t ⟨h⟩
theorem _root_.Go.V.ZV {A B:Prop} (h:B) (t:Wr B → A:=by intro h; refine Zal ?_;refine Zt ?_;exact h.h):A:=t ⟨h⟩
theorem _root_.Go.V.ZeS {A B:Prop} (h:B) (t:Wr B → A:=by intro h; refine Zd ?_;refine Z4 ?_;exact h.h):A:=t ⟨h⟩
theorem _root_.Go.V.Zgf {A B:Prop} (h:B) (t:Wr B → A:=by intro h; refine Zci ?_;refine ZdU ?_;exact h.h):A:=t ⟨h⟩
theorem _root_.Go.V.Zgg {A B:Prop} (h:B) (t:Wr B → A:=by intro h; refine Zgf ?_;refine Zbn ?_;exact h.h):A:=t ⟨h⟩
theorem _root_.Go.V.ZdV {A B:Prop} (h:B) (t:Wr B → A:=by intro h; refine Zgg ?_;refine Zdu ?_;exact h.h):A:=t ⟨h⟩
theorem _root_.Go.V.Ze5 {A B:Prop} (h:B) (t:Wr B → A:=by intro h; refine Zbn ?_;refine Zaw ?_;exact h.h):A:=t ⟨h⟩
theorem _root_.Go.V.Zb5 {A B:Prop} (h:B) (t:Wr B → A:=by intro h; refine ZaK ?_;refine ZeS ?_;exact h.h):A:=t ⟨h⟩
theorem _root_.Go.V.ZeT {A B:Prop} (h:B) (t:Wr B → A:=by intro h; refine Z2 ?_;refine Zu ?_;exact h.h):A:=t ⟨h⟩
theorem _root_.Go.V.ZbL {A B:Prop} (h:B) (t:Wr B → A:=by intro h; refine Za ?_;refine ZaL ?_;exact h.h):A:=t ⟨h⟩
theorem _root_.Go.V.Zcj {A B:Prop} (h:B) (t:Wr B → A:=by intro h; refine Zg ?_;refine Zz ?_;exact h.h):A:=t ⟨h⟩
theorem _root_.Go.V.Zdv {A B:Prop} (h:B) (t:Wr B → A:=by intro h; refine ZdV ?_;refine ZeT ?_;exact h.h):A:=t ⟨h⟩
attribute [local irreducible] V N X VO Par StepOK Has Ret RetL Src
abbrev zdg:ByteArray:=⟨#[]⟩
def poA (s:ByteArray):ByteArray × ByteArray × Int :=
 match zbs s with
 | none => (zdg, zdg, 5)
 | some (a, b, _, d) => if d = true then (zdg, zdg, 5) else if zcw [a, b] = 0 then (a, b, 0) else (zdg, zdg, zcw [a, b])
def pgA (s:ByteArray):ByteArray × ByteArray × ByteArray × Int :=
 match zbs s with
 | none => (zdg, zdg, zdg, 5)
 | some (a, b, c, d) => if d = false then (zdg, zdg, zdg, 5) else if zcw [a, b, c] = 0 then (a, b, c, 0) else (zdg, zdg, zdg, zcw [a, b, c])
def psA (s:ByteArray):ByteArray × ByteArray × ByteArray × Int :=
 match zbs s with
 | none => (zdg, zdg, zdg, 5)
 | some (a, b, c, d) => if zcw [a, b] = 0 then (if d = true then (if chk c = 0 then (a, b, c, 0) else (zdg, zdg, zdg, chk c)) else (a, b, c, 0)) else (zdg, zdg, zdg, zcw [a, b])
set_option maxHeartbeats 400000 in
theorem z1t {s:ByteArray} {r:ByteArray × ByteArray × ByteArray × Int} (hr:pgA s = r) (hs:s.size ≤ 1000000) {w:World} {B:Heap} (hB:B.Le (hp w)) (hM:GlobM B) :
  Ret Tryz.prog 133 [.string s] w B (fun v _ => v = .tuple #[.agg #[.string r.1, .string r.2.1, .string r.2.2.1], .int .i64 r.2.2.2]):=by
 refine qt Tryz.func133 rfl Tryz.ntmps133 (Nat.le_of_ble_eq_true rfl) hB ?_
 unfold pgA at hr
 cases hp:zbs s with
 | none =>
  rw [hp] at hr; simp only at hr; subst hr
  refine Zb5 ?_;refine z7 (zp L rfl rfl (zk rfl) rfl rfl rfl (fun u H hH hle _ => zla (by assumption) hH (GlobM.mono (by assumption) hle) (by assumption))) rfl ?_;refine Zdv ?_;refine Zbs ?_;refine ZaA ?_;refine Zo ?_;refine ZeR ?_;refine ZaL ?_
  refine qq L (rs:=[.cell 2 31, .tmp 3]) rfl (fun _ _ h => h) Since.refl fun u H hH hle => ?_
  exact ⟨_, qk rfl, rfl, rfl⟩
 | some p =>
  obtain ⟨a, b, c, d⟩:=p
  rw [hp] at hr; simp only at hr
  have hz:=zju hp
  have ha:a.size ≤ 1099511627776:=by omega
  have hb:b.size ≤ 1099511627776:=by omega
  have hc:c.size ≤ 1099511627776:=by omega
  cases d with
  | false =>
   rw [if_pos rfl] at hr; subst hr
   refine Zb5 ?_;refine z7 (zp L rfl rfl (zk rfl) rfl rfl rfl (fun u H hH hle _ => zcm (by assumption) hH (GlobM.mono (by assumption) hle) (by assumption))) rfl ?_;refine Zdv ?_;refine Zb ?_;refine Zu ?_;refine ZaA ?_;refine Zo ?_;refine ZeR ?_;refine ZaL ?_
   refine qq L (rs:=[.cell 2 31, .tmp 3]) rfl (fun _ _ h => h) Since.refl fun u H hH hle => ?_
   exact ⟨_, qk rfl, rfl, rfl⟩
  | true =>
   rw [if_neg (by decide)] at hr
   by_cases h0:zcw [a, b, c] = 0
   ·rw [if_pos h0] at hr; subst hr
    refine Zb5 ?_;refine z7 (zp L rfl rfl (zk rfl) rfl rfl rfl (fun u H hH hle _ => zcm (by assumption) hH (GlobM.mono (by assumption) hle) (by assumption))) rfl ?_;refine Zdv ?_;refine Zb ?_;refine Zu ?_;refine Zai ?_;refine Zp ?_;refine ZcT ?_;refine Za ?_;refine ZeR ?_;refine Ze5 ?_;refine Zw ?_;refine Zfj ?_;refine z7 (zp L rfl rfl (zk rfl) rfl rfl rfl (fun u H hH _ _ => ze4 (by first | assumption | omega | decide) (by first | assumption | omega | decide) (by first | assumption | omega | decide) hH)) rfl ?_;refine Zd ?_;refine ZJ ?_;refine ZV ?_;refine ZA ?_;refine Zfj ?_;refine ZaL ?_
    refine qq L (rs:=[.cell 2 31, .tmp 3]) rfl (fun _ _ h => h) Since.refl fun u H hH hle => ?_
    exact ⟨_, qk rfl, rfl, rfl⟩
   ·rw [if_neg h0] at hr; subst hr
    refine Zb5 ?_;refine z7 (zp L rfl rfl (zk rfl) rfl rfl rfl (fun u H hH hle _ => zcm (by assumption) hH (GlobM.mono (by assumption) hle) (by assumption))) rfl ?_;refine Zdv ?_;refine Zb ?_;refine Zu ?_;refine Zai ?_;refine Zp ?_;refine ZcT ?_;refine Za ?_;refine ZeR ?_;refine Ze5 ?_;refine Zw ?_;refine Zfj ?_;refine z7 (zp L rfl rfl (zk rfl) rfl rfl rfl (fun u H hH _ _ => ze4 (by first | assumption | omega | decide) (by first | assumption | omega | decide) (by first | assumption | omega | decide) hH)) rfl ?_;refine Zd ?_;refine ZJ ?_;refine ZF ?_;refine ZH ?_;refine ZeR ?_;refine ZbL ?_
    refine qq L (rs:=[.cell 2 31, .tmp 3]) rfl (fun _ _ h => h) Since.refl fun u H hH hle => ?_
    exact ⟨_, qk rfl, rfl, rfl⟩
set_option maxHeartbeats 400000 in
theorem z1q {s:ByteArray} {r:ByteArray × ByteArray × ByteArray × Int} (hr:psA s = r) (hs:s.size ≤ 1000000) {w:World} {B:Heap} (hB:B.Le (hp w)) (hM:GlobM B) :
  Ret Tryz.prog 134 [.string s] w B (fun v _ => v = .tuple #[.agg #[.string r.1, .string r.2.1, .string r.2.2.1], .int .i64 r.2.2.2]):=by
 refine qt Tryz.func134 rfl Tryz.ntmps134 (Nat.le_of_ble_eq_true rfl) hB ?_
 unfold psA at hr
 cases hp:zbs s with
 | none =>
  rw [hp] at hr; simp only at hr; subst hr
  refine Zb5 ?_;refine z7 (zp L rfl rfl (zk rfl) rfl rfl rfl (fun u H hH hle _ => zla (by assumption) hH (GlobM.mono (by assumption) hle) (by assumption))) rfl ?_;refine Zdv ?_;refine Zv ?_;refine Zo ?_;refine Ze4 ?_;refine ZaL ?_
  refine qq L (rs:=[.cell 2 32, .tmp 3]) rfl (fun _ _ h => h) Since.refl fun u H hH hle => ?_
  exact ⟨_, qk rfl, rfl, rfl⟩
 | some p =>
  obtain ⟨a, b, c, d⟩:=p
  rw [hp] at hr; simp only at hr
  have hz:=zju hp
  have ha:a.size ≤ 1099511627776:=by omega
  have hb:b.size ≤ 1099511627776:=by omega
  have hc:c.size ≤ 1099511627776:=by omega
  by_cases h0:zcw [a, b] = 0
  ·rw [if_pos h0] at hr
   cases d with
   | false =>
    rw [if_neg (by decide)] at hr; subst hr
    refine Zb5 ?_;refine z7 (zp L rfl rfl (zk rfl) rfl rfl rfl (fun u H hH hle _ => zcm (by assumption) hH (GlobM.mono (by assumption) hle) (by assumption))) rfl ?_;refine Zdv ?_;refine Zt ?_;refine Zp ?_;refine ZcT ?_;refine z7 (zp L rfl rfl (zk rfl) rfl rfl rfl (fun u H hH _ _ => zdq (by first | assumption | omega | decide) (by first | assumption | omega | decide) hH)) rfl ?_;refine Zf ?_;refine Zw ?_;refine Zb ?_;refine Zcd ?_;refine Zc0 ?_;refine ZC ?_;refine ZV ?_;refine Zah ?_;refine ZcT ?_;refine Za ?_;refine Ze4 ?_;refine ZaL ?_
    refine qq L (rs:=[.cell 2 32, .tmp 3]) rfl (fun _ _ h => h) Since.refl fun u H hH hle => ?_
    exact ⟨_, qk rfl, rfl, rfl⟩
   | true =>
    rw [if_pos rfl] at hr
    by_cases h1:chk c = 0
    ·rw [if_pos h1] at hr; subst hr
     refine Zb5 ?_;refine z7 (zp L rfl rfl (zk rfl) rfl rfl rfl (fun u H hH hle _ => zcm (by assumption) hH (GlobM.mono (by assumption) hle) (by assumption))) rfl ?_;refine Zdv ?_;refine Zt ?_;refine Zp ?_;refine ZcT ?_;refine z7 (zp L rfl rfl (zk rfl) rfl rfl rfl (fun u H hH _ _ => zdq (by first | assumption | omega | decide) (by first | assumption | omega | decide) hH)) rfl ?_;refine Zf ?_;refine Zw ?_;refine Zr ?_;refine Z9 ?_;refine Zcj ?_;refine ZJ ?_;refine z7 (zp L rfl rfl (zk rfl) rfl rfl rfl (fun u H hH _ _ => check_ret _ (by first | omega | decide) hH)) rfl ?_;refine Zf ?_;refine ZC ?_;refine ZV ?_;refine Zah ?_;refine ZcT ?_;refine Za ?_;refine Ze4 ?_;refine ZaL ?_
     refine qq L (rs:=[.cell 2 32, .tmp 3]) rfl (fun _ _ h => h) Since.refl fun u H hH hle => ?_
     exact ⟨_, qk rfl, rfl, rfl⟩
    ·rw [if_neg h1] at hr; subst hr
     refine Zb5 ?_;refine z7 (zp L rfl rfl (zk rfl) rfl rfl rfl (fun u H hH hle _ => zcm (by assumption) hH (GlobM.mono (by assumption) hle) (by assumption))) rfl ?_;refine Zdv ?_;refine Zt ?_;refine Zp ?_;refine ZcT ?_;refine z7 (zp L rfl rfl (zk rfl) rfl rfl rfl (fun u H hH _ _ => zdq (by first | assumption | omega | decide) (by first | assumption | omega | decide) hH)) rfl ?_;refine Zf ?_;refine Zw ?_;refine Zr ?_;refine Z9 ?_;refine Zcj ?_;refine ZJ ?_;refine z7 (zp L rfl rfl (zk rfl) rfl rfl rfl (fun u H hH _ _ => check_ret _ (by first | omega | decide) hH)) rfl ?_;refine Zf ?_;refine ZC ?_;refine ZF ?_;refine ZA ?_;refine Ze4 ?_;refine ZbL ?_
     refine qq L (rs:=[.cell 2 32, .tmp 3]) rfl (fun _ _ h => h) Since.refl fun u H hH hle => ?_
     exact ⟨_, qk rfl, rfl, rfl⟩
  ·rw [if_neg h0] at hr; subst hr
   cases d
   ·refine Zb5 ?_;refine z7 (zp L rfl rfl (zk rfl) rfl rfl rfl (fun u H hH hle _ => zcm (by assumption) hH (GlobM.mono (by assumption) hle) (by assumption))) rfl ?_;refine Zdv ?_;refine Zt ?_;refine Zp ?_;refine ZcT ?_;refine z7 (zp L rfl rfl (zk rfl) rfl rfl rfl (fun u H hH _ _ => zdq (by first | assumption | omega | decide) (by first | assumption | omega | decide) hH)) rfl ?_;refine Zf ?_;refine Zw ?_;refine Zb ?_;refine Zcd ?_;refine Zc0 ?_;refine ZC ?_;refine ZF ?_;refine ZA ?_;refine Ze4 ?_;refine ZbL ?_
    refine qq L (rs:=[.cell 2 32, .tmp 3]) rfl (fun _ _ h => h) Since.refl fun u H hH hle => ?_
    exact ⟨_, qk rfl, rfl, rfl⟩
   ·refine Zb5 ?_;refine z7 (zp L rfl rfl (zk rfl) rfl rfl rfl (fun u H hH hle _ => zcm (by assumption) hH (GlobM.mono (by assumption) hle) (by assumption))) rfl ?_;refine Zdv ?_;refine Zt ?_;refine Zp ?_;refine ZcT ?_;refine z7 (zp L rfl rfl (zk rfl) rfl rfl rfl (fun u H hH _ _ => zdq (by first | assumption | omega | decide) (by first | assumption | omega | decide) hH)) rfl ?_;refine Zf ?_;refine Zw ?_;refine Zr ?_;refine ZL ?_;refine Zc0 ?_;refine ZC ?_;refine ZF ?_;refine ZA ?_;refine Ze4 ?_;refine ZbL ?_
    refine qq L (rs:=[.cell 2 32, .tmp 3]) rfl (fun _ _ h => h) Since.refl fun u H hH hle => ?_
    exact ⟨_, qk rfl, rfl, rfl⟩
theorem zpm {s a b c:ByteArray} {e:Int} (hr:pgA s = (a, b, c, e)) (hs:s.size ≤ 1000000) {w:World} {B:Heap} (hB:B.Le (hp w)) (hM:GlobM B) :
  Ret Tryz.prog 133 [.string s] w B (fun v _ => v = .tuple #[.agg #[.string a, .string b, .string c], .int .i64 e]):=z1t hr hs hB hM
theorem zt3 {s a b c:ByteArray} {e:Int} (hr:psA s = (a, b, c, e)) (hs:s.size ≤ 1000000) {w:World} {B:Heap} (hB:B.Le (hp w)) (hM:GlobM B) :
  Ret Tryz.prog 134 [.string s] w B (fun v _ => v = .tuple #[.agg #[.string a, .string b, .string c], .int .i64 e]):=z1q hr hs hB hM
end Go.V
set_option maxRecDepth 20000
namespace Go.V
open Go.Proofs Go.RowKit
theorem _root_.Go.V.Za5 {A B:Prop} (h:B) (t:Wr B → A:=by intro h; refine z7 (yh rfl rfl rfl rfl (decide_eq_true (by omega))) rfl ?_;exact h.h):A:=t ⟨h⟩
theorem _root_.Go.V.ZD {A B:Prop} (h:B) (t:Wr B → A:=by intro h; refine z7 (yh rfl rfl rfl rfl (decide_eq_false (by omega))) rfl ?_;exact h.h):A:=t ⟨h⟩
theorem _root_.Go.V.Zbo {A B:Prop} (h:B) (t:Wr B → A:=by intro h; refine z7 (zqs rfl rfl rfl rfl (decide_eq_true (by omega))) rfl ?_;exact h.h):A:=t ⟨h⟩
theorem _root_.Go.V.Zb6 {A B:Prop} (h:B) (t:Wr B → A:=by intro h; refine z7 (zqs rfl rfl rfl rfl (decide_eq_false (by omega))) rfl ?_;exact h.h):A:=t ⟨h⟩
theorem _root_.Go.V.Zax {A B:Prop} (h:B) (t:Wr B → A:=by intro h; refine ZaQ ?_;refine zi ?_;exact h.h):A:=t ⟨h⟩
theorem _root_.Go.V.Zbd {A B:Prop} (h:B) (t:Wr B → A:=by intro h; refine Zdk ?_;refine ZfK ?_;exact h.h):A:=t ⟨h⟩
theorem _root_.Go.V.ZdW {A B:Prop} (h:B) (t:Wr B → A:=by intro h; refine Ze ?_;refine Zo ?_;exact h.h):A:=t ⟨h⟩
theorem _root_.Go.V.Zaf {A B:Prop} (h:B) (t:Wr B → A:=by intro h; refine Zc ?_;refine q6 ?_;exact h.h):A:=t ⟨h⟩
theorem _root_.Go.V.Zb7 {A B:Prop} (h:B) (t:Wr B → A:=by intro h; refine Zbd ?_;refine zh ?_;exact h.h):A:=t ⟨h⟩
theorem _root_.Go.V.Za6 {A B:Prop} (h:B) (t:Wr B → A:=by intro h; refine Zdj ?_;refine Zax ?_;exact h.h):A:=t ⟨h⟩
theorem _root_.Go.V.Zdw {A B:Prop} (h:B) (t:Wr B → A:=by intro h; refine ZdW ?_;refine ZaR ?_;exact h.h):A:=t ⟨h⟩
theorem _root_.Go.V.ZaM {A B:Prop} (h:B) (t:Wr B → A:=by intro h; refine ZeK ?_;refine q6 ?_;exact h.h):A:=t ⟨h⟩
theorem _root_.Go.V.Zbp {A B:Prop} (h:B) (t:Wr B → A:=by intro h; refine ZdT ?_;refine Z4 ?_;exact h.h):A:=t ⟨h⟩
theorem _root_.Go.V.Zdx {A B:Prop} (h:B) (t:Wr B → A:=by intro h; refine Zdw ?_;refine Z7 ?_;exact h.h):A:=t ⟨h⟩
attribute [local irreducible] V N X VO Par StepOK Has Ret RetL Src
set_option maxHeartbeats 1000000 in
theorem zhq {s:ByteArray} (hs:s.size ≤ 9223372036854775807) {w:World} {B:Heap} (hB:B.Le (hp w)) :
  Ret Tryz.prog 175 [.string s] w B (fun v _ => v = .int .i64 (chk s)):=by
 refine qt Tryz.func175 rfl Tryz.ntmps175 (Nat.le_of_ble_eq_true rfl) hB ?_
 by_cases h0:1 ≤ s.size ∧ s.size ≤ 16
 ·obtain ⟨h1, h2⟩:=h0
  refine Zbp ?_;refine ZaB ?_;refine ZW ?_;refine ZaR ?_;refine Zbo ?_;refine Zg ?_;refine Zf ?_;refine Z5 ?_;refine Zaf ?_
  refine zan (fun p:Nat × Bool => [(0, .is (.string s)), (3, .is (.bool p.2)), (4, .is (.int .i64 p.1))])
   (fun p => p.1 ≤ s.size ∧ (p.2 = true → (s.data.toList.take p.1).all okB = true) ∧ (p.2 = false → chk s = 6)) (fun p => s.size - p.1) (0, true) ⟨Nat.zero_le _, fun _ => by simp, fun h => by cases h⟩ ⟨rfl, rfl, rfl, trivial⟩ ?_
  rintro ⟨k, b⟩ ⟨hk, hall, hbad⟩
  dsimp only at hk hall hbad ⊢
  by_cases hlt:k < s.size
  ·cases b with
   | false =>
    refine Zdw ?_;refine Zac ?_;refine Zb ?_;refine Zg ?_;refine Zb7 ?_;refine ZJ ?_;refine Zt ?_;refine ZA ?_;refine Zc ?_
    refine qq L (rs:=[.tmp 2]) rfl (fun _ _ h => h) Since.refl fun u H hH hle => ?_
    exact congrArg _ (hbad rfl).symm
   | true =>
    obtain ⟨c, hc⟩:=getElem?_lt hlt
    have hu:=zwh c
    by_cases a1:97 ≤ (c.toNat:Int)
    ·by_cases a4:(c.toNat:Int) ≤ 122
     ·refine Zdw ?_;refine Zac ?_;refine Zb ?_;refine Zcj ?_;refine ZaM ?_;refine Zw ?_;refine ZaC ?_;refine Za5 ?_;refine ZaS ?_;refine Zbo ?_;refine Zg ?_;refine Zdp ?_;refine Zcd ?_;refine Zcd ?_;refine Zg ?_;refine Zax ?_;refine Zat ?_;refine Zi ?_;refine Za6 ?_
      exact qy (x:=(k, true)) (k + 1, true) ⟨hlt, fun _ => zin hc (z10 (by omega) (by omega)) (hall rfl), fun h => (by cases h)⟩ (by dsimp only; omega) ⟨rfl, rfl, rfl, trivial⟩
     ·refine Zdw ?_;refine Zac ?_;refine Zb ?_;refine Zcj ?_;refine ZaM ?_;refine Zw ?_;refine ZaC ?_;refine Za5 ?_;refine ZaS ?_;refine Zb6 ?_;refine Zg ?_;refine ZaS ?_;refine Za5 ?_;refine ZaS ?_;refine Zb6 ?_;refine Zg ?_;refine Zg ?_;refine Zax ?_;refine Zat ?_;refine Zi ?_;refine Za6 ?_
      exact qy (x:=(k, true)) (k + 1, false) ⟨hlt, fun h => (by cases h), fun _ => zlq hc (z11 (by omega))⟩ (by dsimp only; omega) ⟨rfl, rfl, rfl, trivial⟩
    ·by_cases a2:48 ≤ (c.toNat:Int)
     ·by_cases a3:(c.toNat:Int) ≤ 57
      ·refine Zdw ?_;refine Zac ?_;refine Zb ?_;refine Zcj ?_;refine ZaM ?_;refine Zw ?_;refine ZaC ?_;refine ZD ?_;refine Zdo ?_;refine ZaS ?_;refine Za5 ?_;refine ZaS ?_;refine Zbo ?_;refine Zg ?_;refine Zg ?_;refine Zax ?_;refine Zat ?_;refine Zi ?_;refine Za6 ?_
       exact qy (x:=(k, true)) (k + 1, true) ⟨hlt, fun _ => zin hc (z1z (by omega) (by omega)) (hall rfl), fun h => (by cases h)⟩ (by dsimp only; omega) ⟨rfl, rfl, rfl, trivial⟩
      ·refine Zdw ?_;refine Zac ?_;refine Zb ?_;refine Zcj ?_;refine ZaM ?_;refine Zw ?_;refine ZaC ?_;refine ZD ?_;refine Zdo ?_;refine ZaS ?_;refine Za5 ?_;refine ZaS ?_;refine Zb6 ?_;refine Zg ?_;refine Zg ?_;refine Zax ?_;refine Zat ?_;refine Zi ?_;refine Za6 ?_
       exact qy (x:=(k, true)) (k + 1, false) ⟨hlt, fun h => (by cases h), fun _ => zlq hc (z13 (by omega) (by omega))⟩ (by dsimp only; omega) ⟨rfl, rfl, rfl, trivial⟩
     ·refine Zdw ?_;refine Zac ?_;refine Zb ?_;refine Zcj ?_;refine ZaM ?_;refine Zw ?_;refine ZaC ?_;refine ZD ?_;refine Zdo ?_;refine ZaS ?_;refine ZD ?_;refine Zdo ?_;refine Zg ?_;refine Zax ?_;refine Zat ?_;refine Zi ?_;refine Za6 ?_
      exact qy (x:=(k, true)) (k + 1, false) ⟨hlt, fun h => (by cases h), fun _ => zlq hc (z14 (by omega) (by omega))⟩ (by dsimp only; omega) ⟨rfl, rfl, rfl, trivial⟩
  ·cases b with
   | false =>
    refine Zdx ?_;refine Za ?_;refine Zdl ?_;refine Zb7 ?_;refine ZJ ?_;refine Zt ?_;refine ZA ?_;refine Zc ?_
    refine qq L (rs:=[.tmp 2]) rfl (fun _ _ h => h) Since.refl fun u H hH hle => ?_
    exact congrArg _ (hbad rfl).symm
   | true =>
    refine Zdx ?_;refine Za ?_;refine Zdl ?_;refine Zb7 ?_;refine ZJ ?_;refine Zv ?_;refine ZH ?_;refine Zc ?_
    refine qq L (rs:=[.tmp 2]) rfl (fun _ _ h => h) Since.refl fun u H hH hle => ?_
    exact congrArg _ (zvw h1 h2 (zrk (by omega) (hall rfl))).symm
 ·have hbad:=zp4 h0
  by_cases h1:1 ≤ s.size
  ·have h2:16 < s.size:=by omega
   refine Zbp ?_;refine ZaB ?_;refine ZW ?_;refine ZaR ?_;refine Zb6 ?_;refine Zg ?_;refine Zf ?_;refine Z5 ?_;refine Zaf ?_
   refine zan (fun _:Unit => [(0, .is (.string s)), (3, .is (.bool false)), (4, .is (.int .i64 0))]) (fun _ => True) (fun _ => 0) () trivial ⟨rfl, rfl, rfl, trivial⟩ ?_
   rintro _ _
   refine Zdw ?_;refine Zac ?_;refine Zb ?_;refine Zg ?_;refine Zb7 ?_;refine ZJ ?_;refine Zt ?_;refine ZA ?_;refine Zc ?_
   refine qq L (rs:=[.tmp 2]) rfl (fun _ _ h => h) Since.refl fun u H hH hle => ?_
   exact congrArg _ hbad.symm
  ·refine Zbp ?_;refine ZaB ?_;refine Z3 ?_;refine Zad ?_;refine Zf ?_;refine Z5 ?_;refine Zaf ?_
   refine zan (fun _:Unit => [(0, .is (.string s)), (3, .is (.bool false)), (4, .is (.int .i64 0))]) (fun _ => True) (fun _ => 0) () trivial ⟨rfl, rfl, rfl, trivial⟩ ?_
   rintro _ _
   refine Zdx ?_;refine Za ?_;refine Zdl ?_;refine Zb7 ?_;refine ZJ ?_;refine Zt ?_;refine ZA ?_;refine Zc ?_
   refine qq L (rs:=[.tmp 2]) rfl (fun _ _ h => h) Since.refl fun u H hH hle => ?_
   exact congrArg _ hbad.symm
theorem max2 (a b:ByteArray):(if chk b > chk a then chk b else chk a) = zcw [a, b]:=by
 simp only [zcw]
 rcases zbq a with h | h <;> rcases zbq b with h' | h' <;> simp [h, h']
theorem z4y (a b c:ByteArray):(if chk c > zcw [a, b] then chk c else zcw [a, b]) = zcw [a, b, c]:=by
 simp only [zcw]
 rcases zbq a with h | h <;> rcases zbq b with h' | h' <;> rcases zbq c with h'' | h'' <;> simp [h, h', h'']
theorem zjp {a b:ByteArray} (ha:a.size ≤ 9223372036854775807) (hb:b.size ≤ 9223372036854775807) {w:World} {B:Heap} (hB:B.Le (hp w)) :
  Ret Tryz.prog 174 [.agg #[.string a, .string b]] w B (fun v _ => v = .int .i64 (zcw [a, b])):=by
 refine qt Tryz.func174 rfl Tryz.ntmps174 (Nat.le_of_ble_eq_true rfl) hB ?_
 refine Zbk ?_;refine Zbt ?_;refine Zcg ?_;refine zd (zp L rfl rfl (zk rfl) rfl rfl rfl (fun u H hH _ _ => zhq (by first | omega | decide) hH)) rfl ?_;refine Zcg ?_;refine zd (zp L rfl rfl (zk rfl) rfl rfl rfl (fun u H hH _ _ => zhq (by first | omega | decide) hH)) rfl ?_;refine zd (zlc rfl rfl rfl rfl rfl) rfl ?_;refine ZK ?_
 refine qq L (rs:=[.tmp 2]) rfl (fun _ _ h => h) Since.refl fun u H hH hle => ?_
 exact congrArg _ (max2 a b)
end Go.V
set_option maxRecDepth 20000
namespace Go.V
open Go.Proofs Go.RowKit
attribute [local irreducible] V N X VO Par StepOK Has Ret RetL Src
end Go.V
set_option maxRecDepth 20000
namespace Go.V
open Go.RowKit
def noB (s:ByteArray) (c:UInt8):Prop:=c ∉ s.data.toList
theorem ze3 (r:List UInt8) (c:UInt8):∀ (l:List UInt8), c ∉ l → Lib.indexByte (l ++ c :: r) c = l.length
 | [], _ => by simp [Lib.indexByte]
 | b :: l, h => by
  have h1:¬ (b == c) = true:=fun e => h (by rw [beq_iff_eq] at e; rw [e]; exact List.mem_cons_self ..)
  have ih:=ze3 r c l (fun e => h (List.mem_cons_of_mem _ e))
  rw [List.cons_append, Lib.indexByte, if_neg h1, ih, if_neg (by rw [beq_iff_eq]; omega)]
  simp
theorem zfn (c:UInt8):∀ (l:List UInt8), c ∉ l → Lib.indexByte l c = -1
 | [], _ => rfl
 | b :: l, h => by
  have h1:¬ (b == c) = true:=fun e => h (by rw [beq_iff_eq] at e; rw [e]; exact List.mem_cons_self ..)
  rw [Lib.indexByte, if_neg h1, zfn c l (fun e => h (List.mem_cons_of_mem _ e))]
  rfl
theorem z0i {l r:List UInt8} {c:UInt8} (h:c ∉ l):Lib.cut (l ++ c :: r) [c] = (l, r, true):=by
 unfold Lib.cut
 rw [Lib.index_one, ze3 r c l h, if_pos (by omega)]
 simp
theorem z2q {l:List UInt8} {c:UInt8} (h:c ∉ l):Lib.cut l [c] = (l, [], false):=by
 unfold Lib.cut
 rw [Lib.index_one, zfn c l h, if_neg (by omega)]
theorem zar (a b:ByteArray):(a ++ b).data.toList = a.data.toList ++ b.data.toList:=by
 rw [ByteArray.data_append, Array.toList_append]
theorem zbf {a b:ByteArray} (h:a.data.toList = b.data.toList):a = b:=by
 obtain ⟨⟨x⟩⟩:=a; obtain ⟨⟨y⟩⟩:=b; simp at h; subst h; rfl
theorem ba_of (a:ByteArray):(⟨a.data.toList.toArray⟩:ByteArray) = a:=by obtain ⟨⟨l⟩⟩:=a; rfl
theorem ze5 {a b:ByteArray} {c:UInt8} (h:noB a c):zc0 (a ++ ⟨#[c]⟩ ++ b) c = (a, b, true):=by
 have e:(a ++ ⟨#[c]⟩ ++ b).data.toList = a.data.toList ++ c :: b.data.toList:=by rw [zar, zar]; simp
 unfold zc0
 rw [e, z0i h]
theorem zhy {a:ByteArray} {c:UInt8} (h:noB a c):zc0 a c = (a, ⟨#[]⟩, false):=by
 unfold zc0
 rw [z2q h]
theorem zp0 {a:ByteArray} {c:UInt8} (h:noB a c):zoz a c = false:=by
 unfold zoz
 rw [zfn c _ h]; rfl
theorem z0j {a:ByteArray} {c:UInt8} (h:noB a c):zy1 a c = 0:=by
 unfold zy1 Lib.countByte
 exact List.count_eq_zero_of_not_mem h
theorem z0x {a b:ByteArray} (h:zcw [a, b] = 0):chk a = 0 ∧ chk b = 0:=by
 simp only [zcw] at h
 rcases zbq a with h1 | h1 <;> rcases zbq b with h2 | h2 <;> simp [h1, h2] at h ⊢
theorem zsw {a b c:ByteArray} (h:zcw [a, b, c] = 0):chk a = 0 ∧ chk b = 0 ∧ chk c = 0:=by
 simp only [zcw] at h
 rcases zbq a with h1 | h1 <;> rcases zbq b with h2 | h2 <;> rcases zbq c with h3 | h3 <;> simp [h1, h2, h3] at h ⊢
theorem zx3 {a b c:ByteArray} (ha:chk a = 0) (hb:chk b = 0) (hc:chk c = 0):zcw [a, b, c] = 0:=by simp [zcw, ha, hb, hc]
theorem zhm {a b c:ByteArray} (h:zif a b c = 0):chk a = 0 ∧ chk b = 0 ∧ (c = ⟨#[]⟩ ∨ chk c = 0):=by
 unfold zif at h
 split at h
 ·rename_i hc; exact ⟨(z0x h).1, (z0x h).2, .inl hc⟩
 ·exact ⟨(zsw h).1, (zsw h).2.1, .inr (zsw h).2.2⟩
theorem z0l:chk ⟨#[]⟩ = 6:=by decide +kernel
theorem subjT_size (a b c:ByteArray):(zhl a b c).size ≤ a.size + b.size + c.size + 2:=by
 unfold zhl; split
 ·rw [objT_size]; omega
 ·rw [goalT_size]; omega
end Go.V
set_option maxRecDepth 20000
namespace Go.V
open Go.Proofs Go.RowKit
theorem _root_.Go.V.Zh {A B:Prop} (h:B) (t:Wr B → A:=by intro h; refine zd (z8 rfl rfl rfl) rfl ?_;exact h.h):A:=t ⟨h⟩
theorem _root_.Go.V.Zao {A B:Prop} (h:B) (t:Wr B → A:=by intro h; refine zd (qg rfl rfl rfl rfl (by assumption)) rfl ?_;exact h.h):A:=t ⟨h⟩
theorem _root_.Go.V.Zbu {A B:Prop} (h:B) (t:Wr B → A:=by intro h; refine z7 (y8 rfl rfl rfl rfl (zaa (by omega) (by omega))) rfl ?_;exact h.h):A:=t ⟨h⟩
theorem _root_.Go.V.Zb8 {A B:Prop} (h:B) (t:Wr B → A:=by intro h; refine q4 (id:=8) [] mixed (by kernel_rfl) ?_;exact h.h):A:=t ⟨h⟩
theorem _root_.Go.V.ZdX {A B:Prop} (h:B) (t:Wr B → A:=by intro h; refine zd (qd L rfl rfl rfl rfl rfl rfl rfl rfl) rfl ?_;exact h.h):A:=t ⟨h⟩
theorem _root_.Go.V.Zfk {A B:Prop} (h:B) (t:Wr B → A:=by intro h; refine zd (zy L (vs:=[_, _]) (qk rfl) rfl rfl rfl rfl ⟨_, rfl⟩) rfl ?_;exact h.h):A:=t ⟨h⟩
theorem _root_.Go.V.Ze6 {A B:Prop} (h:B) (t:Wr B → A:=by intro h; refine q4 (id:=5) [] mixed (by kernel_rfl) ?_;exact h.h):A:=t ⟨h⟩
theorem _root_.Go.V.ZeU {A B:Prop} (h:B) (t:Wr B → A:=by intro h; refine q4 (id:=7) [] mixed (by kernel_rfl) ?_;exact h.h):A:=t ⟨h⟩
theorem _root_.Go.V.Zs {A B:Prop} (h:B) (t:Wr B → A:=by intro h; refine Zh ?_;refine Zh ?_;exact h.h):A:=t ⟨h⟩
theorem _root_.Go.V.ZaW {A B:Prop} (h:B) (t:Wr B → A:=by intro h; refine qe ?_;refine ZbH ?_;exact h.h):A:=t ⟨h⟩
theorem _root_.Go.V.ZP {A B:Prop} (h:B) (t:Wr B → A:=by intro h; refine Zci ?_;refine Zau ?_;exact h.h):A:=t ⟨h⟩
theorem _root_.Go.V.Za7 {A B:Prop} (h:B) (t:Wr B → A:=by intro h; refine Za5 ?_;refine Zz ?_;exact h.h):A:=t ⟨h⟩
theorem _root_.Go.V.ZaN {A B:Prop} (h:B) (t:Wr B → A:=by intro h; refine ZL ?_;refine Zt ?_;exact h.h):A:=t ⟨h⟩
theorem _root_.Go.V.Zbe {A B:Prop} (h:B) (t:Wr B → A:=by intro h; refine Zb ?_;refine ZW ?_;exact h.h):A:=t ⟨h⟩
theorem _root_.Go.V.Zck {A B:Prop} (h:B) (t:Wr B → A:=by intro h; refine Zci ?_;refine ZaJ ?_;exact h.h):A:=t ⟨h⟩
theorem _root_.Go.V.ZcU {A B:Prop} (h:B) (t:Wr B → A:=by intro h; refine ZO ?_;refine Zau ?_;exact h.h):A:=t ⟨h⟩
def fi (c:UInt8):List UInt8 → Nat
 | [] => 0
 | x :: l => if x = c then 0 else fi c l + 1
theorem z2m {c:UInt8}:∀ {l:List UInt8}, c ∉ l → fi c l = l.length
 | [], _ => rfl
 | x :: l, h => by
  rw [fi, if_neg fun e => h (by rw [e]; exact List.mem_cons_self ..), z2m fun e => h (List.mem_cons_of_mem _ e), List.length_cons]
theorem zq8 {c:UInt8} {q:List UInt8}:∀ {p:List UInt8}, c ∉ p → fi c (p ++ q) = p.length + fi c q
 | [], _ => by simp
 | x :: p, h => by
  rw [List.cons_append, fi, if_neg fun e => h (by rw [e]; exact List.mem_cons_self ..), zq8 fun e => h (List.mem_cons_of_mem _ e), List.length_cons]; omega
theorem z2n {c:UInt8} {q:List UInt8}:∀ {p:List UInt8}, c ∈ p → fi c (p ++ q) < p.length
 | x :: p, h => by
  rw [List.cons_append, fi]
  split
  ·simp
  ·rename_i hx
   have:=z2n (q:=q) ((List.mem_cons.1 h).resolve_left fun e => hx e.symm)
   simp only [List.length_cons]; omega
theorem zdf (s:ByteArray) (c:UInt8):noB s c ∨ ∃ a b, s = a ++ ⟨#[c]⟩ ++ b ∧ noB a c:=by
 by_cases h:c ∈ s.data.toList
 ·obtain ⟨p, q, e, hp⟩:=List.eq_append_cons_of_mem h
  refine .inr ⟨⟨p.toArray⟩, ⟨q.toArray⟩, zbf ?_, by unfold noB; simpa using hp⟩
  rw [zar, zar, e]
  simp
 ·exact .inl h
theorem zd2 (p q r:ByteArray) (i j:Nat) (hi:i = p.size) (hj:j = p.size + q.size):(p ++ q ++ r).extract i j = q:=by
 subst hi hj
 apply zbf
 rw [ByteArray.data_extract, Array.toList_extract, List.extract, zar, zar]
 have h1:p.data.toList.length = p.size:=zau p
 have h2:q.data.toList.length = q.size:=zau q
 rw [List.append_assoc, ← h1, List.drop_left, List.take_left' (by omega)]
theorem zmv {a:ByteArray} {c:UInt8} (h:¬ noB a c):zoz a c = true:=by
 rcases zdf a c with h1 | ⟨p, q, rfl, hp⟩
 ·exact absurd h1 h
 ·unfold zoz
  have e:(p ++ ⟨#[c]⟩ ++ q).data.toList = p.data.toList ++ c :: q.data.toList:=by rw [zar, zar]; simp
  rw [e, ze3 _ _ _ hp]
  simp
def rp1 (s:ByteArray):ByteArray × ByteArray × ByteArray × Bool × Int :=
 match zbs s with
 | none => (zdg, zdg, zdg, false, 5)
 | some (x, y, z, d) => (x, y, z, d, if d = true then zcw [x, y, z] else zcw [x, y])
theorem zit (a b:ByteArray) (c:UInt8):(a ++ ⟨#[c]⟩ ++ b).data.toList = a.data.toList ++ c :: b.data.toList:=by rw [zar, zar]; simp
theorem zmn (a b:ByteArray) (c:UInt8):(a ++ ⟨#[c]⟩ ++ b).size = a.size + 1 + b.size:=by rw [ByteArray.size_append, ByteArray.size_append]; rfl
theorem zoo {s:ByteArray} {c:UInt8} (h:¬ noB s c):0 < s.data.toList.count c:=List.count_pos_iff.2 (Classical.not_not.1 h)
attribute [local irreducible] V N X VO Par StepOK Has Ret RetL Src
set_option maxHeartbeats 1000000 in
theorem zcd {s:ByteArray} {c:UInt8} {a n:Nat} (ha:fi c s.data.toList = a) (hn:s.data.toList.count c = n) (hs:s.size ≤ 1000000) {w:World} {B:Heap} (hB:B.Le (hp w)) :
  Ret Tryz.prog 173 [.string s, .int .u8 c.toNat] w B (fun v _ => v = .tuple #[.int .i64 a, .int .i64 n]):=by
 subst ha hn
 have hlen:=zau s
 refine qt Tryz.func173 rfl Tryz.ntmps173 (Nat.le_of_ble_eq_true rfl) hB ?_
 refine ZcU ?_;refine Z4 ?_;refine ZaB ?_;refine ZaJ ?_;refine Z2 ?_;refine ZaB ?_;refine Zbu ?_;refine Zaf ?_
 refine zan (fun x:Nat × Nat × Nat × Int => [(0, .is (.string s)), (1, .is (.int .u8 c.toNat)), (6, .is (.int .i64 x.2.1)), (7, .is (.int .i64 x.2.2.1)), (8, .is (.int .i64 x.2.2.2))])
  (fun x => x.1 ≤ s.size ∧ x.2.1 = x.1 + fi c (s.data.toList.drop x.1) ∧ x.2.2.1 = (s.data.toList.drop x.1).count c ∧ x.2.2.2 = (x.1:Int) - 1 ∧ x.2.2.1 ≤ s.size - x.1) (fun x => x.1) (s.size, s.size, 0, (s.size:Int) - 1)
  ⟨Nat.le_refl _, by rw [List.drop_eq_nil_of_le (by omega)]; rfl, by rw [List.drop_eq_nil_of_le (by omega)]; rfl, rfl, Nat.zero_le _⟩ ⟨rfl, rfl, rfl, rfl, rfl, trivial⟩ ?_
 rintro ⟨i, a, n, z⟩ ⟨hi, ha, hn, hz, hb⟩
 dsimp only at hi ha hn hz hb ⊢
 cases i with
 | zero =>
  rw [List.drop_zero] at ha hn
  have hz0:z < 0:=by omega
  obtain rfl:a = fi c s.data.toList:=by omega
  subst hn
  refine Ze ?_;refine Zk ?_;refine ZD ?_;refine Zbd ?_;refine ZA ?_;refine Zb ?_;refine Zy ?_
  refine qq L (rs:=[.tmp 4, .tmp 5]) rfl (fun _ _ h => h) Since.refl fun u H hH hle => ?_
  rfl
 | succ k =>
  obtain rfl:z = (k:Int):=by omega
  obtain ⟨x, hc⟩:=getElem?_lt (show k < s.size by omega)
  have hd:s.data.toList[k]? = some x:=by
   have:s.data[k]? = some x:=hc
   simpa using this
  have hdr:s.data.toList.drop k = x :: s.data.toList.drop (k + 1):=by
   have h1:k < s.data.toList.length:=by omega
   rw [List.drop_eq_getElem_cons h1]
   rw [List.getElem?_eq_getElem h1] at hd
   rw [Option.some.inj hd]
  by_cases hx:x = c
  ·subst hx
   refine Ze ?_;refine Zk ?_;refine Za7 ?_;refine Ze3 ?_;refine Zw ?_;refine ZaC ?_;refine Za ?_;refine Z9 ?_;refine Zv ?_;refine ZJ ?_;refine Zc ?_;refine ZC ?_;refine Za6 ?_;refine Zat ?_;refine Zi ?_;refine Zbu ?_;refine Zax ?_
   exact qy (x:=(k + 1, a, n, (k:Int))) (k, k, n + 1, (k:Int) - 1) ⟨by dsimp only; omega, by dsimp only; rw [hdr, fi, if_pos rfl]; rfl, by dsimp only; rw [hdr, List.count_cons_self, hn], rfl, by dsimp only; omega⟩ (by dsimp only; omega) ⟨rfl, rfl, rfl, rfl, rfl, trivial⟩
  ·have hxc:(x.toNat:Int) ≠ (c.toNat:Int):=fun e => hx (UInt8.toNat_inj.1 (by omega))
   refine Ze ?_;refine Zk ?_;refine Za7 ?_;refine Ze3 ?_;refine Zw ?_;refine ZaC ?_;refine Za ?_;refine ZL ?_;refine Zbj ?_;refine Zi ?_;refine Zbu ?_;refine Zax ?_
   exact qy (x:=(k + 1, a, n, (k:Int))) (k, a, n, (k:Int) - 1) ⟨by dsimp only; omega, by dsimp only; rw [hdr, fi, if_neg hx, ha]; omega, by dsimp only; rw [hdr, List.count_cons_of_ne hx, hn], rfl, by dsimp only; omega⟩ (by dsimp only; omega) ⟨rfl, rfl, rfl, rfl, rfl, trivial⟩
set_option maxHeartbeats 2000000 in
theorem zpf {s:ByteArray} {r:ByteArray × ByteArray × ByteArray × Bool × Int} (hr:rp1 s = r) (hs:s.size ≤ 1000000) {w:World} {B:Heap} (hB:B.Le (hp w)) :
  Ret Tryz.prog 106 [.string s] w B (fun v _ => v = .tuple #[.agg #[.string r.1, .string r.2.1], .string r.2.2.1, .bool r.2.2.2.1, .int .i64 r.2.2.2.2]):=by
 subst hr
 have bad:zbs s = none → ∀ {m k m2 k2:Nat}, fi 58 s.data.toList = m → s.data.toList.count 58 = k → fi 35 s.data.toList = m2 → s.data.toList.count 35 = k2 → (k ≠ 1 ∨ 1 < k2 ∨ m2 < m) →
   Ret Tryz.prog 106 [.string s] w B (fun v _ => v = .tuple #[.agg #[.string (rp1 s).1, .string (rp1 s).2.1], .string (rp1 s).2.2.1, .bool (rp1 s).2.2.2.1, .int .i64 (rp1 s).2.2.2.2]):=by
  intro hp m k m2 k2 e1 e2 e3 e4 hor
  have hr1:rp1 s = (zdg, zdg, zdg, false, 5):=by unfold rp1; rw [hp]
  rw [hr1]
  refine qt Tryz.func106 rfl Tryz.ntmps106 (Nat.le_of_ble_eq_true rfl) hB ?_
  by_cases c1:k = 1
  ·by_cases c2:1 < k2
   ·refine ZaK ?_;refine Za4 ?_;refine Z4 ?_;refine z7 (zp L rfl rfl (zk rfl) rfl rfl rfl (fun u H hH _ _ => zcd (c:=58) e1 e2 hs hH)) rfl ?_;refine ZP ?_;refine Z2 ?_;refine z7 (zp L rfl rfl (zk rfl) rfl rfl rfl (fun u H hH _ _ => zcd (c:=35) e3 e4 hs hH)) rfl ?_;refine Zck ?_;refine Zk ?_;refine Zal ?_;refine Zbe ?_;refine Zg ?_;refine Zad ?_;refine Zv ?_;refine Zp ?_;refine ZeQ ?_;refine Zan ?_;refine Zbm ?_
    refine qq L (rs:=[.cell 2 29, .tmp 3, .tmp 4, .tmp 5]) rfl (fun _ _ h => h) Since.refl fun u H hH hle => ?_
    exact ⟨_, qk rfl, rfl, rfl⟩
   ·have c3:m2 < m:=by omega
    refine ZaK ?_;refine Za4 ?_;refine Z4 ?_;refine z7 (zp L rfl rfl (zk rfl) rfl rfl rfl (fun u H hH _ _ => zcd (c:=58) e1 e2 hs hH)) rfl ?_;refine ZP ?_;refine Z2 ?_;refine z7 (zp L rfl rfl (zk rfl) rfl rfl rfl (fun u H hH _ _ => zcd (c:=35) e3 e4 hs hH)) rfl ?_;refine Zck ?_;refine Zk ?_;refine Zal ?_;refine Zb ?_;refine Z3 ?_;refine Zg ?_;refine Zr ?_;refine Zac ?_;refine ZaA ?_;refine Zp ?_;refine ZeQ ?_;refine Zan ?_;refine Zbm ?_
    refine qq L (rs:=[.cell 2 29, .tmp 3, .tmp 4, .tmp 5]) rfl (fun _ _ h => h) Since.refl fun u H hH hle => ?_
    exact ⟨_, qk rfl, rfl, rfl⟩
  ·refine ZaK ?_;refine Za4 ?_;refine Z4 ?_;refine z7 (zp L rfl rfl (zk rfl) rfl rfl rfl (fun u H hH _ _ => zcd (c:=58) e1 e2 hs hH)) rfl ?_;refine ZP ?_;refine Z2 ?_;refine z7 (zp L rfl rfl (zk rfl) rfl rfl rfl (fun u H hH _ _ => zcd (c:=35) e3 e4 hs hH)) rfl ?_;refine Zck ?_;refine Zk ?_;refine Zam ?_;refine Zbs ?_;refine Zg ?_;refine Zad ?_;refine Zv ?_;refine Zp ?_;refine ZeQ ?_;refine Zan ?_;refine Zbm ?_
   refine qq L (rs:=[.cell 2 29, .tmp 3, .tmp 4, .tmp 5]) rfl (fun _ _ h => h) Since.refl fun u H hH hle => ?_
   exact ⟨_, qk rfl, rfl, rfl⟩
 rcases zdf s 58 with h58 | ⟨a, b, rfl, ha⟩
 ·refine bad ?_ rfl rfl rfl rfl (.inl ?_)
  ·unfold zbs; rw [zhy h58]; simp
  ·rw [List.count_eq_zero_of_not_mem h58]; decide
 ·have hcut:zc0 (a ++ ⟨#[58]⟩ ++ b) 58 = (a, b, true):=ze5 ha
  have hls:=zit a b 58
  have hsz:=zmn a b 58
  by_cases hb:noB b 58
  ·have hf1:fi 58 (a ++ ⟨#[58]⟩ ++ b).data.toList = a.size:=by rw [hls, zq8 ha, zau]; simp [fi]
   have hc1:(a ++ ⟨#[58]⟩ ++ b).data.toList.count 58 = 1:=by rw [hls, List.count_append, List.count_cons_self, List.count_eq_zero_of_not_mem ha, List.count_eq_zero_of_not_mem hb]
   by_cases ha3:noB a 35
   ·have hf2:fi 35 (a ++ ⟨#[58]⟩ ++ b).data.toList = a.size + 1 + fi 35 b.data.toList:=by rw [hls, zq8 ha3, zau, fi, if_neg (by decide)]; omega
    have hc2:(a ++ ⟨#[58]⟩ ++ b).data.toList.count 35 = b.data.toList.count 35:=by rw [hls, List.count_append, List.count_eq_zero_of_not_mem ha3, List.count_cons_of_ne (by decide)]; omega
    have hn1:=zp0 ha3
    have hn2:=zp0 hb
    have za:a.size ≤ 1099511627776:=by omega
    have zb:b.size ≤ 1099511627776:=by omega
    have hadd1:IntKind.i64.wrap ((a.size:Int) + 1) = ((a.size + 1:Nat):Int):=zaa (by omega) (by omega) |>.trans (by omega)
    have x1:(a ++ ⟨#[58]⟩ ++ b).extract 0 a.size = a:=by
     have:=zd2 ⟨#[]⟩ a (⟨#[58]⟩ ++ b) 0 a.size rfl (by show _ = 0 + _; omega)
     conv => rhs; rw [← this]
     congr 1; apply zbf; simp [zar]
    rcases zdf b 35 with hb3 | ⟨c, e, rfl, hc3⟩
    ·have hp:zbs (a ++ ⟨#[58]⟩ ++ b) = some (a, b, zdg, false):=by
      unfold zbs; rw [hcut]
      simp only [hn1, hn2, z0j hb3, zhy hb3]
      simp
     have hr1:rp1 (a ++ ⟨#[58]⟩ ++ b) = (a, b, zdg, false, zcw [a, b]):=by unfold rp1; rw [hp]; rfl
     rw [hr1]
     have hf3:fi 35 (a ++ ⟨#[58]⟩ ++ b).data.toList = a.size + 1 + b.size:=by rw [hf2, z2m hb3, zau]
     have hc3:(a ++ ⟨#[58]⟩ ++ b).data.toList.count 35 = 0:=by rw [hc2, List.count_eq_zero_of_not_mem hb3]
     have x2:(a ++ ⟨#[58]⟩ ++ b).extract (a.size + 1) (a.size + 1 + b.size) = b:=by
      have:=zd2 (a ++ ⟨#[58]⟩) b ⟨#[]⟩ (a.size + 1) (a.size + 1 + b.size) (by rw [ByteArray.size_append]; rfl) (by rw [ByteArray.size_append]; rfl)
      conv => rhs; rw [← this]
      congr 1; apply zbf; simp [zar]
     generalize a ++ ⟨#[58]⟩ ++ b = s at *
     refine qt Tryz.func106 rfl Tryz.ntmps106 (Nat.le_of_ble_eq_true rfl) hB ?_
     refine ZaK ?_;refine Za4 ?_;refine Z4 ?_;refine z7 (zp L rfl rfl (zk rfl) rfl rfl rfl (fun u H hH _ _ => zcd (c:=58) hf1 hc1 hs hH)) rfl ?_;refine ZP ?_;refine Z2 ?_;refine z7 (zp L rfl rfl (zk rfl) rfl rfl rfl (fun u H hH _ _ => zcd (c:=35) hf3 hc3 hs hH)) rfl ?_;refine Zck ?_;refine Zk ?_;refine Zal ?_;refine Zb ?_;refine Z3 ?_;refine Zg ?_;refine Zr ?_;refine Z7 ?_;refine Zai ?_;refine Ze6 ?_;refine Zs ?_;refine zd (zap L (kl:=.i64) (pl:=0) 0 a.size rfl rfl rfl rfl rfl ⟨rfl, rfl⟩ (by omega) (by omega) x1) rfl ?_;refine Zs ?_;refine Zao ?_;refine Zh ?_;refine zd (zap L (a.size + 1) (a.size + 1 + b.size) rfl rfl rfl rfl ⟨rfl, rfl⟩ ⟨rfl, rfl⟩ (by omega) (by omega) x2) rfl ?_;refine zd (y6 (cs:=[_, _]) rfl rfl z3k rfl rfl) rfl ?_;refine zd (qb L rfl rfl rfl rfl) rfl ?_;refine ZdX ?_;refine ZaW ?_;refine zh ?_;refine ZJ ?_;refine Z9 ?_;refine Zv ?_;refine ZeU ?_;refine Zfk ?_;refine Zfk ?_;refine zd (zp L rfl rfl (zk rfl) rfl rfl rfl (fun u H hH _ _ => zjp (by first | assumption | omega | decide) (by first | assumption | omega | decide) hH)) rfl ?_;refine ZdX ?_;refine Za2 ?_;refine Za2 ?_;refine ZK ?_
     refine qq L (rs:=[.cell 2 29, .tmp 3, .tmp 4, .tmp 5]) rfl (fun _ _ h => h) Since.refl fun u H hH hle => ?_
     exact ⟨_, qk rfl, rfl, rfl⟩
    ·have hls2:=zit c e 35
     have hsz2:=zmn c e 35
     by_cases he3:noB e 35
     ·have hcn:(c ++ ⟨#[35]⟩ ++ e).data.toList.count 35 = 1:=by rw [hls2, List.count_append, List.count_cons_self, List.count_eq_zero_of_not_mem hc3, List.count_eq_zero_of_not_mem he3]
      have hp:zbs (a ++ ⟨#[58]⟩ ++ (c ++ ⟨#[35]⟩ ++ e)) = some (a, c, e, true):=by
       unfold zbs; rw [hcut]
       have h4:zy1 (c ++ ⟨#[35]⟩ ++ e) 35 = 1:=hcn
       simp only [hn1, hn2, h4, ze5 hc3]
       simp
      have hr1:rp1 (a ++ ⟨#[58]⟩ ++ (c ++ ⟨#[35]⟩ ++ e)) = (a, c, e, true, zcw [a, c, e]):=by unfold rp1; rw [hp]; rfl
      rw [hr1]
      have hf3:fi 35 (a ++ ⟨#[58]⟩ ++ (c ++ ⟨#[35]⟩ ++ e)).data.toList = a.size + 1 + c.size:=by rw [hf2, hls2, zq8 hc3, zau]; simp [fi]
      have hc4:(a ++ ⟨#[58]⟩ ++ (c ++ ⟨#[35]⟩ ++ e)).data.toList.count 35 = 1:=by rw [hc2, hcn]
      have x2:(a ++ ⟨#[58]⟩ ++ (c ++ ⟨#[35]⟩ ++ e)).extract (a.size + 1) (a.size + 1 + c.size) = c:=by
       have:=zd2 (a ++ ⟨#[58]⟩) c (⟨#[35]⟩ ++ e) (a.size + 1) (a.size + 1 + c.size) (by rw [ByteArray.size_append]; rfl) (by rw [ByteArray.size_append]; rfl)
       conv => rhs; rw [← this]
       congr 1; apply zbf; simp [zar]
      have x3:(a ++ ⟨#[58]⟩ ++ (c ++ ⟨#[35]⟩ ++ e)).extract (a.size + 1 + c.size + 1) (a ++ ⟨#[58]⟩ ++ (c ++ ⟨#[35]⟩ ++ e)).size = e:=by
       have:=zd2 (a ++ ⟨#[58]⟩ ++ c ++ ⟨#[35]⟩) e ⟨#[]⟩ (a.size + 1 + c.size + 1) (a ++ ⟨#[58]⟩ ++ (c ++ ⟨#[35]⟩ ++ e)).size (by simp only [ByteArray.size_append]; rfl) (by simp only [ByteArray.size_append]; rw [show (⟨#[58]⟩:ByteArray).size = 1 from rfl, show (⟨#[35]⟩:ByteArray).size = 1 from rfl]; omega)
       conv => rhs; rw [← this]
       congr 1; apply zbf; simp [zar]
      have hsz3:(a ++ ⟨#[58]⟩ ++ (c ++ ⟨#[35]⟩ ++ e)).size = a.size + 1 + (c.size + 1 + e.size):=by rw [hsz, hsz2]
      have zc:c.size ≤ 1099511627776:=by omega
      have ze:e.size ≤ 1099511627776:=by omega
      have hadd2:IntKind.i64.wrap (((a.size + 1 + c.size:Nat):Int) + 1) = ((a.size + 1 + c.size + 1:Nat):Int):=zaa (by omega) (by omega) |>.trans (by omega)
      have hmx:=z4y a c e
      generalize a ++ ⟨#[58]⟩ ++ (c ++ ⟨#[35]⟩ ++ e) = s at *
      refine qt Tryz.func106 rfl Tryz.ntmps106 (Nat.le_of_ble_eq_true rfl) hB ?_
      refine ZaK ?_;refine Za4 ?_;refine Z4 ?_;refine z7 (zp L rfl rfl (zk rfl) rfl rfl rfl (fun u H hH _ _ => zcd (c:=58) hf1 hc1 hs hH)) rfl ?_;refine ZP ?_;refine Z2 ?_;refine z7 (zp L rfl rfl (zk rfl) rfl rfl rfl (fun u H hH _ _ => zcd (c:=35) hf3 hc4 hs hH)) rfl ?_;refine Zck ?_;refine Zk ?_;refine Zal ?_;refine Zb ?_;refine Z3 ?_;refine Zg ?_;refine Zr ?_;refine Z7 ?_;refine Zai ?_;refine Ze6 ?_;refine Zs ?_;refine zd (zap L (kl:=.i64) (pl:=0) 0 a.size rfl rfl rfl rfl rfl ⟨rfl, rfl⟩ (by omega) (by omega) x1) rfl ?_;refine Zs ?_;refine Zao ?_;refine Zh ?_;refine zd (zap L (a.size + 1) (a.size + 1 + c.size) rfl rfl rfl rfl ⟨rfl, rfl⟩ ⟨rfl, rfl⟩ (by omega) (by omega) x2) rfl ?_;refine zd (y6 (cs:=[_, _]) rfl rfl z3k rfl rfl) rfl ?_;refine zd (qb L rfl rfl rfl rfl) rfl ?_;refine ZdX ?_;refine ZaW ?_;refine zh ?_;refine ZJ ?_;refine ZaN ?_;refine Zb8 ?_;refine Zfk ?_;refine Zs ?_;refine Zao ?_;refine zd (zap L (kh:=.i64) (ph:=0) (a.size + 1 + c.size + 1) _ rfl rfl rfl rfl ⟨rfl, rfl⟩ rfl (by omega) (by omega) x3) rfl ?_;refine Zfk ?_;refine zd (zp L rfl rfl (zk rfl) rfl rfl rfl (fun u H hH _ _ => zjp (by first | assumption | omega | decide) (by first | assumption | omega | decide) hH)) rfl ?_;refine Zs ?_;refine Zao ?_;refine zd (zap L (kh:=.i64) (ph:=0) (a.size + 1 + c.size + 1) _ rfl rfl rfl rfl ⟨rfl, rfl⟩ rfl (by omega) (by omega) x3) rfl ?_;refine zd (zp L rfl rfl (zk rfl) rfl rfl rfl (fun u H hH _ _ => zhq (by first | omega | decide) hH)) rfl ?_;refine zd (zlc rfl rfl rfl rfl (by assumption)) rfl ?_;refine ZdX ?_;refine Za2 ?_;refine Za2 ?_;refine ZK ?_
      refine qq L (rs:=[.cell 2 29, .tmp 3, .tmp 4, .tmp 5]) rfl (fun _ _ h => h) Since.refl fun u H hH hle => ?_
      exact ⟨_, qk rfl, rfl, rfl⟩
     ·have hcn:1 < (c ++ ⟨#[35]⟩ ++ e).data.toList.count 35:=by have:=zoo he3; rw [hls2, List.count_append, List.count_cons_self]; omega
      refine bad ?_ rfl rfl rfl rfl (.inr (.inl (by rw [hc2]; exact hcn)))
      unfold zbs; rw [hcut]
      have h4:¬ zy1 (c ++ ⟨#[35]⟩ ++ e) 35 ≤ 1:=by unfold zy1 Lib.countByte; omega
      simp only [h4, and_false, if_false]
   ·refine bad ?_ rfl rfl rfl rfl (.inr (.inr ?_))
    ·unfold zbs; rw [hcut]
     simp only [zmv ha3]
     simp
    ·rw [hf1, hls, ← zau]
     exact z2n (Classical.not_not.1 ha3)
  ·refine bad ?_ rfl rfl rfl rfl (.inl ?_)
   ·unfold zbs; rw [hcut]
    simp only [zmv hb]
    simp
   ·have:=zoo hb
    rw [hls, List.count_append, List.count_cons_self]; omega
theorem zbz {s x y z:ByteArray} {d:Bool} {e:Int} (hr:rp1 s = (x, y, z, d, e)) (hs:s.size ≤ 1000000) {w:World} {B:Heap} (hB:B.Le (hp w)) :
  Ret Tryz.prog 106 [.string s] w B (fun v _ => v = .tuple #[.agg #[.string x, .string y], .string z, .bool d, .int .i64 e]):=zpf hr hs hB
end Go.V
set_option maxRecDepth 20000
namespace Go.V.L11
open Go.Proofs Go.RowKit Go.V
abbrev sNl:ByteArray:=⟨#[10]⟩
def zs6:List UInt8 → List UInt8 → List (List UInt8)
 | acc, [] => if acc = [] then [] else [acc]
 | acc, c :: l => if c = 10 then (acc ++ [c]) :: zs6 [] l else zs6 (acc ++ [c]) l
theorem zva:∀ {l acc:List UInt8}, 10 ∉ l → zs6 acc l = if acc ++ l = [] then [] else [acc ++ l]
 | [], acc, _ => by rw [List.append_nil]; rfl
 | c :: l, acc, h => by
  rw [List.mem_cons, not_or] at h
  show (if c = 10 then _ else _) = _
  rw [if_neg (Ne.symm h.1), zva h.2, List.append_assoc]
  rfl
theorem zq2:∀ {a b acc:List UInt8}, 10 ∉ a → zs6 acc (a ++ 10 :: b) = (acc ++ a ++ [10]) :: zs6 [] b
 | [], b, acc, _ => by rw [List.append_nil]; exact if_pos rfl
 | c :: a, b, acc, h => by
  rw [List.mem_cons, not_or] at h
  show (if c = 10 then _ else _) = _
  rw [if_neg (Ne.symm h.1)]
  refine (zq2 (a:=a) (b:=b) (acc:=acc ++ [c]) h.2).trans ?_
  simp
def zb9 (s:ByteArray):List ByteArray:=(zs6 [] s.data.toList).map fun l => ⟨l.toArray⟩
theorem ziv:zb9 ⟨#[]⟩ = []:=rfl
theorem ba_of (s:ByteArray):(⟨s.data.toList.toArray⟩:ByteArray) = s:=by cases s; simp
theorem zmq {s:ByteArray} (h:noB s 10) (hn:s ≠ ⟨#[]⟩):zb9 s = [s]:=by
 unfold zb9
 rw [zva h, List.nil_append, if_neg (fun e => hn (zbf e)), List.map_cons, List.map_nil, ba_of]
theorem ziw {a b:ByteArray} (h:noB a 10):zb9 (a ++ sNl ++ b) = (a ++ sNl) :: zb9 b:=by
 unfold zb9
 have e:(a ++ sNl ++ b).data.toList = a.data.toList ++ 10 :: b.data.toList:=by simp [zar]
 rw [e, zq2 h, List.map_cons, List.nil_append]
 congr 1
def zij (x:ByteArray):Option ByteArray:=if x.data.toList.getLast? = some 10 then some ⟨x.data.toList.dropLast.toArray⟩ else none
theorem zd3 (a:ByteArray):zij (a ++ sNl) = some a:=by
 unfold zij
 have e:(a ++ sNl).data.toList = a.data.toList ++ [10]:=by simp [zar]
 rw [e, if_pos (by simp), List.dropLast_concat, ba_of]
theorem zg5 {x r:ByteArray} (h:zij x = some r):x = r ++ sNl:=by
 unfold zij at h
 split at h
 ·rename_i hl
  cases h
  apply zbf
  rw [zar]
  obtain ⟨ys, hy⟩:=List.getLast?_eq_some_iff.1 hl
  show x.data.toList = x.data.toList.dropLast.toArray.toList ++ [10]
  rw [hy]; simp
 ·cases h
theorem z0h {a:ByteArray} (h:noB a 10):zij a = none:=by
 unfold zij
 rw [if_neg]
 intro hl
 exact h (List.mem_of_getLast? hl)
def zde {X:Type} (rd:ByteArray → X × Int):List X → Nat → List ByteArray → List X × Nat × Int
 | out, _, [] => (out, 0, 0)
 | out, n, x :: xs => if 4096 < n then ([], n, 3) else match zij x with
  | none => ([], n, 5)
  | some r => if (rd r).2 ≠ 0 then ([], n, (rd r).2) else zde rd (out ++ [(rd r).1]) (n + 1) xs
def zfb {X:Type} (rd:ByteArray → X × Int) (s:ByteArray):List X × Nat × Int:=if 1048576 < s.size then ([], 0, 3) else zde rd [] 1 (zb9 s)
def zf4 {X:Type} (rd:ByteArray → X × Int) (n:Nat) (x:ByteArray):Bool:=decide (4096 < n) || match zij x with | none => true | some r => (rd r).2 != 0
def zba {X:Type} (rd:ByteArray → X × Int):Nat → List ByteArray → Bool
 | _, [] => true
 | n, x :: xs => !zf4 rd n x && zba rd (n + 1) xs
def zd8 {X:Type} (rd:ByteArray → X × Int) (xs:List ByteArray):List X:=xs.filterMap fun x => (zij x).map fun r => (rd r).1
theorem zfi {X:Type} {rd:ByteArray → X × Int}:∀ {xs ys:List ByteArray} {out:List X} {n:Nat}, zba rd n xs = true → zde rd out n (xs ++ ys) = zde rd (out ++ zd8 rd xs) (n + xs.length) ys
 | [], ys, out, n, _ => by simp [zd8]
 | x :: xs, ys, out, n, h => by
  unfold zba at h
  rw [Bool.and_eq_true] at h
  obtain ⟨h1, h2⟩:=h
  unfold zf4 at h1
  simp only [Bool.not_eq_true', Bool.or_eq_false_iff, decide_eq_false_iff_not] at h1
  obtain ⟨h3, h4⟩:=h1
  have e:zde rd out n (x :: xs ++ ys) = if 4096 < n then ([], n, 3) else match zij x with
   | none => ([], n, 5)
   | some r => if (rd r).2 ≠ 0 then ([], n, (rd r).2) else zde rd (out ++ [(rd r).1]) (n + 1) (xs ++ ys):=rfl
  rw [e, if_neg h3]
  cases hx:zij x with
  | none => rw [hx] at h4; cases h4
  | some r =>
   rw [hx] at h4
   have h5:¬ (rd r).2 ≠ 0:=by simpa using h4
   dsimp only
   rw [if_neg h5, zfi h2]
   have e2:zd8 rd (x :: xs) = (rd r).1 :: zd8 rd xs:=by
    unfold zd8
    rw [List.filterMap_cons, hx]; rfl
   rw [e2, List.append_assoc, List.length_cons, show n + 1 + xs.length = n + (xs.length + 1) by omega]
   rfl
theorem zbg {X:Type} {rd:ByteArray → X × Int} {y:ByteArray}:∀ {ls:List ByteArray} {n:Nat}, zba rd n (ls ++ [y]) = (zba rd n ls && !zf4 rd (n + ls.length) y)
 | [], n => by simp [zba]
 | x :: ls, n => by
  show (!zf4 rd n x && zba rd (n + 1) (ls ++ [y])) = ((!zf4 rd n x && zba rd (n + 1) ls) && _)
  rw [zbg, List.length_cons, show n + 1 + ls.length = n + (ls.length + 1) by omega, Bool.and_assoc]
def zig {X:Type} (rd:ByteArray → X × Int):Nat → List ByteArray → List X
 | _, [] => []
 | n, x :: xs => if zf4 rd n x = true then [] else zd8 rd [x] ++ zig rd (n + 1) xs
theorem zdb {X:Type} {rd:ByteArray → X × Int} {ys:List ByteArray}:∀ {ls:List ByteArray} {n:Nat}, zba rd n ls = true → zig rd n (ls ++ ys) = zd8 rd ls ++ zig rd (n + ls.length) ys
 | [], n, _ => by simp [zd8]
 | x :: ls, n, h => by
  unfold zba at h
  rw [Bool.and_eq_true] at h
  have h1:zf4 rd n x = false:=by simpa using h.1
  show (if zf4 rd n x = true then [] else zd8 rd [x] ++ zig rd (n + 1) (ls ++ ys)) = _
  rw [if_neg (by rw [h1]; decide), zdb h.2, List.length_cons, show n + 1 + ls.length = n + (ls.length + 1) by omega, ← List.append_assoc]
  congr 1
  unfold zd8
  rw [← List.filterMap_append]
  rfl
theorem zey {X:Type} {rd:ByteArray → X × Int} {ls:List ByteArray} (h:zba rd 1 ls = true):zde rd [] 1 ls = (zd8 rd ls, 0, 0):=by
 have:=zfi (rd:=rd) (xs:=ls) (ys:=[]) (out:=[]) h
 rw [List.append_nil] at this
 rw [this]; rfl
theorem zhs {X:Type} {rd:ByteArray → X × Int} {ls:List ByteArray} (h:zba rd 1 ls = true):zig rd 1 ls = zd8 rd ls:=by
 have:=zdb (rd:=rd) (ys:=[]) h
 rw [List.append_nil] at this
 rw [this]
 exact List.append_nil _
theorem zff {X:Type} {rd:ByteArray → X × Int} {ls:List ByteArray} {y r:ByteArray} (h:zij y = some r):zd8 rd (ls ++ [y]) = zd8 rd ls ++ [(rd r).1]:=by
 unfold zd8
 rw [List.filterMap_append]
 congr 1
 simp [h]
theorem zev {X:Type} {rd:ByteArray → X × Int} {ls:List ByteArray}:(zd8 rd ls).length ≤ ls.length:=List.length_filterMap_le ..
theorem zgw {X:Type} {rd:ByteArray → X × Int} {ls ys:List ByteArray} {y:ByteArray} (h:zba rd 1 ls = true) (hn:4096 < 1 + ls.length):zde rd [] 1 (ls ++ y :: ys) = ([], 1 + ls.length, 3):=by
 rw [zfi h]; exact if_pos hn
theorem zfj {X:Type} {rd:ByteArray → X × Int} {ls ys:List ByteArray} {y:ByteArray} (h:zba rd 1 ls = true) (hn:¬ 4096 < 1 + ls.length) (he:zij y = none):zde rd [] 1 (ls ++ y :: ys) = ([], 1 + ls.length, 5):=by
 rw [zfi h]
 unfold zde
 rw [if_neg hn, he]
theorem zdk {X:Type} {rd:ByteArray → X × Int} {ls ys:List ByteArray} {y r:ByteArray} (h:zba rd 1 ls = true) (hn:¬ 4096 < 1 + ls.length) (he:zij y = some r) (hr:(rd r).2 ≠ 0):zde rd [] 1 (ls ++ y :: ys) = ([], 1 + ls.length, (rd r).2):=by
 rw [zfi h]
 unfold zde
 rw [if_neg hn, he]
 exact if_pos hr
theorem zw7 {X:Type} {rd:ByteArray → X × Int} {ls ys:List ByteArray} {y:ByteArray} (h:zba rd 1 ls = true) (hb:zf4 rd (1 + ls.length) y = true):zde rd [] 1 (ls ++ y :: ys) = zde rd [] 1 (ls ++ [y]):=by
 by_cases hn:4096 < 1 + ls.length
 ·rw [zgw h hn, zgw h hn]
 ·cases he:zij y with
  | none => rw [zfj h hn he, zfj h hn he]
  | some r =>
   have hr:(rd r).2 ≠ 0:=by
    unfold zf4 at hb
    rw [he] at hb
    simpa [hn] using hb
   rw [zdk h hn he hr, zdk h hn he hr]
theorem zj9:∀ {l acc x:List UInt8}, x ∈ zs6 acc l → x.length ≤ acc.length + l.length
 | [], acc, x, h => by
  have h':x ∈ if acc = [] then ([]:List (List UInt8)) else [acc]:=h
  split at h'
  ·cases h'
  ·rw [List.mem_singleton] at h'
   subst h'
   simp
 | c :: l, acc, x, h => by
  have h':x ∈ if c = 10 then (acc ++ [c]) :: zs6 [] l else zs6 (acc ++ [c]) l:=h
  rw [List.length_cons]
  split at h'
  ·rcases List.mem_cons.1 h' with rfl | h2
   ·simp
   ·have:=zj9 h2
    simp at this
    omega
  ·have:=zj9 h'
   simp at this
   omega
theorem zoe {s y:ByteArray} (h:y ∈ zb9 s):y.size ≤ s.size:=by
 unfold zb9 at h
 obtain ⟨l, hl, rfl⟩:=List.mem_map.1 h
 have:=zj9 hl
 rw [zau] at this
 show l.toArray.size ≤ _
 simpa using this
theorem zgv {X:Type} {rd:ByteArray → X × Int}:∀ {xs:List ByteArray} {n:Nat} {out:List X}, zba rd n xs = false → (zde rd out n xs).1 = []
 | [], _, _, h => by cases h
 | x :: xs, n, out, h => by
  unfold zba at h
  unfold zde
  by_cases hn:4096 < n
  ·rw [if_pos hn]
  ·rw [if_neg hn]
   cases he:zij x with
   | none => rfl
   | some r =>
    dsimp only
    by_cases hr:(rd r).2 ≠ 0
    ·rw [if_pos hr]
    ·rw [if_neg hr]
     have hb:zf4 rd n x = false:=by
      unfold zf4
      rw [he]
      simp at hr
      simp [hn, hr]
     rw [hb] at h
     exact zgv (by simpa using h)
end Go.V.L11
set_option maxRecDepth 20000
namespace Go.V
open Go.RowKit
def z26 (P:Program) (f:FuncId) (caps:List Value) (gr:GR) (w:World) (B:Heap) (xs:zbo):Prop :=
 ∀ (l:Nat) (J:zbo → GR) (stop:zbo → Bool) (C Cg:Nat → Prop), stop [] = false → zkn P l J stop xs → (J []).P B w C → (∀ k, C k → k < w.heap.size ∧ B k = none) → gr.P B w Cg → (∀ k, Cg k → k < w.heap.size ∧ B k = none) → (∀ k, C k → ¬ Cg k) →
  RetL P f (.func (.yield l) #[] #[] :: caps) w B (fun k => C k ∨ Cg k) fun _ H u => ∃ C', (J (za7 stop [] xs)).P H u C' ∧ ∀ k, C' k → ((C k ∨ Cg k) ∨ w.heap.size ≤ k) ∧ k < u.heap.size ∧ H k = none
section
variable {P:Program} {F:Fr} {B:Heap} {O:Boxes} {n:Nat} {ops:Array Oper} {κ:Kap} {d:Nat} {ty:TypeId} {pos:String} {aft:Array Edge} {g:Option (Nat × Bool)} {a:Act} {u:World} {H:Heap} {fp:Nat → Nat → Prop} {os:List Oper} {Q:Exit → Act → World → Prop} {ex:Exs}
def JcX (Cg:Nat → Prop) (F:Fr) (B:Heap) (n:Nat) (a0:Act) (H0:Heap) (N1:Nat) (O':zbo → Boxes) (K:zbo → Kap) (pre:zbo):GR where
 P Hit u C:=∃ Hc fp, HasH F B (O' pre) n (K pre) a0 u Hc fp ∧ H0.Le Hc ∧ H0.Le Hit ∧ (∀ y ∈ O' pre, y.1 < N1) ∧ N1 ≤ u.heap.size ∧ F.w0.heap.size ≤ N1 ∧
  (∀ k, Cg k → k < N1 ∧ (F.w0.heap.size ≤ k ∨ F.L k) ∧ Hc k = none) ∧ (∀ y ∈ O' pre, ¬ Cg y.1) ∧ (∀ t r k, K pre t = some (.own r) → fp t k → ¬ Cg k) ∧
  (∀ k, C k ↔ (k < N1 ∧ H0 k = none ∧ ¬ Cg k) ∨ (N1 ≤ k ∧ ((Hc k).isSome = true ∨ ∃ t r, K pre t = some (.own r) ∧ fp t k)))
 st:=by
  rintro Hit u C Hit' u' ⟨Hc, fp, hh, h1, h2, h3, h4, h5, hx1, hx2, hx3, hC⟩ hle hsub hon hk
  have hCt:∀ t r k, K pre t = some (.own r) → fp t k → C k:=fun t r k ht hf => by
   rw [hC]
   rcases Nat.lt_or_ge k N1 with hlt | hge
   ·refine .inl ⟨hlt, ?_, hx3 t r k ht hf⟩
    have:=((hh.slot t _ ht).2 k hf).2.1
    cases hx:H0 k with
    | none => rfl
    | some o => rw [h1 k o hx] at this; cases this
   ·exact .inr ⟨hge, .inr ⟨t, r, ht, hf⟩⟩
  have hCb:∀ y ∈ O' pre, C y.1:=fun y hy => by
   rw [hC]
   refine .inl ⟨h3 y hy, ?_, hx2 y hy⟩
   have:=(hh.boxes y hy).2.1
   cases hx:H0 y.1 with
   | none => rfl
   | some o => rw [h1 _ o hx] at this; cases this
  have hold:∀ k o, H0 k = some o → u'.heap[k]? = u.heap[k]?:=fun k o ho =>
   ((hsub k o (hle k o (h2 k o ho))):u'.heap[k]? = some o).trans ((hh.sub k o (h1 k o ho)):u.heap[k]? = some o).symm
  have hsub':Hc.Le (hp u'):=fun k o ho => by
   show u'.heap[k]? = some o
   cases hx:H0 k with
   | some o' => rw [hold k o' hx]; exact hh.sub k o ho
   | none =>
    rw [hk k ((hC k).2 ?_)]
    ·exact hh.sub k o ho
    ·rcases Nat.lt_or_ge k N1 with hlt | hge
     ·exact .inl ⟨hlt, hx, fun hg => by rw [(hx1 k hg).2.2] at ho; cases ho⟩
     ·exact .inr ⟨hge, .inl (by rw [ho]; rfl)⟩
  refine ⟨Hc, fp, ⟨hh.size, hh.defers, hh.nodup, hh.marks, hh.lent, ?_, hsub', hh.base, hh.fresh, fun y hy => ?_, hh.apart, fun t k ht => ?_, hh.owns, hh.mono⟩, h1, h2.trans hle, h3, Nat.le_trans h4 hon.size, h5, hx1, hx2, hx3, hC⟩
  ·refine ⟨hon.os.trans hh.keep.os, hon.tape.trans hh.keep.tape, hon.output.trans hh.keep.output, Nat.le_trans hh.keep.size hon.size, fun k hk' hl => ?_, Nat.le_trans hh.keep.dr hon.dr⟩
   refine Eq.trans ?_ (hh.keep.block k hk' hl)
   cases hx:H0 k with
   | some o => exact hold k o hx
   | none => exact hk k ((hC k).2 (.inl ⟨by omega, hx, fun hg => by
     rcases (hx1 k hg).2.1 with h | h
     ·omega
     ·exact hl h⟩))
  ·obtain ⟨g1, g2, g3⟩:=hh.boxes y hy
   exact ⟨(hk _ (hCb y hy)).trans g1, g2, g3⟩
  ·have hs:=hh.slot t k ht
   cases k with
   | is _ => exact hs
   | sat _ => exact hs
   | own r => exact ⟨r.st hs.1 (Heap.Le.refl _) hsub' hon fun k hf => hk k (hCt t r k ht hf), fun k hf => by
     obtain ⟨g1, g2, g3, g4⟩:=hs.2 k hf
     exact ⟨Nat.lt_of_lt_of_le g1 hon.size, g2, g3, g4⟩⟩
theorem zow (L:Tabs P) (gi:Nat) {gr:GR} {f:Operand} {params:Array Tmp} {assign body:Code} {gf:Nat} {caps:List Value}
  (fx:List (Nat × Value)) (G:zbo → List (Nat × Res)) (K1:zbo → List Value → List (Nat × Kn)) (xs:zbo) (stop:zbo → Bool) (jc:zbo → Code)
  (hr:F.r = none) (hf:evK κ f = some (.func (.func gf) #[] caps.toArray)) (hfn:L.fn gf = some ())
  (hgi:κ gi = some (.own gr.res)) (hGi:∀ pre, ∀ p ∈ G pre, p.1 ≠ gi) (h0:LiveOK (gK' (G []) ++ zy0 fx) κ) (hG:∀ pre, ∀ p ∈ G pre, n ≤ p.1) (hst0:stop [] = false)
  (hps:∀ x ∈ xs, x.length = params.size) (hpn:∀ t ∈ params.toList, t < n)
  (hit:∀ u H, H.Le (hp u) → B.Le H → z26 P gf caps gr u H xs)
  (hassign:∀ (w1:World) (Ln:Nat → Prop) (B':Heap) (l D:Nat) (o:Obj) (pre:zbo) (x:List Value), pre ++ [x] <+: xs → stop pre = false → B.Le B' →
   V P ⟨w1, some l, [], Ln⟩ B' n ((l, o) :: (D, .deferred (some [])) :: O) (z27 (KK fx (G pre)) (params.toList.zip x)) assign (Exit.then (fun a u => Has ⟨w1, some l, [], Ln⟩ B' ((l, o) :: (D, .deferred (some [])) :: O) n (ofL (K1 pre x)) a u) (fun _ _ _ => False)))
  (hbody:∀ (w1:World) (Ln:Nat → Prop) (B':Heap) (l D:Nat) (o:Obj) (pre:zbo) (x:List Value), pre ++ [x] <+: xs → stop pre = false → B.Le B' →
   V P ⟨w1, some l, [], Ln⟩ B' n ((l, o) :: (D, .deferred (some [])) :: O) (ofL (K1 pre x)) body (zyg ⟨w1, some l, [], Ln⟩ B' n ((l, o) :: (D, .deferred (some [])) :: O) G stop jc (pre ++ [x])))
  (hdone:∀ (l D:Nat) (o:Obj), stop (za7 stop [] xs) = false → N ⟨F.w0, F.r, .m D :: F.ds, F.L⟩ B n ((l, o) :: (D, .deferred (some [])) :: O) (KK fx (G (za7 stop [] xs))) Q)
  (hstop:∀ (l D:Nat) (o:Obj), stop (za7 stop [] xs) = true → V P ⟨F.w0, F.r, .m D :: F.ds, F.L⟩ B n ((l, o) :: (D, .deferred (some [])) :: O) (KK fx (G (za7 stop [] xs))) (jc (za7 stop [] xs)) Q) :
  V P F B n O κ (.rangeFunc f params assign body) Q:=by
 obtain ⟨w0, r, ds, Lf⟩:=F
 dsimp only at hr
 subst hr
 rintro a u ⟨H, fp, hh⟩
 have e := hh.env (ops := #[]) (o := ⟨none, .move f, 0, "", #[], none⟩) (κ := κ) (fun _ _ => rfl)
 have hfe:a.eval f = .func (.func gf) #[] caps.toArray:=e.is_ f _ (by simp [Op.operands]) hf
 refine wpIn_rangeFunc fun fn _ => ?_
 -- the record
 have hD0:(.loop { state:=.ready, pending:=none, fn, tmps:=a.tmps, params, assign, body, defers:=u.heap.size }:Obj) = .loop { state:=.ready, pending:=none, fn, tmps:=a.tmps, params, assign, body, defers:=u.heap.size }:=rfl
 generalize hrec:({ state:=.ready, pending:=none, fn, tmps:=a.tmps, params, assign, body, defers:=u.heap.size }:Loop) = rec0 at hD0
 have hh1:=(hh.newBox (.deferred (some []))).newBox (.loop rec0)
 rw [World.size_alloc] at hh1
 generalize hw1:(u.alloc (.deferred (some []))).alloc (.loop rec0) = w1 at hh1
 have hN1:w1.heap.size = u.heap.size + 2:=by subst hw1; simp
 let recS:zbo → Loop:=fun pre => if stop pre = true then { rec0 with state:=.done, pending:=some (jc pre) } else rec0
 let O':zbo → Boxes:=fun pre => (u.heap.size + 1, .loop (recS pre)) :: (u.heap.size, .deferred (some [])) :: O
 let F1:Fr:=⟨w0, none, [], Lf⟩
 let a0:Act:={ tmps:=a.tmps, defers:=[] }
 have hCg:=fun k (hk:fp gi k) => ((hh1.slot gi _ hgi).2 k hk)
 have hCg0:=fun k (hk:fp gi k) => ((hh.slot gi _ hgi).2 k hk)
 have hCg1:∀ k, fp gi k → k < w1.heap.size:=fun k hk => (hCg k hk).1
 let J:zbo → GR:=JcX (fp gi) F1 B n a0 H w1.heap.size O' fun pre => KK fx (G pre)
 have hrec0:rec0.state = .ready ∧ rec0.pending = none ∧ rec0.fn = fn ∧ rec0.tmps = a.tmps ∧ rec0.params = params ∧ rec0.assign = assign ∧ rec0.body = body:=by subst hrec; exact ⟨rfl, rfl, rfl, rfl, rfl, rfl, rfl⟩
 have hO'mem:∀ pre pre' y, y ∈ O' pre' → ∃ y' ∈ O' pre, y'.1 = y.1:=fun pre pre' y hy => by
  rcases List.mem_cons.1 hy with rfl | hy
  ·exact ⟨_, List.mem_cons_self .., rfl⟩
  ·exact ⟨y, List.mem_cons_of_mem _ hy, rfl⟩
 have hfix:∀ t k, ofL (zy0 fx) t = some k → ∀ v, k = .is v → a0.eval (.tmp t) = v:=fun t k ht v hv => by
  subst hv
  exact hh.slot t _ ((LiveOK.right h0).get ht)
 have hrecS0:recS [] = rec0:=if_neg (by rw [hst0]; simp)
 -- at the start
 have hstart:HasH F1 B (O' []) n (KK fx (G [])) a0 w1 H fp:=by
  have h2:=hh1.sub_kap (κ2:=KK fx (G [])) fun t k hk => h0.get hk
  have:O' [] = (u.heap.size + 1, .loop rec0) :: (u.heap.size, .deferred (some [])) :: O:=by show (_, Obj.loop (recS [])) :: _ = _; rw [hrecS0]
  rw [this]
  exact ⟨h2.size, rfl, List.nodup_nil, (fun _ h => by cases h), h2.lent, h2.keep, h2.sub, h2.base, h2.fresh, h2.boxes, h2.apart, h2.slot, h2.owns, h2.mono⟩
 have hOg0:∀ pre, ∀ y ∈ O' pre, ¬ fp gi y.1:=fun pre y hy hg => by
  rcases List.mem_cons.1 hy with rfl | hy
  ·have:=(hCg0 _ hg).1; dsimp only at this; omega
  ·rcases List.mem_cons.1 hy with rfl | hy
   ·have:=(hCg0 _ hg).1; dsimp only at this; omega
   ·exact (hCg0 _ hg).2.2.2 y hy rfl
 have hyg:=hOg0 []
 have hKgi:∀ pre, ofL (gK' (G pre)) gi = none:=fun pre => by
  have:∀ l:List (Nat × Res), (∀ p ∈ l, p.1 ≠ gi) → ofL (gK' l) gi = none:=fun l => by
   induction l with
   | nil => exact fun _ => rfl
   | cons p l ih =>
    intro h
    show upd (ofL (gK' l)) p.1 (.own p.2) gi = none
    rw [zad _ _ (Ne.symm (h p (List.mem_cons_self ..)))]
    exact ih fun q hq => h q (List.mem_cons_of_mem _ hq)
  exact this _ (hGi pre)
 have hKne:∀ pre t r, KK fx (G pre) t = some (.own r) → t ≠ gi:=fun pre t r ht he => by
  subst he
  have:=zie (hG pre) ht
  rw [hKgi pre] at this; cases this
 have hog:∀ t r k, KK fx (G []) t = some (.own r) → fp t k → ¬ fp gi k:=fun t r k ht hf hg =>
  hh.owns t gi r gr.res (hKne [] t r ht) (h0.get ht) hgi k hf hg
 let C0:Nat → Prop:=fun k => (k < w1.heap.size ∧ H k = none ∧ ¬ fp gi k) ∨ (w1.heap.size ≤ k ∧ ((H k).isSome = true ∨ ∃ t r, KK fx (G []) t = some (.own r) ∧ fp t k))
 have hJ0:(J []).P H w1 C0:=⟨H, fp, hstart, Heap.Le.refl _, Heap.Le.refl _, fun y hy => zac (hstart.boxes y hy).1, Nat.le_refl _, hstart.keep.size, fun k hk => ⟨hCg1 k hk, (hCg k hk).2.2.1, (hCg k hk).2.1⟩, fun y hy hg => hyg y hy hg, hog, fun _ => Iff.rfl⟩
 have hC0:∀ k, C0 k → k < w1.heap.size ∧ H k = none:=fun k hk => by
  rcases hk with h | ⟨h1, h | ⟨t, r, ht, hf⟩⟩
  ·exact ⟨h.1, h.2.1⟩
  ·rw [za9 hstart.sub h1] at h; cases h
  ·have:=((hstart.slot t _ ht).2 k hf).1
   omega
 -- the rounds
 have hY:zkn P (u.heap.size + 1) J stop xs:=by
  rintro pre x hpre hstp v Hit C hsubv ⟨Hc, fpc, hc, c1, c2, c3, c4, c5, x1, x2, x3, c6⟩ hCv
  have hrp:recS pre = rec0:=if_neg (by rw [hstp]; simp)
  have hOp:O' pre = (u.heap.size + 1, .loop rec0) :: (u.heap.size, .deferred (some [])) :: O:=by show (_, Obj.loop (recS pre)) :: _ = _; rw [hrp]
  rw [hOp] at hc
  have hl:v.heap[u.heap.size + 1]? = some (.loop rec0):=(hc.boxes _ (List.mem_cons_self ..)).1
  have hxl:x.length = params.size:=hps x (hpre.subset (by simp))
  have hyr:=run_yield (P:=P) (args:=x.toArray) hl (by rw [hrec0.2.2.2.2.1]; simpa using hxl)
  rw [hrec0.2.2.1, hrec0.2.2.2.1, hrec0.2.2.2.2.1, hrec0.2.2.2.2.2.1, hrec0.2.2.2.2.2.2] at hyr
  refine ⟨fn, _, assign, body, hyr, roundIn_of_wpIn trivial ?_⟩
  -- the round's frame
  let Cr:Nat → Prop:=fun k => (∃ y ∈ O' pre, y.1 = k) ∨ ∃ t r, KK fx (G pre) t = some (.own r) ∧ fpc t k
  have hCrC:∀ k, Cr k → C k ∧ k < v.heap.size ∧ (w0.heap.size ≤ k ∨ Lf k):=fun k hk => by
   rcases hk with ⟨y, hy, rfl⟩ | ⟨t, r, ht, hf⟩
   ·rw [hOp] at hy
    obtain ⟨g1, g2, g3⟩:=hc.boxes y hy
    refine ⟨(c6 _).2 (.inl ⟨c3 y (by rw [hOp]; exact hy), ?_, x2 y (by rw [hOp]; exact hy)⟩), zac g1, g3⟩
    cases hx:H y.1 with
    | none => rfl
    | some o => rw [c1 _ o hx] at g2; cases g2
   ·obtain ⟨g1, g2, g3, g4⟩:=(hc.slot t _ ht).2 k hf
    refine ⟨(c6 k).2 ?_, g1, g3⟩
    rcases Nat.lt_or_ge k w1.heap.size with hlt | hge
    ·refine .inl ⟨hlt, ?_, x3 t r k ht hf⟩
     cases hx:H k with
     | none => rfl
     | some o => rw [c1 _ o hx] at g2; cases g2
    ·exact .inr ⟨hge, .inr ⟨t, r, ht, hf⟩⟩
  have hCrg:∀ k, Cr k → ¬ fp gi k:=fun k hk => by
   rcases hk with ⟨y, hy, rfl⟩ | ⟨t, r, ht, hf⟩
   ·exact x2 y hy
   ·exact x3 t r k ht hf
  let Fr':Fr:=⟨v, some (u.heap.size + 1), [], Cr⟩
  have hr0:HasH Fr' Hc ((u.heap.size + 1, .loop rec0) :: (u.heap.size, .deferred (some [])) :: O) n (KK fx (G pre)) a0 v Hc fpc :=
   ⟨hc.size, rfl, List.nodup_nil, (fun _ h => by cases h), fun k hk => (hCrC k hk).2.1, Keep.refl _ _, hc.sub, Heap.Le.refl _, fun _ _ _ => rfl, fun y hy => ⟨(hc.boxes y hy).1, (hc.boxes y hy).2.1, .inr (.inl ⟨y, by rw [hOp]; exact hy, rfl⟩)⟩, hc.apart, fun t k hk => by
    have hs:=hc.slot t k hk
    cases k with
    | is _ => exact hs
    | sat _ => exact hs
    | own r => exact ⟨hs.1, fun k hf => by
      obtain ⟨g1, g2, g3, g4⟩:=hs.2 k hf
      exact ⟨g1, g2, .inr (.inr ⟨t, r, hk, hf⟩), g4⟩⟩, hc.owns, hc.mono⟩
  have hBc:B.Le Hc:=hc.base
  have hr1:=hr0.putP (params.toList.zip x) (fun p hp => hpn p.1 (List.of_mem_zip hp).1)
  have hfold:(params.zip x.toArray).foldl (fun tmps (t, a) => tmps.setIfInBounds t a) a.tmps = (params.toList.zip x).foldl (fun t p => t.setIfInBounds p.1 p.2) a.tmps:=by
   rw [← Array.foldl_toList, Array.toList_zip]
  rw [hfold]
  -- how a round ends
  have fin:∀ (e:Option Code) (a1:Act) (u1:World), (match e with | none => stop (pre ++ [x]) = false | some c => stop (pre ++ [x]) = true ∧ jc (pre ++ [x]) = c) →
    Has Fr' Hc ((u.heap.size + 1, .loop { rec0 with state:=.busy }) :: (u.heap.size, .deferred (some [])) :: O) n (ofL (gK' (G (pre ++ [x])))) a1 u1 →
    ∃ z w', (Instr.endRound (u.heap.size + 1) e).run P u1 = .ok z w' ∧ Ending.returned z = .returned (.bool (!stop (pre ++ [x]))) ∧ ∃ C', (J (pre ++ [x])).P Hit w' C' ∧ Keep C v w' ∧ ∀ k, C' k → (C k ∨ v.heap.size ≤ k) ∧ k < w'.heap.size:=by
   rintro e a1 u1 he ⟨Hd, fpd, hd⟩
   have hl1:=(hd.boxes _ (List.mem_cons_self ..)).1
   have hrun:=run_endRound (P:=P) e hl1
   have hrecE:({ ({ rec0 with state:=.busy }:Loop) with state:=if e.isNone then .ready else .done, pending:=e }:Loop) = recS (pre ++ [x]):=by
    cases e with
    | none =>
     have:recS (pre ++ [x]) = rec0:=if_neg (by rw [he]; simp)
     rw [this]
     obtain ⟨g1, g2, _⟩:=hrec0
     cases hq:rec0
     rw [hq] at g1 g2
     dsimp only at g1 g2 ⊢
     rw [g1, g2]; rfl
    | some c =>
     have:recS (pre ++ [x]) = { rec0 with state:=.done, pending:=some (jc (pre ++ [x])) }:=if_pos he.1
     rw [this, he.2]; rfl
   rw [hrecE] at hrun
   have hv:(e.isNone) = !stop (pre ++ [x]):=by
    cases e with
    | none => rw [he]; rfl
    | some c => rw [he.1]; rfl
   refine ⟨_, _, hrun, by rw [hv], ?_⟩
   have hd2:=hd.boxSet (O1:=[]) (ds:=[]) (a':=a1) (Chg.putObj (o:=.loop (recS (pre ++ [x]))) (zac hl1)) (List.Sublist.refl _) (by simp) rfl hd.defers
   generalize u1.putObj (u.heap.size + 1) (.loop (recS (pre ++ [x]))) = u2 at hd2 ⊢
   have hd2':HasH Fr' Hc (O' (pre ++ [x])) n (ofL (gK' (G (pre ++ [x])))) a1 u2 Hd fpd:=hd2
   have hOg:∀ y ∈ O' (pre ++ [x]), (w0.heap.size ≤ y.1 ∨ Lf y.1) ∧ y.1 < w1.heap.size:=fun y hy => by
    obtain ⟨y', hy', hyy⟩:=hO'mem pre _ y hy
    rw [← hyy]
    exact ⟨(hc.boxes y' (by rw [← hOp]; exact hy')).2.2, c3 y' hy'⟩
   have hfull:HasH F1 B (O' (pre ++ [x])) n (KK fx (G (pre ++ [x]))) a0 u2 Hd fpd:=by
    refine ⟨hh.size, rfl, List.nodup_nil, (fun _ h => by cases h), hc.lent, hc.keep.trans hd2'.keep fun i hi hci => ?_, hd2'.sub, hBc.trans hd2'.base, fun k hk hlk => ?_, fun y hy => ⟨(hd2'.boxes y hy).1, (hd2'.boxes y hy).2.1, (hOg y hy).1⟩, hd2'.apart, fun t k hk => ?_, fun s t r r' hst h1 h2 => ?_, fun t k hk => ?_⟩
    ·rcases (hCrC i hci).2.2 with h | h
     ·exact absurd hi (by show ¬ (i < w0.heap.size); omega)
     ·exact h
    ·refine (hd2'.fresh k (Nat.lt_of_lt_of_le hk hc.keep.size) fun hcr => ?_).trans (hc.fresh k hk hlk)
     rcases (hCrC k hcr).2.2 with h | h
     ·exact absurd hk (by show ¬ (k < w0.heap.size); omega)
     ·exact hlk h
    ·rcases zi3 (hG _) hk with ⟨hnt, hgk, r, rfl⟩ | ⟨hfk, _, z, rfl⟩
     ·have hs:=hd2'.slot t _ hgk
      have e1:a0.eval (.tmp t) = a1.eval (.tmp t):=(zmy (a:=a0) (n:=n) hh.size hnt).trans (zmy hd2'.size hnt).symm
      rw [e1]
      refine ⟨hs.1, fun k hf => ?_⟩
      obtain ⟨g1, g2, g3, g4⟩:=hs.2 k hf
      refine ⟨g1, g2, ?_, g4⟩
      rcases g3 with g3 | g3
      ·exact .inl (Nat.le_trans hc.keep.size g3)
      ·exact (hCrC k g3).2.2
     ·exact hfix t _ hfk z rfl
    ·exact hd2'.owns s t r r' hst (zie (hG _) h1) (zie (hG _) h2)
    ·rcases zi3 (hG _) hk with ⟨_, _, r, rfl⟩ | ⟨_, _, z, rfl⟩ <;> trivial
   have hHd:Hc.Le Hd:=hd2'.base
   refine ⟨fun k => (k < w1.heap.size ∧ H k = none ∧ ¬ fp gi k) ∨ (w1.heap.size ≤ k ∧ ((Hd k).isSome = true ∨ ∃ t r, KK fx (G (pre ++ [x])) t = some (.own r) ∧ fpd t k)),
    ⟨Hd, fpd, hfull, c1.trans hHd, c2, fun y hy => (hOg y hy).2, Nat.le_trans c4 hd2'.keep.size, c5, fun k hk => ⟨(x1 k hk).1, (x1 k hk).2.1, (hd2'.fresh k (Nat.lt_of_lt_of_le (x1 k hk).1 c4) fun hcr => hCrg k hcr hk).trans (x1 k hk).2.2⟩, hOg0 _, fun t r k ht hf hg => by
     rcases ((hd2'.slot t _ (zie (hG _) ht)).2 k hf).2.2.1 with g | g
     ·have h7:=hCg1 k hg
      have h8:v.heap.size ≤ k:=g
      omega
     ·exact hCrg k g hg, fun _ => Iff.rfl⟩, hd2'.keep.weak fun k _ hk => (hCrC k hk).1, fun k hk => ?_⟩
   rcases hk with ⟨h1, h2, h2g⟩ | ⟨h1, h2 | ⟨t, r, ht, hf⟩⟩
   ·exact ⟨.inl ((c6 k).2 (.inl ⟨h1, h2, h2g⟩)), Nat.lt_of_lt_of_le h1 (Nat.le_trans c4 hd2'.keep.size)⟩
   ·obtain ⟨o, ho⟩:=Option.isSome_iff_exists.1 h2
    refine ⟨?_, hd2'.sub.size ho⟩
    rcases Nat.lt_or_ge k v.heap.size with hlt | hge
    ·by_cases hcr:Cr k
     ·exact .inl (hCrC k hcr).1
     ·refine .inl ((c6 k).2 (.inr ⟨h1, .inl ?_⟩))
      rw [← hd2'.fresh k hlt hcr, ho]; rfl
    ·exact .inr hge
   ·have hs:=(hd2'.slot t _ (zie (hG _) ht)).2 k hf
    refine ⟨?_, hs.1⟩
    rcases hs.2.2.1 with g | g
    ·exact .inr g
    ·exact .inl (hCrC k g).1
  refine Go.wpIn_mono (hassign v Cr Hc (u.heap.size + 1) u.heap.size (.loop rec0) pre x hpre hstp hBc _ v ⟨Hc, fpc, hr1⟩) fun e1 a1 u1 he1 => ?_
  cases e1 with
  | normal =>
   obtain ⟨Ha, fpa, ha⟩:=he1
   have hl1:=(ha.boxes _ (List.mem_cons_self ..)).1
   refine ⟨_, run_beginRound (P:=P) hl1 hrec0.1, ?_⟩
   have ha2:=ha.boxSet (O1:=[]) (ds:=[]) (a':=a1) (Chg.putObj (o:=.loop { rec0 with state:=.busy }) (zac hl1)) (List.Sublist.refl _) (by simp) rfl ha.defers
   refine Go.wpIn_mono (hbody v Cr Hc (u.heap.size + 1) u.heap.size (.loop { rec0 with state:=.busy }) pre x hpre hstp hBc a1 _ ⟨Ha, fpa, ha2⟩) fun e2 a2 u2 he2 => ?_
   cases e2 with
   | normal => exact fin none a2 u2 he2.1 he2.2
   | ret => exact fin (some .ret) a2 u2 ⟨he2.1, he2.2.1⟩ he2.2.2
   | exit id => exact fin (some (.exit id)) a2 u2 ⟨he2.1, he2.2.1⟩ he2.2.2
   | goto l => exact he2.elim
   | panic c => exact he2.elim
   | outgrown => exact he2.elim
  | exit id => exact he1.elim
  | goto l => exact he1.elim
  | ret => exact he1.elim
  | panic c => exact he1.elim
  | outgrown => exact he1.elim
 -- the call
 have hB1:B.Le H:=hh.base
 have hcall:=hit w1 H hstart.sub hB1 (u.heap.size + 1) J stop C0 (fp gi) hst0 hY hJ0 hC0 (hh1.slot gi _ hgi).1 (fun k hk => ⟨hCg1 k hk, (hCg k hk).2.1⟩) (fun k hk hg => by
  rcases hk with h | ⟨h1, _⟩
  ·exact h.2.2 hg
  ·have:=hCg1 k hg; omega)
 have hel:=run_enterLoop_outer (P:=P) (w:=u) fn a.tmps params assign body
 rw [hrec, hw1] at hel
 refine ⟨u.heap.size + 1, [zyx (.m u.heap.size)], w1, ⟨.fn (.func gf) caps.toArray, #[] ++ #[.func (.yield (u.heap.size + 1)) #[] #[]]⟩, w1, gf, (.func (.yield (u.heap.size + 1)) #[] #[] :: caps).toArray, w1, hel, ?_, fun _ _ => trivial, ?_, fun h => (by cases h), ?_⟩
 ·have hcv:a.eval (.const (.func (.yield (u.heap.size + 1)) #[] #[])) = .func (.yield (u.heap.size + 1)) #[] #[]:=rfl
  simp [resolve, rangeCall, hfe, Deferred.ofValue, hcv]
 ·simp only [invoke]
  rw [zc8 L hfn]
  simp
 ·refine FW.call none _ (Calls.mono hcall fun e3 u3 hp => ?_)
  obtain ⟨z, rfl, H3, g3, C3, ⟨Hc, fpc, hc, c1, c2, c3, c4, c5, x1, x2, x3, c6⟩, _⟩:=hp
  generalize htk:za7 stop [] xs = tk at hc c3 hdone hstop c6
  have hl3:u3.heap[u.heap.size + 1]? = some (.loop (recS tk)):=(hc.boxes _ (List.mem_cons_self ..)).1
  have hnb:(recS tk).state ≠ .busy:=by
   show (if stop tk = true then ({ rec0 with state:=.done, pending:=some (jc tk) }:Loop) else rec0).state ≠ .busy
   split
   ·simp
   ·rw [hrec0.1]; simp
  have hpend:(recS tk).pending = if stop tk = true then some (jc tk) else none:=by
   show (if stop tk = true then ({ rec0 with state:=.done, pending:=some (jc tk) }:Loop) else rec0).pending = _
   split
   ·rfl
   ·exact hrec0.2.1
  refine ⟨_, _, run_endLoop hl3 hnb, ?_⟩
  have hc2:=hc.boxSet (O1:=[]) (ds:=[]) (a':=a0) (Chg.putObj (o:=.loop { recS tk with state:=.exhausted }) (zac hl3)) (List.Sublist.refl _) (by simp) rfl rfl
  have hDn:DM.m u.heap.size ∉ ds:=fun hm => by
   have:=zac (hh.boxes _ (hh.marks _ hm)).1
   exact absurd this (Nat.lt_irrefl _)
  have hfin:HasH ⟨w0, none, .m u.heap.size :: ds, Lf⟩ B ((u.heap.size + 1, .loop { recS tk with state:=.exhausted }) :: (u.heap.size, .deferred (some [])) :: O) n (KK fx (G tk)) { a with defers:=[zyx (.m u.heap.size)] ++ a.defers } (u3.putObj (u.heap.size + 1) (.loop { recS tk with state:=.exhausted })) Hc fpc :=
   ⟨hc2.size, by have:=hh.defers; dsimp only at this ⊢; rw [this]; rfl, List.nodup_cons.2 ⟨hDn, hh.nodup⟩, fun D hD => by
    rcases List.mem_cons.1 hD with e | hD
    ·cases e; exact List.mem_cons_of_mem _ (List.mem_cons_self ..)
    ·exact List.mem_cons_of_mem _ (List.mem_cons_of_mem _ (hh.marks D hD)), hc2.lent, hc2.keep, hc2.sub, hc2.base, hc2.fresh, hc2.boxes, hc2.apart, hc2.slot, hc2.owns, hc2.mono⟩
  generalize (Obj.loop { recS tk with state:=.exhausted }) = rx at hfin ⊢
  rw [hpend]
  cases hs:stop tk with
  | false =>
   simp only [Bool.false_eq_true, if_false]
   exact hdone _ _ _ hs _ _ ⟨Hc, fpc, hfin⟩
  | true =>
   simp only [if_true]
   exact hstop _ _ _ hs _ _ ⟨Hc, fpc, hfin⟩
end
end Go.V
set_option maxRecDepth 20000
namespace Go.V
open Go.RowKit
def zsL (P:Program) (e:TypeId) (k:Nat):List Value:=match P.info? e with
 | some i => match i.zero with
  | some z => (madeCells z.cells k).toList
  | none => []
 | none => []
theorem zkx {P:Program} {e:TypeId} {s by_ k:Nat} (h:elI P e = some (s, by_)):(zsL P e k).length = k:=by
 obtain ⟨i, z, hi, hz, _, _, _, _⟩:=zec h
 unfold zsL
 rw [hi]; dsimp only; rw [hz]
 simp [size_madeCells]
def SlE (e:TypeId) (s n:Nat) (xs:List Value):Res where
 P x _ u C:=xs.length = n * s ∧ ((n = 0 ∧ x = .slice none 0 0 ∧ ∀ k, ¬ C k) ∨ ∃ b, x = .slice (some ⟨b, 0, none⟩) n n ∧ u.heap[b]? = some (.cells xs.toArray e) ∧ n ≤ maxLen ∧ ∀ k, C k ↔ k = b)
 st:=fun ⟨hl, h⟩ _ _ _ hk => ⟨hl, by
  rcases h with h | ⟨b, h1, h2, h3, h4⟩
  ·exact .inl h
  ·exact .inr ⟨b, h1, (hk b ((h4 b).2 rfl)).trans h2, h3, h4⟩⟩
section
variable {P:Program} {F:Fr} {B:Heap} {O:Boxes} {n:Nat} {ops:Array Oper} {κ:Kap} {d:Nat} {ty:TypeId} {pos:String} {aft:Array Edge} {g:Option (Nat × Bool)} {a:Act} {u:World} {H:Heap} {fp:Nat → Nat → Prop} {os:List Oper} {Q:Exit → Act → World → Prop} {ex:Exs}
theorem zw8 (L:Tabs P) {t e:TypeId} {x y:Operand} {kl kc:IntKind} {s by_:Nat} (c:Nat) {p q:Int} (hn:Nat.blt d n = true) (hg:gK ops κ ⟨some d, .makeSlice t x y, ty, pos, aft, g⟩ = some true) (ht:L.sl t = some e) (he:elI P e = some (s, by_))
  (hx:evK κ x = some (.int kl q)) (hy:evK κ y = some (.int kc p)) (hq:q = c) (hp:p = c) (hb:by_ * c ≤ 281474976710656) (hc:c ≤ maxLen):StepOK P F B n ops O κ ⟨some d, .makeSlice t x y, ty, pos, aft, g⟩ d (.own (SlE e s c (zsL P e (c * s)))):=by
 rintro κ' a u hl ⟨H, fp, hh⟩
 unfold After
 rw [if_pos (zai hh hl hg)]
 have en:=hh.env hl
 have hzl:=zkx (k:=c * s) he
 obtain ⟨i, z, hi, hz, hs1, hs2, hs3, hs4⟩:=zec he
 have h1:=en.is_ x _ (by simp [Op.operands]) hx
 have h2:=en.is_ y _ (by simp [Op.operands]) hy
 subst hp
 subst hq
 have hb':(i.bytes:Int) * (c:Int) ≤ 281474976710656:=by
  have h:((by_ * c:Nat):Int) ≤ 281474976710656:=by omega
  rw [hs2]; rwa [Int.natCast_mul] at h
 have h63:(c:Int) ≤ 9223372036854775807:=by simp [maxLen] at hc; omega
 have hr:=run_make (P:=P) u t e i z (Tabs.sl_spec ht) hi hz kl kc c c (by omega) (by omega) hb' h63
 simp only [Int.toNat_natCast] at hr
 have hrun:(execOp a.eval ⟨some d, .makeSlice t x y, ty, pos, aft, g⟩).run P u = .ok (.value (.slice (some ⟨u.heap.size, 0, none⟩) c c)) (u.alloc (.cells (madeCells z.cells (c * i.size)) e)):=by
  simp only [execOp, h1, h2, Sem.run_bind, hr, Result.andThen_ok]; rfl
 rw [hrun]
 simp only [Upon]
 have hzs:zsL P e (c * s) = (madeCells z.cells (c * i.size)).toList:=by
  unfold zsL
  rw [hi]; dsimp only; rw [hz, hs1]
 have hg2:=hh.grow (Grow.hid hh.sub (.cells (madeCells z.cells (c * i.size)) e))
 refine ⟨H, _, hg2.putR (C:=fun k => k = u.heap.size) (by simp [Act.put]) rfl (fun t ht => zat ht) ⟨hzl, .inr ⟨u.heap.size, zay (by rw [hh.size]; exact zk hn), by rw [zaq, hzs], hc, fun _ => Iff.rfl⟩⟩ (fun k hk => ?_) fun t r' _ ht k hf hk => ?_⟩
 ·subst hk
  exact ⟨zac (zaq u _), za9 hh.sub (Nat.le_refl _), .inl hh.keep.size, fun y hy e => by have:=zac (hh.boxes y hy).1; omega⟩
 ·have:=((hh.slot t _ ht).2 k hf).1
  omega
theorem Has.boxE {t:Nat} {e:TypeId} {s m:Nat} {xs:List Value} (hm:0 < m) (hk:κ t = some (.own (SlE e s m xs))) (h:Has F B O n κ a u) :
  ∃ b, (xs.length = m * s ∧ m ≤ maxLen) ∧ Has F B (bx b xs e :: O) n (upd κ t (.is (.slice (some ⟨b, 0, none⟩) m m))) a u:=by
 obtain ⟨H, fp, h⟩:=h
 obtain ⟨⟨hl, hv⟩, hM⟩:=h.slot t _ hk
 rcases hv with ⟨h0, _, _⟩ | ⟨b, hv, hb, h4, hC⟩
 ·omega
 ·have:=h.toBox hk hb ((hC b).2 rfl)
  rw [hv] at this
  exact ⟨b, ⟨hl, h4⟩, H, fp, this⟩
theorem Has.unboxE {t b m:Nat} {e:TypeId} {s:Nat} {xs:List Value} {O1 O2:Boxes} (hO:O = O1 ++ bx b xs e :: O2) (hd:F.ds = []) (hk:κ t = some (.is (.slice (some ⟨b, 0, none⟩) m m))) (hl:xs.length = m * s) (h4:m ≤ maxLen)
  (h:Has F B O n κ a u):Has F B (O1 ++ O2) n (upd κ t (.own (SlE e s m xs))) a u:=by
 obtain ⟨H, fp, h⟩:=h
 subst hO
 have hb:=(h.boxes (bx b xs e) (by simp)).1
 exact ⟨H, _, h.ofBox (by rw [hd]; simp) ⟨hl, .inr ⟨b, h.slot t _ hk, hb, h4, fun _ => Iff.rfl⟩⟩⟩
theorem z22 (t:Nat) {e:TypeId} {s m:Nat} {xs:List Value} {c:Code} (hm:0 < m) (hk:κ t = some (.own (SlE e s m xs)))
  (h:∀ b, (xs.length = m * s ∧ m ≤ maxLen) → V P F B n (bx b xs e :: O) (upd κ t (.is (.slice (some ⟨b, 0, none⟩) m m))) c Q):V P F B n O κ c Q:=fun a u hh =>
 let ⟨b, h1, h'⟩:=hh.boxE hm hk; h b h1 a u h'
theorem zx6 (t:Nat) {b m:Nat} {e:TypeId} {s:Nat} {xs:List Value} (O1:Boxes) {O2:Boxes} {c:Code} (hO:O = O1 ++ bx b xs e :: O2) (hk:κ t = some (.is (.slice (some ⟨b, 0, none⟩) m m))) (hl:xs.length = m * s) (h4:m ≤ maxLen)
  (h:V P F B n (O1 ++ O2) (upd κ t (.own (SlE e s m xs))) c Q) (hd:F.ds = []:=by rfl):V P F B n O κ c Q:=fun a u hh => h a u (hh.unboxE hO hd hk hl h4)
theorem z1m {α:Type} {f:α → List Value} {s:Nat} (hf:∀ a, (f a).length = s) (l:List α) (k m:Nat) (zs:List Value) (y:α) (hl:l.length = k) (hz:zs.length = (m - k) * s) (hk:k < m) :
  (l.flatMap f ++ zs).take (k * s) ++ (f y ++ (l.flatMap f ++ zs).drop (k * s + s)) = (l ++ [y]).flatMap f ++ zs.drop s:=by
 have h1:(l.flatMap f).length = k * s:=by
  subst hl
  clear hz hk
  induction l with
  | nil => simp
  | cons x l ih => rw [List.flatMap_cons, List.length_append, hf, ih, List.length_cons, Nat.add_mul, Nat.one_mul]; omega
 have h2:s ≤ zs.length:=by rw [hz]; exact Nat.le_mul_of_pos_left _ (by omega)
 rw [← h1, List.take_left', List.drop_append]
 ·rw [List.drop_eq_nil_of_le (by omega), List.nil_append, show (l.flatMap f).length + s - (l.flatMap f).length = s by omega, List.flatMap_append]
  simp
 ·rfl
def z3d (w:World) (r:Res) (v:Value) (H:Heap) (u:World):Prop:=∃ C:Nat → Prop, r.P v H u C ∧ ∀ k, C k → w.heap.size ≤ k ∧ k < u.heap.size ∧ H k = none
def RetO (P:Program) (f:FuncId) (args:List Value) (w:World) (B:Heap) (r:Res):Prop:=RetL P f args w B noL (z3d w r)
theorem zc5 (L:Tabs P) {o:Oper} {d f:Nat} {args:Array Operand} {at_:Array TypeId} {cap:List Value} {r:Res} {fo:Operand}
  (hop:o.op = .call { callee:=.value fo, args:=args, argTypes:=at_ }) (hd:o.dst = some d) (hn:d < n) (hg:gK ops κ o = some true)
  (hf:evK κ fo = some (.func (.func f) #[] cap.toArray)) (hfn:L.fn f = some ())
  (h:∀ u H, H.Le (hp u) → B.Le H → Below F.w0.heap.size F.w0 F.w0 → Args κ H args.toList [] (fun vs => RetO P f (vs ++ cap) u H r)) :
  StepOK P F B n ops O κ o d (.own r):=by
 rintro κ' a u hl ⟨H, fp, hh⟩
 unfold After
 rw [if_pos (zai hh hl hg)]
 have e:=hh.env hl
 have hfe:a.eval fo = .func (.func f) #[] cap.toArray:=e.is_ fo _ (by simp [hop, Op.operands, Call.operands]) hf
 have hc:=Args.use e args.toList [] (fun x hx => by simp [hop, Op.operands, Call.operands] at hx ⊢; exact .inr hx) (h u H e.sub e.base (Below.refl _ _))
 simp only [List.reverse_nil, List.nil_append] at hc
 rw [zc3 L hop hfe hfn]
 simp only [Upon]
 refine Calls.mono hc fun e' u' hp => ?_
 obtain ⟨v, rfl, H', g', C, hv, hC⟩:=hp
 have h2:=hh.grow g'
 refine ⟨v, rfl, ?_⟩
 simp only [hd]
 refine ⟨H', _, h2.putR (C:=C) (by simp [Act.put]) rfl (fun t ht => zat ht) (by rw [zay (by rw [hh.size]; exact hn)]; exact hv) (fun k hk => ?_) fun t r' _ ht k hf hk => ?_⟩
 ·obtain ⟨h3, h4, h5⟩:=hC k hk
  exact ⟨h4, h5, .inl (Nat.le_trans hh.keep.size h3), fun y hy e => by have:=zac (hh.boxes y hy).1; omega⟩
 ·have h3:=(hC k hk).1
  have:=((hh.slot t _ ht).2 k hf).1
  omega
theorem zko {fn:Func} {B0:Heap} {t:Nat} {r:Res} (hrs:fn.results = #[.tmp t]) (hQ:∀ a u, bodyPostM Fence.wide 0 P fn (ze7 F.w0 B0 F.L (z3d F.w0 r)) .ret a u → Q .ret a u) (hs:Since F B0 B) (hk:κ t = some (.own r)) (hL:F.L = noL:=by rfl) (hm:zwc F.ds = true:=by rfl):V P F B n O κ .ret Q :=
 zrn hQ hs (hm:=hm) fun O' a u H fp _ hh => by
  obtain ⟨hown, hM⟩:=hh.slot t _ hk
  refine ⟨a.eval (.tmp t), ?_, fp t, hown, fun k hk => ?_⟩
  ·simp [results, hrs, Act.eval]
  ·obtain ⟨h1, h2, h3, _⟩:=hM k hk
   refine ⟨?_, h1, h2⟩
   rcases h3 with h3 | h3
   ·exact h3
   ·have h3':F.L k:=h3
    rw [hL] at h3'; exact h3'.elim
open Classical in
noncomputable def joinH (H:Heap) (u:World) (C:Nat → Prop):Heap:=fun k => if C k then hp u k else H k
theorem zix {H:Heap} {u:World} {C:Nat → Prop} {k:Nat} (h:C k):joinH H u C k = hp u k:=if_pos h
theorem zdy {H:Heap} {u:World} {C:Nat → Prop} {k:Nat} (h:¬ C k):joinH H u C k = H k:=if_neg h
theorem zg0 {H:Heap} {u:World} {C:Nat → Prop} (h:H.Le (hp u)):(joinH H u C).Le (hp u):=fun k v hv => by
 by_cases hc:C k
 ·rwa [zix hc] at hv
 ·rw [zdy hc] at hv; exact h _ _ hv
theorem zmt {H:Heap} {u:World} {C:Nat → Prop} (h:∀ k, C k → H k = none):H.Le (joinH H u C):=fun k v hv => by
 by_cases hc:C k
 ·rw [h k hc] at hv; cases hv
 ·rwa [zdy hc]
def z34 (r:Res) (φ:Value → Heap → Prop):Prop:=∀ x H u C, r.P x H u C → φ x (joinH H u C)
theorem zq3 {e:TypeId} {s m:Nat} {xs:List Value}:z34 (SlE e s m xs) (SlV e s xs m true):=fun x H u C ⟨hl, h⟩ => ⟨hl, by
 rcases h with ⟨h0, hv, _⟩ | ⟨b, hv, hb, h3, hC⟩
 ·exact .inl ⟨h0, _, hv⟩
 ·exact .inr ⟨b, 0, m, _, _, _, hv, (zix ((hC b).2 rfl)).trans hb, by simp, Nat.le_refl _, fun _ => rfl⟩⟩
def zyu (q:Nat) (l:List Operand):Bool:=l.any fun x => match x with | .tmp t => Nat.beq t q | _ => false
theorem RetO.toRet {P:Program} {f:FuncId} {args:List Value} {w:World} {B:Heap} {r:Res} {φ:Value → Heap → Prop} (h:RetO P f args w B r) (hl:z34 r φ):Ret P f args w B φ :=
 Calls.mono h fun _ u ⟨v, he, H, g, C, h1, h2⟩ => ⟨v, he, joinH H u C, ⟨g.keep, zg0 g.sub, fun k x hx => zmt (fun k hk => (h2 k hk).2.2) _ _ (g.le _ _ hx), fun k hk hn => (zdy fun hc => by have:=(h2 k hc).1; omega).trans (g.fresh k hk hn)⟩, hl _ _ _ _ h1⟩
theorem zdp {f:FuncId} {fn:Func} {c:Code} {args:List Value} {w:World} {B:Heap} {r:Res} (hf:P.funcs[f]? = some fn) (hb:fn.body = some c) (hn:fn.ntmps = n)
  (hs:args.length ≤ n) (hB:B.Le (hp w)) (h:V P (Fr.pure w) B n [] (zh0 0 args) c (bodyPostM Fence.wide 0 P fn (ze7 w B noL (z3d w r)))):RetO P f args w B r :=
 zes hf hb (h _ w ⟨B, fun _ => noL, by subst hn; exact zeq noL (fun _ h => h.elim) hs hB _⟩)
end
end Go.V
set_option maxRecDepth 20000
namespace Go.V
open Go.RowKit
def zaj (b:Nat) (cs:List Value) (ty:TypeId):Res where
 P _ _ u C:=u.heap[b]? = some (.cells cs.toArray ty) ∧ ∀ k, C k ↔ k = b
 st:=fun ⟨h1, h2⟩ _ _ _ hk => ⟨(hk b ((h2 b).2 rfl)).trans h1, h2⟩
section
variable {P:Program} {F:Fr} {B:Heap} {O:Boxes} {n:Nat} {ops:Array Oper} {κ:Kap} {d:Nat} {ty:TypeId} {pos:String} {aft:Array Edge} {g:Option (Nat × Bool)} {a:Act} {u:World} {H:Heap} {fp:Nat → Nat → Prop} {os:List Oper} {Q:Exit → Act → World → Prop} {ex:Exs}
theorem Has.hold {t q:Nat} {cs:List Value} {ty:TypeId} (hk:κ t = some (.own (zed cs ty))) (h:Has F B O n κ a u):∃ b, Has F B O n (upd (upd (upd κ t zdv) q (.own (zaj b cs ty))) t (.is (.pointer (some ⟨b, 0, none⟩)))) a u:=by
 obtain ⟨H, fp, h⟩:=h
 obtain ⟨⟨b, hv, hb, hC⟩, hM⟩:=h.slot t _ hk
 have h2:=h.usePut (d:=q) (a':=a) (r':=zaj b cs ty) (C:=fp t) hk ⟨Keep.refl _ _, h.sub, Heap.Le.refl _, fun _ _ _ => rfl⟩ rfl rfl (fun _ _ => rfl) ⟨hb, hC⟩ fun k hk => ⟨.inl hk, (hM k hk).1, (hM k hk).2.1⟩
 have h3:=h2.name t
 rw [hv] at h3
 exact ⟨b, H, _, h3⟩
theorem Has.release {t q b:Nat} {cs:List Value} {ty:TypeId} (hk:κ q = some (.own (zaj b cs ty))) (ht:κ t = some (.is (.pointer (some ⟨b, 0, none⟩)))) (h:Has F B O n κ a u):Has F B O n (upd (upd κ q zdv) t (.own (zed cs ty))) a u:=by
 obtain ⟨H, fp, h⟩:=h
 obtain ⟨⟨hb, hC⟩, hM⟩:=h.slot q _ hk
 have hx:a.eval (.tmp t) = .pointer (some ⟨b, 0, none⟩):=h.slot t _ ht
 exact ⟨H, _, h.usePut (d:=t) (a':=a) (r':=zed cs ty) (C:=fp q) hk ⟨Keep.refl _ _, h.sub, Heap.Le.refl _, fun _ _ _ => rfl⟩ rfl rfl (fun _ _ => rfl) ⟨b, hx, hb, hC⟩ fun k hk => ⟨.inl hk, (hM k hk).1, (hM k hk).2.1⟩⟩
theorem za5 (t q:Nat) {cs:List Value} {ty:TypeId} {c:Code} (hk:κ t = some (.own (zed cs ty))) (h:∀ b, V P F B n O (upd (upd (upd κ t zdv) q (.own (zaj b cs ty))) t (.is (.pointer (some ⟨b, 0, none⟩)))) c Q):V P F B n O κ c Q:=fun a u hh => let ⟨b, h'⟩:=hh.hold (q:=q) hk; h b a u h'
theorem zb3 (t q:Nat) {b:Nat} {cs:List Value} {ty:TypeId} {c:Code} (hk:κ q = some (.own (zaj b cs ty))) (ht:κ t = some (.is (.pointer (some ⟨b, 0, none⟩)))) (h:V P F B n O (upd (upd κ q zdv) t (.own (zed cs ty))) c Q):V P F B n O κ c Q:=fun a u hh => h a u (hh.release hk ht)
def StepOKR (P:Program) (F:Fr) (B:Heap) (n:Nat) (ops:Array Oper) (O:Boxes) (κ:Kap) (o:Oper) (q d:Nat) (k:Kn):Prop :=
 ∀ κ' a u, (∀ t ∈ o.looksAt ops, κ' t = κ t) → κ' q = κ q → Has F B O n κ' a u → After P ops o (fun a' u' => Has F B O n (upd κ' d k) a' u') a u
theorem qw {o:Oper} {q d:Nat} {k:Kn} (hs:StepOKR P F B n ops O κ o q d k) (h:VO P F B n O ops (upd κ d k) os Q):VO P F B n O ops κ (o :: os) Q :=
 fun a u hh => After.mono (fun a' u' hh' => h a' u' hh') (hs κ a u (fun _ _ => rfl) rfl hh)
theorem q7 {o:Oper} {q d:Nat} {k:Kn} (hs:StepOKR P F B n ops O κ o q d k) (hd:vd o = some d) (he:(exR ex o).contains q = true) (h:Par P F B n O ops ex (upd κ d k) os Q):Par P F B n O ops ex κ (o :: os) Q:=by
 have hm:q ∈ exR ex o:=by simpa using he
 refine ⟨[(d, k)], fun p hp => ?_, fun κ' a u hl hh => hs κ' a u (fun t ht => hl t (List.mem_append_left _ ht)) (hl q (List.mem_append_right _ (List.mem_append_right _ hm))) hh, h⟩
 simp only [List.mem_cons, List.mem_nil_iff, or_false] at hp
 subst hp
 exact List.mem_append_left _ (by simp [hd])
def zm5 (P:Program) (F:Fr) (B:Heap) (n:Nat) (ops:Array Oper) (O:Boxes) (κ:Kap) (o:Oper) (q:Nat) (k:Kn):Prop :=
 ∀ κ' a u, (∀ t ∈ o.looksAt ops, κ' t = κ t) → κ' q = κ q → Has F B O n κ' a u → After P ops o (fun a' u' => Has F B O n (upd κ' q k) a' u') a u
theorem zam {o:Oper} {q:Nat} {k:Kn} (hs:zm5 P F B n ops O κ o q k) (h:VO P F B n O ops (upd κ q k) os Q):VO P F B n O ops κ (o :: os) Q :=
 fun a u hh => After.mono (fun a' u' hh' => h a' u' hh') (hs κ a u (fun _ _ => rfl) rfl hh)
theorem zaf {o:Oper} {q:Nat} {k:Kn} (hs:zm5 P F B n ops O κ o q k) (he:(exO ex o).contains q = true) (h:Par P F B n O ops ex (upd κ q k) os Q):Par P F B n O ops ex κ (o :: os) Q:=by
 have hm:q ∈ exO ex o:=by simpa using he
 refine ⟨[(q, k)], fun p hp => ?_, fun κ' a u hl hh => hs κ' a u (fun t ht => hl t (List.mem_append_left _ ht)) (hl q (List.mem_append_right _ (List.mem_append_left _ hm))) hh, h⟩
 simp only [List.mem_cons, List.mem_nil_iff, or_false] at hp
 subst hp
 exact List.mem_append_right _ hm
theorem zb8 (L:Tabs P) (q:Nat) {r:Res} {Φ:Heap → Prop} {o:Oper} {d f:Nat} {args:Array Operand} {at_:Array TypeId} {cap:List Value} {c:Value} {fo:Operand}
  (hop:o.op = .call { callee:=.value fo, args:=args, argTypes:=at_ }) (hd:o.dst = some d) (hn:d < n) (hg:gK ops κ o = some true)
  (hf:evK κ fo = some (.func (.func f) #[] cap.toArray)) (hfn:L.fn f = some ()) (hq:κ q = some (.own r)) (hm:zyu q o.op.operands.toList = false) (hl:∀ v H u C, r.P v H u C → Φ (joinH H u C))
  (h:∀ u H, H.Le (hp u) → B.Le H → Φ H → Args κ H args.toList [] (fun vs => Ret P f (vs ++ cap) u H (fun v _ => v = c))) :
  StepOKR P F B n ops O κ o q d (.is c):=by
 rintro κ' a u hlk hqk ⟨H, fp, hh⟩
 unfold After
 rw [if_pos (zai hh hlk hg)]
 have e:=hh.env hlk
 have hfe:a.eval fo = .func (.func f) #[] cap.toArray:=e.is_ fo _ (by simp [hop, Op.operands, Call.operands]) hf
 obtain ⟨hown, hM⟩:=hh.slot q _ (hqk.trans hq)
 have hle:H.Le (joinH H u (fp q)):=zmt fun k hk => (hM k hk).2.1
 have hqo:∀ t, Operand.tmp t ∈ o.op.operands → t ≠ q:=fun t ht e => by
  subst e
  have:zyu t o.op.operands.toList = true:=List.any_eq_true.2 ⟨Operand.tmp t, by simpa using ht, Nat.beq_refl t⟩
  rw [this] at hm; cases hm
 have e1:Env F B O κ o a u (joinH H u (fp q)) fp:=by
  refine ⟨e.is_, fun t ψ ht hk => ?_, fun t r' ht hk => ?_, zg0 hh.sub, fun k v hv => hle _ _ (hh.base _ _ hv), fun y hy => ?_, hh.keep⟩
  ·have hk':κ' t = some (.sat ψ):=(hlk t (zdn ht)).trans hk
   exact hh.mono t _ hk' _ _ _ (e.sat_ t ψ ht hk) hle
  ·obtain ⟨h1, h2⟩:=e.own_ t r' ht hk
   have hk':κ' t = some (.own r'):=(hlk t (zdn ht)).trans hk
   refine ⟨r'.st h1 hle (zg0 hh.sub) ⟨rfl, rfl, rfl, Nat.le_refl _, Nat.le_refl _⟩ fun _ _ => rfl, fun k hk2 => ?_⟩
   obtain ⟨g1, g2, g3, g4⟩:=h2 k hk2
   exact ⟨g1, (zdy (hh.owns t q r' _ (hqo t ht) hk' (hqk.trans hq) k hk2)).trans g2, g3, g4⟩
  ·obtain ⟨h1, h2, h3⟩:=e.boxes y hy
   exact ⟨h1, (zdy fun hc => (hM _ hc).2.2.2 y hy rfl).trans h2, h3⟩
 have hc:=Args.use e1 args.toList [] (fun x hx => by simp [hop, Op.operands, Call.operands] at hx ⊢; exact .inr hx) (h u (joinH H u (fp q)) e1.sub e1.base (hl _ _ _ _ hown))
 simp only [List.reverse_nil, List.nil_append] at hc
 rw [zc3 L hop hfe hfn]
 simp only [Upon]
 refine Calls.mono hc fun e' u' hp => ?_
 obtain ⟨v, rfl, H', g', hv⟩:=hp
 refine ⟨v, rfl, ?_⟩
 simp only [hd]
 have g2:Grow noL u H u' H:=⟨g'.keep, fun k x hx => by
  have h1:=hh.sub _ _ hx
  exact (g'.keep.block k (zac h1) fun h => h).trans h1, Heap.Le.refl _, fun _ _ _ => rfl⟩
 exact ⟨H, fp, (hh.grow g2).put (k:=.is c) hn trivial hv⟩
theorem zaz (L:Tabs P) {x:Operand} {q b:Nat} {t t':TypeId} {s off:Nat} {cs vs:List Value} (hx:evK κ x = some (.pointer (some ⟨b, off, none⟩))) (hq:κ q = some (.own (zaj b cs t'))) (hn:Nat.blt d n = true) (hg:gK ops κ ⟨some d, .load t x, ty, pos, aft, g⟩ = some true)
  (hl:L.ld t = some (true, s)) (hlen:vs.length = s) (hc:∃ r, cs.drop off = vs ++ r):StepOKR P F B n ops O κ ⟨some d, .load t x, ty, pos, aft, g⟩ q d (.is (.agg vs.toArray)):=by
 rintro κ' a u hlk hqk ⟨H, fp, hh⟩
 unfold After
 rw [if_pos (zai hh hlk hg)]
 have e:=hh.env hlk
 have h1:=e.is_ x _ (by simp [Op.operands]) hx
 obtain ⟨⟨h2, hC⟩, hM⟩:=hh.slot q _ (hqk.trans hq)
 obtain ⟨r, hc⟩:=hc
 have hrun:(execOp a.eval ⟨some d, .load t x, ty, pos, aft, g⟩).run P u = .ok (.value (.agg vs.toArray)) u:=by
  simp only [execOp, h1, Instr.loadAt, Instr.sureAddr, Sem.run_bind, Sem.run_pure, Result.andThen_ok]
  rw [zb7 (Tabs.ld_spec hl) u _ vs hlen (fun j v hj => by
   have h3:cs[off + j]? = some v:=by
    have:=congrArg (·[j]?) hc
    simp only [List.getElem?_drop] at this
    rw [this, List.getElem?_append_left (by
     rcases Nat.lt_or_ge j vs.length with h | h
     ·exact h
     ·rw [List.getElem?_eq_none h] at hj; cases hj)]
    exact hj
   show u.cell? (Addr.add ⟨b, off, none⟩ j) = some v
   have:Addr.add ⟨b, off, none⟩ j = ⟨b, off + j, none⟩:=by simp [Addr.add]
   rw [this, za1 h2]; simpa using h3)]
  rfl
 rw [hrun]
 simp only [Upon]
 exact ⟨H, fp, hh.put (k:=.is (.agg vs.toArray)) (zk hn) trivial rfl⟩
theorem zx (L:Tabs P) {x:Operand} {q b:Nat} {t t':TypeId} {s off:Nat} {cs r:List Value} {v:Value} (hx:evK κ x = some (.pointer (some ⟨b, off, none⟩))) (hq:κ q = some (.own (zaj b cs t'))) (hn:Nat.blt d n = true) (hg:gK ops κ ⟨some d, .load t x, ty, pos, aft, g⟩ = some true)
  (hl:L.ld t = some (false, s)) (hc:cs.drop off = v :: r):StepOKR P F B n ops O κ ⟨some d, .load t x, ty, pos, aft, g⟩ q d (.is v):=by
 rintro κ' a u hlk hqk ⟨H, fp, hh⟩
 unfold After
 rw [if_pos (zai hh hlk hg)]
 have e:=hh.env hlk
 have h1:=e.is_ x _ (by simp [Op.operands]) hx
 obtain ⟨⟨h2, hC⟩, hM⟩:=hh.slot q _ (hqk.trans hq)
 have h3:cs[off]? = some v:=by
  have:=congrArg (·[0]?) hc
  simpa using this
 have hrun:(execOp a.eval ⟨some d, .load t x, ty, pos, aft, g⟩).run P u = .ok (.value v) u:=by
  simp only [execOp, h1, Instr.loadAt, Instr.sureAddr, Sem.run_bind, Sem.run_pure, Result.andThen_ok]
  rw [zct (Tabs.ld_spec hl) u _ v (by rw [za1 h2]; simpa using h3)]
  rfl
 rw [hrun]
 simp only [Upon]
 exact ⟨H, fp, hh.put (k:=.is v) (zk hn) trivial rfl⟩
theorem qs (L:Tabs P) {t t':TypeId} {ag:Bool} {z b off q:Nat} {p x:Operand} {v:Value} {cs cs':List Value} (hg:gK ops κ ⟨none, .store t p x, ty, pos, aft, g⟩ = some true) (hp:evK κ p = some (.pointer (some ⟨b, off, none⟩))) (hq:κ q = some (.own (zaj b cs t'))) (hx:evK κ x = some v)
  (hl:L.ld t = some (ag, z)) (hlen:(za8 v).length = z) (hcs:Nat.ble (off + z) cs.length = true) (hpl:(za8 v).all zdh = true) (hr:cs.take off ++ (za8 v ++ cs.drop (off + z)) = cs') :
  zm5 P F B n ops O κ ⟨none, .store t p x, ty, pos, aft, g⟩ q (.own (zaj b cs' t')):=by
 rintro κ' a u hlk hqk ⟨H, fp, hh⟩
 subst hr
 unfold After
 rw [if_pos (zai hh hlk hg)]
 have e:=hh.env hlk
 have hev:=e.is_ x v (by simp [Op.operands]) hx
 have hes:=e.is_ p _ (by simp [Op.operands]) hp
 have hqs:=hqk.trans hq
 obtain ⟨⟨hb, hC⟩, hM⟩:=hh.slot q _ hqs
 have hrun:(execOp a.eval ⟨none, .store t p x, ty, pos, aft, g⟩).run P u = .ok .skip (u.setRow b (cs.take off ++ (za8 v ++ cs.drop (off + z))).toArray):=by
  simp only [execOp, hes, hev, Instr.storeAt, Instr.sureAddr, Sem.run_bind, Sem.run_pure, Result.andThen_ok]
  have:=zcs (P:=P) (off:=off) (Tabs.ld_spec hl) hb hlen (Nat.le_of_ble_eq_true hcs) hpl
  rw [this]
  simp
 rw [hrun]
 simp only [Upon, Act.put]
 have hset:=setRow_heap u b cs.toArray (cs.take off ++ (za8 v ++ cs.drop (off + z))).toArray t' (0, 0) hb
 have hbm:=hM b ((hC b).2 rfl)
 have:=hh.usePut (d:=q) (a':=a) (r':=zaj b (cs.take off ++ (za8 v ++ cs.drop (off + z))) t') (C:=fun k => k = b) hqs (zcz hh.sub hb ((hC b).2 rfl) hbm.2.1 _) rfl rfl (fun _ _ => rfl) ⟨hset, fun _ => Iff.rfl⟩ (fun k hk => by
  subst hk; exact ⟨.inl ((hC k).2 rfl), by rw [setRow_size]; exact hbm.1, hbm.2.1⟩)
 rw [zbw] at this
 exact ⟨H, _, this⟩
end
end Go.V
set_option maxRecDepth 20000
namespace Go.V
open Go.Proofs Go.RowKit
section
variable {α:Type} [Inhabited α] {enc:α → List Value} {k:Nat}
end
section
variable {P:Program} {F:Fr} {B:Heap} {O:Boxes} {n:Nat} {ops:Array Oper} {κ:Kap} {ty:TypeId} {pos:String} {aft:Array Edge} {g:Option (Nat × Bool)}
end
end Go.V
set_option maxRecDepth 20000
namespace Go.V
open Go.Proofs Go.RowKit
def z4k (w:World) (C:Nat → Prop) (r:Res) (v:Value) (H:Heap) (u:World):Prop:=∃ C':Nat → Prop, r.P v H u C' ∧ ∀ k, C' k → (C k ∨ w.heap.size ≤ k) ∧ k < u.heap.size ∧ H k = none
def RetT (P:Program) (f:FuncId) (args:List Value) (w:World) (B:Heap) (C:Nat → Prop) (r:Res):Prop:=RetL P f args w B C (z4k w C r)
section
variable {P:Program} {F:Fr} {B:Heap} {O:Boxes} {n:Nat} {ops:Array Oper} {κ:Kap} {d:Nat} {ty:TypeId} {pos:String} {aft:Array Edge} {g:Option (Nat × Bool)} {a:Act} {u:World} {H:Heap} {fp:Nat → Nat → Prop} {Q:Exit → Act → World → Prop}
theorem z2x {fn:Func} {B0:Heap} {t:Nat} {r:Res} (hrs:fn.results = #[.tmp t]) (hQ:∀ a u, bodyPostM Fence.wide 0 P fn (ze7 F.w0 B0 F.L (z4k F.w0 F.L r)) .ret a u → Q .ret a u) (hs:Since F B0 B) (hk:κ t = some (.own r)) (hm:zwc F.ds = true:=by rfl):V P F B n O κ .ret Q :=
 zrn hQ hs (hm:=hm) fun O' a u H fp _ hh => by
  obtain ⟨hown, hM⟩:=hh.slot t _ hk
  refine ⟨a.eval (.tmp t), ?_, fp t, hown, fun k hk => ?_⟩
  ·simp [results, hrs, Act.eval]
  ·obtain ⟨h1, h2, h3, _⟩:=hM k hk
   exact ⟨h3.symm, h1, h2⟩
theorem z00 (t q:Nat) {e:TypeId} {s m:Nat} {xs:List Value} {c:Code} (hk:κ t = some (.own (SlR e s m xs)))
  (h0:m = 0 → xs = [] → V P F B n O (upd κ t (.is (.slice none 0 0))) c Q)
  (h:∀ b cap rest, xs.length = m * s → m ≤ cap → cap ≤ maxLen → (xs ++ rest).length = cap * s → V P F B n O (upd (upd (upd κ t zdv) q (.own (zaj b (xs ++ rest) e))) t (.is (.slice (some ⟨b, 0, none⟩) m cap))) c Q):V P F B n O κ c Q:=fun a u hh => by
 obtain ⟨H, fp, hh⟩:=hh
 obtain ⟨⟨hl, hv⟩, hM⟩:=hh.slot t _ hk
 rcases hv with ⟨hm, hv, _⟩ | ⟨b, cap, rest, hv, hb, h3, h4, h5, hC⟩
 ·have h3:=hh.name t
  rw [hv] at h3
  subst hm
  exact h0 rfl (List.eq_nil_of_length_eq_zero (by simpa using hl)) a u ⟨H, _, h3⟩
 ·have h2:=hh.usePut (d:=q) (a':=a) (r':=zaj b (xs ++ rest) e) (C:=fp t) hk ⟨Keep.refl _ _, hh.sub, Heap.Le.refl _, fun _ _ _ => rfl⟩ rfl rfl (fun _ _ => rfl) ⟨hb, hC⟩ fun k hk => ⟨.inl hk, (hM k hk).1, (hM k hk).2.1⟩
  have h3':=h2.name t
  rw [hv] at h3'
  exact h b cap rest hl h3 h4 h5 a u ⟨H, _, h3'⟩
theorem zsx (t q:Nat) {b m cap:Nat} {e:TypeId} {s:Nat} {xs rest cs:List Value} {c:Code} (hcs:cs = xs ++ rest) (hk:κ q = some (.own (zaj b cs e))) (ht:κ t = some (.is (.slice (some ⟨b, 0, none⟩) m cap))) (hl:xs.length = m * s) (hm:m ≤ cap) (hc:cap ≤ maxLen) (hcl:cs.length = cap * s)
  (h:V P F B n O (upd (upd κ q zdv) t (.own (SlR e s m xs))) c Q):V P F B n O κ c Q:=fun a u hh => by
 subst hcs
 obtain ⟨H, fp, hh⟩:=hh
 obtain ⟨⟨hb, hC⟩, hM⟩:=hh.slot q _ hk
 have hx:a.eval (.tmp t) = .slice (some ⟨b, 0, none⟩) m cap:=hh.slot t _ ht
 exact h a u ⟨H, _, hh.usePut (d:=t) (a':=a) (r':=SlR e s m xs) (C:=fp q) hk ⟨Keep.refl _ _, hh.sub, Heap.Le.refl _, fun _ _ _ => rfl⟩ rfl rfl (fun _ _ => rfl) ⟨hl, .inr ⟨b, cap, rest, hx, hb, hm, hc, hcl, hC⟩⟩ fun k hk => ⟨.inl hk, (hM k hk).1, (hM k hk).2.1⟩⟩
theorem zyv {t t':TypeId} {x y:Operand} {k k2:IntKind} {p q r:Int} (hn:Nat.blt d n = true) (hg:gK ops κ ⟨some d, .binOp .shr t x y t', ty, pos, aft, g⟩ = some true) (hx:evK κ x = some (.int k p)) (hy:evK κ y = some (.int k2 q)) (h0:0 ≤ q) (hb:p.fdiv (2 ^ min q.toNat k.bits) = r) :
  StepOK P F B n ops O κ ⟨some d, .binOp .shr t x y t', ty, pos, aft, g⟩ d (.is (.int k r)):=zb1 hn hg hx hy fun u => by subst hb; simp [eqGuard_shr, binOp_shr, Op.shift, Int.not_lt.2 h0]
theorem zgb (L:Tabs P) {t e:TypeId} {ag:Bool} {s:Nat} {z:Value} (hn:Nat.blt d n = true) (hg:gK ops κ ⟨some d, .buildSlice t 0 #[], ty, pos, aft, g⟩ = some true) (ht:L.sl t = some e) (hl:L.ld e = some (ag, s)) (hz:L.zr e = some z) :
  StepOK P F B n ops O κ ⟨some d, .buildSlice t 0 #[], ty, pos, aft, g⟩ d (.own (SlR e s 0 [])):=by
 rintro κ' a u hlk ⟨H, fp, hh⟩
 unfold After
 rw [if_pos (zai hh hlk hg)]
 have hrun:(execOp a.eval ⟨some d, .buildSlice t 0 #[], ty, pos, aft, g⟩).run P u = .ok (.value (.slice (some ⟨u.heap.size, 0, none⟩) 0 0)) (u.alloc (.cells #[] e)):=by
  have hzz:=Tabs.zr_spec hz
  unfold zrI at hzz
  split at hzz
  ·rename_i it hit
   have hzr:(zeroValue e).run P u = .ok z u:=by simp [zeroValue, typeInfo, hit, hzz]
   simp only [execOp, Sem.run_bind]
   have e0:(Array.map (fun x:Nat × Operand => (x.1, a.eval x.2)) #[]) = (#[]:Array (Nat × Value)):=by simp
   rw [e0]
   have hfill:Instr.fill (fun i => some (i * s, s)) #[] [] = some #[]:=by simp [Instr.fill]
   simp only [Instr.buildSlice, Sem.run_bind, run_underlying (Tabs.sl_spec ht), Result.andThen_ok, zbx (Tabs.ld_spec hl)]
   simp only [Nat.zero_mul, if_true, Sem.run_pure, Result.andThen_ok]
   have e1:(Array.range 0).map (fun _:Nat => (default:Value)) = #[]:=by simp
   simp [newRow, hfill, e1]
  ·cases hzz
 rw [hrun]
 simp only [Upon]
 have hg2:=hh.grow (Grow.hid hh.sub (.cells #[] e))
 refine ⟨H, _, hg2.putR (C:=fun k => k = u.heap.size) (by simp [Act.put]) rfl (fun t ht => zat ht) ⟨by simp, .inr ⟨u.heap.size, 0, [], zay (by rw [hh.size]; exact zk hn), zaq _ _, Nat.le_refl _, by simp [maxLen], by simp, fun _ => Iff.rfl⟩⟩ (fun k hk => ?_) fun t r' _ ht k hf hk => ?_⟩
 ·subst hk
  exact ⟨zac (zaq u _), za9 hh.sub (Nat.le_refl _), .inl hh.keep.size, fun y hy e => by have:=zac (hh.boxes y hy).1; omega⟩
 ·have:=((hh.slot t _ ht).2 k hf).1
  omega
end
end Go.V
set_option maxRecDepth 20000
namespace Go.V
open Go.RowKit
def zab (b:Nat) (cs:List Value) (ty:TypeId):GR where
 P _ u C:=u.heap[b]? = some (.cells cs.toArray ty) ∧ ∀ k, C k ↔ k = b
 st:=fun ⟨h1, h2⟩ _ _ _ hk => ⟨(hk b ((h2 b).2 rfl)).trans h1, h2⟩
theorem zae (b:Nat) (cs:List Value) (ty:TypeId):(zab b cs ty).res = zaj b cs ty:=rfl
def zbd (P:Program) (f:FuncId) (args:List Value) (w:World) (B:Heap) (C:Nat → Prop) (r:GR):Prop :=
 RetL P f args w B C fun _ H u => ∃ C', r.P H u C' ∧ ∀ k, C' k → (C k ∨ w.heap.size ≤ k) ∧ k < u.heap.size ∧ H k = none
section
variable {P:Program} {F:Fr} {B:Heap} {O:Boxes} {n:Nat} {ops:Array Oper} {κ:Kap} {d:Nat} {ty:TypeId} {pos:String} {aft:Array Edge} {g:Option (Nat × Bool)} {Q:Exit → Act → World → Prop}
theorem zao (L:Tabs P) (q:Nat) (r':GR) {r:GR} {f:Nat} {args:Array Operand} {at_:Array TypeId} {cap:List Value} {fo:Operand}
  (hn:Nat.blt d n = true) (hg:gK ops κ ⟨some d, .call { callee:=.value fo, args:=args, argTypes:=at_ }, ty, pos, aft, g⟩ = some true)
  (hf:evK κ fo = some (.func (.func f) #[] cap.toArray)) (hfn:L.fn f = some ()) (hq:κ q = some (.own r.res))
  (h:∀ u H C, H.Le (hp u) → B.Le H → r.P H u C → (∀ k, C k → k < u.heap.size ∧ H k = none) → Args κ H args.toList [] (fun vs => zbd P f (vs ++ cap) u H C r')) :
  zcl P F B n ops O κ ⟨some d, .call { callee:=.value fo, args:=args, argTypes:=at_ }, ty, pos, aft, g⟩ q (.own r'.res) d zdv:=by
 rintro κ' a u hlk hks ⟨H, fp, hh⟩
 unfold After
 rw [if_pos (zai hh hlk hg)]
 have hk':κ' q = some (.own r.res):=hks.trans hq
 obtain ⟨hown, hM⟩:=hh.slot q _ hk'
 have e2:=hh.env hlk
 have hfe:a.eval fo = .func (.func f) #[] cap.toArray:=e2.is_ fo _ (by simp [Op.operands, Call.operands]) hf
 have hc:=Args.use e2 args.toList [] (fun x hx => by simp [Op.operands, Call.operands] at hx ⊢; exact .inr hx) (h u H (fp q) hh.sub hh.base hown fun k hk => ⟨(hM k hk).1, (hM k hk).2.1⟩)
 simp only [List.reverse_nil, List.nil_append] at hc
 rw [zc3 L rfl hfe hfn]
 simp only [Upon]
 refine Calls.mono hc fun e' u' hp => ?_
 obtain ⟨v, rfl, H', g', C', hv, hC'⟩:=hp
 have h2:=hh.usePut (d:=q) (a':=a) (r':=r'.res) hk' g' rfl rfl (fun _ _ => rfl) hv hC'
 rw [zbw] at h2
 exact ⟨v, rfl, H', _, h2.put (k:=zdv) (zk hn) (fun _ _ _ h _ => h) trivial⟩
theorem zv8 (L:Tabs P) {fn:Func} {B0:Heap} (hrs:fn.results = #[]) (hQ:∀ a u, bodyPostM Fence.wide 0 P fn (ze7 F.w0 B0 F.L fun _ _ _ => True) .normal a u → Q .normal a u) (hs:Since F B0 B) (hm:zwc F.ds = true:=by rfl):N F B n O κ Q :=
 zy6 hQ hs (hm:=hm) fun O' a u H fp _ hh => by
  obtain ⟨vs, h1, _⟩:=zbr L hh (rs:=[]) hrs (K:=fun _ => True) trivial
  exact ⟨_, h1, trivial⟩
theorem zgn {x c y:Code} {T:Type} (Fk:T → List (Nat × Kn)) (I:T → Prop) (Ob:T → Boxes) (hy:∀ t, I t → V P F B n (Ob t) (ofL (Fk t)) y Q)
  (h:V P F B n O κ x (Exit.then (fun a u => c.wpIn (FW F.r) 0 P (Exit.then (fun a u => ∃ t, I t ∧ Has F B (Ob t) n (ofL (Fk t)) a u) Q) a u) (Exit.then (fun a u => ∃ t, I t ∧ Has F B (Ob t) n (ofL (Fk t)) a u) Q))) :
  V P F B n O κ x (Exit.then (fun a u => c.wpIn (FW F.r) 0 P (Exit.then (fun a u => y.wpIn (FW F.r) 0 P Q a u) Q) a u) (Exit.then (fun a u => y.wpIn (FW F.r) 0 P Q a u) Q)):=fun a u hh => by
 have key:∀ e a u, Exit.then (fun a u => ∃ t, I t ∧ Has F B (Ob t) n (ofL (Fk t)) a u) Q e a u → Exit.then (fun a u => y.wpIn (FW F.r) 0 P Q a u) Q e a u:=fun e a u he => by
  cases e <;> first | exact he | (obtain ⟨t, hI, hh⟩:=he; exact hy t hI a u hh)
 refine Go.wpIn_mono (h a u hh) fun e a u he => ?_
 cases e <;> first | exact Go.wpIn_mono he key | exact he
theorem HasH.setSat {t:Nat} {φ:Value → Heap → Prop} {H:Heap} {fp:Nat → Nat → Prop} {a:Act} {u:World} (hm:Kn.mono (.sat φ)) (h:HasH F B O n κ a u H fp) (hφ:φ (a.eval (.tmp t)) H):HasH F B O n (upd κ t (.sat φ)) a u H fp :=
 ⟨h.size, h.defers, h.nodup, h.marks, h.lent, h.keep, h.sub, h.base, h.fresh, h.boxes, h.apart, fun s k hs => by
  by_cases hst:s = t
  ·subst hst; rw [zak] at hs; cases hs; exact hφ
  ·rw [zad _ _ hst] at hs; exact h.slot s k hs, fun s r r1 r2 hsr h1 h2 => by
  have key:∀ x r, upd κ t (.sat φ) x = some (.own r) → κ x = some (.own r):=fun x r hx => by
   by_cases hxd:x = t
   ·subst hxd; rw [zak] at hx; cases hx
   ·rw [zad _ _ hxd] at hx; exact hx
  exact h.owns s r r1 r2 hsr (key _ _ h1) (key _ _ h2), fun s k hs => by
  by_cases hst:s = t
  ·subst hst; rw [zak] at hs; cases hs; exact hm
  ·rw [zad _ _ hst] at hs; exact h.mono s k hs⟩
def SlG (e:TypeId) (s n:Nat) (xs:List Value):Res where
 P x H u C:=(n = 0 ∧ xs = [] ∧ SlV e s [] 0 true x H ∧ ∀ k, ¬ C k) ∨ (SlR e s n xs).P x H u C
 st:=fun h hle hs ho hk => by
  rcases h with ⟨h1, h2, h3, h4⟩ | h
  ·exact .inl ⟨h1, h2, h3.le hle, h4⟩
  ·exact .inr ((SlR e s n xs).st h hle hs ho hk)
theorem Has.toG {t:Nat} {e:TypeId} {s:Nat} {a:Act} {u:World} (hk:κ t = some (.sat (SlV e s [] 0 true))) (h:Has F B O n κ a u):Has F B O n (upd κ t (.own (SlG e s 0 []))) a u:=by
 obtain ⟨H, fp, h⟩:=h
 exact ⟨H, _, h.putR (C:=noL) (a':=a) rfl rfl (fun _ _ => rfl) (.inl ⟨rfl, rfl, h.slot t _ hk, fun _ h => h⟩) (fun k hk => hk.elim) (fun _ _ _ _ _ _ hk => hk.elim)⟩
theorem z31 (t:Nat) {e:TypeId} {s:Nat} {c:Code} (hk:κ t = some (.sat (SlV e s [] 0 true))) (h:V P F B n O (upd κ t (.own (SlG e s 0 []))) c Q):V P F B n O κ c Q:=fun a u hh => h a u (hh.toG hk)
theorem Has.pubG {t:Nat} {e:TypeId} {s m:Nat} {xs:List Value} {a:Act} {u:World} (hk:κ t = some (.own (SlG e s m xs))) (h:Has F B O n κ a u):Has F B O n (upd κ t (.sat (SlV e s xs m false))) a u:=by
 obtain ⟨H, fp, h⟩:=h
 obtain ⟨hv, hM⟩:=h.slot t _ hk
 rcases hv with ⟨rfl, rfl, h3, _⟩ | hv
 ·exact ⟨H, fp, h.setSat SlV.mono h3.nofu⟩
 ·have h2:=h.putR (d:=t) (r:=SlR e s m xs) (C:=fp t) (a':=a) rfl rfl (fun _ _ => rfl) hv hM (fun t' r' hne hk' k hf hc => h.owns t' t _ _ hne hk' hk k hf hc)
  have h3:=Has.pubR (t:=t) (zak _ _ _) ⟨H, _, h2⟩
  rwa [zbw] at h3
theorem z2z (t:Nat) {e:TypeId} {s m:Nat} {xs:List Value} {c:Code} (hk:κ t = some (.own (SlG e s m xs))) (h:V P F B n O (upd κ t (.sat (SlV e s xs m false))) c Q):V P F B n O κ c Q:=fun a u hh => h a u (hh.pubG hk)
theorem zld (L:Tabs P) {q:Nat} {t e:TypeId} {y:Operand} {s by_ nn m:Nat} {xs news:List Value} (hm:0 < m) (hn:Nat.blt d n = true) (hg:gK ops κ ⟨some d, .call ⟨.builtin .append, #[.tmp q, y], #[t, t]⟩, ty, pos, aft, g⟩ = some true)
  (hq:κ q = some (.own (SlG e s nn xs))) (hy:Apd F B O κ y m news) (ht:L.sl t = some e) (he:elI P e = some (s, by_)) (hl:news.length = m * s) (h1:news.all zdh = true) (hb:(nn + m) * by_ ≤ 140737488355328) (h63:nn + m ≤ 9223372036854775807) :
  zcl P F B n ops O κ ⟨some d, .call ⟨.builtin .append, #[.tmp q, y], #[t, t]⟩, ty, pos, aft, g⟩ q zdv d (.own (SlG e s (nn + m) (xs ++ news))):=by
 rintro κ' a u hlk hks ⟨H, fp, hh⟩
 unfold After
 rw [if_pos (zai hh hlk hg)]
 have en:=hh.env hlk
 obtain ⟨i, z, hi, hz, hs1, hs2, hs3, hs4⟩:=zec he
 have hk':κ' q = some (.own (SlG e s nn xs)):=hks.trans hq
 obtain ⟨hown, hM⟩:=hh.slot q _ hk'
 have hyv:=hy _ a u H fp (by simp [Op.operands, Call.operands]) en
 have h1':∀ v ∈ news, v.oneCell' = true:=fun v hv => zjs (List.all_eq_true.1 h1 v hv)
 have hap:∃ x' u' C', (Builtin.append_ #[t, t] ty #[a.eval (.tmp q), a.eval y]).run P u = .ok x' u' ∧ (SlR e s (nn + m) (xs ++ news)).P x' H u' C' ∧ Grow (fp q) u H u' H ∧ ∀ k, C' k → (fp q k ∨ u.heap.size ≤ k) ∧ k < u'.heap.size ∧ H k = none:=by
  rcases hown with ⟨rfl, rfl, h3, hC⟩ | hown
  ·have hxx:a.eval (.tmp q) = .slice none 0 0 ∨ ∃ a0, a.eval (.tmp q) = .slice (some a0) 0 0:=by
    obtain ⟨hl3, ⟨_, p0, hx⟩ | ⟨b, off, cap, cs, ty0, fr, hx, hb1, _, hcp, hfu⟩⟩:=h3
    ·cases p0 with
     | none => exact .inl hx
     | some a0 => exact .inr ⟨a0, hx⟩
    ·obtain rfl:=hfu rfl
     exact .inr ⟨_, hx⟩
   rcases hxx with hx | ⟨a0, hx⟩
   ·refine zp7 u (Tabs.sl_spec ht) hi hz hs1 hs2 hs3 hs4 hh.sub ⟨by simp, .inl ⟨rfl, hx, hC⟩⟩ (fun k hk => ⟨(hM k hk).1, (hM k hk).2.1⟩) hyv hl h1' h63 hb
   ·rcases hyv with ⟨rfl, _⟩ | ⟨ad, c, hye, hnews⟩
    ·omega
    ·subst hs1 hs2
     have hr:=run_append_grow (P:=P) u t ty e i z (Tabs.sl_spec ht) hi hz a0 0 0 [] (by simp) (fun j v hj => by simp at hj) ad m c news hl hnews (by omega) (by omega) (growslice_fits (by omega) hb)
     rw [hx, hye]
     have hmx:0 + m ≤ maxLen:=by simp only [maxLen]; omega
     have hge:=grownCap_ge u (0 + m) 0 e
     refine ⟨_, _, fun k => k = u.heap.size, hr, ⟨by simpa using hl, .inr ⟨u.heap.size, _, (Builtin.zeroCells z.cells (grownCap u (0 + m) 0 e - (0 + m))).toList, rfl, ?_, hge, grownCap_le_maxLen u (0 + m) 0 e hmx, ?_, fun _ => Iff.rfl⟩⟩, ⟨⟨rfl, rfl, rfl, by simp, fun k hk _ => zb0 u.drew _ hk, Nat.le_succ _⟩, fun k v hv => by
      have:=hh.sub.size hv
      show (u.drew.alloc _).heap[k]? = some v
      rw [zb0 u.drew _ this]; exact hh.sub k v hv, Heap.Le.refl _, fun _ _ _ => rfl⟩, fun k hk => by
      subst hk
      exact ⟨.inr (Nat.le_refl _), by simp, za9 hh.sub (Nat.le_refl _)⟩⟩
     ·rw [show u.heap.size = u.drew.heap.size from rfl, heap_alloc_new]
      congr 2
      apply Array.ext'
      simp
     ·rw [List.nil_append, List.length_append, hl, Array.length_toList, size_zeroCells, hs3, ← Nat.add_mul]
      congr 1
      omega
  ·exact zp7 u (Tabs.sl_spec ht) hi hz hs1 hs2 hs3 hs4 hh.sub hown (fun k hk => ⟨(hM k hk).1, (hM k hk).2.1⟩) hyv hl h1' h63 hb
 obtain ⟨x', u', C', hr, hown', hgr, hC'⟩:=hap
 have hrun:(execOp a.eval ⟨some d, .call ⟨.builtin .append, #[.tmp q, y], #[t, t]⟩, ty, pos, aft, g⟩).run P u = .ok (.value x') u':=by
  simp only [execOp, resolve, invoke, builtin, Sem.run_bind, Sem.run_pure, Result.andThen_ok, List.map_toArray, List.map_cons, List.map_nil, hr]
 rw [hrun]
 simp only [Upon]
 exact ⟨H, _, hh.usePut hk' hgr (by simp [Act.put]) rfl (fun t ht => zat ht) (by rw [zay (by rw [hh.size]; exact zk hn)]; exact .inr hown') hC'⟩
end
end Go.V
