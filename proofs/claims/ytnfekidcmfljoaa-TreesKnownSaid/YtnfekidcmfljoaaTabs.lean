/- The seat's tables of types and functions, held against the program by the kernel. Written by a program. -/
import Derived.Test.YtnfekidcmfljoaaKitM
import Derived.Test.YtnfekidcmfljoaaProg
namespace Go.V
open Go.Proofs
set_option maxRecDepth 100000
theorem mixed : Try.prog.follows .mixedOrders = true := by kernel_rfl
def ldL : List (Nat × (Bool × Nat)) := [(1, (false, 1)), (2, (false, 1)), (3, (false, 1)), (4, (false, 1)), (5, (false, 1)), (6, (false, 1)), (7, (true, 4)), (8, (true, 4)), (9, (false, 1)), (10, (false, 1)), 
    (11, (false, 1)), (12, (false, 1)), (13, (true, 2)), (14, (true, 2)), (15, (false, 1)), (16, (false, 1)), (17, (false, 1)), (18, (true, 1)), (19, (true, 1)), (20, (false, 1)), 
    (21, (false, 1)), (22, (false, 1)), (23, (false, 1)), (24, (true, 2)), (25, (false, 1)), (26, (false, 1)), (27, (true, 2)), (28, (true, 2)), (29, (false, 1)), (30, (false, 1)), 
    (31, (true, 2)), (32, (true, 2)), (33, (false, 1)), (34, (false, 1)), (35, (false, 1)), (36, (false, 1)), (37, (false, 1)), (39, (false, 1)), (40, (true, 2)), (41, (true, 2)), 
    (42, (false, 1)), (43, (true, 2)), (44, (true, 2)), (45, (false, 1)), (47, (false, 1)), (48, (false, 1)), (49, (false, 1)), (50, (false, 1)), (51, (false, 1)), (52, (false, 1)), 
    (53, (false, 1)), (54, (false, 1)), (55, (false, 1)), (56, (false, 1)), (57, (false, 1)), (58, (false, 1)), (59, (false, 1)), (60, (false, 1)), (61, (false, 1)), (62, (false, 1)), 
    (63, (false, 1)), (64, (false, 1)), (65, (false, 1)), (66, (false, 1)), (67, (true, 2)), (68, (true, 2)), (69, (true, 3)), (70, (true, 3)), (72, (false, 1)), (73, (true, 3)), 
    (74, (false, 1)), (75, (false, 1)), (76, (true, 3)), (77, (false, 1)), (78, (false, 1)), (79, (false, 1)), (80, (false, 1)), (81, (false, 1)), (82, (false, 1)), (84, (false, 1)), 
    (85, (false, 1)), (87, (false, 1)), (88, (false, 1)), (89, (false, 1)), (90, (false, 1)), (91, (false, 1)), (92, (false, 1)), (93, (false, 1)), (94, (false, 1)), (95, (false, 1)), 
    (96, (false, 1)), (97, (false, 1)), (99, (false, 1)), (100, (true, 6)), (101, (true, 6)), (102, (false, 1)), (103, (false, 1)), (104, (false, 1)), (105, (false, 1)), 
    (106, (false, 1)), (107, (false, 1)), (108, (true, 2)), (109, (true, 2)), (110, (false, 1)), (111, (false, 1)), (113, (false, 1)), (114, (true, 2)), (115, (true, 2)), 
    (117, (false, 1)), (118, (false, 1)), (119, (false, 1)), (120, (false, 1)), (122, (false, 1)), (123, (false, 1)), (124, (false, 1)), (125, (false, 1)), (126, (false, 1)), 
    (128, (false, 1)), (129, (false, 1)), (130, (false, 1)), (131, (true, 6)), (132, (true, 6)), (133, (false, 1)), (134, (false, 1)), (135, (false, 1)), (136, (false, 1)), 
    (137, (false, 1)), (139, (false, 1)), (141, (false, 1)), (142, (false, 1)), (143, (false, 1)), (144, (false, 1)), (145, (false, 1)), (147, (false, 1)), (148, (false, 1)), 
    (149, (false, 1)), (150, (false, 1)), (152, (false, 1)), (153, (false, 1)), (154, (true, 4)), (155, (true, 4)), (156, (true, 0)), (157, (true, 0)), (158, (true, 0)), 
    (159, (false, 1)), (160, (false, 1)), (161, (false, 1)), (162, (false, 1)), (163, (false, 1)), (164, (false, 1)), (165, (true, 11)), (166, (true, 11)), (167, (false, 1)), 
    (168, (false, 1))]
def slL : List (Nat × Nat) := [(22, 32), (30, 41), (49, 44), (54, 28), (55, 30), (58, 23), (64, 5), (65, 9), (66, 45), (75, 73), (118, 115), (143, 3)]
def stL : List (Nat × Unit) := [(9, ()), (10, ()), (11, ())]
def foL : List ((Nat × Nat) × Nat) := [((7, 0), 0), ((7, 1), 1), ((7, 2), 2), ((7, 3), 3), ((8, 0), 0), ((8, 1), 1), ((8, 2), 2), ((8, 3), 3), ((13, 0), 0), ((13, 1), 1), ((14, 0), 0), ((14, 1), 1), ((18, 0), 0), 
    ((19, 0), 0), ((27, 0), 0), ((27, 1), 1), ((28, 0), 0), ((28, 1), 1), ((31, 0), 0), ((31, 1), 1), ((32, 0), 0), ((32, 1), 1), ((40, 0), 0), ((40, 1), 1), ((41, 0), 0), ((41, 1), 1), 
    ((43, 0), 0), ((43, 1), 1), ((44, 0), 0), ((44, 1), 1), ((67, 0), 0), ((67, 1), 1), ((68, 0), 0), ((68, 1), 1), ((69, 0), 0), ((69, 1), 2), ((70, 0), 0), ((70, 1), 2), ((76, 0), 0), 
    ((76, 1), 2), ((100, 0), 0), ((100, 1), 2), ((100, 2), 3), ((100, 3), 4), ((100, 4), 5), ((101, 0), 0), ((101, 1), 2), ((101, 2), 3), ((101, 3), 4), ((101, 4), 5), ((108, 0), 0), 
    ((108, 1), 1), ((109, 0), 0), ((109, 1), 1), ((114, 0), 0), ((114, 1), 1), ((115, 0), 0), ((115, 1), 1), ((131, 0), 0), ((131, 1), 2), ((131, 2), 3), ((131, 3), 4), ((131, 4), 5), 
    ((132, 0), 0), ((132, 1), 2), ((132, 2), 3), ((132, 3), 4), ((132, 4), 5), ((154, 0), 0), ((154, 1), 1), ((154, 2), 2), ((154, 3), 3), ((155, 0), 0), ((155, 1), 1), ((155, 2), 2), 
    ((155, 3), 3), ((165, 0), 0), ((165, 1), 1), ((165, 2), 2), ((165, 3), 3), ((165, 4), 4), ((165, 5), 5), ((165, 6), 6), ((165, 7), 7), ((165, 8), 8), ((165, 9), 9), ((165, 10), 10), 
    ((166, 0), 0), ((166, 1), 1), ((166, 2), 2), ((166, 3), 3), ((166, 4), 4), ((166, 5), 5), ((166, 6), 6), ((166, 7), 7), ((166, 8), 8), ((166, 9), 9), ((166, 10), 10)]
def zrL : List (Nat × Value) := [(1, .nilFunc), (2, .int .i64 0), (3, .int .i64 0), (4, .bool false), (5, .int .u8 0), (6, .int .u8 0), (7, .agg #[.int .i64 0, .int .i64 0, .bool false, .int .u8 0]), 
    (8, .agg #[.int .i64 0, .int .i64 0, .bool false, .int .u8 0]), (9, .string ⟨#[]⟩), (10, .string ⟨#[]⟩), (11, .string ⟨#[]⟩), (12, .int .u64 0), 
    (13, .agg #[.string ⟨#[]⟩, .int .u64 0]), (14, .agg #[.string ⟨#[]⟩, .int .u64 0]), (15, .pointer none), (16, .pointer none), (17, .pointer none), (18, .agg #[.pointer none]), 
    (19, .agg #[.pointer none]), (20, .nilIface), (21, .int .i32 0), (22, .slice none 0 0), (23, .int .i16 0), (24, .agg #[.int .i64 0, .int .i64 0]), (25, .nilFunc), 
    (26, .pointer none), (27, .agg #[.nilFunc, .pointer none]), (28, .agg #[.nilFunc, .pointer none]), (29, .nilFunc), (30, .slice none 0 0), (31, .agg #[.int .u8 0, .int .i16 0]), 
    (32, .agg #[.int .u8 0, .int .i16 0]), (33, .nilFunc), (34, .nilFunc), (35, .nilFunc), (36, .nilFunc), (37, .nilFunc), (39, .nilFunc), (40, .agg #[.int .i64 0, .int .i64 0]), 
    (41, .agg #[.int .i64 0, .int .i64 0]), (42, .nilFunc), (43, .agg #[.int .i64 0, .int .i64 0]), (44, .agg #[.int .i64 0, .int .i64 0]), (45, .int .i64 0), (47, .nilFunc), 
    (48, .nilFunc), (49, .slice none 0 0), (50, .nilFunc), (51, .nilFunc), (52, .nilFunc), (53, .nilFunc), (54, .slice none 0 0), (55, .slice none 0 0), (56, .nilFunc), (57, .nilFunc), 
    (58, .slice none 0 0), (59, .nilFunc), (60, .nilFunc), (61, .nilFunc), (62, .nilFunc), (63, .nilFunc), (64, .slice none 0 0), (65, .slice none 0 0), (66, .slice none 0 0), 
    (67, .agg #[.string ⟨#[]⟩, .string ⟨#[]⟩]), (68, .agg #[.string ⟨#[]⟩, .string ⟨#[]⟩]), (69, .agg #[.string ⟨#[]⟩, .string ⟨#[]⟩, .string ⟨#[]⟩]), 
    (70, .agg #[.string ⟨#[]⟩, .string ⟨#[]⟩, .string ⟨#[]⟩]), (72, .nilFunc), (73, .agg #[.string ⟨#[]⟩, .string ⟨#[]⟩, .string ⟨#[]⟩]), (74, .nilFunc), (75, .slice none 0 0), 
    (76, .agg #[.string ⟨#[]⟩, .string ⟨#[]⟩, .string ⟨#[]⟩]), (77, .nilFunc), (78, .nilFunc), (79, .nilFunc), (80, .nilFunc), (81, .nilFunc), (82, .nilFunc), (84, .nilFunc), 
    (85, .nilFunc), (87, .nilFunc), (88, .nilFunc), (89, .nilFunc), (90, .nilFunc), (91, .nilFunc), (92, .nilFunc), (93, .nilFunc), (94, .nilFunc), (95, .nilFunc), (96, .nilFunc), 
    (97, .nilFunc), (99, .nilFunc), (100, .agg #[.int .i64 0, .int .i64 0, .pointer none, .pointer none, .int .i64 0, .int .i64 0]), 
    (101, .agg #[.int .i64 0, .int .i64 0, .pointer none, .pointer none, .int .i64 0, .int .i64 0]), (102, .nilFunc), (103, .nilFunc), (104, .nilFunc), (105, .nilFunc), (106, .nilFunc), 
    (107, .pointer none), (108, .agg #[.nilFunc, .pointer none]), (109, .agg #[.nilFunc, .pointer none]), (110, .nilFunc), (111, .nilFunc), (113, .nilFunc), 
    (114, .agg #[.int .i64 0, .string ⟨#[]⟩]), (115, .agg #[.int .i64 0, .string ⟨#[]⟩]), (117, .nilFunc), (118, .slice none 0 0), (119, .nilFunc), (120, .nilFunc), (122, .nilFunc), 
    (123, .nilFunc), (124, .nilFunc), (125, .nilFunc), (126, .nilFunc), (128, .nilFunc), (129, .nilFunc), (130, .nilFunc), 
    (131, .agg #[.int .i64 0, .string ⟨#[]⟩, .pointer none, .pointer none, .int .i64 0, .int .i64 0]), 
    (132, .agg #[.int .i64 0, .string ⟨#[]⟩, .pointer none, .pointer none, .int .i64 0, .int .i64 0]), (133, .nilFunc), (134, .nilFunc), (135, .nilFunc), (136, .nilFunc), 
    (137, .nilFunc), (139, .nilFunc), (141, .nilFunc), (142, .nilFunc), (143, .slice none 0 0), (144, .nilFunc), (145, .nilFunc), (147, .nilFunc), (148, .nilFunc), (149, .int .u64 0), 
    (150, .int .u32 0), (152, .nilFunc), (153, .nilFunc), (154, .agg #[.pointer none, .pointer none, .pointer none, .string ⟨#[]⟩]), 
    (155, .agg #[.pointer none, .pointer none, .pointer none, .string ⟨#[]⟩]), (156, .agg #[]), (157, .agg #[]), (158, .agg #[]), (159, .int .u8 0), (160, .int .u8 0), (161, .nilFunc), 
    (162, .pointer none), (163, .int .i32 0), (164, .int .i32 0), 
    (165, .agg #[.int .u64 0, .int .u64 0, .int .u32 0, .int .u8 0, .int .u8 0, .int .u8 0, .int .u8 0, .nilFunc, .pointer none, .int .i32 0, .int .i32 0]), 
    (166, .agg #[.int .u64 0, .int .u64 0, .int .u32 0, .int .u8 0, .int .u8 0, .int .u8 0, .int .u8 0, .nilFunc, .pointer none, .int .i32 0, .int .i32 0]), (167, .nilFunc)]
def fnL : List (Nat × Unit) := [(3, ()), (4, ()), (5, ()), (6, ()), (7, ()), (8, ()), (9, ()), (10, ()), (11, ()), (12, ()), (13, ()), (14, ()), (15, ()), (16, ()), (17, ()), (18, ()), (19, ()), (20, ()), 
    (21, ()), (22, ()), (23, ()), (24, ()), (25, ()), (26, ()), (27, ()), (28, ()), (29, ()), (30, ()), (31, ()), (32, ()), (33, ()), (34, ()), (35, ()), (36, ()), (37, ()), (38, ()), 
    (39, ()), (40, ()), (41, ()), (42, ()), (43, ()), (44, ()), (45, ()), (46, ()), (47, ()), (48, ()), (49, ()), (50, ()), (51, ()), (52, ()), (53, ()), (54, ()), (55, ()), (56, ()), 
    (57, ()), (58, ()), (59, ()), (60, ()), (61, ()), (62, ()), (63, ()), (64, ()), (65, ()), (66, ()), (67, ()), (68, ()), (69, ()), (70, ()), (71, ()), (72, ()), (73, ()), (74, ()), 
    (75, ()), (76, ()), (77, ()), (78, ()), (79, ()), (80, ()), (81, ()), (82, ()), (83, ()), (84, ()), (85, ()), (86, ()), (87, ()), (88, ()), (89, ()), (90, ()), (91, ()), (92, ()), 
    (93, ()), (94, ()), (95, ()), (96, ()), (97, ()), (99, ()), (100, ()), (101, ()), (102, ()), (104, ()), (105, ())]
theorem ldL_ok : ldL.all (fun p => ldI Try.prog p.1 == some p.2) = true := by kernel_rfl
theorem slL_ok : slL.all (fun p => slI Try.prog p.1 == some p.2) = true := by kernel_rfl
theorem stL_ok : stL.all (fun p => stI Try.prog p.1 == some p.2) = true := by kernel_rfl
theorem foL_ok : foL.all (fun p => foI Try.prog p.1 == some p.2) = true := by kernel_rfl
theorem zrL_ok : zrL.map (fun p => zrI Try.prog p.1) = zrL.map (fun p => some p.2) := by kernel_rfl
theorem fnL_ok : fnL.all (fun p => match Try.prog.funcs[p.1]? with | some fn => fn.body.isSome && fn.name != "runtime.NumGoroutine" | none => false) = true := by kernel_rfl
def L : Tabs Try.prog := ⟨ldL, slL, stL, foL, zrL, fnL, ldL_ok, slL_ok, stL_ok, foL_ok, zrL_ok, fnL_ok⟩
theorem el3 : elI Try.prog 3 = some (1, 8) := by kernel_rfl
theorem el5 : elI Try.prog 5 = some (1, 1) := by kernel_rfl
theorem el9 : elI Try.prog 9 = some (1, 16) := by kernel_rfl
theorem el28 : elI Try.prog 28 = some (2, 16) := by kernel_rfl
theorem el30 : elI Try.prog 30 = some (1, 24) := by kernel_rfl
theorem el41 : elI Try.prog 41 = some (2, 16) := by kernel_rfl
theorem el44 : elI Try.prog 44 = some (2, 16) := by kernel_rfl
theorem el45 : elI Try.prog 45 = some (1, 8) := by kernel_rfl
theorem el73 : elI Try.prog 73 = some (3, 48) := by kernel_rfl
theorem el115 : elI Try.prog 115 = some (2, 24) := by kernel_rfl
theorem pl28 : PL Try.prog 28 [(0, 1), (1, 1)] [.nilFunc, .pointer none] := ⟨by kernel_rfl, .agg #[.nilFunc, .pointer none], by kernel_rfl, rfl⟩
theorem pl41 : PL Try.prog 41 [(0, 1), (1, 1)] [.int .i64 0, .int .i64 0] := ⟨by kernel_rfl, .agg #[.int .i64 0, .int .i64 0], by kernel_rfl, rfl⟩
theorem pl44 : PL Try.prog 44 [(0, 1), (1, 1)] [.int .i64 0, .int .i64 0] := ⟨by kernel_rfl, .agg #[.int .i64 0, .int .i64 0], by kernel_rfl, rfl⟩
theorem pl68 : PL Try.prog 68 [(0, 1), (1, 1)] [.string ⟨#[]⟩, .string ⟨#[]⟩] := ⟨by kernel_rfl, .agg #[.string ⟨#[]⟩, .string ⟨#[]⟩], by kernel_rfl, rfl⟩
theorem pl70 : PL Try.prog 70 [(0, 2), (2, 1)] [.string ⟨#[]⟩, .string ⟨#[]⟩, .string ⟨#[]⟩] := ⟨by kernel_rfl, .agg #[.string ⟨#[]⟩, .string ⟨#[]⟩, .string ⟨#[]⟩], by kernel_rfl, rfl⟩
theorem pl76 : PL Try.prog 76 [(0, 2), (2, 1)] [.string ⟨#[]⟩, .string ⟨#[]⟩, .string ⟨#[]⟩] := ⟨by kernel_rfl, .agg #[.string ⟨#[]⟩, .string ⟨#[]⟩, .string ⟨#[]⟩], by kernel_rfl, rfl⟩
theorem pl101 : PL Try.prog 101 [(0, 2), (2, 1), (3, 1), (4, 1), (5, 1)] [.int .i64 0, .int .i64 0, .pointer none, .pointer none, .int .i64 0, .int .i64 0] := ⟨by kernel_rfl, .agg #[.int .i64 0, .int .i64 0, .pointer none, .pointer none, .int .i64 0, .int .i64 0], by kernel_rfl, rfl⟩
theorem pl109 : PL Try.prog 109 [(0, 1), (1, 1)] [.nilFunc, .pointer none] := ⟨by kernel_rfl, .agg #[.nilFunc, .pointer none], by kernel_rfl, rfl⟩
theorem pl115 : PL Try.prog 115 [(0, 1), (1, 1)] [.int .i64 0, .string ⟨#[]⟩] := ⟨by kernel_rfl, .agg #[.int .i64 0, .string ⟨#[]⟩], by kernel_rfl, rfl⟩
theorem pl132 : PL Try.prog 132 [(0, 2), (2, 1), (3, 1), (4, 1), (5, 1)] [.int .i64 0, .string ⟨#[]⟩, .pointer none, .pointer none, .int .i64 0, .int .i64 0] := ⟨by kernel_rfl, .agg #[.int .i64 0, .string ⟨#[]⟩, .pointer none, .pointer none, .int .i64 0, .int .i64 0], by kernel_rfl, rfl⟩
theorem bt4 : Try.prog.underlying 4 = some .bool := by kernel_rfl
theorem nk25 : nkI Try.prog 25 = some 3 := by kernel_rfl
theorem nk26 : nkI Try.prog 26 = some 0 := by kernel_rfl
theorem eq44 : EqT Try.prog 44 [1, 1] := ⟨by kernel_rfl, by kernel_rfl, by kernel_rfl⟩
theorem eq68 : EqT Try.prog 68 [0, 0] := ⟨by kernel_rfl, by kernel_rfl, by kernel_rfl⟩
theorem eq70 : EqT Try.prog 70 [0, 0, 0] := ⟨by kernel_rfl, by kernel_rfl, by kernel_rfl⟩
theorem eq76 : EqT Try.prog 76 [0, 0, 0] := ⟨by kernel_rfl, by kernel_rfl, by kernel_rfl⟩
theorem nk107 : nkI Try.prog 107 = some 0 := by kernel_rfl
theorem cv3_5 : (Try.prog.underlying 3).isSome = true ∧ ikI Try.prog 5 = some .u8 := ⟨by kernel_rfl, by kernel_rfl⟩
theorem cv5_3 : (Try.prog.underlying 5).isSome = true ∧ ikI Try.prog 3 = some .i64 := ⟨by kernel_rfl, by kernel_rfl⟩
theorem cv23_3 : (Try.prog.underlying 23).isSome = true ∧ ikI Try.prog 3 = some .i64 := ⟨by kernel_rfl, by kernel_rfl⟩
theorem bs64_9 : bsI Try.prog 64 9 = true := by kernel_rfl
theorem ar24 : arI Try.prog 24 = some (2, 3) := by kernel_rfl
theorem ar73 : arI Try.prog 73 = some (3, 9) := by kernel_rfl
end Go.V
